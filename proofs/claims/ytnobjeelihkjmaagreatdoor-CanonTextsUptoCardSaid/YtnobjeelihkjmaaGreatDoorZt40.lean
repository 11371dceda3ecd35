/- Steps (Caw Cs Dcm Ctx). Conditions: as stated. -/
import Derived.Test.YtnobjeelihkjmaaGreatDoorZt36
import Derived.Test.YtnobjeelihkjmaaGreatDoorZt38
import Derived.Test.YtnobjeelihkjmaaGreatDoorZt31
import Derived.Test.YtnobjeelihkjmaaGreatDoorZt39
import Derived.Test.YtnobjeelihkjmaaGreatDoorZt41
import Derived.Laws.AppendOwnNone
set_option maxHeartbeats 4000000
set_option maxRecDepth 100000
namespace Go.Proofs.YtnobjeelihkjmaaGreatDoor
section
open Go.RowKit
theorem bw6 (x:Int) (w:World):Calls Tryz.prog 13 #[.int .i64 x] w fun e w'=>e= .returned (.int .i64 x)∧w'=w:=by
 go_enter Tryz.func13,Tryz.ntmps13
 go_wp2_with fail
 go_ret
 exact⟨rfl,rfl⟩
theorem bs8 {s:ByteArray} {n:Nd} {q:Ps} (f:Nat) (hs:s.size≤1048576) (hf:f≤1073741824) (w:World) (hx:Lx w) (hT:aY9 s false f= .ok n q):
  Calls Tryz.prog 11 #[.string s,.bool false] w fun e w'=>(∃a cap,e= .returned (.tuple #[.agg #[.int .i64 n.kind,.string n.text,.slice a n.kids.length cap,.int .i64 n.from',.int .i64 n.till],.int .i64 0,.int .i64 0])∧n.kids.length≤cap∧RowP w' 0 w'.heap.size n.kids a 0)∧Below w.heap.size w w':=by
 have h:=bC4 s false f hs hf w hx (by rw [hT];intro h;cases h)
 rw [hT] at h
 exact h
theorem aS2:canN (ba0 (lfN 4 ⟨#[39,97,39]⟩) (lfN 3 ⟨#[48,120,48,70]⟩))=ba0 (lfN 4 ⟨#[61,48,48,54,49,44]⟩) (lfN 3 ⟨#[48,120,102]⟩)∧okC (ba0 (lfN 4 ⟨#[39,97,39]⟩) (lfN 3 ⟨#[48,120,48,70]⟩))=true:=⟨by kernel_rfl,by kernel_rfl⟩
theorem bl2 (w:World) (hx:Lx w):Calls Tryz.prog 5 #[] w fun e w'=>e= .returned (.bool true)∧Below w.heap.size w w':=by
 obtain⟨n,q,hE,hN,hz⟩:=bl8 (s:=⟨#[40,39,97,39,32,43,32,48,120,48,70,41]⟩) rfl
 have hT:au8 n=_:=(aO5 (by omega)).trans hN
 have hok:okC (au8 n)=true:=by rw [hT];exact aS2.2
 have hk:=(congrArg canN hT).trans aS2.1
 have HE:=hJ (fun W h=>bs8 70 (by decide) (by decide) W h hE)
 have HX:=hJ hx
 clear hE hx hT hN
 obtain⟨kn,hkn⟩: ∃kn,ba0 (lfN 4 ⟨#[61,48,48,54,49,44]⟩) (lfN 3 ⟨#[48,120,102]⟩)=kn:=⟨_,rfl⟩
 rw [hkn] at hk
 go_enter Tryz.func5,Tryz.ntmps5
 go_upto_region 2 with (go_at_call 11;refine(HE.out _ HX.out).mono ?_;rintro e w2 ⟨⟨a,cap,rfl,hcap,hrow⟩,hb1⟩)
 have hbx:aa5 (w2.alloc (.cells #[.int .i64 n.kind,.string n.text,.slice a n.kids.length cap,.int .i64 n.from',.int .i64 n.till] 27)) w2.heap.size n.kind n.text (.slice a n.kids.length cap) n.from' n.till:=aA9 w2 n a cap
 have hal:=aj0 w2 (.cells #[.int .i64 n.kind,.string n.text,.slice a n.kids.length cap,.int .i64 n.from',.int .i64 n.till] 27)
 have hb3:=aa1 hb1 hal
 have hsz:=hal.size
 have hV:NdV (w2.alloc (.cells #[.int .i64 n.kind,.string n.text,.slice a n.kids.length cap,.int .i64 n.from',.int .i64 n.till] 27)) 0 w2.heap.size n (.agg #[.int .i64 n.kind,.string n.text,.slice a n.kids.length cap,.int .i64 n.from',.int .i64 n.till]):=⟨a,cap,rfl,hcap,af0 hrow hal⟩
 generalize World.alloc w2 _=w3 at*
 have hC:=aF9 n _ w3 0 w2.heap.size hV hsz (by omega) hok (HX.out.bel hb3)
 rw [hk] at hC
 have HC:=hJ hC
 have HB3:=hJ hb3
 obtain⟨x0,x1,x2,x3,x4,y0,y1,y2,y3,y4⟩:=aa5.facts hbx
 clear hb1 hb3 hal hrow HE HX hcap hV hC hk hok
 go_upto_region 3 with (go_at_call 12;refine HC.out.mono ?_;rintro e w4 ⟨u,rfl,hu,hb4⟩;have HB4:=hJ (aa1 HB3.out hb4);obtain⟨b4,cap4,rfl,hc4,hr4⟩:=hu;clear hb4 x0 x1 x2 x3 x4 y0 y1 y2 y3 y4;unfold aa9 at*)
 have hkd:kn.kind=29:=by rw [←hkn];rfl
 have hkl:kn.kids.length=2:=by rw [←hkn];rfl
 have hr5:=hr4
 rw [←hkn] at hr5
 obtain⟨g,off,e1,h1⟩:=ak1 hr5 0 (show 0<2 by decide)
 obtain⟨g',off',e2,h2⟩:=ak1 hr5 1 (show 1<2 by decide)
 subst e1
 injection e2 with e2
 injection e2 with e2 e3
 subst e2 e3
 rw [ao2] at h1 h2
 obtain⟨_,_,_,g4,_,t1,_⟩:=h1
 obtain⟨_,_,_,_,_,t2,_⟩:=h2
 simp only [Nat.zero_add,Nat.zero_mul,Nat.add_zero,Nat.one_mul] at t1 t2
 replace t1:w4.cell? ⟨g,off+1,none⟩=some (.string ⟨#[61,48,48,54,49,44]⟩):=t1
 replace t2:w4.cell? ⟨g,off+5+1,none⟩=some (.string ⟨#[48,120,102]⟩):=t2
 rw [hkd,hkl]
 have hal:=aj0 w4 (.cells #[.int .i64 29,.string kn.text,.slice (some ⟨g,off,none⟩) 2 cap4,.int .i64 kn.from',.int .i64 kn.till] 27)
 have hb5:aa5 (w4.alloc (.cells #[.int .i64 29,.string kn.text,.slice (some ⟨g,off,none⟩) 2 cap4,.int .i64 kn.from',.int .i64 kn.till] 27)) w4.heap.size 29 kn.text (.slice (some ⟨g,off,none⟩) 2 cap4) kn.from' kn.till:=heap_alloc_new _ _
 rw [←hal.cell g4] at t1 t2
 have HB5:=hJ (aa1 HB4.out hal)
 rw [hkl] at hc4
 generalize World.alloc w4 _=w5 at*
 obtain⟨x0,x1,x2,x3,x4,y0,y1,y2,y3,y4⟩:=aa5.facts hb5
 clear hr4 hr5 hkn hkd hkl hal hb5 HC
 go_wp2_with (go_at_call 13;refine(bw6 _ _).mono ?_;rintro e w9 ⟨rfl,rfl⟩)
 go_ret
 exact⟨rfl,HB5.out⟩
end
section
open Go.RowKit
theorem aV4 {s:ByteArray} {n:Nd} {q:Ps} (f:Nat) (hs:s.size≤1048576) (hf:f≤1073741824) (w:World) (hx:Lx w) (hT:ao5 s false f= .ok n q):
  Calls Tryz.prog 14 #[.string s,.bool false] w fun e w'=>(∃a cap sa sc,e= .returned (.tuple #[.agg #[.int .i64 n.kind,.string n.text,.slice a n.kids.length cap,.int .i64 n.from',.int .i64 n.till],.slice sa q.cms.length sc,.int .i64 0,.int .i64 0])∧n.kids.length≤cap∧RowP w' 0 w'.heap.size n.kids a 0)∧Below w.heap.size w w':=by
 have h:=aX5 s false f hs hf w hx (by rw [hT];intro h;cases h)
 rw [hT] at h
 exact h
theorem aF7 {S T:ByteArray} {K L:Nd} (hS:S.size≤1048576) (hT:T.size≤1048576) (h1:aK5 S K) (h2:aK5 T L) (hz:aa0 K≤100) (w:World) (hx:Lx w):
  Calls Tryz.prog 10 #[.string S,.string T] w fun e w'=>e= .returned (.bool (aj9 K L))∧Below w.heap.size w w':=by
 obtain⟨n,q,a1,a2,a3,a4⟩:=h1
 obtain⟨m,p,b1,b2,b3,b4⟩:=h2
 have HE:=hJ (fun W h=>aV4 55 hS (by decide) W h a1)
 have HF:=hJ (fun W h=>aV4 55 hT (by decide) W h b1)
 have HX:=hJ hx
 have HC:=hJ (fun W B u (hV:NdV W 0 B n u) (hB:B≤W.heap.size) (hx:Lx W)=>a4▸aF9 n u W 0 B hV hB (by omega) a3 hx)
 have HD:=hJ (fun W B u (hV:NdV W 0 B m u) (hB:B≤W.heap.size) (hx:Lx W)=>b4▸aF9 m u W 0 B hV hB (by omega) b3 hx)
 clear hx a1 a3 a4 b1 b3 b4
 go_enter Tryz.func10,Tryz.ntmps10
 go_upto_region 2 with (go_at_call 14;refine(HE.out _ HX.out).mono ?_;rintro e w2 ⟨⟨a,cap,sa,sc,rfl,hcap,hrow⟩,hb1⟩)
 have hbx:=aA9 w2 n a cap
 have hal:=aj0 w2 (.cells #[.int .i64 n.kind,.string n.text,.slice a n.kids.length cap,.int .i64 n.from',.int .i64 n.till] 27)
 have hV:NdV (w2.alloc (.cells #[.int .i64 n.kind,.string n.text,.slice a n.kids.length cap,.int .i64 n.from',.int .i64 n.till] 27)) 0 w2.heap.size n (.agg #[.int .i64 n.kind,.string n.text,.slice a n.kids.length cap,.int .i64 n.from',.int .i64 n.till]):=⟨a,cap,rfl,hcap,af0 hrow hal⟩
 replace hb1:=aa1 hb1 hal
 have hs3:=hal.size
 obtain⟨g,hg⟩: ∃g,w2.heap.size=g:=⟨_,rfl⟩
 rw [hg] at hbx hV hs3⊢
 clear hal hrow
 generalize World.alloc w2 _=w3 at*
 have HB1:=hJ hb1
 clear hg hb1
 go_upto_region 3 with (go_at_call 14;refine(HF.out _ (HX.out.bel HB1.out)).mono ?_;rintro e w4 ⟨⟨a2,cap2,sa2,sc2,rfl,hcap2,hrow2⟩,hb2⟩)
 have hbx2:=aA9 w4 m a2 cap2
 have hal:=aj0 w4 (.cells #[.int .i64 m.kind,.string m.text,.slice a2 m.kids.length cap2,.int .i64 m.from',.int .i64 m.till] 27)
 have hV2:NdV (w4.alloc (.cells #[.int .i64 m.kind,.string m.text,.slice a2 m.kids.length cap2,.int .i64 m.from',.int .i64 m.till] 27)) 0 w4.heap.size m (.agg #[.int .i64 m.kind,.string m.text,.slice a2 m.kids.length cap2,.int .i64 m.from',.int .i64 m.till]):=⟨a2,cap2,rfl,hcap2,af0 hrow2 hal⟩
 have hb3:=aa1 hb2 hal
 have hs4:=hb2.size
 have hs5:=hal.size
 obtain⟨g2,hg2⟩: ∃g,w4.heap.size=g:=⟨_,rfl⟩
 rw [hg2] at hbx2 hV2 hs4 hs5⊢
 clear hal hrow2 hb2
 generalize World.alloc w4 _=w5 at*
 have hd:Below w5.heap.size w5 w5.drew:=(Below.refl _ _).drew
 have hsd:w5.drew.heap.size=w5.heap.size:=rfl
 have HB5:=hJ (aa1 (aa1 HB1.out hb3) hd)
 have HQ:=hJ ((aa5.bel hbx hb3).bel hd)
 have HQ2:=hJ (aa5.bel (show aa5 w5 g2 _ _ _ _ _ from hbx2) hd)
 have HV:=hJ (av7 ((av7 hV (hb3.mono hs3)).low (B':=w5.heap.size) (Nat.le_refl 0) (by omega)) hd)
 have HV2:=hJ (av7 (hV2.low (B':=w5.heap.size) (Nat.le_refl 0) hs5) hd)
 clear hb3 hg2 hbx hbx2 hV hV2 HB1 hs3 hs4 hs5 hcap hcap2 HE HF hd
 obtain⟨x0,x1,x2,x3,x4,_⟩:=aa5.facts HQ.out
 obtain⟨y0,y1,y2,y3,y4,_⟩:=aa5.facts HQ2.out
 go_region_with (first
  |(go_at_call 13;refine(bw6 _ _).mono ?_;rintro e w9 ⟨rfl,rfl⟩)
  |(go_at_call 12;refine(HC.out _ _ _ HV.out (Nat.le_of_eq hsd.symm) (HX.out.bel HB5.out)).mono ?_;rintro e w6 ⟨u,rfl,hu,hb6⟩;have HB6:=hJ (aa1 HB5.out hb6);have HU:=hJ (hu.low (Nat.zero_le _) (Nat.le_refl _));have HW2:=hJ ((av7 HV2.out hb6).low (Nat.le_refl 0) hb6.size);obtain⟨y0,y1,y2,y3,y4,_⟩:=aa5.facts (HQ2.out.bel hb6);obtain⟨b4,cap4,rfl,_⟩:=hu;clear hb6;unfold aa9 at*)
  |(go_at_call 12;refine(HD.out _ _ _ HW2.out (Nat.le_refl _) (HX.out.bel HB6.out)).mono ?_;rintro e w7 ⟨u2,rfl,hu2,hb7⟩;have HB7:=hJ (aa1 HB6.out hb7);have HT:=hJ (bK0 K L _ _ w7 0 w7.heap.size ((av7 HU.out hb7).low (Nat.le_refl 0) hb7.size) (hu2.low (Nat.zero_le _) (Nat.le_refl _)) (Nat.le_refl _) (by omega));obtain⟨b5,cap5,rfl,_⟩:=hu2;clear hb7;unfold aa9 at*)
  |(go_at_call 8;refine HT.out.mono ?_;rintro e w8 ⟨rfl,hb8⟩;have HB8:=hJ (aa1 HB7.out hb8);clear hb8))
 all_goals
  go_wp2_with fail
  go_ret
  exact⟨rfl,HB8.out⟩
end
section
open Go.RowKit
def dcR (y:Nat):List UInt8:=if y=0 then [] else decL y
theorem bt8:(Tryz.prog.info? 5).map (fun i=>(i.zero,i.size,i.bytes))=some (some (.int .u8 0),1,1):=by kernel_rfl
theorem bo4 {w:World} {B:Nat} {v:Value} {l:List UInt8} (h:w.ownsRow B 5 1 v l.length (Lib.byteCells l)):(convert 41 9 v).run Tryz.prog w= .ok (.string ⟨l.toArray⟩) w:=by
 have hb:=h
 rcases h.2 with ⟨rfl,h0⟩|⟨g,cap,cur,rfl,_⟩
 ·rw [List.length_eq_zero_iff.1 h0]
  exact run_convert_bytes_nil w 41 5 (by kernel_rfl) (by kernel_rfl) 0 0 9 (by kernel_rfl)
 ·refine run_convert_bytes_back w 41 9 5 ⟨g,0,none⟩ cap l (by kernel_rfl) (by kernel_rfl) (by kernel_rfl) fun j hj=> ?_
  refine hb.cells (g:=g) rfl j _ ?_
  simp [Lib.byteCells,List.getElem?_eq_getElem hj]
theorem bl1 (l:List UInt8): ∀u ∈ Lib.byteCells l,u.oneCell'=true:=by
 intro u hu
 simp only [Lib.byteCells,List.mem_map] at hu
 obtain⟨b,_,rfl⟩:=hu
 rfl
def DRel (n y:Nat) (l:List UInt8):Prop:=(l= []∧y=n)∨(l≠ []∧dcR y++l=decL n)
theorem cf0 (y:Nat):(UInt8.ofNat (48+y % 10)).toNat=48+y % 10:=by
 rw [UInt8.toNat_ofNat']
 omega
theorem bg5 {y:Nat} :dcR (y / 10)++ [UInt8.ofNat (48+y % 10)]=decL y:=by
 unfold dcR
 by_cases h10:y<10
 ·rw [if_pos (Nat.div_eq_of_lt h10),ad1 h10,Nat.mod_eq_of_lt h10]
  rfl
 ·rw [if_neg (by omega),aO9 h10,ad1 (Nat.mod_lt y (by decide))]
  rfl
theorem aT2 {n y:Nat} {l:List UInt8} (h:DRel n y l) (hy:0<y∨l= []) (_hn:y<65536):DRel n (y / 10) (UInt8.ofNat (48+y % 10)::l):=by
 refine .inr ⟨by simp,?_⟩
 rw [show dcR (y / 10)++UInt8.ofNat (48+y % 10)::l=(dcR (y / 10)++ [UInt8.ofNat (48+y % 10)])++l by simp]
 rcases h with ⟨rfl,rfl⟩|⟨h2,h3⟩
 ·by_cases h0:0<y
  ·rw [bg5,List.append_nil]
  ·have:y=0:=by omega
   subst this
   rw [ad1 (by decide)]
   rfl
 ·have h0:=hy.resolve_right h2
  rw [bg5,←h3]
  unfold dcR
  rw [if_neg (by omega)]
theorem bs5 {n:Nat} {l:List UInt8} (h:DRel n 0 l) (hl:l≠ []):l=decL n:=by
 rcases h with ⟨h1,_⟩|⟨_,h2⟩
 ·exact absurd h1 hl
 ·exact h2
theorem bE1 {n y:Nat} {l:List UInt8} (h:DRel n y l) (hn:n<65536):l.length≤65536:=by
 rcases h with ⟨rfl,_⟩|⟨_,h2⟩
 ·simp
 ·have h3:=aP0 n
  rw [←h2,List.length_append] at h3
  omega
def bp2 (n:Nat) (w wr:World) (y:Nat) (out:Value):Prop:=
 ∃l:List UInt8,DRel n y l∧wr.ownsRow w.heap.size 5 1 out l.length (Lib.byteCells l)∧Below w.heap.size w wr∧(l= []→out= .slice none 0 0)
theorem aT1 (y:Nat):Value.int .u8 (48+(y:Int) % 10)=Value.int .u8 ((UInt8.ofNat (48+y % 10)).toNat:Int):=by
 rw [cf0]
 congr 1
def bw4:Value→Nat
 | .slice none _ _=>1
 |_=>0
theorem bI2 {w:World} {base size n:Nat} {e:TypeId} {v:Value} {xs:List Value} (h:w.ownsRow base e size v n xs) (hn:0<n):bw4 v=0:=by
 rcases h.2 with ⟨_,h0⟩|⟨g,cap,cur,rfl,_⟩
 ·omega
 ·rfl
theorem aT0 {x y:Nat} {w wr:World} {l:List UInt8} (h:DRel x y l) (hl:l= []) (hb:Below w.heap.size w wr) (hn:y<65536):
  bp2 x w (wr.alloc (.cells #[.int .u8 (48+(y:Int) % 10)] 5)) (y / 10) (.slice (some ⟨wr.heap.size,0,none⟩) 1 1):=by
 refine⟨_,aT2 h (.inr hl) hn,?_,Below.alloc hb hb.size _,fun e=>by cases e⟩
 subst hl
 have:=World.ownsRow_lit (base:=w.heap.size) (e:=5) (size:=1) wr #[.int .u8 (48+(y:Int) % 10)] 1 hb.size (by decide) rfl
 rw [aT1] at this⊢
 exact this
theorem bD9 {x y:Nat} {w wr w1:World} {l:List UInt8} {v:Value} (h:DRel x y l) (hy:0<y∨l= []) (hn:y<65536) (hb:Below w.heap.size w wr)
  (ho:w1.ownsRow wr.heap.size 5 1 v (1+l.length) ([.int .u8 (48+(y:Int) % 10)]++Lib.byteCells l)) (hg:(wr.alloc (.cells #[.int .u8 (48+(y:Int) % 10)] 5)).grownBy w1 (some wr.heap.size)):
  bp2 x w w1 (y / 10) v:=by
 refine⟨_,aT2 h hy hn,?_,?_,fun e=>by cases e⟩
 ·have:=bN6 ho hb.size
  rw [aT1] at this
  rw [List.length_cons,Nat.add_comm]
  exact this
 ·refine(hb.alloc hb.size _).grown hg ?_ ?_
  ·rw [World.size_alloc];have:=hb.size;omega
  ·intro k hk
   cases hk
   exact hb.size
theorem aH2 (x:Nat) (hx:x<65536) (w:World):Calls Tryz.prog 9 #[.int .i64 (x:Int)] w fun e w'=>e= .returned (.string ⟨(decL x).toArray⟩)∧Below w.heap.size w w':=by
 obtain⟨i0,hi,hz0,hz1,hz2⟩:=info_parts bt8
 go_enter Tryz.func9,Tryz.ntmps9
 go_wp2
 go_loopw [3,4] (fun n out wr=> ∃y:Nat,y≤x∧n= .int .u64 y∧bp2 x w wr y out) (fun n out _=>(intOf n).toNat*2+bw4 out)
 case atStart=>exact⟨x,Nat.le_refl _,by go_num,[],.inl ⟨rfl,rfl⟩,World.ownsRow_nil _ _ _ _,Below.refl _ _,fun _=>rfl⟩
 case round=>
  obtain⟨y,hy,rfl,l,hd,hown,hbel,hnil⟩:=hrel
  have HD:=hJ hd
  have hlen:l.length≤65536:=bE1 hd (by omega)
  clear hd
  rcases hown.2 with ⟨rfl,h0⟩|⟨g,cap,cur,rfl,hgb,hgc,hnc,hcm,hcs,htk⟩
  ·have h0:l= []:=List.length_eq_zero_iff.1 h0
   have H0:=hJ h0
   clear h0 hown
   by_cases hy0:y=0
   ·subst hy0
    go_wp2_with fail
    go_roundw
    case rel=>exact⟨0,by omega,rfl,aT0 HD.out H0.out hbel (by decide)⟩
    case measure=>show _<_;simp [intOf,bw4]
   ·have hpos:0<y:=by omega
    go_wp2_with fail
    go_roundw
    case rel=>exact⟨y / 10,by omega,by go_num,aT0 HD.out H0.out hbel (by omega)⟩
    case measure=>simp [intOf,bw4];omega
  ·clear hgc hnc hcm hcs htk
   by_cases hy0:y=0
   ·subst hy0
    have hl:l≠ []:=fun e=>by have:=hnil e;cases this
    have hpos:0<l.length:=List.length_pos_iff.2 hl
    have hstr:=bo4 hown
    have HT:=hJ (bs5 HD.out hl)
    clear hnil hl HD
    go_wp2_with fail
    go_ret
    exact⟨by rw [←HT.out];rfl,hbel⟩
   ·clear hnil
    have hpos:0<y:=by omega
    go_wp2_with (at_builtin;(refine wpList_append_own_at _ rfl _ _ 41 rfl wr.heap.size 5 i0 (.int .u8 0) 1 1 (by kernel_rfl) hi hz0 hz1 hz2 rfl (by decide) _ 1 [.int .u8 (48+(y:Int) % 10)] rfl (World.ownsRow_lit wr #[.int .u8 (48+(y:Int) % 10)] 1 (Nat.le_refl _) (by decide) rfl) ⟨g,0,none⟩ l.length cap (Lib.byteCells l) rfl (by simp [Lib.byteCells]) ((hown.alloc _).cells rfl) (bl1 l) (by unfold maxLen;omega) (by omega) (by rw [World.size_alloc];omega) ?_))
    intro v' w1 hown' hgrow _ _
    have HR:=hJ (bD9 HD.out (.inl hpos) (by omega) hbel hown' hgrow)
    have HN:=hJ (bI2 hown' (by omega))
    clear hown hown' hgrow hbel
    go_wp2_with fail
    go_roundw
    case rel=>exact⟨y / 10,by omega,by go_num,HR.out⟩
    case measure=>rw [HN.out];simp [intOf,bw4];omega
end
section
open Go.RowKit
theorem bY0 (q:Int): ∃n:Nat,n<65536∧bits .and .i64 q 65535=(n:Int):=by
 have h:(BitVec.ofInt 64 q &&& BitVec.ofInt 64 65535).toNat<65536:=by
  rw [BitVec.toNat_and]
  exact Nat.lt_of_le_of_lt Nat.and_le_right (by decide)
 refine⟨(BitVec.ofInt 64 q &&& BitVec.ofInt 64 65535).toNat,h,?_⟩
 show IntKind.i64.wrap ((BitVec.ofInt 64 q &&& BitVec.ofInt 64 65535).toNat:Int)=_
 exact IntWalk.i64_in _ (by omega)
theorem aj3 (a b:ByteArray):(a++b).data.toList=a.data.toList++b.data.toList:=by simp [ByteArray.data_append]
theorem aG4 {s:ByteArray} :s.size=s.data.toList.length:=by
 show s.data.size=_
 simp
theorem bQ6 (X:ByteArray):(X.extract 0 1).data.toList++(X.extract 1 X.size).data.toList=X.data.toList:=by
 have h:X.size=X.data.toList.length:=aG4
 have h2:(X.extract 0 1).data.toList=X.data.toList.take 1:=by
  rw [ByteArray.data_extract,Array.toList_extract,List.extract,List.drop_zero]
 have h3:(X.extract 1 X.size).data.toList=X.data.toList.drop 1:=by
  rw [ByteArray.data_extract,Array.toList_extract,List.extract,List.take_of_length_le (by rw [List.length_drop];omega)]
 rw [h2,h3,List.take_append_drop]
theorem ce6 {a b:ByteArray} (h:a≠b):(a.toList==b.toList)=false:=by
 rw [beq_eq_false_iff_ne,ByteArray.toList_eq,ByteArray.toList_eq]
 exact fun e=>h (aG3 e)
section
variable {X Y:ByteArray} {j k:Nat} {w:World}
theorem bV8 (hX:X.data.toList=decL j) (wj:DgW (decL j)) (hx:Lx w) (W:World) (hb:Below w.heap.size w W):
  Calls Tryz.prog 10 #[.string (⟨#[102,40,39]⟩++X++⟨#[39,44,32]⟩++X++⟨#[44,32,123,39,107,39,58,32,49,125,41]⟩),.string (⟨#[59,102,40,40,34,92,120,51]⟩++X.extract 0 1++X.extract 1 X.size++⟨#[34,41,44,32]⟩++X++⟨#[46,48,44,32,123,107,58,32,40,49,46,41,125,41,59,59]⟩)] W fun e w'=>e= .returned (.bool true)∧Below W.heap.size W w':=by
 have hl:=wj.len
 have h2:=bQ6 X
 have h:=aF7 (S:=⟨#[102,40,39]⟩++X++⟨#[39,44,32]⟩++X++⟨#[44,32,123,39,107,39,58,32,49,125,41]⟩) (T:=⟨#[59,102,40,40,34,92,120,51]⟩++X.extract 0 1++X.extract 1 X.size++⟨#[34,41,44,32]⟩++X++⟨#[46,48,44,32,123,107,58,32,40,49,46,41,125,41,59,59]⟩)
  (by rw [aG4];simp only [aj3,List.length_append,hX];simp only [List.length_cons,List.length_nil];omega)
  (by
   have h3:=congrArg List.length h2
   rw [List.length_append,hX] at h3
   rw [aG4];simp only [aj3,List.length_append,hX];simp only [List.length_cons,List.length_nil];omega)
  (bU6 wj (by simp only [aj3,hX])) (bU7 wj (h2.trans hX) (by simp only [aj3,hX])) (bf3 _).1 W (hx.bel hb)
 rw [aJ4] at h
 exact h
theorem bV9 (hX:X.data.toList=decL j) (wj:DgW (decL j)) (hY:Y.data.toList=decL k) (wk:DgW (decL k)) (hx:Lx w) (W:World) (hb:Below w.heap.size w W):
  Calls Tryz.prog 10 #[.string (⟨#[102,40,39]⟩++X++⟨#[39,44,32,49,41]⟩),.string (⟨#[102,40,39]⟩++Y++⟨#[39,44,32,49,41]⟩)] W fun e w'=>e= .returned (.bool (decide (decL j=decL k)))∧Below W.heap.size W w':=by
 have hl:=wj.len
 have hm:=wk.len
 rw [←cd3 wj wk]
 exact aF7 (by rw [aG4];simp only [aj3,List.length_append,hX];simp only [List.length_cons,List.length_nil];omega) (by rw [aG4];simp only [aj3,List.length_append,hY];simp only [List.length_cons,List.length_nil];omega) (by9 wj (by simp only [aj3,hX])) (by9 wk (by simp only [aj3,hY])) (bf3 _).2.1 W (hx.bel hb)
theorem bW0 (hX:X.data.toList=decL j) (wj:DgW (decL j)) (hY:Y.data.toList=decL k) (wk:DgW (decL k)) (hx:Lx w) (W:World) (hb:Below w.heap.size w W):
  Calls Tryz.prog 10 #[.string (⟨#[102,40]⟩++X++⟨#[41]⟩),.string (⟨#[102,40]⟩++Y++⟨#[41]⟩)] W fun e w'=>e= .returned (.bool (decide (decL j=decL k)))∧Below W.heap.size W w':=by
 have hl:=wj.len
 have hm:=wk.len
 rw [←cd4 wj wk]
 exact aF7 (by rw [aG4];simp only [aj3,List.length_append,hX];simp only [List.length_cons,List.length_nil];omega) (by rw [aG4];simp only [aj3,List.length_append,hY];simp only [List.length_cons,List.length_nil];omega) (bz0 wj (by simp only [aj3,hX])) (bz0 wk (by simp only [aj3,hY])) (bf3 _).2.2.1 W (hx.bel hb)
theorem bW1 (hx:Lx w) (W:World) (hb:Below w.heap.size w W):
  Calls Tryz.prog 10 #[.string ⟨#[102,40,120,41]⟩,.string ⟨#[102,40,120,44,32,120,41]⟩] W fun e w'=>e= .returned (.bool false)∧Below W.heap.size W w':=by
 rw [←bV7]
 exact aF7 (by decide) (by decide) (bU8 rfl) (bU9 rfl) (bf3 []).2.2.2.1 W (hx.bel hb)
end
theorem bB4 (a b:Int) (w:World) (hx:Lx w):Calls Tryz.prog 4 #[.int .i64 a,.int .i64 b] w fun e w'=>e= .returned (.bool true)∧Below w.heap.size w w':=by
 obtain⟨j,hj,hjb⟩:=bY0 a
 obtain⟨k,hk,hkb⟩:=bY0 b
 obtain⟨X,hX⟩: ∃X:ByteArray,(⟨(decL j).toArray⟩:ByteArray)=X:=⟨_,rfl⟩
 obtain⟨Y,hY⟩: ∃Y:ByteArray,(⟨(decL k).toArray⟩:ByteArray)=Y:=⟨_,rfl⟩
 have hxl:X.data.toList=decL j:=by rw [←hX]
 have hyl:Y.data.toList=decL k:=by rw [←hY]
 have wj:=bM5 hj
 have wk:=bM5 hk
 have HD1:=hJ (fun W=>hX▸aH2 j hj W)
 have HD2:=hJ (fun W=>hY▸aH2 k hk W)
 have xs:X.size=(decL j).length:=bq1 hxl
 have ys:Y.size=(decL k).length:=bq1 hyl
 have xl:=wj.len
 have yl:=wk.len
 have xp:0<(decL j).length:=List.length_pos_iff.2 wj.dec.ne
 rw [←xs] at xl xp
 rw [←ys] at yl
 have HX:=hJ hx
 have HJ:=hJ hjb
 have HK:=hJ hkb
 have HXL:=hJ hxl
 have HYL:=hJ hyl
 have HWJ:=hJ wj
 have HWK:=hJ wk
 have HS1:=hJ (fun W hb=>bV8 hxl wj hx W hb)
 have HS3:=hJ (fun W hb=>bV9 hxl wj hyl wk hx W hb)
 have HS4:=hJ (fun W hb=>bW0 hxl wj hyl wk hx W hb)
 have HS5:=hJ (fun W hb=>bW1 hx W hb)
 clear hx hjb hkb hX hY hxl hyl wj wk xs ys
 go_enter Tryz.func4,Tryz.ntmps4
 go_upto_region 3 with (go_at_call 5;refine(bl2 w HX.out).mono ?_;rintro e w1 ⟨rfl,hb1⟩)
 have HB1:=hJ hb1
 clear hb1
 go_upto_region 4 with (first|(go_at_call 9;rw [HJ.out];refine(HD1.out _).mono ?_;rintro e w2 ⟨rfl,hb2⟩;have HB2:=hJ (aa1 HB1.out hb2);clear hb2)|(go_at_call 9;rw [HK.out];refine(HD2.out _).mono ?_;rintro e w3 ⟨rfl,hb3⟩;have HB3:=hJ (aa1 HB2.out hb3);clear hb3))
 go_upto_region 6 with fail
 have HA:=hJ HB3.out.drew
 generalize ha0:Act.mk _ _=a0
 refine al2 (by kernel_rfl) (by kernel_rfl) (fun listed a W=> ∃(b0 b1 b2 b3 b4 b5 b6 b7 b8 b9 b10 b11 b12 b13 b14 b15 b16 b17:Bool),listed= #[b0,b1,b2,b3,b4,b5,b6,b7,b8,b9,b10,b11,b12,b13,b14,b15,b16,b17]∧a= { tmps:=((((((((((((((((((a0.tmps.setIfInBounds 15 (bif b0 then .string X else a0.tmps.getD 15 undef)).setIfInBounds 16 (bif b1 then .string (⟨#[102,40,39]⟩++X) else a0.tmps.getD 16 undef)).setIfInBounds 17 (bif b2 then .string (⟨#[102,40,39]⟩++X++⟨#[39,44,32]⟩) else a0.tmps.getD 17 undef)).setIfInBounds 18 (bif b3 then .string X else a0.tmps.getD 18 undef)).setIfInBounds 19 (bif b4 then .string (⟨#[102,40,39]⟩++X++⟨#[39,44,32]⟩++X) else a0.tmps.getD 19 undef)).setIfInBounds 20 (bif b5 then .string (⟨#[102,40,39]⟩++X++⟨#[39,44,32]⟩++X++⟨#[44,32,123,39,107,39,58,32,49,125,41]⟩) else a0.tmps.getD 20 undef)).setIfInBounds 21 (bif b6 then .string X else a0.tmps.getD 21 undef)).setIfInBounds 22 (bif b7 then .string (X.extract 0 1) else a0.tmps.getD 22 undef)).setIfInBounds 23 (bif b8 then .string (⟨#[59,102,40,40,34,92,120,51]⟩++X.extract 0 1) else a0.tmps.getD 23 undef)).setIfInBounds 24 (bif b9 then .string X else a0.tmps.getD 24 undef)).setIfInBounds 25 (bif b10 then .string (X.extract 1 X.size) else a0.tmps.getD 25 undef)).setIfInBounds 26 (bif b11 then .string (⟨#[59,102,40,40,34,92,120,51]⟩++X.extract 0 1++X.extract 1 X.size) else a0.tmps.getD 26 undef)).setIfInBounds 27 (bif b12 then .string (⟨#[59,102,40,40,34,92,120,51]⟩++X.extract 0 1++X.extract 1 X.size++⟨#[34,41,44,32]⟩) else a0.tmps.getD 27 undef)).setIfInBounds 28 (bif b13 then .string X else a0.tmps.getD 28 undef)).setIfInBounds 29 (bif b14 then .string (⟨#[59,102,40,40,34,92,120,51]⟩++X.extract 0 1++X.extract 1 X.size++⟨#[34,41,44,32]⟩++X) else a0.tmps.getD 29 undef)).setIfInBounds 30 (bif b15 then .string (⟨#[59,102,40,40,34,92,120,51]⟩++X.extract 0 1++X.extract 1 X.size++⟨#[34,41,44,32]⟩++X++⟨#[46,48,44,32,123,107,58,32,40,49,46,41,125,41,59,59]⟩) else a0.tmps.getD 30 undef)).setIfInBounds 31 (bif b16 then .bool true else a0.tmps.getD 31 undef)).setIfInBounds 32 (bif b17 then .bool false else a0.tmps.getD 32 undef)),defers:=a0.defers } ∧True∧Below w.heap.size w W) ?_ ?_ ?_
 ·subst ha0
  exact⟨_,_,_,_,_,_,_,_,_,_,_,_,_,_,_,_,_,_,rfl,(by kernel_rfl),trivial,HA.out⟩
 ·rintro a a1 W ⟨b0,b1,b2,b3,b4,b5,b6,b7,b8,b9,b10,b11,b12,b13,b14,b15,b16,b17,h1,rfl,hT,hS⟩ hfr
  have h2: [true,true,true,true,true,true,true,true,true,true,true,true,true,true,true,true,true,true]= [b0,b1,b2,b3,b4,b5,b6,b7,b8,b9,b10,b11,b12,b13,b14,b15,b16,b17]:=congrArg Array.toList h1
  simp only [List.cons.injEq,and_true] at h2
  obtain⟨rfl,rfl,rfl,rfl,rfl,rfl,rfl,rfl,rfl,rfl,rfl,rfl,rfl,rfl,rfl,rfl,rfl,rfl⟩:=h2
  clear h1
  have HA:=hJ hS
  clear hS
  subst ha0
  simp only [List.setIfInBounds_toArray,List.set_cons_succ,List.set_cons_zero,Array.getD_eq_getD_getElem?,List.getElem?_toArray,List.getElem?_cons_succ,List.getElem?_cons_zero,Option.getD_some,cond_true] at hfr
  subst hfr
  generalize W=w4 at*
  have HB4:=hJ HA.out
  clear HA hT HS1 HD1 HD2 HB1 HB2 HB3
  by_cases hjk:decL j=decL k
  ·rw [decide_eq_true hjk] at HS3 HS4
   obtain rfl:Y=X:=aG3 (HYL.out.trans (hjk.symm.trans HXL.out.symm))
   clear hjk HYL HXL HWJ HWK HJ HK
   go_wp2_with (first|(go_at_call 10;(with_reducible refine(HS3.out _ HB4.out).mono ?_);rintro e w5 ⟨rfl,hb5⟩;have HB5:=hJ (aa1 HB4.out hb5);clear hb5)|(go_at_call 10;(with_reducible refine(HS4.out _ HB5.out).mono ?_);rintro e w6 ⟨rfl,hb6⟩;have HB6:=hJ (aa1 HB5.out hb6);clear hb6)|(go_at_call 10;(with_reducible refine(HS5.out _ HB6.out).mono ?_);rintro e w7 ⟨rfl,hb7⟩;have HB7:=hJ (aa1 HB6.out hb7);clear hb7))
   go_ret
   exact⟨rfl,HB7.out⟩
  ·rw [decide_eq_false hjk] at HS3 HS4
   have hxy:X≠Y:=fun e=>hjk (HXL.out.symm.trans ((congrArg (fun b=>b.data.toList) e).trans HYL.out))
   have hq:=ce6 hxy
   clear hjk HYL HXL HWJ HWK HJ HK hxy
   go_wp2_with (first|(go_at_call 10;(with_reducible refine(HS3.out _ HB4.out).mono ?_);rintro e w5 ⟨rfl,hb5⟩;have HB5:=hJ (aa1 HB4.out hb5);clear hb5)|(go_at_call 10;(with_reducible refine(HS4.out _ HB5.out).mono ?_);rintro e w6 ⟨rfl,hb6⟩;have HB6:=hJ (aa1 HB5.out hb6);clear hb6)|(go_at_call 10;(with_reducible refine(HS5.out _ HB6.out).mono ?_);rintro e w7 ⟨rfl,hb7⟩;have HB7:=hJ (aa1 HB6.out hb7);clear hb7))
   go_ret
   exact⟨rfl,HB7.out⟩
 ·clear HA
  rintro listed a a1 W i ⟨b0,b1,b2,b3,b4,b5,b6,b7,b8,b9,b10,b11,b12,b13,b14,b15,b16,b17,rfl,rfl,hT,hS⟩ hfr hi
  rw [mem_ready] at hi
  have HA:=hJ hS
  clear hS
  subst ha0
  simp only [List.setIfInBounds_toArray,List.set_cons_succ,List.set_cons_zero,Array.getD_eq_getD_getElem?,List.getElem?_toArray,List.getElem?_cons_succ,List.getElem?_cons_zero,Option.getD_some] at hfr
  subst hfr
  match i,hi with
  |0,hg=>
   clear hi
   simp [Region.binds] at hg
   obtain rfl:b0=false:=by simp [hg]
   refine wpOp_step rfl fun K hK=> ?_
   go_simp
   exact hK _ _ ⟨_,_,_,_,_,_,_,_,_,_,_,_,_,_,_,_,_,_,rfl,(by kernel_rfl),trivial,HA.out⟩
  |1,hg=>
   clear hi
   simp [Region.binds] at hg
   obtain rfl:b0=true:=by simp [hg]
   obtain rfl:b1=false:=by simp [hg]
   refine wpOp_step rfl fun K hK=> ?_
   go_simp
   rw [if_neg (by omega)]
   exact hK _ _ ⟨_,_,_,_,_,_,_,_,_,_,_,_,_,_,_,_,_,_,rfl,(by kernel_rfl),trivial,HA.out⟩
  |2,hg=>
   clear hi
   simp [Region.binds] at hg
   obtain rfl:b1=true:=by simp [hg]
   obtain rfl:b2=false:=by simp [hg]
   refine wpOp_step rfl fun K hK=> ?_
   go_simp
   rw [if_neg (by omega)]
   exact hK _ _ ⟨_,_,_,_,_,_,_,_,_,_,_,_,_,_,_,_,_,_,rfl,(by kernel_rfl),trivial,HA.out⟩
  |3,hg=>
   clear hi
   simp [Region.binds] at hg
   obtain rfl:b3=false:=by simp [hg]
   refine wpOp_step rfl fun K hK=> ?_
   go_simp
   exact hK _ _ ⟨_,_,_,_,_,_,_,_,_,_,_,_,_,_,_,_,_,_,rfl,(by kernel_rfl),trivial,HA.out⟩
  |4,hg=>
   clear hi
   simp [Region.binds] at hg
   obtain⟨rfl,rfl⟩:b2=true∧b3=true:=by simp [hg]
   obtain rfl:b4=false:=by simp [hg]
   refine wpOp_step rfl fun K hK=> ?_
   go_simp
   rw [if_neg (by omega)]
   exact hK _ _ ⟨_,_,_,_,_,_,_,_,_,_,_,_,_,_,_,_,_,_,rfl,(by kernel_rfl),trivial,HA.out⟩
  |5,hg=>
   clear hi
   simp [Region.binds] at hg
   obtain rfl:b4=true:=by simp [hg]
   obtain rfl:b5=false:=by simp [hg]
   refine wpOp_step rfl fun K hK=> ?_
   go_simp
   rw [if_neg (by omega)]
   exact hK _ _ ⟨_,_,_,_,_,_,_,_,_,_,_,_,_,_,_,_,_,_,rfl,(by kernel_rfl),trivial,HA.out⟩
  |6,hg=>
   clear hi
   simp [Region.binds] at hg
   obtain rfl:b6=false:=by simp [hg]
   refine wpOp_step rfl fun K hK=> ?_
   go_simp
   exact hK _ _ ⟨_,_,_,_,_,_,_,_,_,_,_,_,_,_,_,_,_,_,rfl,(by kernel_rfl),trivial,HA.out⟩
  |7,hg=>
   clear hi
   simp [Region.binds] at hg
   obtain rfl:b6=true:=by simp [hg]
   obtain rfl:b7=false:=by simp [hg]
   refine wpOp_step rfl fun K hK=> ?_
   go_simp
   rw [if_pos (show(1:Int)≤(X.size:Int) by omega)]
   exact hK _ _ ⟨_,_,_,_,_,_,_,_,_,_,_,_,_,_,_,_,_,_,rfl,(by kernel_rfl),trivial,HA.out⟩
  |8,hg=>
   clear hi
   simp [Region.binds] at hg
   obtain rfl:b7=true:=by simp [hg]
   obtain rfl:b8=false:=by simp [hg]
   refine wpOp_step rfl fun K hK=> ?_
   go_simp
   rw [if_neg (by omega)]
   exact hK _ _ ⟨_,_,_,_,_,_,_,_,_,_,_,_,_,_,_,_,_,_,rfl,(by kernel_rfl),trivial,HA.out⟩
  |9,hg=>
   clear hi
   simp [Region.binds] at hg
   obtain rfl:b9=false:=by simp [hg]
   refine wpOp_step rfl fun K hK=> ?_
   go_simp
   exact hK _ _ ⟨_,_,_,_,_,_,_,_,_,_,_,_,_,_,_,_,_,_,rfl,(by kernel_rfl),trivial,HA.out⟩
  |10,hg=>
   clear hi
   simp [Region.binds] at hg
   obtain rfl:b9=true:=by simp [hg]
   obtain rfl:b10=false:=by simp [hg]
   refine wpOp_step rfl fun K hK=> ?_
   go_simp
   rw [if_pos (show(1:Int)≤(X.size:Int) by omega)]
   exact hK _ _ ⟨_,_,_,_,_,_,_,_,_,_,_,_,_,_,_,_,_,_,rfl,(by kernel_rfl),trivial,HA.out⟩
  |11,hg=>
   clear hi
   simp [Region.binds] at hg
   obtain⟨rfl,rfl⟩:b8=true∧b10=true:=by simp [hg]
   obtain rfl:b11=false:=by simp [hg]
   refine wpOp_step rfl fun K hK=> ?_
   go_simp
   rw [if_neg (by omega)]
   exact hK _ _ ⟨_,_,_,_,_,_,_,_,_,_,_,_,_,_,_,_,_,_,rfl,(by kernel_rfl),trivial,HA.out⟩
  |12,hg=>
   clear hi
   simp [Region.binds] at hg
   obtain rfl:b11=true:=by simp [hg]
   obtain rfl:b12=false:=by simp [hg]
   refine wpOp_step rfl fun K hK=> ?_
   go_simp
   rw [if_neg (by omega)]
   exact hK _ _ ⟨_,_,_,_,_,_,_,_,_,_,_,_,_,_,_,_,_,_,rfl,(by kernel_rfl),trivial,HA.out⟩
  |13,hg=>
   clear hi
   simp [Region.binds] at hg
   obtain rfl:b13=false:=by simp [hg]
   refine wpOp_step rfl fun K hK=> ?_
   go_simp
   exact hK _ _ ⟨_,_,_,_,_,_,_,_,_,_,_,_,_,_,_,_,_,_,rfl,(by kernel_rfl),trivial,HA.out⟩
  |14,hg=>
   clear hi
   simp [Region.binds] at hg
   obtain⟨rfl,rfl⟩:b12=true∧b13=true:=by simp [hg]
   obtain rfl:b14=false:=by simp [hg]
   refine wpOp_step rfl fun K hK=> ?_
   go_simp
   rw [if_neg (by omega)]
   exact hK _ _ ⟨_,_,_,_,_,_,_,_,_,_,_,_,_,_,_,_,_,_,rfl,(by kernel_rfl),trivial,HA.out⟩
  |15,hg=>
   clear hi
   simp [Region.binds] at hg
   obtain rfl:b14=true:=by simp [hg]
   obtain rfl:b15=false:=by simp [hg]
   refine wpOp_step rfl fun K hK=> ?_
   go_simp
   rw [if_neg (by omega)]
   exact hK _ _ ⟨_,_,_,_,_,_,_,_,_,_,_,_,_,_,_,_,_,_,rfl,(by kernel_rfl),trivial,HA.out⟩
  |16,hg=>
   clear hi
   simp [Region.binds] at hg
   obtain⟨rfl,rfl⟩:b5=true∧b15=true:=by simp [hg]
   obtain rfl:b16=false:=by simp [hg]
   refine wpOp_step rfl fun K hK=> ?_
   go_simp
   refine(HS1.out _ HA.out).mono ?_
   rintro e w9 ⟨rfl,hb9⟩
   exact hK _ _ ⟨_,_,_,_,_,_,_,_,_,_,_,_,_,_,_,_,_,_,rfl,(by kernel_rfl),trivial,(aa1 HA.out hb9)⟩
  |17,hg=>
   clear hi
   simp [Region.binds] at hg
   obtain rfl:b16=true:=by simp [hg]
   obtain rfl:b17=false:=by simp [hg]
   refine wpOp_step rfl fun K hK=> ?_
   go_simp
   exact hK _ _ ⟨_,_,_,_,_,_,_,_,_,_,_,_,_,_,_,_,_,_,rfl,(by kernel_rfl),trivial,HA.out⟩
  |i+18,hg=>obtain⟨_,o,ho,_⟩:=hg;exact absurd ho (by simp)
end
end Go.Proofs.YtnobjeelihkjmaaGreatDoor
