/- What the card needs beyond the base: the plain law, the law's contracts. Conditions: what a law leans on. -/
import Derived.Test.YthihchocfcdagaaGreatDoorPn30
import Derived.Test.YthihchocfcdagaaGreatDoorPn33
namespace Go.Proofs.YthihchocfcdagaaGreatDoor
section
open Go.RowKit
def reRow:List (List UInt8):=reH.map fun f=>f.data.toList
theorem body_read {s:ByteArray} {F k:Nat} (h:bodyQ s F=some k): ∃n q,programQ s false F= .ok n q∧ndSize n≤8000∧∃d f x y b,(bareT n).kids= [d]∧d.kids[0]? =some f∧f.kids= [x,y,b]∧b.kids.length=k:=by
 unfold bodyQ at h
 cases hs:programQ s false F with
 |out=>rw [hs] at h;cases h
 |bad c i=>rw [hs] at h;cases h
 |ok n q=>
  rw [hs] at h
  simp only at h
  by_cases hz:ndSize n≤8000
  ·rw [if_pos hz] at h
   refine⟨n,q,rfl,hz,?_⟩
   rw [bareT_of hz]
   generalize (bareNd n).kids=ks at h
   match ks,h with
   | [.mk k1 t1 (.mk k2 t2 [x,y,.mk k3 t3 ks3 f3 u3] f2 u2::r) f1 u1],h=>
    exact⟨_,_,x,y,_,rfl,rfl,rfl,Option.some.inj h⟩
  ·rw [if_neg hz] at h;cases h
theorem NdC.open {w:World} {L B:Nat} {n:Nd} {g o:Nat} (h:NdC w L B n g o): ∃b cap,w.cell? ⟨g,o+2,none⟩=some (.slice b n.kids.length cap)∧g<B∧n.kids.length≤cap∧RowP w L B n.kids b 0:=by
 rw [NdC_eq] at h
 obtain⟨b,cap,_,h2,_,_,h5,_,_,h8,h9⟩:=h
 exact⟨b,cap,h5,h2,h8,h9⟩
set_option maxRecDepth 100000 in
set_option maxHeartbeats 16000000 in
theorem restricted_any (p:Int) (w:World) (hx:Lx w):Calls Tryz.prog 4 #[.int .i64 p] w fun e w'=>e= .returned (.bool true)∧Below w.heap.size w w':=by
 have HX:=Lib.hid hx
 clear hx
 go_enter Tryz.func4,Tryz.ntmps4
 go_wp2_with fail
 refine(awake_any w HX.out).mono ?_
 rintro e w1 ⟨rfl,hb1⟩
 go_upto_region 4 with fail
 have hr1:StrS w1.heap.size reRow (w1.alloc (.cells #[.string ⟨#[114,101,116,117,114,110]⟩,.string ⟨#[98,114,101,97,107]⟩,.string ⟨#[99,111,110,116,105,110,117,101]⟩,.string ⟨#[121,105,101,108,100]⟩,.string ⟨#[97,115,121,110,99]⟩] 9)):=StrS.new w1 reRow 9
 have hb2:Below w.heap.size w (w1.alloc (.cells #[.string ⟨#[114,101,116,117,114,110]⟩,.string ⟨#[98,114,101,97,107]⟩,.string ⟨#[99,111,110,116,105,110,117,101]⟩,.string ⟨#[121,105,101,108,100]⟩,.string ⟨#[97,115,121,110,99]⟩] 9)):=hb1.alloc hb1.size _
 generalize World.alloc w1 _=w2 at*
 generalize w1.heap.size=g at*
 clear hb1
 obtain⟨a,ha,ha2⟩:=pickN p 5 (by decide)
 replace ha:(IntKind.u64.wrap p).tmod 5=(a:Int):=ha
 obtain⟨x,hx⟩: ∃x,reRow[a]'ha2=x:=⟨_,rfl⟩
 have hxm:x ∈ reRow:=hx▸List.getElem_mem _
 have cx:=hr1.2 a ha2
 rw [hx] at cx
 obtain⟨t,ht⟩: ∃t:ByteArray,(⟨x.toArray⟩:ByteArray)=t:=⟨_,rfl⟩
 rw [ht] at cx
 have htm:t ∈ reH:=by
  obtain⟨f,hf,rfl⟩:=List.mem_map.1 hxm
  rw [←ht]
  exact hf
 have hts:t.size≤20:=(show∀f ∈ reH,f.size≤20 by decide) t htm
 obtain⟨n,q,e1,z1,d,f,bx,by',b,k1,k2,k3,k4⟩:=body_read (re_all t htm)
 obtain⟨n4,q4,e4,z4,hl4⟩:=many_read re_up
 have HS1:=Lib.hid (fun W (h:Below w2.heap.size w2 W)=>statements_any 60 (by decide) (by unfold reT;rw [ByteArray.size_append,ByteArray.size_append];show 16+t.size+4≤_;omega) e1 (by omega) W (HX.out.bel (bel_next hb2 h)))
 have HS4:=Lib.hid (fun W (h:Below w2.heap.size w2 W)=>statements_any 60 (by decide) (by decide) e4 (by omega) W (HX.out.bel (bel_next hb2 h)))
 have HP1:=Lib.hid (fun W (h:Below w2.heap.size w2 W)=>parse2_bad 60 (by decide) (by decide) re_throw W (HX.out.bel (bel_next hb2 h)))
 have HP2:=Lib.hid (fun W (h:Below w2.heap.size w2 W)=>parse2_bad 60 (by decide) (by decide) re_arrow W (HX.out.bel (bel_next hb2 h)))
 have HP3:=Lib.hid (fun W (h:Below w2.heap.size w2 W)=>parse2_bad 60 (by decide) (by decide) re_async W (HX.out.bel (bel_next hb2 h)))
 have HB:=Lib.hid hb2
 have la:IntKind.i64.wrap (a:Int)=a:=by rw [IntKind.wrap_i64];omega
 have na:(0:Int)≤(a:Int):=by omega
 have ma:(a:Int)<5:=by omega
 have HK1:=Lib.hid k1
 have HK2:=Lib.hid k2
 have HK3:=Lib.hid k3
 have HK4:=Lib.hid k4
 have hl1:(bareT n).kids.length=1:=by rw [k1];rfl
 unfold reT at HS1
 rw [hl1] at HS1
 rw [hl4] at HS4
 clear e1 e4 z1 z4 hxm htm hx ht hr1 hb2 k1 k2 k3 k4 hl1 hl4
 generalize (bareT n).kids=ks at*
 generalize (bareT n4).kids=os at*
 go_wp2_with fail
 refine(HS1.out _ (Below.refl _ _)).mono ?_
 rintro e w3 ⟨b1,c1,rfl,hc1,hr1,hb3⟩
 obtain⟨g0,o0,rfl,hd⟩:=RowP_get hr1 0 (by rw [HK1.out];simp)
 simp only [HK1.out,List.getElem_cons_zero] at hd
 obtain⟨bd,cd,d1,d2,d3,d4⟩:=hd.open
 obtain⟨hlf,hff⟩:=List.getElem?_eq_some_iff.1 HK2.out
 obtain⟨g1,o1,rfl,hf1⟩:=RowP_get d4 0 hlf
 rw [hff] at hf1
 obtain⟨bf,cf,f1,f2,f3,f4⟩:=hf1.open
 rw [HK3.out] at f1 f3 f4
 obtain⟨g2,o2,rfl,hb0⟩:=RowP_get f4 2 (by simp)
 simp only [List.getElem_cons_succ,List.getElem_cons_zero] at hb0
 obtain⟨bb,cb,b1',b2',b3',b4'⟩:=hb0.open
 rw [HK4.out] at b1'
 have lf0:(0:Int)<(d.kids.length:Int):=by omega
 simp only [Nat.zero_mul,Nat.add_zero,Nat.zero_add,List.length_cons,List.length_nil] at d1 f1 b1'
 have HB3:=Lib.hid hb3
 clear hd d2 d3 d4 hff hf1 f2 f3 f4 hb0 b2' b3' b4' hr1 hb3
 go_upto_region 9 with fail
 clear d1 f1 b1' lf0 cx
 go_wp2_with fail
 refine(HP1.out _ HB3.out).mono ?_
 rintro e w4 ⟨rfl,hb4⟩
 go_upto_region 10 with fail
 have hc4:=bel_next (bel_next HB3.out hb4) (alloc_bel w4 (.cells #[.int .i64 0,.string ⟨#[]⟩,.slice none 0 0,.int .i64 0,.int .i64 0] 28))
 generalize World.alloc w4 _=w5 at*
 go_wp2_with fail
 refine(HP2.out _ hc4).mono ?_
 rintro e w6 ⟨rfl,hb6⟩
 go_upto_region 11 with fail
 have hc6:=bel_next (bel_next hc4 hb6) (alloc_bel w6 (.cells #[.int .i64 0,.string ⟨#[]⟩,.slice none 0 0,.int .i64 0,.int .i64 0] 28))
 generalize World.alloc w6 _=w7 at*
 go_wp2_with fail
 refine(HP3.out _ hc6).mono ?_
 rintro e w8 ⟨rfl,hb8⟩
 go_upto_region 12 with fail
 have hc8:=bel_next (bel_next hc6 hb8) (alloc_bel w8 (.cells #[.int .i64 0,.string ⟨#[]⟩,.slice none 0 0,.int .i64 0,.int .i64 0] 28))
 generalize World.alloc w8 _=w9 at*
 go_wp2_with fail
 refine(HS4.out _ hc8).mono ?_
 rintro e w10 ⟨b9,c9,rfl,_,_,hb10⟩
 have HQ:=Lib.hid (bel_next (bel_next HB.out hc8) hb10)
 go_wp2_with fail
 go_ret
 exact⟨rfl,HQ.out⟩
end
end Go.Proofs.YthihchocfcdagaaGreatDoor
