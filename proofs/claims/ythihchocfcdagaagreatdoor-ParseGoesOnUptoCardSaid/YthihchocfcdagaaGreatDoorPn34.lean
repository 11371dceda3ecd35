/- Parts: ParseGoesOn's function answers true: a line that begins with an operator goes on with the one ahead. Condition: what a law leans on. -/
import Derived.Test.YthihchocfcdagaaGreatDoorPn33
namespace Go.Proofs.YthihchocfcdagaaGreatDoor
section
open Go.RowKit
def goRow:List (List UInt8):=goF.map fun f=>f.data.toList
theorem go_read {s t:ByteArray} {F:Nat} (h:sameQ s t F=true): ∃n q m r,programQ s false F= .ok n q∧programQ t false F= .ok m r∧ndSize n≤8000∧ndSize m≤8000∧sameNd (.mk 0 ⟨#[]⟩ (bareT n).kids 0 0) (.mk 0 ⟨#[]⟩ (bareT m).kids 0 0)=true∧(bareT n).kids.length=1:=by
 unfold sameQ at h
 cases hs:programQ s false F with
 |out=>rw [hs] at h;cases h
 |bad c i=>rw [hs] at h;cases h
 |ok n q=>
  cases ht:programQ t false F with
  |out=>rw [hs,ht] at h;cases h
  |bad c i=>rw [hs,ht] at h;cases h
  |ok m r=>
   rw [hs,ht] at h
   simp only [Bool.and_eq_true,decide_eq_true_eq] at h
   obtain⟨⟨⟨h1,h2⟩,h3⟩,h4⟩:=h
   exact⟨n,q,m,r,rfl,rfl,h1,h2,by rw [bareT_of h1,bareT_of h2];exact h3,by rw [bareT_of h1];exact h4⟩
theorem bareT_kids {n:Nd} (h:ndSize n≤8000):ndSizes (bareT n).kids≤8000:=by
 rw [bareT_of h]
 have h1:=bare_size n
 have h2:ndSizes (bareNd n).kids≤ndSize (bareNd n):=by
  cases bareNd n with
  |mk k t ks f u=>rw [ndSize];show ndSizes ks≤_;omega
 omega
set_option maxRecDepth 100000 in
set_option maxHeartbeats 16000000 in
theorem goesOn_any (p:Int) (w:World) (hx:Lx w):Calls Tryz.prog 5 #[.int .i64 p] w fun e w'=>e= .returned (.bool true)∧Below w.heap.size w w':=by
 have HX:=Lib.hid hx
 clear hx
 go_enter Tryz.func5,Tryz.ntmps5
 go_wp2_with fail
 refine(awake_any w HX.out).mono ?_
 rintro e w1 ⟨rfl,hb1⟩
 go_upto_region 4 with fail
 have hr1:StrS w1.heap.size goRow (w1.alloc (.cells #[.string ⟨#[43,32,98]⟩,.string ⟨#[45,32,98]⟩,.string ⟨#[42,32,98]⟩,.string ⟨#[47,32,98]⟩,.string ⟨#[40,98,41]⟩,.string ⟨#[91,98,93]⟩,.string ⟨#[96,98,96]⟩,.string ⟨#[46,98]⟩,.string ⟨#[63,46,98]⟩,.string ⟨#[63,32,98,32,58,32,99]⟩,.string ⟨#[44,32,98]⟩,.string ⟨#[61,32,98]⟩,.string ⟨#[61,61,61,32,98]⟩,.string ⟨#[105,110,32,98]⟩,.string ⟨#[105,110,115,116,97,110,99,101,111,102,32,98]⟩,.string ⟨#[38,38,32,98]⟩,.string ⟨#[47,98,47,99]⟩] 9)):=StrS.new w1 goRow 9
 have hb2:Below w.heap.size w (w1.alloc (.cells #[.string ⟨#[43,32,98]⟩,.string ⟨#[45,32,98]⟩,.string ⟨#[42,32,98]⟩,.string ⟨#[47,32,98]⟩,.string ⟨#[40,98,41]⟩,.string ⟨#[91,98,93]⟩,.string ⟨#[96,98,96]⟩,.string ⟨#[46,98]⟩,.string ⟨#[63,46,98]⟩,.string ⟨#[63,32,98,32,58,32,99]⟩,.string ⟨#[44,32,98]⟩,.string ⟨#[61,32,98]⟩,.string ⟨#[61,61,61,32,98]⟩,.string ⟨#[105,110,32,98]⟩,.string ⟨#[105,110,115,116,97,110,99,101,111,102,32,98]⟩,.string ⟨#[38,38,32,98]⟩,.string ⟨#[47,98,47,99]⟩] 9)):=hb1.alloc hb1.size _
 generalize World.alloc w1 _=w2 at*
 generalize w1.heap.size=g at*
 clear hb1
 obtain⟨a,ha,ha2⟩:=pickN p 17 (by decide)
 replace ha:(IntKind.u64.wrap p).tmod 17=(a:Int):=ha
 obtain⟨x,hx⟩: ∃x,goRow[a]'ha2=x:=⟨_,rfl⟩
 have hxm:x ∈ goRow:=hx▸List.getElem_mem _
 have cx:=hr1.2 a ha2
 rw [hx] at cx
 obtain⟨t,ht⟩: ∃t:ByteArray,(⟨x.toArray⟩:ByteArray)=t:=⟨_,rfl⟩
 rw [ht] at cx
 have htm:t ∈ goF:=by
  obtain⟨f,hf,rfl⟩:=List.mem_map.1 hxm
  rw [←ht]
  exact hf
 have hts:t.size≤20:=(show∀f ∈ goF,f.size≤20 by decide) t htm
 obtain⟨n,q,m,r,e1,e2,z1,z2,hsm,hl1⟩:=go_read (go_all t htm)
 obtain⟨n3,q3,e3,z3,hl3⟩:=many_read go_up
 obtain⟨n4,q4,e4,z4,hl4⟩:=many_read go_down
 have HS1:=Lib.hid (fun W (h:Below w2.heap.size w2 W)=>statements_any 60 (by decide) (by rw [ByteArray.size_append];show 2+t.size≤_;omega) e1 (by omega) W (HX.out.bel (bel_next hb2 h)))
 have HS2:=Lib.hid (fun W (h:Below w2.heap.size w2 W)=>statements_any 60 (by decide) (by rw [ByteArray.size_append];show 2+t.size≤_;omega) e2 (by omega) W (HX.out.bel (bel_next hb2 h)))
 have HS3:=Lib.hid (fun W (h:Below w2.heap.size w2 W)=>statements_any 60 (by decide) (by decide) e3 (by omega) W (HX.out.bel (bel_next hb2 h)))
 have HS4:=Lib.hid (fun W (h:Below w2.heap.size w2 W)=>statements_any 60 (by decide) (by decide) e4 (by omega) W (HX.out.bel (bel_next hb2 h)))
 have HSM:=Lib.hid hsm
 have HZ1:=Lib.hid (bareT_kids z1)
 have HZ2:=Lib.hid (bareT_kids z2)
 have HB:=Lib.hid hb2
 have la:IntKind.i64.wrap (a:Int)=a:=by rw [IntKind.wrap_i64];omega
 have na:(0:Int)≤(a:Int):=by omega
 have ma:(a:Int)<17:=by omega
 clear e1 e2 e3 e4 z1 z2 z3 z4 hsm hxm htm hx ht hr1 hb2
 rw [hl3] at HS3
 rw [hl4] at HS4
 generalize (bareT n).kids=ks at*
 generalize (bareT m).kids=ls at*
 generalize (bareT n3).kids=ms at*
 generalize (bareT n4).kids=os at*
 rw [hl1] at HS1
 have HL1:=Lib.hid hl1
 clear hl1
 go_wp2_with fail
 refine(HS1.out _ (Below.refl _ _)).mono ?_
 rintro e w3 ⟨b1,c1,rfl,hc1,hr1,hb3⟩
 go_wp2_with fail
 refine(HS2.out _ hb3).mono ?_
 rintro e w4 ⟨b2,c2,rfl,hc2,hr2,hb4⟩
 go_wp2_with fail
 refine(HS3.out _ (bel_next hb3 hb4)).mono ?_
 rintro e w5 ⟨b3,c3,rfl,_,_,hb5⟩
 go_wp2_with fail
 refine(HS4.out _ (bel_next (bel_next hb3 hb4) hb5)).mono ?_
 rintro e w6 ⟨b4,c4,rfl,_,_,hb6⟩
 have s4:=hb4.size
 have s5:=hb5.size
 have s6:=hb6.size
 have HB6:=Lib.hid (bel_next (bel_next (bel_next (bel_next HB.out hb3) hb4) hb5) hb6)
 have r1:RowP w6 0 w6.heap.size ks b1 0:=RowP_keep (Nat.zero_le _) (by omega) (fun k _ hk=>(bel_next (bel_next hb4 hb5) hb6).block k hk) hr1
 have r2:RowP w6 0 w6.heap.size ls b2 0:=RowP_keep (Nat.zero_le _) (by omega) (fun k _ hk=>(bel_next hb5 hb6).block k hk) hr2
 have HSS:=Lib.hid (sames_any ks ls b1 b2 c1 c2 w6 0 w6.heap.size r1 (by rw [HL1.out];exact hc1) r2 hc2 (Nat.le_refl _) (by have:=HZ1.out;omega))
 rw [HSM.out,HL1.out] at HSS
 clear hr1 hr2 r1 r2 hb3 hb4 hb5 hb6 s4 s5 s6 HS1 HS2 HS3 HS4 HB hc1 hc2 hl3 hl4
 go_wp2_with (go_at_call 12;refine HSS.out.mono ?_;rintro e w7 ⟨rfl,hb7⟩)
 go_ret
 exact⟨rfl,bel_next HB6.out hb7⟩
end
end Go.Proofs.YthihchocfcdagaaGreatDoor
