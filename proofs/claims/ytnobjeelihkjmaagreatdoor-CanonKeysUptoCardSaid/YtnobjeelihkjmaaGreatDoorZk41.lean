/- Steps (Kp Ka Kw). Conditions: as stated. -/
import Derived.Test.YtnobjeelihkjmaaGreatDoorZk09
import Derived.Test.YtnobjeelihkjmaaGreatDoorZk39
import Derived.Test.YtnobjeelihkjmaaGreatDoorZk38
import Derived.Test.YtnobjeelihkjmaaGreatDoorZk32
import Derived.Test.YtnobjeelihkjmaaGreatDoorZk42
set_option maxHeartbeats 4000000
set_option maxRecDepth 100000
namespace Go.Proofs.YtnobjeelihkjmaaGreatDoor
section
open Go.RowKit
def au2 (s:ByteArray):Option Nd:=match aS7 s false 60 with
 | .ok n _=>if okD (aq0 n)=true∧aa4 n≤100∧af3 n≤8000∧aa4 (canK false (aq0 n))≤100 then some (canK false (aq0 n)) else none
 |_=>none
def bJ0:List ByteArray:= [⟨#[97]⟩,⟨#[105,102]⟩,bH8,bA7,⟨#[230,151,165]⟩,⟨#[97,32,98]⟩,⟨#[49]⟩,⟨#[]⟩]
def an8 (i:Nat):ByteArray:=bJ0.getD i ⟨#[]⟩
def av6 (k:Nat) (x:ByteArray):ByteArray:=
 if k=0 then ⟨#[40,123]⟩++x++⟨#[58,32,49,125,41]⟩
 else if k=1 then ⟨#[40,123]⟩++x++⟨#[40,41,32,123,125,125,41]⟩
 else if k=2 then ⟨#[99,108,97,115,115,32,123,32]⟩++x++⟨#[40,41,32,123,125,32,125]⟩
 else ⟨#[40,123]⟩++x++⟨#[58,32,97,125,32,61,32,98,41]⟩
def quoK (x:ByteArray):ByteArray:=⟨#[39]⟩++x++⟨#[39]⟩
def aB1 (i k:Nat):Bool:= !(decide (i=3) && decide (k=0)||decide (i=2) && decide (k=2))
def chkK (i k:Nat):Bool:=match au2 (av6 k (quoK (an8 i))),au2 (av6 k (an8 i)) with
 |some x,some y=>al9 x y==aB1 i k
 |_,_=>false
def chkS (i:Nat):Bool:=match au2 (⟨#[40,123,39]⟩++an8 i++⟨#[39,58,32,49,125,41]⟩) with
 |some x=>(match x.kids with
  |y::_=>(match y.kids with
   |z::_=>decide (z.kind=4)
   | []=>false)
  | []=>false)
 |none=>false
theorem bs0: ∀i,i<5→∀k,k<4→chkK i k=true:=by decide+kernel
theorem bs1: ∀i,i<3→chkS (i+5)=true:=by decide+kernel
end
section
open Go.RowKit
theorem bm9 (x:Int) (w:World):Calls Tryz.prog 13 #[.int .i64 x] w fun e w'=>e= .returned (.int .i64 x)∧w'=w:=by
 go_enter Tryz.func13,Tryz.ntmps13
 go_wp2_with fail
 go_ret
 exact⟨rfl,rfl⟩
theorem aN9 {s:ByteArray} {n:Nd} {q:Ps} (f:Nat) (hs:s.size≤1048576) (hf:f≤1073741824) (w:World) (hx:Lx w) (hT:aS7 s false f= .ok n q):
  Calls Tryz.prog 11 #[.string s,.bool false] w fun e w'=>(∃a cap,e= .returned (.tuple #[.agg #[.int .i64 n.kind,.string n.text,.slice a n.kids.length cap,.int .i64 n.from',.int .i64 n.till],.int .i64 0,.int .i64 0])∧n.kids.length≤cap∧RowP w' 0 w'.heap.size n.kids a 0)∧Below w.heap.size w w':=by
 have h:=br1 s false f hs hf w hx (by rw [hT];intro h;cases h)
 rw [hT] at h
 exact h
theorem bD2 {s:ByteArray} {n:Nd} {q:Ps} (F:Nat) (hF:F≤1073741824) (hs:s.size≤1048576) (hE:aS7 s false F= .ok n q) (hz:aa4 n≤4194304) (hok:okD (aq0 n)=true) (w:World) (hx:Lx w):
  Calls Tryz.prog 6 #[.string s] w fun e w'=> ∃u,e= .returned (.tuple #[u,.bool true])∧NdV w' 0 w'.heap.size (canK false (aq0 n)) u∧Below w.heap.size w w':=by
 have HE:=hJ (fun W h=>aN9 F hs hF W h hE)
 have HX:=hJ hx
 clear hE hx
 obtain⟨k,hk⟩: ∃k,canK false (aq0 n)=k:=⟨_,rfl⟩
 rw [hk]
 have hba:=ac0 w (.cells #[.int .i64 0,.string ⟨#[]⟩,.slice none 0 0,.int .i64 0,.int .i64 0] 27)
 have hbq:aa6 (w.alloc (.cells #[.int .i64 0,.string ⟨#[]⟩,.slice none 0 0,.int .i64 0,.int .i64 0] 27)) w.heap.size 0 ⟨#[]⟩ (.slice none 0 0) 0 0:=heap_alloc_new _ _
 go_enter Tryz.func6,Tryz.ntmps6
 go_upto_region 1 with fail
 generalize World.alloc w _=w1 at*
 have HB:=hJ hba
 have HQ:=hJ hbq
 clear hba hbq
 go_upto_region 2 with (go_at_call 11;refine(HE.out _ (HX.out.bel HB.out)).mono ?_;rintro e w2 ⟨⟨a,cap,rfl,hcap,hrow⟩,hb1⟩)
 have hsz2:w1.heap.size≤w2.heap.size:=hb1.size
 have hb2:=aa0 HB.out hb1
 have hbx:aa6 (w2.alloc (.cells #[.int .i64 n.kind,.string n.text,.slice a n.kids.length cap,.int .i64 n.from',.int .i64 n.till] 27)) w2.heap.size n.kind n.text (.slice a n.kids.length cap) n.from' n.till:=aq5 w2 n a cap
 have hal:=ac0 w2 (.cells #[.int .i64 n.kind,.string n.text,.slice a n.kids.length cap,.int .i64 n.from',.int .i64 n.till] 27)
 have hb3:=aa0 hb2 hal
 have hq3:=(HQ.out.bel hb1).bel hal
 have hsz:=hal.size
 have hlt:w.heap.size<w1.heap.size:=HQ.out.lt
 have hV:NdV (w2.alloc (.cells #[.int .i64 n.kind,.string n.text,.slice a n.kids.length cap,.int .i64 n.from',.int .i64 n.till] 27)) 0 w2.heap.size n (.agg #[.int .i64 n.kind,.string n.text,.slice a n.kids.length cap,.int .i64 n.from',.int .i64 n.till]):=⟨a,cap,rfl,hcap,ad5 hrow hal⟩
 generalize World.alloc w2 _=w3 at*
 have hC:=aH2 n _ w3 0 w2.heap.size hV hsz hz hok (HX.out.bel hb3)
 rw [hk] at hC
 have HC:=hJ hC
 have HB3:=hJ hb3
 have HQ3:=hJ hq3
 obtain⟨x0,x1,x2,x3,x4,y0,y1,y2,y3,y4⟩:=aa6.facts hbx
 clear hb1 hb2 hb3 hal hq3 hrow HQ HB HE HX hcap hV hC hk
 go_wp2_with (first|(go_at_call 13;refine(bm9 _ _).mono ?_;rintro e w9 ⟨rfl,rfl⟩)|(go_at_call 12;refine HC.out.mono ?_;rintro e w4 ⟨u,rfl,hu,hb4⟩;have HB4:=hJ (aa0 HB3.out hb4);have hq4:=HQ3.out.bel hb4;have HU:=hJ hu;have HQ4:=hJ hq4;obtain⟨b4,cap4,rfl,_⟩:=hu;clear hb4 x0 x1 x2 x3 x4 y0 y1 y2 y3 y4;unfold aa7 at*;obtain⟨x0,x1,x2,x3,x4,y0,y1,y2,y3,y4⟩:=aa6.facts hq4))
 refine bodyPost_ret (be8 rfl (b:=w.heap.size) rfl rfl HQ4.out.lay) rfl ?_
 obtain⟨b5,cap5,e5,hc5,hr5⟩:=HU.out
 exact⟨_,rfl,⟨b5,cap5,e5,hc5,ag9 (Nat.zero_le _) (Nat.le_of_eq (by simp [World.setCell])) (fun k h1 _=>ad6 _ _ _ _ _ _ _ _ (by omega)) hr5⟩,lay5_bel HB4.out (Nat.le_refl _) _ _ _ _ _⟩
theorem ay8 {s:ByteArray} {K:Nd} (h:au2 s=some K): ∃n q,aS7 s false 60= .ok n q∧okD (aq0 n)=true∧aa4 n≤100∧canK false (aq0 n)=K∧aa4 K≤100:=by
 unfold au2 at h
 split at h
 ·rename_i n q hE
  split at h
  ·rename_i hc
   injection h with h
   exact⟨n,q,hE,hc.1,hc.2.1,h,by rw [←h];exact hc.2.2.2⟩
  ·cases h
 ·cases h
def chkA:Bool:=match au2 ⟨#[40,39,97,39,32,43,32,48,120,48,70,41]⟩ with
 |some x=>decide (x.kind=29) && (match x.kids with
  | [a,b]=>decide (a.text=⟨#[61,48,48,54,49,44]⟩) && decide (b.text=⟨#[48,120,102]⟩)
  |_=>false)
 |none=>false
theorem bB7:chkA=true:=by decide+kernel
theorem bd0: ∃n q kn a b,aS7 ⟨#[40,39,97,39,32,43,32,48,120,48,70,41]⟩ false 60= .ok n q∧okD (aq0 n)=true∧aa4 n≤100∧canK false (aq0 n)=kn∧kn.kind=29∧kn.kids= [a,b]∧a.text=⟨#[61,48,48,54,49,44]⟩∧b.text=⟨#[48,120,102]⟩:=by
 have h:=bB7
 unfold chkA at h
 cases hr:au2 ⟨#[40,39,97,39,32,43,32,48,120,48,70,41]⟩ with
 |none=>rw [hr] at h;cases h
 |some x=>
  rw [hr] at h
  obtain⟨n,q,a1,a2,a3,a4,_⟩:=ay8 hr
  simp only [Bool.and_eq_true,decide_eq_true_eq] at h
  obtain⟨h1,h2⟩:=h
  split at h2
  ·rename_i a b hk
   rw [Bool.and_eq_true,decide_eq_true_eq,decide_eq_true_eq] at h2
   exact⟨n,q,x,a,b,a1,a2,a3,a4,h1,hk,h2.1,h2.2⟩
  ·cases h2
theorem be1 (w:World) (hx:Lx w):Calls Tryz.prog 5 #[] w fun e w'=>e= .returned (.bool true)∧Below w.heap.size w w':=by
 obtain⟨n,q,kn,a0,b0,hE,hok,hz,hk,hkd,hkids,ht0,ht1⟩:=bd0
 have HKD:=hJ hkd
 have HKI:=hJ hkids
 clear hkd hkids
 have HE:=hJ (fun W h=>aN9 60 (by decide) (by decide) W h hE)
 have HX:=hJ hx
 clear hE hx
 go_enter Tryz.func5,Tryz.ntmps5
 go_upto_region 2 with (go_at_call 11;refine(HE.out _ HX.out).mono ?_;rintro e w2 ⟨⟨a,cap,rfl,hcap,hrow⟩,hb1⟩)
 have hbx:aa6 (w2.alloc (.cells #[.int .i64 n.kind,.string n.text,.slice a n.kids.length cap,.int .i64 n.from',.int .i64 n.till] 27)) w2.heap.size n.kind n.text (.slice a n.kids.length cap) n.from' n.till:=aq5 w2 n a cap
 have hal:=ac0 w2 (.cells #[.int .i64 n.kind,.string n.text,.slice a n.kids.length cap,.int .i64 n.from',.int .i64 n.till] 27)
 have hb3:=aa0 hb1 hal
 have hsz:=hal.size
 have hV:NdV (w2.alloc (.cells #[.int .i64 n.kind,.string n.text,.slice a n.kids.length cap,.int .i64 n.from',.int .i64 n.till] 27)) 0 w2.heap.size n (.agg #[.int .i64 n.kind,.string n.text,.slice a n.kids.length cap,.int .i64 n.from',.int .i64 n.till]):=⟨a,cap,rfl,hcap,ad5 hrow hal⟩
 generalize World.alloc w2 _=w3 at*
 have hC:=aH2 n _ w3 0 w2.heap.size hV hsz (by omega) hok (HX.out.bel hb3)
 rw [hk] at hC
 have HC:=hJ hC
 have HB3:=hJ hb3
 obtain⟨x0,x1,x2,x3,x4,y0,y1,y2,y3,y4⟩:=aa6.facts hbx
 clear hb1 hb3 hal hrow HE HX hcap hV hC hk hok
 go_upto_region 3 with (go_at_call 12;refine HC.out.mono ?_;rintro e w4 ⟨u,rfl,hu,hb4⟩;have HB4:=hJ (aa0 HB3.out hb4);obtain⟨b4,cap4,rfl,hc4,hr4⟩:=hu;clear hb4 x0 x1 x2 x3 x4 y0 y1 y2 y3 y4;unfold aa7 at*)
 have hkd:=HKD.out
 have hkids:=HKI.out
 have hkl:kn.kids.length=2:=by rw [hkids];rfl
 have hr5:=hr4
 rw [hkids] at hr5
 obtain⟨g,off,e1,h1⟩:=af0 hr5 0 (show 0<2 by decide)
 obtain⟨g',off',e2,h2⟩:=af0 hr5 1 (show 1<2 by decide)
 subst e1
 injection e2 with e2
 injection e2 with e2 e3
 subst e2 e3
 rw [ai9] at h1 h2
 obtain⟨_,_,_,g4,_,t1,_⟩:=h1
 obtain⟨_,_,_,_,_,t2,_⟩:=h2
 simp only [Nat.zero_add,Nat.zero_mul,Nat.add_zero,Nat.one_mul] at t1 t2
 replace t1:w4.cell? ⟨g,off+1,none⟩=some (.string a0.text):=t1
 replace t2:w4.cell? ⟨g,off+5+1,none⟩=some (.string b0.text):=t2
 rw [ht0] at t1
 rw [ht1] at t2
 rw [hkd,hkl]
 have hal:=ac0 w4 (.cells #[.int .i64 29,.string kn.text,.slice (some ⟨g,off,none⟩) 2 cap4,.int .i64 kn.from',.int .i64 kn.till] 27)
 have hb5:aa6 (w4.alloc (.cells #[.int .i64 29,.string kn.text,.slice (some ⟨g,off,none⟩) 2 cap4,.int .i64 kn.from',.int .i64 kn.till] 27)) w4.heap.size 29 kn.text (.slice (some ⟨g,off,none⟩) 2 cap4) kn.from' kn.till:=heap_alloc_new _ _
 rw [←hal.cell g4] at t1 t2
 have HB5:=hJ (aa0 HB4.out hal)
 rw [hkl] at hc4
 generalize World.alloc w4 _=w5 at*
 obtain⟨x0,x1,x2,x3,x4,y0,y1,y2,y3,y4⟩:=aa6.facts hb5
 clear hr4 hr5 hkids hkd hkl hal hb5 HC ht0 ht1
 go_wp2_with (go_at_call 13;refine(bm9 _ _).mono ?_;rintro e w9 ⟨rfl,rfl⟩)
 go_ret
 exact⟨rfl,HB5.out⟩
end
section
open Go.RowKit
def bl3:List (List UInt8):=bJ0.map fun t=>t.data.toList
theorem bt4 {i:Nat} (h:i<8):(⟨(bl3[i]'(show i<bl3.length from h)).toArray⟩:ByteArray)=an8 i:=by
 have:i=0∨i=1∨i=2∨i=3∨i=4∨i=5∨i=6∨i=7:=by omega
 rcases this with rfl|rfl|rfl|rfl|rfl|rfl|rfl|rfl<;>rfl
theorem be3: ∀i,i<8→(an8 i).size≤20:=by decide
theorem be2: ∀j,j<3→decide (an8 (j+5)=⟨#[97,32,98]⟩)=decide (j=0)∧decide (an8 (j+5)=⟨#[49]⟩)=decide (j=1)∧decide (an8 (j+5)=⟨#[]⟩)=decide (j=2):=by decide
theorem bB9 {i k:Nat} (hi:i<5) (hk:k<4): ∃x y,au2 (av6 k (quoK (an8 i)))=some x∧au2 (av6 k (an8 i))=some y∧al9 x y=aB1 i k:=by
 have h:=bs0 i hi k hk
 unfold chkK at h
 cases h1:au2 (av6 k (quoK (an8 i))) with
 |none=>rw [h1] at h;cases h
 |some x=>
  cases h2:au2 (av6 k (an8 i)) with
  |none=>rw [h1,h2] at h;cases h
  |some y=>
   rw [h1,h2] at h
   exact⟨x,y,rfl,rfl,beq_iff_eq.1 h⟩
theorem bB8 {i:Nat} (hi:i<3): ∃x y ys z zs,au2 (⟨#[40,123,39]⟩++an8 (i+5)++⟨#[39,58,32,49,125,41]⟩)=some x∧x.kids=y::ys∧y.kids=z::zs∧z.kind=4:=by
 have h:=bs1 i hi
 unfold chkS at h
 cases h1:au2 (⟨#[40,123,39]⟩++an8 (i+5)++⟨#[39,58,32,49,125,41]⟩) with
 |none=>rw [h1] at h;cases h
 |some x=>
  rw [h1] at h
  cases hx:x.kids with
  |nil=>simp only [hx] at h;cases h
  |cons y ys=>
   simp only [hx] at h
   cases hy:y.kids with
   |nil=>simp only [hy] at h;cases h
   |cons z zs=>
    simp only [hy] at h
    exact⟨x,y,ys,z,zs,rfl,hx,hy,of_decide_eq_true h⟩
theorem aT4 {s:ByteArray} {K:Nd} (hs:s.size≤1048576) (h:au2 s=some K) (w:World) (hx:Lx w):
  Calls Tryz.prog 6 #[.string s] w fun e w'=> ∃u,e= .returned (.tuple #[u,.bool true])∧NdV w' 0 w'.heap.size K u∧Below w.heap.size w w':=by
 obtain⟨n,q,h1,h2,h3,h4,_⟩:=ay8 h
 have h5:=bD2 60 (by decide) hs h1 (by omega) h2 w hx
 rw [h4] at h5
 exact h5
theorem aI3 (k:Nat) (x:ByteArray):(av6 k x).size≤x.size+20:=by
 unfold av6
 split
 ·rw [ByteArray.size_append,ByteArray.size_append]
  show 2+x.size+5≤_
  omega
 split
 ·rw [ByteArray.size_append,ByteArray.size_append]
  show 2+x.size+7≤_
  omega
 split
 ·rw [ByteArray.size_append,ByteArray.size_append]
  show 8+x.size+7≤_
  omega
 ·rw [ByteArray.size_append,ByteArray.size_append]
  show 2+x.size+9≤_
  omega
theorem bf4 {s:ByteArray} {K:Nd} (h:au2 s=some K):aa4 K≤100:=by
 obtain⟨_,_,_,_,_,_,h⟩:=ay8 h
 exact h
theorem aZ7 (x:ByteArray) (k g:Nat) (w:World) (hk:k<4) (hx:x.size≤100) (hg:w.cell? ⟨g,0,none⟩=some (.int .u64 (k:Nat))):
  Calls Tryz.prog 7 #[.string x,.pointer (some ⟨g,0,none⟩)] w fun e w'=>e= .returned (.string (av6 k x))∧Below w.heap.size w w':=by
 have h4:k=0∨k=1∨k=2∨k=3:=by omega
 have hlt:=bj0 hg
 rcases h4 with rfl|rfl|rfl|rfl
 ·replace hg:w.cell? ⟨g,0,none⟩=some (.int .u64 0):=hg
  go_enter Tryz.func7,Tryz.ntmps7
  go_wp2_with fail
  go_ret
  exact⟨rfl,ac0 _ _⟩
 ·replace hg:w.cell? ⟨g,0,none⟩=some (.int .u64 1):=hg
  go_enter Tryz.func7,Tryz.ntmps7
  go_wp2_with fail
  go_ret
  exact⟨rfl,ac0 _ _⟩
 ·replace hg:w.cell? ⟨g,0,none⟩=some (.int .u64 2):=hg
  go_enter Tryz.func7,Tryz.ntmps7
  go_wp2_with fail
  go_ret
  exact⟨rfl,ac0 _ _⟩
 ·replace hg:w.cell? ⟨g,0,none⟩=some (.int .u64 3):=hg
  go_enter Tryz.func7,Tryz.ntmps7
  go_wp2_with fail
  go_ret
  exact⟨rfl,ac0 _ _⟩
theorem bt6 (a b:Int) (w:World) (hx:Lx w):Calls Tryz.prog 3 #[.int .i64 a,.int .i64 b] w fun e w'=>e= .returned (.bool true)∧Below w.heap.size w w':=by
 obtain⟨i,hi,hi2⟩:=bJ9 a 8 (by decide)
 replace hi:(IntKind.u64.wrap a).tmod 8=(i:Int):=hi
 obtain⟨k,hk,hk2⟩:=bJ9 b 4 (by decide)
 replace hk:(IntKind.u64.wrap b).tmod 4=(k:Int):=hk
 have HX:=hJ hx
 clear hx
 go_enter Tryz.func3,Tryz.ntmps3
 go_upto_region 3 with (go_at_call 5;refine(be1 w HX.out).mono ?_;rintro e w1 ⟨rfl,hb1⟩)
 have hst:StrS w1.heap.size bl3 (w1.alloc (.cells #[.string ⟨#[97]⟩,.string ⟨#[105,102]⟩,.string ⟨#[99,111,110,115,116,114,117,99,116,111,114]⟩,.string ⟨#[95,95,112,114,111,116,111,95,95]⟩,.string ⟨#[230,151,165]⟩,.string ⟨#[97,32,98]⟩,.string ⟨#[49]⟩,.string ⟨#[]⟩] 9)):=StrS.new w1 bl3 9
 have hcell:=(hst.2 i (show i<bl3.length from hi2)).trans (congrArg (fun s=>some (Value.string s)) (bt4 hi2))
 obtain⟨S,hS⟩: ∃S,an8 i=S:=⟨_,rfl⟩
 rw [hS] at hcell
 have hb2:Below w.heap.size w (w1.alloc (.cells #[.string ⟨#[97]⟩,.string ⟨#[105,102]⟩,.string ⟨#[99,111,110,115,116,114,117,99,116,111,114]⟩,.string ⟨#[95,95,112,114,111,116,111,95,95]⟩,.string ⟨#[230,151,165]⟩,.string ⟨#[97,32,98]⟩,.string ⟨#[49]⟩,.string ⟨#[]⟩] 9)):=hb1.alloc hb1.size _
 have hss:S.size≤20:=hS▸be3 i hi2
 clear hst
 go_upto_region 4 with fail
 clear hcell hb1
 generalize World.alloc w1 _=w2 at*
 have HB2:=hJ hb2
 clear hb2
 by_cases h5:i<5
 ·obtain⟨x,y,hrx,hry,hxy⟩:=bB9 h5 hk2
  rw [hS] at hrx hry
  have e1:(S.toList== [97,32,98])=false:=xf (hS▸(show∀i,i<5→¬an8 i=⟨#[97,32,98]⟩ by decide) i h5)
  have e2:(S.toList== [49])=false:=xf (hS▸(show∀i,i<5→¬an8 i=⟨#[49]⟩ by decide) i h5)
  have e3:(S.toList== [])=false:=xf (hS▸(show∀i,i<5→¬an8 i=⟨#[]⟩ by decide) i h5)
  have e4:(S.toList== [95,95,112,114,111,116,111,95,95])=decide (i=3):=by
   rw [bt]
   exact hS▸(show∀i,i<5→decide (an8 i=⟨#[95,95,112,114,111,116,111,95,95]⟩)=decide (i=3) by decide) i h5
  have e5:(S.toList== [99,111,110,115,116,114,117,99,116,111,114])=decide (i=2):=by
   rw [bt]
   exact hS▸(show∀i,i<5→decide (an8 i=⟨#[99,111,110,115,116,114,117,99,116,111,114]⟩)=decide (i=2) by decide) i h5
  have hq:(quoK S).size≤22:=by
   unfold quoK
   rw [ByteArray.size_append,ByteArray.size_append]
   show 1+S.size+1≤22
   omega
  have HF1:=hJ (fun g W (hg:World.cell? W ⟨g,0,none⟩=some (.int .u64 (k:Nat)))=>show Calls Tryz.prog 7 #[.string (⟨#[39]⟩++S++⟨#[39]⟩),.pointer (some ⟨g,0,none⟩)] W fun e w'=>e= .returned (.string (av6 k (quoK S)))∧Below W.heap.size W w' from aZ7 (quoK S) k g W hk2 (by omega) hg)
  have HF2:=hJ (fun g W (hg:World.cell? W ⟨g,0,none⟩=some (.int .u64 (k:Nat)))=>aZ7 S k g W hk2 (by omega) hg)
  have HO1:=hJ (fun W h=>aT4 (s:=av6 k (quoK S)) (Nat.le_trans (aI3 _ _) (by omega)) hrx W h)
  have HO2:=hJ (fun W h=>aT4 (s:=av6 k S) (Nat.le_trans (aI3 _ _) (by omega)) hry W h)
  have hzx:=bf4 hrx
  have HXY:=hJ hxy
  have HE4:=hJ e4
  have HE5:=hJ e5
  generalize av6 k (quoK S)=s1 at*
  generalize av6 k S=s2 at*
  clear hS hrx hry hq e4 e5 hxy
  go_upto_region 8 with fail
  have hb3:=ac0 w2 (.cells #[.int .u64 (k:Nat)] 24)
  have hc8:(w2.alloc (.cells #[.int .u64 (k:Nat)] 24)).heap[w2.heap.size]? =some (.cells #[.int .u64 (k:Nat)] 24 (0,0)):=heap_alloc_new _ _
  have hb23:=aa0 HB2.out hb3
  generalize w2.heap.size=g8 at*
  generalize World.alloc w2 _=w3 at*
  have HB3:=hJ hb23
  have HC8:=hJ hc8
  have c80:=cell_of_row w3 g8 0 _ _ _ hc8
  clear hb3 hc8 hb23
  go_upto_region 10 with (first
   |(go_at_call 7;refine(HF1.out _ _ c80).mono ?_;rintro e w4 ⟨rfl,hb4⟩;have HB4:=hJ (aa0 HB3.out hb4);have HC4:=hJ ((hb4.block g8 (Array.getElem?_eq_some_iff.1 HC8.out).1).trans HC8.out);clear hb4)
   |(go_at_call 6;refine(HO1.out _ (HX.out.bel HB4.out)).mono ?_;rintro e w5 ⟨u,rfl,hu,hb5⟩;have HB5:=hJ (aa0 HB4.out hb5);have HC5:=hJ ((hb5.block g8 (Array.getElem?_eq_some_iff.1 HC4.out).1).trans HC4.out);obtain⟨b4,cap4,rfl,hc4,hr4⟩:=hu;have HR4:=hJ hr4;clear hb5 hr4;unfold aa7 at*))
  have hb6:=ac0 w5 (.cells #[.int .i64 x.kind,.string x.text,.slice b4 x.kids.length cap4,.int .i64 x.from',.int .i64 x.till] 27)
  have hx6:=aq5 w5 x b4 cap4
  have hv6:NdV (w5.alloc (.cells #[.int .i64 x.kind,.string x.text,.slice b4 x.kids.length cap4,.int .i64 x.from',.int .i64 x.till] 27)) 0 w5.heap.size x (.agg #[.int .i64 x.kind,.string x.text,.slice b4 x.kids.length cap4,.int .i64 x.from',.int .i64 x.till]):=⟨b4,cap4,rfl,hc4,ad5 HR4.out hb6⟩
  have hb56:=aa0 HB5.out hb6
  have hc6:=(hb6.block g8 (Array.getElem?_eq_some_iff.1 HC5.out).1).trans HC5.out
  have hz6:=hb6.size
  generalize hg6:w5.heap.size=g10 at*
  generalize World.alloc w5 _=w6 at*
  have HB6:=hJ hb56
  have HC6:=hJ hc6
  have HX6:=hJ hx6
  have HV6:=hJ hv6
  have c86:=cell_of_row w6 g8 0 _ _ _ hc6
  clear hb6 hx6 hv6 hb56 hc6 hg6 HR4 HC5 HC4 HB5 HB4 HC8 c80 HB3 HF1 HO1 e1 e2 e3
  go_upto_region 11 with (first
   |(go_at_call 7;refine(HF2.out _ _ c86).mono ?_;rintro e w7 ⟨rfl,hb7⟩;have HB7:=hJ (aa0 HB6.out hb7);have HC7:=hJ ((hb7.block g8 (Array.getElem?_eq_some_iff.1 HC6.out).1).trans HC6.out);have HX7:=hJ (aa6.bel (show aa6 w6 g10 _ _ _ _ _ from HX6.out) hb7);have HV7:=hJ (aC1 (HV6.out.low (B':=w6.heap.size) (Nat.le_refl 0) hz6) hb7);have hz7:=hb7.size;clear hb7)
   |(go_at_call 6;refine(HO2.out _ (HX.out.bel HB7.out)).mono ?_;rintro e w8 ⟨u,rfl,hu,hb8⟩;have HB8:=hJ (aa0 HB7.out hb8);have HC8:=hJ ((hb8.block g8 (Array.getElem?_eq_some_iff.1 HC7.out).1).trans HC7.out);have HX8:=hJ (HX7.out.bel hb8);have HV8:=hJ (aC1 (HV7.out.low (B':=w7.heap.size) (Nat.le_refl 0) hz7) hb8);have hz8:=hb8.size;obtain⟨b9,cap9,rfl,hc9,hr9⟩:=hu;have HR9:=hJ hr9;clear hb8 hr9;unfold aa7 at*))
  have hb9:=ac0 w8 (.cells #[.int .i64 y.kind,.string y.text,.slice b9 y.kids.length cap9,.int .i64 y.from',.int .i64 y.till] 27)
  have hy9:aa6 (w8.alloc (.cells #[.int .i64 y.kind,.string y.text,.slice b9 y.kids.length cap9,.int .i64 y.from',.int .i64 y.till] 27)) w8.heap.size y.kind y.text (.slice b9 y.kids.length cap9) y.from' y.till:=aq5 w8 y b9 cap9
  have hw9:NdV (w8.alloc (.cells #[.int .i64 y.kind,.string y.text,.slice b9 y.kids.length cap9,.int .i64 y.from',.int .i64 y.till] 27)) 0 w8.heap.size y (.agg #[.int .i64 y.kind,.string y.text,.slice b9 y.kids.length cap9,.int .i64 y.from',.int .i64 y.till]):=⟨b9,cap9,rfl,hc9,ad5 HR9.out hb9⟩
  have HB9:=hJ (aa0 HB8.out hb9)
  have HC9:=hJ ((hb9.block g8 (Array.getElem?_eq_some_iff.1 HC8.out).1).trans HC8.out)
  have HX9:=hJ (HX8.out.bel hb9)
  have HV9:=hJ (aC1 (HV8.out.low (B':=w8.heap.size) (Nat.le_refl 0) hz8) hb9)
  have hz9:=hb9.size
  have HY9:=hJ hy9
  have HW9:=hJ hw9
  clear hb9 hy9 hw9 HR9 HV8 HX8 HC8 HB8 HV7 HX7 HC7 HB7 HV6 HX6 HC6 HB6 c86 HF2 HO2 hz6 hz7 hz8 hc9 hc4
  generalize w8.heap.size=g12 at*
  generalize World.alloc w8 _=w9 at*
  have c89:=cell_of_row w9 g8 0 _ _ _ HC9.out
  go_cut [14] from 72 to 86 (fun v wr=>v= .bool (aB1 i k)∧w9=wr)
  case first=>
   have e4:=HE4.out
   have e5:=HE5.out
   by_cases h3:i=3
   ·by_cases hk0:k=0
    ·have e6:(((k:Nat):Int)==0)=true:=by rw [hk0];rfl
     have hs:aB1 i k=false:=by rw [h3,hk0];rfl
     rw [decide_eq_true h3] at e4
     clear h3 hk0 HE4 HE5 HXY
     go_wp2_with fail
     go_meet
     rw [hs]
     exact⟨rfl,rfl⟩
    ·have e6:(((k:Nat):Int)==0)=false:=by rw [beq_eq_false_iff_ne];omega
     have hs:aB1 i k=true:=by unfold aB1;rw [decide_eq_false hk0,h3];rfl
     rw [decide_eq_true h3] at e4
     rw [decide_eq_false (show¬i=2 by omega)] at e5
     clear h3 hk0 HE4 HE5 HXY
     go_wp2_with fail
     go_meet
     rw [hs]
     exact⟨rfl,rfl⟩
   ·rw [decide_eq_false h3] at e4
    by_cases h2:i=2
    ·rw [decide_eq_true h2] at e5
     by_cases hk0:k=2
     ·have e6:(((k:Nat):Int)==2)=true:=by rw [hk0];rfl
      have hs:aB1 i k=false:=by rw [h2,hk0];rfl
      clear h3 h2 hk0 HE4 HE5 HXY
      go_wp2_with fail
      go_meet
      rw [hs]
      exact⟨rfl,rfl⟩
     ·have e6:(((k:Nat):Int)==2)=false:=by rw [beq_eq_false_iff_ne];omega
      have hs:aB1 i k=true:=by unfold aB1;rw [decide_eq_false hk0,decide_eq_false h3];simp
      clear h3 h2 hk0 HE4 HE5 HXY
      go_wp2_with fail
      go_meet
      rw [hs]
      exact⟨rfl,rfl⟩
    ·rw [decide_eq_false h2] at e5
     have hs:aB1 i k=true:=by unfold aB1;rw [decide_eq_false h2,decide_eq_false h3];rfl
     clear h3 h2 HE4 HE5 HXY
     go_wp2_with fail
     go_meet
     rw [hs]
     exact⟨rfl,rfl⟩
  case rest=>
   obtain⟨rfl,hcut⟩:=hcut
   subst hcut
   have HT:=hJ (by5 x y _ _ w9 0 w9.heap.size (HV9.out.low (Nat.le_refl 0) hz9) (HW9.out.low (Nat.le_refl 0) hz9) (Nat.le_refl _) (by omega))
   rw [HXY.out] at HT
   generalize aB1 i k=B at*
   obtain⟨x0,x1,x2,x3,x4,_⟩:=aa6.facts HX9.out
   obtain⟨y0,y1,y2,y3,y4,_⟩:=aa6.facts HY9.out
   clear HXY HE4 HE5
   go_wp2_with (go_at_call 8;refine HT.out.mono ?_;rintro e w10 ⟨rfl,hb10⟩)
   go_ret
   exact⟨by cases B<;>rfl,aa0 HB9.out hb10⟩
 ·obtain⟨j,rfl⟩: ∃j,i=j+5:=⟨i - 5,by omega⟩
  obtain⟨x,y,ys,z,zs,hrx,hxk,hyk,hzk⟩:=bB8 (show j<3 by omega)
  rw [hS] at hrx
  have hf2:=be2 j (show j<3 by omega)
  rw [hS] at hf2
  have hfacts:(S.toList== [97,32,98])=decide (j=0)∧(S.toList== [49])=decide (j=1)∧(S.toList== [])=decide (j=2):=by
   rw [bt,bt,bt]
   exact hf2
  clear hf2
  obtain⟨e1,e2,e3⟩:=hfacts
  have hsz:(⟨#[40,123,39]⟩++S++⟨#[39,58,32,49,125,41]⟩:ByteArray).size≤1048576:=by
   rw [ByteArray.size_append,ByteArray.size_append]
   show 3+S.size+6≤_
   omega
  have HO:=hJ (fun W (h:Lx W)=>aT4 hsz hrx W h)
  have HXK:=hJ hxk
  have HYK:=hJ hyk
  have HZK:=hJ hzk
  clear hS hrx hxk hyk hzk hsz
  have hj:j=0∨j=1∨j=2:=by omega
  go_cut [32] from 23 to 32 (fun v wr=>v= .bool true∧w2=wr)
  case first=>
   rcases hj with rfl|rfl|rfl
   ·have f1:(S.toList== [97,32,98])=true:=e1
    clear e1 e2 e3
    go_wp2_with fail
    go_meet
    exact⟨rfl,rfl⟩
   ·have f1:(S.toList== [97,32,98])=false:=e1
    have f2:(S.toList== [49])=true:=e2
    clear e1 e2 e3
    go_wp2_with fail
    go_meet
    exact⟨rfl,rfl⟩
   ·have f1:(S.toList== [97,32,98])=false:=e1
    have f2:(S.toList== [49])=false:=e2
    have f3:(S.toList== [])=true:=e3
    clear e1 e2 e3
    go_wp2_with fail
    go_meet
    exact⟨rfl,rfl⟩
  case rest=>
   obtain⟨rfl,hcut⟩:=hcut
   subst hcut
   clear e1 e2 e3 hj
   go_upto_region 6 with (go_at_call 6;refine(HO.out _ (HX.out.bel HB2.out)).mono ?_;rintro e w5 ⟨u,rfl,hu,hb5⟩;have HB5:=hJ (aa0 HB2.out hb5);obtain⟨b4,cap4,rfl,hc4,hr4⟩:=hu;have HR4:=hJ hr4;clear hb5 hr4;unfold aa7 at*)
   have hb6:=ac0 w5 (.cells #[.int .i64 x.kind,.string x.text,.slice b4 x.kids.length cap4,.int .i64 x.from',.int .i64 x.till] 27)
   have hx6:aa6 (w5.alloc (.cells #[.int .i64 x.kind,.string x.text,.slice b4 x.kids.length cap4,.int .i64 x.from',.int .i64 x.till] 27)) w5.heap.size x.kind x.text (.slice b4 x.kids.length cap4) x.from' x.till:=aq5 w5 x b4 cap4
   have hr6:=ad5 HR4.out hb6
   have HB6:=hJ (aa0 HB5.out hb6)
   clear hb6
   generalize w5.heap.size=g6 at*
   generalize World.alloc w5 _=w6 at*
   have hl0:0<x.kids.length:=by rw [HXK.out];exact Nat.succ_pos _
   have hy0:x.kids[0]=y:=by simp [HXK.out]
   have hl1:0<y.kids.length:=by rw [HYK.out];exact Nat.succ_pos _
   have hz0:y.kids[0]=z:=by simp [HYK.out]
   obtain⟨g7,o7,rfl,hn7⟩:=af0 hr6 0 hl0
   rw [hy0,ai9] at hn7
   obtain⟨b8,c8,_,hg7,_,_,d2,_,_,hc8,hr8⟩:=hn7
   obtain⟨g9,o9,rfl,hn9⟩:=af0 hr8 0 hl1
   rw [hz0,ai9] at hn9
   obtain⟨b10,c10,_,hg9,f0,_,_,_,_,_,_⟩:=hn9
   rw [HZK.out] at f0
   simp only [Nat.zero_mul,Nat.add_zero] at d2 f0
   have il0:(0:Int)<(x.kids.length:Int):=by omega
   have il1:(0:Int)<(y.kids.length:Int):=by omega
   obtain⟨x0,x1,x2,x3,x4,_⟩:=aa6.facts hx6
   clear hx6 hr6 hr8 hy0 hz0 HXK HYK HZK HO HR4
   go_wp2_with fail
   go_ret
   exact⟨rfl,HB6.out⟩
end
end Go.Proofs.YtnobjeelihkjmaaGreatDoor
