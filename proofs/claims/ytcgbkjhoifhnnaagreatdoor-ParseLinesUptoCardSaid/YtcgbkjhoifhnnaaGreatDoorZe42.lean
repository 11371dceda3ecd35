/- Steps (Ln). Conditions: as stated. -/
import Derived.Test.YtcgbkjhoifhnnaaGreatDoorZe41
import Derived.Test.YtcgbkjhoifhnnaaGreatDoorZe39
set_option maxHeartbeats 16000000
set_option maxRecDepth 100000
namespace Go.Proofs.YtcgbkjhoifhnnaaGreatDoor
section
open Go.RowKit
theorem bC5 (a:Nd):ao3 a a=true:=by
 induction a using Nd.ind with
 |h n ih=>exact(au4 n n).2 ⟨rfl,rfl,rfl,fun i h _=>ih _ (List.getElem_mem h)⟩
def aH5:List (List UInt8):=(List.range 17).map fun k=>fW k++fR k
theorem aO5: ∀o ∈ aH5,o.length≤18:=by decide
theorem br6 {a:Nat} (h:a<aH5.length):aH5[a]=fW a++fR a:=by simp [aH5]
theorem bA7: ∀a<17,((⟨(fW a++fR a).toArray⟩:ByteArray)=⟨#[102,117,110,99,116,105,111,110,32,102,40,41,32,123,125]⟩↔a=9)∧((⟨(fW a++fR a).toArray⟩:ByteArray)=⟨#[99,108,97,115,115,32,67,32,123,125]⟩↔a=10):=by decide
theorem aL6 (b:Bool): ∀(ks:List Nat) (k:Nat),lnT b (ks++ [k])=lnT b ks++((fW k++fR k)++tlT b k)
 | [],k=>by
  show fW k++(fR k++(tlT b k++ []))= []++_
  simp
 |x::ks,k=>by
  show fW x++(fR x++(tlT b x++lnT b (ks++ [k])))=(fW x++(fR x++(tlT b x++lnT b ks)))++_
  rw [aL6 b ks k]
  simp only [List.append_assoc]
theorem aL5 (b:Bool): ∀ks:List Nat,(∀k ∈ ks,k<17)→(lnT b ks).length≤19*ks.length
 | [],_=>Nat.le_refl _
 |k::ks,h=>by
  have h1:=aL5 b ks fun x hx=>h x (.tail _ hx)
  have h2:(fW k++fR k).length≤18:=aO5 _ (List.mem_map.2 ⟨k,List.mem_range.2 (h k (.head _)),rfl⟩)
  have h3:(tlT b k).length≤1:=by unfold tlT;split<;>(try split)<;>decide
  show(fW k++(fR k++(tlT b k++lnT b ks))).length≤_
  rw [List.length_append] at h2
  rw [List.length_append,List.length_append,List.length_append,List.length_cons]
  omega
theorem bj2 {S T:ByteArray} {ks:List Nat} (hks: ∀k ∈ ks,k<17) (hl:ks.length≤30) (hS:S.data.toList=lnT false ks) (hT:T.data.toList=lnT true ks):
  ∃n q m r l,ai6 S false 56= .ok n q∧aa2 n≤4194304∧ai6 T false 56= .ok m r∧aa2 m≤4194304∧(az5 n).kids=l∧(az5 m).kids=l∧ad1 l≤4194303:=by
 obtain⟨l1,q1,a1,a2,a3⟩:=bl4 (s:=S) 30 (by decide) (bo:=false) hks hl hS
 obtain⟨l2,q2,b1,b2,b3⟩:=bl4 (s:=T) 30 (by decide) (bo:=true) hks hl hT
 have key: ∀(l:List Nd) (z:Int),ad1 l≤270→aa1 l=lnL true ks→(az5 (.mk 86 ⟨#[]⟩ l 0 z)).kids=lnL true ks:=by
  intro l z h1 h2
  have h3:aa2 (.mk 86 ⟨#[]⟩ l 0 z)≤8000:=by rw [aa2];omega
  rw [bo2 h3,ac6,if_neg (by decide),h2]
  rfl
 refine⟨_,q1,_,q2,lnL true ks,a1,by rw [aa2];omega,b1,by rw [aa2];omega,key _ _ a3 a2,key _ _ b3 b2,?_⟩
 have h1:=be7 (.mk 86 ⟨#[]⟩ l1 0 S.size)
 rw [ac6,if_neg (by decide),aa2,aa2,a2] at h1
 omega
def bE5 (w:World) (g len:Nat) (sv tv i:Value) (wr:World):Prop:=
 ∃(j:Nat) (ks:List Nat) (S T:ByteArray),j≤len∧j≤30∧i= .int .i64 j∧ks.length=j∧(∀k ∈ ks,k<17)∧sv= .string S∧S.data.toList=lnT false ks∧tv= .string T∧T.data.toList=lnT true ks∧Below w.heap.size w wr∧StrS g aH5 wr
theorem aS6 {w wr:World} {g len j:Nat} {ks:List Nat} {S T X Y t:ByteArray} {a:Nat} (hlt:j<len) (hlt30:j<30) (hoj:ks.length=j) (hm: ∀k ∈ ks,k<17) (ha:a<17) (hS:S.data.toList=lnT false ks) (hT:T.data.toList=lnT true ks) (ht:t.data.toList=fW a++fR a) (hX:X.data.toList=S.data.toList++(t.data.toList++tlT false a)) (hY:Y.data.toList=T.data.toList++(t.data.toList++tlT true a)) (hb:Below w.heap.size w wr) (hr:StrS g aH5 wr):
  bE5 w g len (.string X) (.string Y) (.int .i64 ((j+1:Nat):Int)) wr:=by
 refine⟨j+1,ks++ [a],X,Y,hlt,by omega,rfl,by simp [hoj],?_,rfl,?_,rfl,?_,hb,hr⟩
 ·intro x hx
  rcases List.mem_append.1 hx with hx|hx
  ·exact hm x hx
  ·rw [List.mem_singleton.1 hx];exact ha
 ·rw [hX,hS,ht,aL6]
 ·rw [hY,hT,ht,aL6]
theorem bj1 (ao:Option Addr) (len cap:Nat) (w:World) (hc:be2 w ao len) (hl:len≤33554432) (hx:Lx w):
  Calls Tryz.prog 4 #[.slice ao len cap] w fun e w'=>e= .returned (.bool true)∧Below w.heap.size w w':=by
 have HC:=hJ hc
 have HX:=hJ hx
 clear hc hx
 go_enter Tryz.func4,Tryz.ntmps4
 go_wp2_with fail
 refine(be6 w HX.out).mono ?_
 rintro e w1 ⟨rfl,hb1⟩
 go_upto_region 4 with fail
 have hr1:StrS w1.heap.size aH5 (w1.alloc (.cells #[.string ⟨#[97]⟩,.string ⟨#[97,32,61,32,98]⟩,.string ⟨#[102,40,120,41]⟩,.string ⟨#[120,43,43]⟩,.string ⟨#[108,101,116,32,118,32,61,32,49]⟩,.string ⟨#[105,102,32,40,97,41,32,98]⟩,.string ⟨#[119,104,105,108,101,32,40,97,41,32,98]⟩,.string ⟨#[100,111,32,97,59,32,119,104,105,108,101,32,40,98,41]⟩,.string ⟨#[98,114,101,97,107,95]⟩,.string ⟨#[102,117,110,99,116,105,111,110,32,102,40,41,32,123,125]⟩,.string ⟨#[99,108,97,115,115,32,67,32,123,125]⟩,.string ⟨#[100,101,98,117,103,103,101,114]⟩,.string ⟨#[116,104,114,111,119,32,97]⟩,.string ⟨#[108,58,32,97]⟩,.string ⟨#[118,97,114,32,119]⟩,.string ⟨#[97,32,63,32,98,32,58,32,99]⟩,.string ⟨#[39,115,39]⟩] 9)):=StrS.new w1 aH5 9
 have hb2:Below w.heap.size w (w1.alloc (.cells #[.string ⟨#[97]⟩,.string ⟨#[97,32,61,32,98]⟩,.string ⟨#[102,40,120,41]⟩,.string ⟨#[120,43,43]⟩,.string ⟨#[108,101,116,32,118,32,61,32,49]⟩,.string ⟨#[105,102,32,40,97,41,32,98]⟩,.string ⟨#[119,104,105,108,101,32,40,97,41,32,98]⟩,.string ⟨#[100,111,32,97,59,32,119,104,105,108,101,32,40,98,41]⟩,.string ⟨#[98,114,101,97,107,95]⟩,.string ⟨#[102,117,110,99,116,105,111,110,32,102,40,41,32,123,125]⟩,.string ⟨#[99,108,97,115,115,32,67,32,123,125]⟩,.string ⟨#[100,101,98,117,103,103,101,114]⟩,.string ⟨#[116,104,114,111,119,32,97]⟩,.string ⟨#[108,58,32,97]⟩,.string ⟨#[118,97,114,32,119]⟩,.string ⟨#[97,32,63,32,98,32,58,32,99]⟩,.string ⟨#[39,115,39]⟩] 9)):=hb1.alloc hb1.size _
 generalize World.alloc w1 _=w2 at*
 generalize w1.heap.size=g at*
 clear hb1
 have HB:=hJ hb2
 have HR:=hJ hr1
 clear hb2 hr1
 go_wp2_with fail
 go_loopw [4,5,6,7] (fun sv tv i _ wr=>bE5 w2 g len sv tv i wr) (fun _ _ i _ _=>30 - (intOf i).toNat)
 case atStart=>exact⟨0,[],⟨#[]⟩,⟨#[]⟩,Nat.zero_le _,Nat.zero_le _,rfl,rfl,(fun _ h=>by cases h),rfl,rfl,rfl,rfl,Below.refl _ _,HR.out⟩
 case round=>
  clear HR
  obtain⟨j,ks,S,T,hj,hj30,rfl,hoj,hm,rfl,hS,rfl,hT,hbr,hrow⟩:=hrel
  have hSs:S.size≤570:=by rw [aQ9 hS];have:=aL5 false ks hm;omega
  have hTs:T.size≤570:=by rw [aQ9 hT];have:=aL5 true ks hm;omega
  have HS:=hJ hS
  have HT:=hJ hT
  have HM:=hJ hm
  have HBR:=hJ hbr
  have HRW:=hJ hrow
  clear hS hT hm
  by_cases hlt:j<len∧j<30
  ·obtain⟨hlt,hlt30⟩:=hlt
   obtain⟨b,off,rfl,hb,z,hz⟩:=HC.out j hlt
   rw [←(aa6 HB.out HBR.out).cell (p:=⟨b,off+j,none⟩) hb] at hz
   obtain⟨a,ha,ha2⟩:=bL4 z 17 (by decide)
   replace ha:(IntKind.u64.wrap z).tmod 17=(a:Int):=ha
   obtain⟨x,hx⟩: ∃x,aH5[a]'ha2=x:=⟨_,rfl⟩
   have hxm:x ∈ aH5:=hx▸List.getElem_mem _
   have hxl:=aO5 x hxm
   have hx1:x=fW a++fR a:=hx▸br6 ha2
   have cx:=hrow.2 a ha2
   rw [hx] at cx
   have h9:=bA7 a ha2
   rw [←hx1] at h9
   obtain⟨t,ht⟩: ∃t:ByteArray,(⟨x.toArray⟩:ByteArray)=t:=⟨_,rfl⟩
   rw [ht] at cx h9
   have htl:t.data.toList=fW a++fR a:=by rw [←ht,←hx1]
   have hts:t.size≤18:=by rw [aQ9 htl,←hx1];exact hxl
   have HTL:=hJ htl
   have la:IntKind.i64.wrap (a:Int)=a:=by rw [IntKind.wrap_i64];omega
   have na:(0:Int)≤(a:Int):=by omega
   have ma:(a:Int)<17:=by omega
   clear hx hxm hx1 hxl ht htl hbr hrow
   by_cases e9:a=9
   ·have ht9:=h9.1.2 e9
    have HTT:=hJ (show tlT true a= [] by rw [e9];rfl)
    subst ht9
    clear h9 e9
    go_wp2_with fail
    go_roundw
    case rel=>exact aS6 hlt hlt30 hoj HM.out ha2 HS.out HT.out HTL.out (by simp [ByteArray.data_append,tlT]) (by rw [HTT.out];simp [ByteArray.data_append]) HBR.out HRW.out
    case measure=>simp [intOf];omega
   by_cases e10:a=10
   ·have ht10:=h9.2.2 e10
    have HTT:=hJ (show tlT true a= [] by rw [e10];rfl)
    subst ht10
    clear h9 e9 e10
    go_wp2_with fail
    go_roundw
    case rel=>exact aS6 hlt hlt30 hoj HM.out ha2 HS.out HT.out HTL.out (by simp [ByteArray.data_append,tlT]) (by rw [HTT.out];simp [ByteArray.data_append]) HBR.out HRW.out
    case measure=>simp [intOf];omega
   have hw9:(t.toList== [102,117,110,99,116,105,111,110,32,102,40,41,32,123,125])=false:=xf (fun h=>e9 (h9.1.1 h))
   have hw10:(t.toList== [99,108,97,115,115,32,67,32,123,125])=false:=xf (fun h=>e10 (h9.2.1 h))
   have HTT:=hJ (show tlT true a= [59] by unfold tlT;rw [if_pos rfl,if_neg (by rintro(h|h);exact e9 h;exact e10 h)])
   clear h9 e9 e10
   go_wp2_with fail
   go_roundw
   case rel=>exact aS6 hlt hlt30 hoj HM.out ha2 HS.out HT.out HTL.out (by simp [ByteArray.data_append,tlT]) (by rw [HTT.out];simp [ByteArray.data_append]) HBR.out HRW.out
   case measure=>simp [intOf];omega
  ·have hend:j=len∨(j=30∧30<len):=by omega
   obtain⟨n,q,m,r,l,e1,z1,e2,z2,k1,k2,hzl⟩:=bj2 HM.out (by omega) HS.out HT.out
   have HW:Hid (Below w.heap.size w wr):=hJ (aa6 HB.out HBR.out)
   have HA1:=hJ (av1 56 (by decide) (by omega) e1 z1 wr (HX.out.bel HW.out))
   have HA2:=hJ (fun W (h:Below wr.heap.size wr W)=>av1 56 (by decide) (by omega) e2 z2 W (HX.out.bel (aa6 HW.out h)))
   rw [k1] at HA1
   rw [k2] at HA2
   have HZ:=hJ hzl
   clear e1 z1 e2 z2 k1 k2 hzl hbr hrow HC HM HS HT HB HBR HRW
   rcases hend with rfl|⟨rfl,hl30⟩
   all_goals
    go_wp2_with fail
    refine HA1.out.mono ?_
    rintro e w3 ⟨b1,c1,rfl,hc1,hr1,hb3⟩
    go_wp2_with fail
    refine(HA2.out _ hb3).mono ?_
    rintro e w4 ⟨b2,c2,rfl,hc2,hr2,hb4⟩
    have s4:=hb4.size
    have HB6:=hJ (aa6 (aa6 HW.out hb3) hb4)
    have r1:RowP w4 0 w4.heap.size l b1 0:=ae8 (Nat.zero_le _) (by omega) (fun k _ hk=>hb4.block k hk) hr1
    have r2:RowP w4 0 w4.heap.size l b2 0:=ae8 (Nat.zero_le _) (by omega) (fun k _ hk=>rfl) hr2
    have HSS:=hJ (bm6 l l b1 b2 c1 c2 w4 0 w4.heap.size r1 hc1 r2 hc2 (Nat.le_refl _) HZ.out)
    rw [bC5] at HSS
    clear hr1 hr2 r1 r2 hb3 hb4 s4 HA1 HA2 hc1 hc2 HZ
    go_wp2_with (go_at_call 10;refine HSS.out.mono ?_;rintro e w7 ⟨rfl,hb7⟩)
    go_ret
    exact⟨rfl,aa6 HB6.out hb7⟩
end
end Go.Proofs.YtcgbkjhoifhnnaaGreatDoor
