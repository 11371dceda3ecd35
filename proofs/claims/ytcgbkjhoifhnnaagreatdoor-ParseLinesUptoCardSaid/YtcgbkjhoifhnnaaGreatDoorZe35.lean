/- Steps (Rp Rq). Conditions: as stated. -/
import Derived.Test.YtcgbkjhoifhnnaaGreatDoorZe12
import Derived.Test.YtcgbkjhoifhnnaaGreatDoorZe09
import Derived.Deep.DrawnRows
import Derived.Test.YtcgbkjhoifhnnaaGreatDoorZe33
set_option maxHeartbeats 2000000
set_option maxRecDepth 100000
namespace Go.Proofs.YtcgbkjhoifhnnaaGreatDoor
section
open Go.RowKit
def Aw1:Prop:= ∀w:World,Lx w→Calls Tryz.prog 11 #[.string ⟨#[97,32,47,47,32,99,10,43,43,98]⟩,.bool false] w fun e w'=>(∃(n:Nd) (an:Option Addr) (cn:Nat) (sa:Option Addr) (sc:Nat),e= .returned (.tuple #[.agg #[.int .i64 n.kind,.string n.text,.slice an n.kids.length cn,.int .i64 n.from',.int .i64 n.till],.slice sa 1 sc,.int .i64 0,.int .i64 0])∧n.kids.length=2)∧Below w.heap.size w w'
def Aw2:Prop:= ∀w:World,Lx w→Calls Tryz.prog 12 #[.string ⟨#[40,97,44,32,98,41,32,61,62,32,97]⟩,.bool false] w fun e w'=>(∃(m:Nd) (am:Option Addr) (cm:Nat),e= .returned (.tuple #[.agg #[.int .i64 m.kind,.string m.text,.slice am m.kids.length cm,.int .i64 m.from',.int .i64 m.till],.int .i64 0,.int .i64 0])∧m.kind=22)∧Below w.heap.size w w'
def Aw3:Prop:= ∀w:World,Lx w→Calls Tryz.prog 11 #[.string ⟨#[97,32,63,63,32,98,32,124,124,32,99]⟩,.bool false] w fun e w'=>e= .returned (.tuple #[.agg #[.int .i64 0,.string ⟨#[]⟩,.slice none 0 0,.int .i64 0,.int .i64 0],.slice none 0 0,.int .i64 7,.int .i64 1001])∧Below w.heap.size w w'
def AwOk:Prop:= ∀w:World,Lx w→Calls Tryz.prog 5 #[] w fun e w'=>e= .returned (.bool true)∧Below w.heap.size w w'
theorem bo1 (h1:Aw1) (h2:Aw2) (h3:Aw3) (w:World) (hx:Lx w):Calls Tryz.prog 5 #[] w fun e w'=>e= .returned (.bool true)∧Below w.heap.size w w':=by
 have HX:=hJ hx
 have H1:=hJ h1
 have H2:=hJ h2
 have H3:=hJ h3
 clear hx h1 h2 h3
 go_enter Tryz.func5,Tryz.ntmps5
 go_wp2_with fail
 refine(H1.out _ HX.out).mono ?_
 rintro e w1 ⟨⟨n,an,cn,sa,sc,rfl,hk⟩,hb⟩
 have HB:=hJ (hb.alloc hb.size (.cells #[.int .i64 n.kind,.string n.text,.slice an n.kids.length cn,.int .i64 n.from',.int .i64 n.till] 26))
 have hN:ac9 (w1.alloc (.cells #[.int .i64 n.kind,.string n.text,.slice an n.kids.length cn,.int .i64 n.from',.int .i64 n.till] 26)) w1.heap.size n.kind n.text an n.kids.length cn n.from' n.till:=ac9.new rfl
 have HK:=hJ hk
 clear hb hk
 go_wp2_with fail
 generalize w1.alloc (.cells #[.int .i64 n.kind,.string n.text,.slice an n.kids.length cn,.int .i64 n.from',.int .i64 n.till] 26)=w2 at*
 have HS:=hJ HB.out.size
 refine(H2.out _ (HX.out.bel HB.out)).mono ?_
 rintro e w3 ⟨⟨m,am,cm,rfl,hm⟩,hb⟩
 have hM:ac9 (w3.alloc (.cells #[.int .i64 m.kind,.string m.text,.slice am m.kids.length cm,.int .i64 m.from',.int .i64 m.till] 26)) w3.heap.size m.kind m.text am m.kids.length cm m.from' m.till:=ac9.new rfl
 replace hN:=(hN.same (hb.block _ hN.lt)).alloc (.cells #[.int .i64 m.kind,.string m.text,.slice am m.kids.length cm,.int .i64 m.from',.int .i64 m.till] 26)
 replace HB:=hJ ((HB.out.trans (hb.mono HS.out)).alloc (Nat.le_trans HS.out hb.size) (.cells #[.int .i64 m.kind,.string m.text,.slice am m.kids.length cm,.int .i64 m.from',.int .i64 m.till] 26))
 replace HS:=hJ HB.out.size
 have HM:=hJ hm
 clear hb hm
 go_wp2_with fail
 generalize w3.alloc (.cells #[.int .i64 m.kind,.string m.text,.slice am m.kids.length cm,.int .i64 m.from',.int .i64 m.till] 26)=w4 at*
 refine(H3.out _ (HX.out.bel HB.out)).mono ?_
 rintro e w5 ⟨rfl,hb⟩
 replace hN:=(hN.same (hb.block _ hN.lt)).alloc (.cells #[.int .i64 0,.string ⟨#[]⟩,.slice none 0 0,.int .i64 0,.int .i64 0] 26)
 replace hM:=(hM.same (hb.block _ hM.lt)).alloc (.cells #[.int .i64 0,.string ⟨#[]⟩,.slice none 0 0,.int .i64 0,.int .i64 0] 26)
 replace HB:=hJ ((HB.out.trans (hb.mono HS.out)).alloc (Nat.le_trans HS.out hb.size) (.cells #[.int .i64 0,.string ⟨#[]⟩,.slice none 0 0,.int .i64 0,.int .i64 0] 26))
 rw [HK.out] at hN
 rw [HM.out] at hM
 obtain⟨z0,z1,z2,z3,z4,_⟩:=hN.facts
 obtain⟨y0,y1,y2,y3,y4,_⟩:=hM.facts
 have ln:=hN.lt
 have lm:=hM.lt
 clear hb hN hM
 rw [HK.out]
 rw [HM.out]
 go_upto_region 4 with fail
 generalize w5.alloc (.cells #[.int .i64 0,.string ⟨#[]⟩,.slice none 0 0,.int .i64 0,.int .i64 0] 26)=w6 at*
 go_wp2_with (go_at_call 13;refine(bj8 _ _).mono ?_;rintro e w9 ⟨rfl,rfl⟩)
 go_ret
 exact⟨rfl,HB.out⟩
end
section
open Go.RowKit
theorem be0 {s:ByteArray} {T:Res Nd} (m:Bool) (f:Nat) (hs:s.size≤1048576) (hf:f≤1073741824) (w:World) (hx:Lx w) (hT:bg8 s m f=T) (hne:T≠ .out):
  Calls Tryz.prog 12 #[.string s,.bool m] w fun e w'=>ExA T e w'∧Below w.heap.size w w':=by
 subst hT
 exact bn7 s m f hs hf w hx hne
theorem as2 {s:ByteArray} {T:Res Nd} (m:Bool) (f:Nat) (hs:s.size≤1048576) (hf:f≤1073741824) (w:World) (hx:Lx w) (hT:ai6 s m f=T) (hne:T≠ .out):
  Calls Tryz.prog 11 #[.string s,.bool m] w fun e w'=>PgA T e w'∧Below w.heap.size w w':=by
 subst hT
 exact aQ6 s m f hs hf w hx hne
theorem aw1:Aw1:=by
 intro w hx
 obtain⟨T,hT⟩: ∃T,ai6 ⟨#[97,32,47,47,32,99,10,43,43,98]⟩ false 40=T:=⟨_,rfl⟩
 have h1:=bE8
 rw [hT] at h1
 refine(as2 false 40 (by decide) (by decide) w hx hT (by rintro rfl;cases h1)).mono fun e w' ⟨h,hb⟩=>⟨?_,hb⟩
 clear hT
 cases T with
 |out=>cases h1
 |bad c i=>cases h1
 |ok n q=>
  obtain⟨a,cap,sa,sc,he,_,_⟩:=h
  simp [sumQ] at h1
  rw [h1.2] at he
  exact⟨n,a,cap,sa,sc,he,h1.1⟩
theorem aw2:Aw2:=by
 intro w hx
 obtain⟨T,hT⟩: ∃T,bg8 ⟨#[40,97,44,32,98,41,32,61,62,32,97]⟩ false 40=T:=⟨_,rfl⟩
 have h1:=bE9
 rw [hT] at h1
 refine(be0 false 40 (by decide) (by decide) w hx hT (by rintro rfl;cases h1)).mono fun e w' ⟨h,hb⟩=>⟨?_,hb⟩
 clear hT
 cases T with
 |out=>cases h1
 |bad c i=>cases h1
 |ok n q=>
  obtain⟨a,cap,he,_,_⟩:=h
  simp [sumQ] at h1
  exact⟨n,a,cap,he,h1⟩
theorem aw3:Aw3:=by
 intro w hx
 obtain⟨T,hT⟩: ∃T,ai6 ⟨#[97,32,63,63,32,98,32,124,124,32,99]⟩ false 40=T:=⟨_,rfl⟩
 have h1:=bF0
 rw [hT] at h1
 refine(as2 false 40 (by decide) (by decide) w hx hT (by rintro rfl;cases h1)).mono fun e w' ⟨h,hb⟩=>⟨?_,hb⟩
 clear hT
 cases T with
 |out=>cases h1
 |ok n q=>cases h1
 |bad c i=>
  simp [badQ] at h1
  obtain⟨rfl,rfl⟩:=h1
  exact h
theorem be6:AwOk:=bo1 aw1 aw2 aw3
end
end Go.Proofs.YtcgbkjhoifhnnaaGreatDoor
