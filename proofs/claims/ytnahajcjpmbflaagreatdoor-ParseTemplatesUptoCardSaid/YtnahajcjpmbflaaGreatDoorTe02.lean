/- Further steps. Conditions: as stated. -/
import Derived.Test.YtnahajcjpmbflaaGreatDoorTe01
set_option maxHeartbeats 16000000
set_option maxRecDepth 100000
namespace Go.Proofs.YtnahajcjpmbflaaGreatDoor
section
open Go.RowKit
def Aw1:Prop:= ∀w:World,Lx w→Calls Tryz.prog 13 #[.string ⟨#[97,32,47,47,32,99,10,43,43,98]⟩,.bool false] w fun e w'=>(∃(n:Nd) (an:Option Addr) (cn:Nat) (sa:Option Addr) (sc:Nat),e= .returned (.tuple #[.agg #[.int .i64 n.kind,.string n.text,.slice an n.kids.length cn,.int .i64 n.from',.int .i64 n.till],.slice sa 1 sc,.int .i64 0,.int .i64 0])∧n.kids.length=2)∧Below w.heap.size w w'
def Aw2:Prop:= ∀w:World,Lx w→Calls Tryz.prog 14 #[.string ⟨#[40,97,44,32,98,41,32,61,62,32,97]⟩,.bool false] w fun e w'=>(∃(m:Nd) (am:Option Addr) (cm:Nat),e= .returned (.tuple #[.agg #[.int .i64 m.kind,.string m.text,.slice am m.kids.length cm,.int .i64 m.from',.int .i64 m.till],.int .i64 0,.int .i64 0])∧m.kind=22)∧Below w.heap.size w w'
def Aw3:Prop:= ∀w:World,Lx w→Calls Tryz.prog 13 #[.string ⟨#[97,32,63,63,32,98,32,124,124,32,99]⟩,.bool false] w fun e w'=>e= .returned (.tuple #[.agg #[.int .i64 0,.string ⟨#[]⟩,.slice none 0 0,.int .i64 0,.int .i64 0],.slice none 0 0,.int .i64 7,.int .i64 1001])∧Below w.heap.size w w'
def AwOk:Prop:= ∀w:World,Lx w→Calls Tryz.prog 7 #[] w fun e w'=>e= .returned (.bool true)∧Below w.heap.size w w'
theorem am3 (h1:Aw1) (h2:Aw2) (h3:Aw3) (w:World) (hx:Lx w):Calls Tryz.prog 7 #[] w fun e w'=>e= .returned (.bool true)∧Below w.heap.size w w':=by
 have HX:=Lib.hid hx
 have H1:=Lib.hid h1
 have H2:=Lib.hid h2
 have H3:=Lib.hid h3
 clear hx h1 h2 h3
 go_enter Tryz.func7,Tryz.ntmps7
 go_wp2_with fail
 refine(H1.out _ HX.out).mono ?_
 rintro e w1 ⟨⟨n,an,cn,sa,sc,rfl,hk⟩,hb⟩
 have HB:=Lib.hid (hb.alloc hb.size (.cells #[.int .i64 n.kind,.string n.text,.slice an n.kids.length cn,.int .i64 n.from',.int .i64 n.till] 31))
 have hN:NdBox (w1.alloc (.cells #[.int .i64 n.kind,.string n.text,.slice an n.kids.length cn,.int .i64 n.from',.int .i64 n.till] 31)) w1.heap.size n.kind n.text an n.kids.length cn n.from' n.till:=NdBox.new rfl
 have HK:=Lib.hid hk
 clear hb hk
 go_wp2_with fail
 generalize w1.alloc (.cells #[.int .i64 n.kind,.string n.text,.slice an n.kids.length cn,.int .i64 n.from',.int .i64 n.till] 31)=w2 at*
 have HS:=Lib.hid HB.out.size
 refine(H2.out _ (HX.out.bel HB.out)).mono ?_
 rintro e w3 ⟨⟨m,am,cm,rfl,hm⟩,hb⟩
 have hM:NdBox (w3.alloc (.cells #[.int .i64 m.kind,.string m.text,.slice am m.kids.length cm,.int .i64 m.from',.int .i64 m.till] 31)) w3.heap.size m.kind m.text am m.kids.length cm m.from' m.till:=NdBox.new rfl
 replace hN:=(hN.same (hb.block _ hN.lt)).alloc (.cells #[.int .i64 m.kind,.string m.text,.slice am m.kids.length cm,.int .i64 m.from',.int .i64 m.till] 31)
 replace HB:=Lib.hid ((HB.out.trans (hb.mono HS.out)).alloc (Nat.le_trans HS.out hb.size) (.cells #[.int .i64 m.kind,.string m.text,.slice am m.kids.length cm,.int .i64 m.from',.int .i64 m.till] 31))
 replace HS:=Lib.hid HB.out.size
 have HM:=Lib.hid hm
 clear hb hm
 go_wp2_with fail
 generalize w3.alloc (.cells #[.int .i64 m.kind,.string m.text,.slice am m.kids.length cm,.int .i64 m.from',.int .i64 m.till] 31)=w4 at*
 refine(H3.out _ (HX.out.bel HB.out)).mono ?_
 rintro e w5 ⟨rfl,hb⟩
 replace hN:=(hN.same (hb.block _ hN.lt)).alloc (.cells #[.int .i64 0,.string ⟨#[]⟩,.slice none 0 0,.int .i64 0,.int .i64 0] 31)
 replace hM:=(hM.same (hb.block _ hM.lt)).alloc (.cells #[.int .i64 0,.string ⟨#[]⟩,.slice none 0 0,.int .i64 0,.int .i64 0] 31)
 replace HB:=Lib.hid ((HB.out.trans (hb.mono HS.out)).alloc (Nat.le_trans HS.out hb.size) (.cells #[.int .i64 0,.string ⟨#[]⟩,.slice none 0 0,.int .i64 0,.int .i64 0] 31))
 rw [HK.out] at hN
 rw [HM.out] at hM
 obtain⟨z0,z1,z2,z3,z4,_⟩:=hN.facts
 obtain⟨y0,y1,y2,y3,y4,_⟩:=hM.facts
 have ln:=hN.lt
 have lm:=hM.lt
 clear hb hN hM
 rw [HK.out]
 rw [HM.out]
 go_upto_region 4 with fail
 generalize w5.alloc (.cells #[.int .i64 0,.string ⟨#[]⟩,.slice none 0 0,.int .i64 0,.int .i64 0] 31)=w6 at*
 go_wp2_with (go_at_call 15;refine(aj8 _ _).mono ?_;rintro e w9 ⟨rfl,rfl⟩)
 go_ret
 exact⟨rfl,HB.out⟩
theorem af8 {s:ByteArray} {T:Res Nd} (m:Bool) (f:Nat) (hs:s.size≤1048576) (hf:f≤1073741824) (w:World) (hx:Lx w) (hT:ad0 s m f=T) (hne:T≠ .out):
  Calls Tryz.prog 14 #[.string s,.bool m] w fun e w'=>ExA T e w'∧Below w.heap.size w w':=by
 subst hT
 exact am7 s m f hs hf w hx hne
theorem ac2 {s:ByteArray} {T:Res Nd} (m:Bool) (f:Nat) (hs:s.size≤1048576) (hf:f≤1073741824) (w:World) (hx:Lx w) (hT:ab2 s m f=T) (hne:T≠ .out):
  Calls Tryz.prog 13 #[.string s,.bool m] w fun e w'=>PgA T e w'∧Below w.heap.size w w':=by
 subst hT
 exact ag8 s m f hs hf w hx hne
theorem aw1:Aw1:=by
 intro w hx
 obtain⟨T,hT⟩: ∃T,ab2 ⟨#[97,32,47,47,32,99,10,43,43,98]⟩ false 40=T:=⟨_,rfl⟩
 have h1:=ar0
 rw [hT] at h1
 refine(ac2 false 40 (by decide) (by decide) w hx hT (by rintro rfl;cases h1)).mono fun e w' ⟨h,hb⟩=>⟨?_,hb⟩
 clear hT
 cases T with
 |out=>cases h1
 |bad c i=>cases h1
 |ok n q=>
  obtain⟨a,cap,sa,sc,he,_,_⟩:=h
  simp [sumQ] at h1
  rw [h1.2] at he
  exact⟨n,a,cap,sa,sc,he,h1.1⟩
theorem aw2:Aw2:=by
 intro w hx
 obtain⟨T,hT⟩: ∃T,ad0 ⟨#[40,97,44,32,98,41,32,61,62,32,97]⟩ false 40=T:=⟨_,rfl⟩
 have h1:=aq7
 rw [hT] at h1
 refine(af8 false 40 (by decide) (by decide) w hx hT (by rintro rfl;cases h1)).mono fun e w' ⟨h,hb⟩=>⟨?_,hb⟩
 clear hT
 cases T with
 |out=>cases h1
 |bad c i=>cases h1
 |ok n q=>
  obtain⟨a,cap,he,_,_⟩:=h
  simp [sumQ] at h1
  exact⟨n,a,cap,he,h1⟩
theorem aw3:Aw3:=by
 intro w hx
 obtain⟨T,hT⟩: ∃T,ab2 ⟨#[97,32,63,63,32,98,32,124,124,32,99]⟩ false 40=T:=⟨_,rfl⟩
 have h1:=ap7
 rw [hT] at h1
 refine(ac2 false 40 (by decide) (by decide) w hx hT (by rintro rfl;cases h1)).mono fun e w' ⟨h,hb⟩=>⟨?_,hb⟩
 clear hT
 cases T with
 |out=>cases h1
 |ok n q=>cases h1
 |bad c i=>
  simp [badQ] at h1
  obtain⟨rfl,rfl⟩:=h1
  exact h
theorem ak9:AwOk:=am3 aw1 aw2 aw3
theorem NSt2.bel' {w0 wr w':World} {p q L B:Nat} {a:Nd} {b:Option Addr} {cap:Nat} {c:Nd} {d:Option Addr} {cap2:Nat} (h:NSt2 w0 p q L B a b cap c d cap2 wr) (hb:Below wr.heap.size wr w'):NSt2 w0 p q L B a b cap c d cap2 w':=
 ⟨h.box.bel hb h.box.lt,h.box2.bel hb h.box2.lt,RowP_bel h.row (hb.mono (Nat.le_trans h.hB h.bel.size)),RowP_bel h.row2 (hb.mono (Nat.le_trans h.hB h.bel.size)),bel_next h.bel hb,h.hB⟩
theorem ao9 {a b:ByteArray} (h:a≠b):(a.toList==b.toList)=false:=by
 rw [beq_eq_false_iff_ne]
 intro e
 rw [Lib.toList_data,Lib.toList_data] at e
 exact h (ba_ext e)
theorem ad3 {a b:Nd} (h: ¬(a.kind=b.kind∧a.text=b.text∧a.kids.length=b.kids.length)):aa7 a b=false:=by
 rw [Bool.eq_false_iff]
 intro e
 obtain⟨h1,h2,h3,_⟩:=(ab6 a b).1 e
 exact h ⟨h1,h2,h3⟩
theorem ai3 {a b:Nd} (j:Nat) (h1:j<a.kids.length) (h2:j<b.kids.length) (h:aa7 a.kids[j] b.kids[j]=false):aa7 a b=false:=by
 rw [Bool.eq_false_iff]
 intro e
 obtain⟨_,_,_,h4⟩:=(ab6 a b).1 e
 rw [h4 j h1 h2] at h
 cases h
theorem am5 (a:Nd): ∀(c:Nd) (v u:Value) (w:World) (L B:Nat),NdV w L B a v→NdV w L B c u→B≤w.heap.size→ndSize a≤4194304→
  Calls Tryz.prog 18 #[v,u] w fun e w'=>e= .returned (.bool (aa7 a c))∧Below w.heap.size w w':=by
 induction a using Nd.ind with
 |h a ih=>
  intro c v u w L B hv hu hB hsz
  obtain⟨b,cap,rfl,hcap,hrow⟩:=hv
  obtain⟨d,cap2,rfl,hcap2,hrow2⟩:=hu
  unfold ndCells
  have hkc:=kid_count a
  have HIH:=Lib.hid (fun(W:World) (j:Nat) (hj:j<a.kids.length) (y:Nd) (v u:Value) (hu:NdV W L B a.kids[j] v) (hy:NdV W L B y u) (hW:B≤W.heap.size)=>ih _ (List.getElem_mem hj) y v u W L B hu hy hW (by have:=kid_size hj;omega))
  have HST:=Lib.hid (NSt2.new (cap:=cap) (cap2:=cap2) hrow hrow2 hB)
  clear hrow hrow2 ih
  by_cases hk:a.kind=c.kind
  ·by_cases ht:a.text=c.text
   ·by_cases hn:a.kids.length=c.kids.length
    ·have e1:(a.kind !=c.kind)=false:=by rw [bne_eq_false_iff_eq];exact hk
     have e2:(a.text.toList==c.text.toList)=true:=by rw [ht];exact beq_self_eq_true _
     have e3:(((a.kids.length:Nat):Int) !=((c.kids.length:Nat):Int))=false:=by rw [bne_eq_false_iff_eq];omega
     have HE:=Lib.hid (⟨hk,ht,hn⟩:a.kind=c.kind∧a.text=c.text∧a.kids.length=c.kids.length)
     have hn1:a.kids.length≤c.kids.length:=by omega
     have hn2:c.kids.length≤a.kids.length:=by omega
     clear hk ht hn
     go_enter Tryz.func18,Tryz.ntmps18
     go_upto_region 1 with fail
     generalize World.alloc (World.alloc w _) _=w1 at*
     generalize hp:w.heap.size=p at HST
     generalize hq:p+1=q at HST
     have HP:=Lib.hid hp
     have HQ:=Lib.hid hq
     clear hp hq
     obtain⟨d0,d1,d2,d3,d4,g0,g1,g2,g3,g4⟩:=NdBox.facts HST.out.box
     obtain⟨x0,x1,x2,x3,x4,y0,y1,y2,y3,y4⟩:=NdBox.facts HST.out.box2
     go_wp2_with fail
     clear d0 d1 d2 d3 d4 g0 g1 g2 g3 g4 x0 x1 x2 x3 x4 y0 y1 y2 y3 y4
     have HOLD:=Lib.hid (show∀j,(hj:j<a.kids.length)→(hj2:j<c.kids.length)→j<0→aa7 a.kids[j] c.kids[j]=true from fun _ _ _ h=>absurd h (Nat.not_lt_zero _))
     go_loopw [30] (fun i wr=> ∃k:Nat,k≤a.kids.length∧i= .int .i64 k∧NSt2 w p q L B a b cap c d cap2 wr∧Hid (∀j,(hj:j<a.kids.length)→(hj2:j<c.kids.length)→j<k→aa7 a.kids[j] c.kids[j]=true)) (fun i _=>a.kids.length - (intOf i).toNat)
     case atStart=>exact⟨0,Nat.zero_le _,rfl,HST.out,HOLD⟩
     case round=>
      clear HST HOLD
      obtain⟨k,hkl,rfl,hst,hold⟩:=hrel
      have HST:=Lib.hid hst
      obtain⟨d0,d1,d2,d3,d4,g0,g1,g2,g3,g4⟩:=NdBox.facts hst.box
      obtain⟨x0,x1,x2,x3,x4,y0,y1,y2,y3,y4⟩:=NdBox.facts hst.box2
      by_cases hlt:k<a.kids.length
      ·have hlt2:k<c.kids.length:=by omega
       obtain⟨g,off,b',cap',rfl,hgB,c0,c1,c2,c3,c4,hkv⟩:=ae3 hst.row k hlt
       obtain⟨g',off',d',cap2',rfl,hgB',z0,z1,z2,z3,z4,hkv2⟩:=ae3 hst.row2 k hlt2
       have hcall:=HIH.out wr.drew k hlt _ _ _ (ah2 hkv (Below.drew (Below.refl _ _))) (ah2 hkv2 (Below.drew (Below.refl _ _))) (Nat.le_trans hst.hB hst.bel.size)
       generalize hkid:a.kids[k]=x at*
       generalize hkid2:c.kids[k]=y at*
       have HX:=Lib.hid hkid
       have HY:=Lib.hid hkid2
       have hdr:Below wr.heap.size wr wr.drew:=Below.drew (Below.refl _ _)
       clear hst hkid hkid2 hkv hkv2
       cases hsx:aa7 x y with
       |true=>
        rw [hsx] at hcall
        have HCALL:=Lib.hid hcall
        have HSX:=Lib.hid hsx
        clear hcall hsx
        go_upto_region 6 with fail
        go_still_tail 10,(by kernel_rfl)
        change wpList _ _ _ _ _ wr.drew
        go_wp2_with (go_at_call 18;refine HCALL.out.mono ?_;rintro e w2 ⟨rfl,hb2⟩)
        go_roundw
        case rel=>exact⟨k+1,hlt,by go_num,HST.out.bel' (hdr.trans hb2),Lib.hid (fun j hj hj2 hjk=>by
         rcases Nat.lt_succ_iff_lt_or_eq.1 hjk with h|rfl
         ·exact hold.out j hj hj2 h
         ·rw [HX.out,HY.out];exact HSX.out)⟩
        case measure=>simp [intOf];omega
       |false=>
        rw [hsx] at hcall
        have HCALL:=Lib.hid hcall
        have HSX:=Lib.hid hsx
        clear hcall hsx
        go_upto_region 6 with fail
        go_still_tail 10,(by kernel_rfl)
        change wpList _ _ _ _ _ wr.drew
        go_wp2_with (go_at_call 18;refine HCALL.out.mono ?_;rintro e w2 ⟨rfl,hb2⟩)
        go_ret
        exact⟨by rw [ai3 k hlt hlt2 (by rw [HX.out,HY.out];exact HSX.out)];rfl,(HST.out.bel' (hdr.trans hb2)).bel⟩
      ·obtain rfl:k=a.kids.length:=by omega
       go_wp2_with fail
       go_ret
       exact⟨by rw [(ab6 a c).2 ⟨HE.out.1,HE.out.2.1,HE.out.2.2,fun j h h2=>hold.out j h h2 h⟩];rfl,HST.out.bel⟩
    ·have e1:(a.kind !=c.kind)=false:=by rw [bne_eq_false_iff_eq];exact hk
     have e2:(a.text.toList==c.text.toList)=true:=by rw [ht];exact beq_self_eq_true _
     have e3:(((a.kids.length:Nat):Int) !=((c.kids.length:Nat):Int))=true:=by rw [bne_iff_ne];omega
     have HS:=Lib.hid (ad3 (a:=a) (b:=c) (fun h=>hn h.2.2))
     clear hk ht hn
     go_enter Tryz.func18,Tryz.ntmps18
     go_upto_region 1 with fail
     generalize World.alloc (World.alloc w _) _=w1 at*
     generalize hp:w.heap.size=p at HST
     generalize hq:p+1=q at HST
     have HP:=Lib.hid hp
     have HQ:=Lib.hid hq
     clear hp hq
     obtain⟨d0,d1,d2,d3,d4,g0,g1,g2,g3,g4⟩:=NdBox.facts HST.out.box
     obtain⟨x0,x1,x2,x3,x4,y0,y1,y2,y3,y4⟩:=NdBox.facts HST.out.box2
     go_wp2_with fail
     go_ret
     exact⟨by rw [HS.out];rfl,HST.out.bel⟩
   ·have e1:(a.kind !=c.kind)=false:=by rw [bne_eq_false_iff_eq];exact hk
    have e2:(a.text.toList==c.text.toList)=false:=ao9 ht
    have HS:=Lib.hid (ad3 (a:=a) (b:=c) (fun h=>ht h.2.1))
    clear hk ht
    go_enter Tryz.func18,Tryz.ntmps18
    go_upto_region 1 with fail
    generalize World.alloc (World.alloc w _) _=w1 at*
    generalize hp:w.heap.size=p at HST
    generalize hq:p+1=q at HST
    have HP:=Lib.hid hp
    have HQ:=Lib.hid hq
    clear hp hq
    obtain⟨d0,d1,d2,d3,d4,g0,g1,g2,g3,g4⟩:=NdBox.facts HST.out.box
    obtain⟨x0,x1,x2,x3,x4,y0,y1,y2,y3,y4⟩:=NdBox.facts HST.out.box2
    go_wp2_with fail
    go_ret
    exact⟨by rw [HS.out];rfl,HST.out.bel⟩
  ·have e1:(a.kind !=c.kind)=true:=by rw [bne_iff_ne];exact hk
   have HS:=Lib.hid (ad3 (a:=a) (b:=c) (fun h=>hk h.1))
   clear hk
   go_enter Tryz.func18,Tryz.ntmps18
   go_upto_region 1 with fail
   generalize World.alloc (World.alloc w _) _=w1 at*
   generalize hp:w.heap.size=p at HST
   generalize hq:p+1=q at HST
   have HP:=Lib.hid hp
   have HQ:=Lib.hid hq
   clear hp hq
   obtain⟨d0,d1,d2,d3,d4,g0,g1,g2,g3,g4⟩:=NdBox.facts HST.out.box
   obtain⟨x0,x1,x2,x3,x4,y0,y1,y2,y3,y4⟩:=NdBox.facts HST.out.box2
   go_wp2_with fail
   go_ret
   exact⟨by rw [HS.out];rfl,HST.out.bel⟩
theorem NdW.low {w:World} {L L' B:Nat} {n:Nd} {v:Value} (h:NdW w L B n v) (hL:L'≤L):NdW w L' B n v:=by
 obtain⟨b,cap,h1,h2⟩:=h
 exact⟨b,cap,h1,RowE.keeps.k hL (Nat.le_refl _) (fun _ _ _=>rfl) h2⟩
theorem NdV.low {w:World} {L L' B B':Nat} {n:Nd} {v:Value} (h:NdV w L B n v) (hL:L'≤L) (hB:B≤B'):NdV w L' B' n v:=by
 obtain⟨b,cap,h1,h2,h3⟩:=h
 exact⟨b,cap,h1,h2,RowP_keep hL hB (fun _ _ _=>rfl) h3⟩
theorem ai6 {fn:Func} (h:fn.results= #[.cell 2 31,.tmp 3]) {tmps:Array Value} {w:World} {b:Nat} {k:Int} {t:ByteArray} {v:Value} {f u:Int} {z:Value}
  (h2:tmps.getD 2 undef= .pointer (some ⟨b,0,none⟩)) (h3:tmps.getD 3 undef=z) (hb:NdBoxV w b k t v f u):
  (results fn tmps).run Tryz.prog w= .ok (.tuple #[.agg #[.int .i64 k,.string t,v,.int .i64 f,.int .i64 u],z]) w:=by
 have e2:tmps[2]?.getD undef= .pointer (some ⟨b,0,none⟩):=by simpa using h2
 have e3:tmps[3]?.getD undef=z:=by simpa using h3
 have r2:=run_loadVar_row (P:=Tryz.prog) w b _ 31 _ _ _ hb Tryz.underlying31 rfl (by kernel_rfl)
 simp [results,h,e2,e3,asAddr,r2]
theorem aq8 {s:ByteArray} {n:Nd} {q:Ps} (F:Nat) (hF:F≤1073741824) (hs:s.size≤1048576) (hE:ad0 s false F= .ok n q) (hz:ndSize n≤4194304) (w:World) (hx:Lx w):
  Calls Tryz.prog 17 #[.string s] w fun e w'=> ∃u,e= .returned (.tuple #[u,.bool true])∧NdW w' w.heap.size w'.heap.size (bareT n) u∧Below w.heap.size w w':=by
 have HE:=Lib.hid hE
 have HX:=Lib.hid hx
 clear hE hx
 have hba:=alloc_bel w (.cells #[.int .i64 0,.string ⟨#[]⟩,.slice none 0 0,.int .i64 0,.int .i64 0] 31)
 have hbq:NdBoxV (w.alloc (.cells #[.int .i64 0,.string ⟨#[]⟩,.slice none 0 0,.int .i64 0,.int .i64 0] 31)) w.heap.size 0 ⟨#[]⟩ (.slice none 0 0) 0 0:=heap_alloc_new _ _
 go_enter Tryz.func17,Tryz.ntmps17
 go_upto_region 1 with fail
 generalize World.alloc w _=w1 at*
 have HB:=Lib.hid hba
 have HQ:=Lib.hid hbq
 clear hba hbq
 go_upto_region 2 with (go_at_call 14;refine(af8 false F hs hF _ (HX.out.bel HB.out) HE.out (by intro h;cases h)).mono ?_;rintro e w2 ⟨⟨a,cap,rfl,hcap,hrow⟩,hb1⟩)
 have hsz2:w1.heap.size≤w2.heap.size:=hb1.size
 have hb2:=bel_next HB.out hb1
 have hbx:NdBoxV (w2.alloc (.cells #[.int .i64 n.kind,.string n.text,.slice a n.kids.length cap,.int .i64 n.from',.int .i64 n.till] 31)) w2.heap.size n.kind n.text (.slice a n.kids.length cap) n.from' n.till:=box_new w2 n a cap
 have hal:=alloc_bel w2 (.cells #[.int .i64 n.kind,.string n.text,.slice a n.kids.length cap,.int .i64 n.from',.int .i64 n.till] 31)
 have hb3:=bel_next hb2 hal
 have hq3:=(HQ.out.bel hb1).bel hal
 have HV:=Lib.hid (show NdV (w2.alloc (.cells #[.int .i64 n.kind,.string n.text,.slice a n.kids.length cap,.int .i64 n.from',.int .i64 n.till] 31)) 0 w2.heap.size n (.agg #[.int .i64 n.kind,.string n.text,.slice a n.kids.length cap,.int .i64 n.from',.int .i64 n.till]) from⟨a,cap,rfl,hcap,RowP_bel hrow hal⟩)
 have hsz:=hal.size
 have hlt:w.heap.size<w1.heap.size:=HQ.out.lt
 generalize World.alloc w2 _=w3 at*
 have HB3:=Lib.hid hb3
 have HQ3:=Lib.hid hq3
 obtain⟨x0,x1,x2,x3,x4,y0,y1,y2,y3,y4⟩:=NdBoxV.facts hbx
 clear hb1 hb2 hb3 hal hq3 hrow HQ HB HE HX hcap
 go_wp2_with (first|(go_at_call 15;refine(aj8 _ _).mono ?_;rintro e w9 ⟨rfl,rfl⟩)|(go_at_call 16;refine(Bare_any n _ w3 0 w2.heap.size HV.out hsz hz).mono ?_;rintro e w4 ⟨u,rfl,hu,hb4⟩;have HB4:=Lib.hid (bel_next HB3.out hb4);have hq4:=HQ3.out.bel hb4;have HU:=Lib.hid hu;have HQ4:=Lib.hid hq4;obtain⟨b4,cap4,rfl,_⟩:=hu;clear hb4 x0 x1 x2 x3 x4 y0 y1 y2 y3 y4;unfold ndCells at*;obtain⟨x0,x1,x2,x3,x4,y0,y1,y2,y3,y4⟩:=NdBoxV.facts hq4;have hql:=hq4.lt;clear hq4))
 refine bodyPost_ret (ai6 rfl (b:=w.heap.size) rfl rfl HQ4.out.lay) rfl ?_
 obtain⟨b5,cap5,e5,hr5⟩:=HU.out
 exact⟨_,rfl,⟨b5,cap5,e5,RowE.keeps.k (show w.heap.size≤w3.heap.size by omega) (Nat.le_of_eq (by simp [World.setCell])) (fun k h1 _=>lay5_block _ _ _ _ _ _ _ _ (by omega)) hr5⟩,lay5_bel HB4.out (Nat.le_refl _) _ _ _ _ _⟩
theorem ak8 {s:ByteArray} {n:Nd} {q:Ps} (F:Nat) (hF:F≤1073741824) (hs:s.size≤1048576) (hE:ad0 s false F= .ok n q) (hz:ndSize n≤4194304) (hz2:ndSize (bareT n)≤4194304) (want:Nd) (vw:Value) (L B:Nat) (w:World) (hw:NdV w L B want vw) (hB:B≤w.heap.size) (hx:Lx w):
  Calls Tryz.prog 12 #[.string s,vw] w fun e w'=>e= .returned (.bool (aa7 (bareT n) want))∧Below w.heap.size w w':=by
 obtain⟨b,cap,rfl,hcap,hrow⟩:=hw
 unfold ndCells
 have hba:=alloc_bel w (.cells #[.int .i64 want.kind,.string want.text,.slice b want.kids.length cap,.int .i64 want.from',.int .i64 want.till] 31)
 have hbq:NdBoxV (w.alloc (.cells #[.int .i64 want.kind,.string want.text,.slice b want.kids.length cap,.int .i64 want.from',.int .i64 want.till] 31)) w.heap.size want.kind want.text (.slice b want.kids.length cap) want.from' want.till:=box_new w want b cap
 have HO:=Lib.hid fun(W:World) (h:Lx W)=>aq8 F hF hs hE hz W h
 have HR:=Lib.hid hrow
 have HX:=Lib.hid hx
 clear hE hx hrow
 go_enter Tryz.func12,Tryz.ntmps12
 go_upto_region 1 with fail
 generalize World.alloc w _=w1 at*
 have HB:=Lib.hid hba
 have HQ:=Lib.hid hbq
 clear hba hbq
 go_upto_region 2 with (go_at_call 17;refine(HO.out _ (HX.out.bel HB.out)).mono ?_;rintro e w2 ⟨u,rfl,hu,hb1⟩;have HU:=Lib.hid hu;obtain⟨b4,cap4,rfl,_⟩:=hu;unfold ndCells at*)
 have hal:=alloc_bel w2 (.cells #[.int .i64 (bareT n).kind,.string (bareT n).text,.slice b4 (bareT n).kids.length cap4,.int .i64 (bareT n).from',.int .i64 (bareT n).till] 31)
 have hbx:NdBoxV (w2.alloc (.cells #[.int .i64 (bareT n).kind,.string (bareT n).text,.slice b4 (bareT n).kids.length cap4,.int .i64 (bareT n).from',.int .i64 (bareT n).till] 31)) w2.heap.size (bareT n).kind (bareT n).text (.slice b4 (bareT n).kids.length cap4) (bareT n).from' (bareT n).till:=box_new w2 (bareT n) b4 cap4
 have hb3:=bel_next (bel_next HB.out hb1) hal
 have hq3:=(HQ.out.bel hb1).bel hal
 have hsz0:=HB.out.size
 have hsz1:=hb1.size
 have hsz:=hal.size
 have HS:=Lib.hid (am5 (bareT n) want _ _ _ 0 w2.heap.size ((ah2 HU.out.v hal).low (Nat.zero_le _) (Nat.le_refl _)) ((show NdV _ L B want _ from⟨b,cap,rfl,hcap,RowP_bel HR.out (hb3.mono hB)⟩).low (Nat.zero_le _) (show B≤w2.heap.size by omega)) hsz hz2)
 unfold ndCells at*
 generalize World.alloc w2 _=w3 at*
 have HB3:=Lib.hid hb3
 obtain⟨x0,x1,x2,x3,x4,y0,y1,y2,y3,y4⟩:=NdBoxV.facts hbx
 obtain⟨p0,p1,p2,p3,p4,r0,r1,r2,r3,r4⟩:=NdBoxV.facts hq3
 clear hb1 hb3 hal hq3 hbx HQ HB HX HO HR HU
 go_wp2_with (go_at_call 18;refine HS.out.mono ?_;rintro e w4 ⟨rfl,hb4⟩)
 go_ret
 exact⟨rfl,bel_next HB3.out hb4⟩
theorem NdV.kd {w:World} {L B:Nat} {n:Nd} {v:Value} (h:NdV w L B n v): ∃b cap,v= .agg #[.int .i64 n.kind,.string n.text,.slice b n.kids.length cap,.int .i64 n.from',.int .i64 n.till]∧n.kids.length≤cap∧RowP w L B n.kids b 0:=h
theorem ae8 (w:World) (L B:Nat) (a:Option Addr) (i:Nat):RowP w L B [] a i:=by rw [RowP];trivial
def RowA (w:World) (r B:Nat) (ks:List Nd) (a:Option Addr):Prop:= ∀w':World,(∀k,k<B→k≠r→w'.heap[k]? =w.heap[k]?)→RowP w' 0 B ks a 0
theorem RowA.row {w:World} {r B:Nat} {ks:List Nd} {a:Option Addr} (h:RowA w r B ks a):RowP w 0 B ks a 0:=h w fun _ _ _=>rfl
theorem RowA.bel {w w':World} {r B B':Nat} {ks:List Nd} {a:Option Addr} (h:RowA w r B ks a) (hb: ∀k,k<B→k≠r→w'.heap[k]? =w.heap[k]?) (hB:B≤B'):RowA w' r B' ks a:=
 fun w2 h2=>RowP_keep (Nat.le_refl _) hB (fun _ _ _=>rfl) (h w2 fun k hk hne=>(h2 k (by omega) hne).trans (hb k hk hne))
theorem RowA.nil (w:World) (r B:Nat) (a:Option Addr):RowA w r B [] a:=fun _ _=>ae8 _ _ _ _ _
theorem RowA.of {w:World} {r L B:Nat} {ks:List Nd} {a:Option Addr} (h:RowP w L B ks a 0) (hL:r<L):RowA w r B ks a:=
 fun w2 h2=>RowP_keep (Nat.zero_le _) (Nat.le_refl _) (fun k h1 hk=>h2 k hk (by omega)) h
theorem RowA.new {w W:World} {r:Nat} {T:TypeId} (ns:List Kd) (hn: ∀x ∈ ns,x.1.kids.length≤x.2.2∧RowA w r w.heap.size x.1.kids x.2.1) (hr:r≠w.heap.size)
  (hg:W.heap[w.heap.size]? =some (.cells (ns.flatMap cells5).toArray T (0,0))) (hk: ∀k,k<w.heap.size→k≠r→W.heap[k]? =w.heap[k]?):RowA W r (w.heap.size+1) (ns.map (·.1)) (some ⟨w.heap.size,0,none⟩):=by
 intro w' hw'
 have hg':w'.heap[w.heap.size]? =some (.cells (ns.flatMap cells5).toArray T (0,0)):=(hw' _ (Nat.lt_succ_self _) (Ne.symm hr)).trans hg
 refine RowP_of fun j hj=>⟨w.heap.size,0,rfl,?_⟩
 have hj':j<ns.length:=by simpa using hj
 have hcell: ∀i,i<5→w'.cell? ⟨w.heap.size,j*5+i,none⟩=(cells5 ns[j])[i]? :=fun i hi=>by
  rw [cell_of_row _ _ _ _ T (0,0) hg',List.getElem?_toArray]
  exact cells5_get ns j i hj' hi
 obtain⟨h1,h2⟩:=hn _ (List.getElem_mem hj')
 rw [List.getElem_map,NdC_eq,Nat.zero_add,Nat.zero_add]
 exact⟨ns[j].2.1,ns[j].2.2,Nat.zero_le _,Nat.lt_succ_self _,hcell 0 (by decide),hcell 1 (by decide),hcell 2 (by decide),hcell 3 (by decide),hcell 4 (by decide),h1,
  RowP_keep (Nat.le_refl _) (Nat.le_succ _) (fun _ _ _=>rfl) (h2 w' fun k hlt hne=>(hw' k (by omega) hne).trans (hk k hlt hne))⟩
structure WBox (w:World) (r:Nat) (n:Nd) (b:Option Addr) (cap:Nat):Prop where
 box:NdBoxV w r n.kind n.text (.slice b n.kids.length cap) n.from' n.till
 cap:n.kids.length≤cap
 row:RowA w r w.heap.size n.kids b
theorem WBox.bel {w w':World} {r:Nat} {n:Nd} {b:Option Addr} {cap:Nat} (h:WBox w r n b cap) (hb:Below w.heap.size w w'):WBox w' r n b cap:=
 ⟨h.box.bel hb,h.cap,h.row.bel (fun k hk _=>hb.block k hk) hb.size⟩
theorem WBox.v {w:World} {r:Nat} {n:Nd} {b:Option Addr} {cap:Nat} (h:WBox w r n b cap):NdV w 0 w.heap.size n (.agg #[.int .i64 n.kind,.string n.text,.slice b n.kids.length cap,.int .i64 n.from',.int .i64 n.till]):=⟨b,cap,rfl,h.cap,h.row.row⟩
theorem WBox.put {w W:World} {r:Nat} {ns:List Kd} {T:TypeId} (hr:r<w.heap.size) (hn: ∀x ∈ ns,x.1.kids.length≤x.2.2∧RowA w r w.heap.size x.1.kids x.2.1) {k:Int} {t:ByteArray} {m:Nat} (hm:ns.length=m)
  (hbx:NdBoxV W r k t (.slice (some ⟨w.heap.size,0,none⟩) m m) 0 0) (hg:W.heap[w.heap.size]? =some (.cells (ns.flatMap cells5).toArray T (0,0))) (hk: ∀i,i<w.heap.size→i≠r→W.heap[i]? =w.heap[i]?) (hs:W.heap.size=w.heap.size+1):
  WBox W r (.mk k t (ns.map (·.1)) 0 0) (some ⟨w.heap.size,0,none⟩) m:=by
 subst hm
 refine⟨?_,?_,?_⟩
 ·show NdBoxV _ r k t (.slice _ (ns.map (·.1)).length _) 0 0
  rw [List.length_map]
  exact hbx
 ·show(ns.map (·.1)).length≤_
  rw [List.length_map]
  exact Nat.le_refl _
 ·rw [hs]
  exact RowA.new ns hn (by omega) hg hk
structure WSt (w0:World) (r:Nat) (n:Nd) (W:World):Prop where
 ex: ∃b cap,WBox W r n b cap
 bel:Below w0.heap.size w0 W
 lo:w0.heap.size≤r
theorem WSt.next {w0 W W':World} {r:Nat} {n:Nd} (h:WSt w0 r n W) (hb:Below W.heap.size W W'):WSt w0 r n W':=by
 obtain⟨b,cap,hx⟩:=h.ex
 exact⟨⟨b,cap,hx.bel hb⟩,bel_next h.bel hb,h.lo⟩
theorem WSt.leaf {w0 w:World} (hb:Below w0.heap.size w0 w) (t:ByteArray):WSt w0 w.heap.size (.mk 1 t [] 0 0) (w.alloc (.cells #[.int .i64 1,.string t,.slice none 0 0,.int .i64 0,.int .i64 0] 31)):=
 ⟨⟨none,0,heap_alloc_new _ _,Nat.le_refl _,RowA.nil _ _ _ _⟩,hb.alloc hb.size _,hb.size⟩
theorem ak1 {S:ByteArray} {l:List UInt8} (h:S.data.toList=l):S.size=l.length:=by
 rw [←h]
 exact Array.length_toList.symm
theorem ag1 (m:Nd):ndSize (bareNd m)≤ndSize m:=by
 induction m using Nd.ind with
 |h m ih=>
  rw [bareNd_eq]
  split
  ·cases hk:m.kids with
   |nil=>rw [bareFst,Nd.zero,ndSize,ndSizes,ndSize_eq];omega
   |cons k ks=>
    rw [bareFst]
    have h1:=ih k (by rw [hk];exact .head _)
    have h2:=ndSizes_mem (show k ∈ m.kids by rw [hk];exact .head _)
    rw [ndSize_eq m]
    omega
  ·rw [ndSize,ndSize_eq m]
   have key: ∀l:List Nd,(∀x ∈ l,ndSize (bareNd x)≤ndSize x)→ndSizes (l.map bareNd)≤ndSizes l:=by
    intro l
    induction l with
    |nil=>intro _;exact Nat.le_refl _
    |cons x l ihl=>
     intro h
     rw [List.map_cons,ndSizes,ndSizes]
     have h1:=h x (.head _)
     have h2:=ihl fun y hy=>h y (.tail _ hy)
     omega
   have:=key m.kids ih
   omega
theorem ac3 {n:Nd} (h:ndSize n≤8000):bareT n=bareNd n:=by
 unfold bareT
 rw [if_pos (Nat.le_trans (deep_le n) h)]
theorem ag3 (t:ByteArray) (w:World):Calls Tryz.prog 11 #[.string t] w fun e w'=>e= .returned (.agg #[.int .i64 1,.string t,.slice none 0 0,.int .i64 0,.int .i64 0])∧Below w.heap.size w w':=by
 go_enter Tryz.func11,Tryz.ntmps11
 go_wp2_with fail
 exact bodyPost_ret (results_nd rfl _ _ w.heap.size rfl (heap_alloc_new _ _)) rfl ⟨rfl,alloc_bel _ _⟩
def ak3 (w:World) (ao:Option Addr) (len:Nat):Prop:= ∀j,j<len→∃b off,ao=some ⟨b,off,none⟩∧b<w.heap.size∧∃z:Int,w.cell? ⟨b,off+j,none⟩=some (.int .i64 z)
theorem ar6 (i:Int) (n:Nat) (hn:0<n): ∃a:Nat,(IntKind.u64.wrap i).tmod n=(a:Int)∧a<n:=by
 have e:IntKind.u64.wrap i=i % 18446744073709551616:=rfl
 have h1:0≤(IntKind.u64.wrap i).tmod n:=by rw [e,Int.tmod_eq_emod_of_nonneg (by omega)];exact Int.emod_nonneg _ (by omega)
 have h2:(IntKind.u64.wrap i).tmod n<n:=by rw [e,Int.tmod_eq_emod_of_nonneg (by omega)];exact Int.emod_lt_of_pos _ (by omega)
 exact⟨((IntKind.u64.wrap i).tmod n).toNat,by omega,by omega⟩
def StrS (g:Nat) (l:List (List UInt8)) (W:World):Prop:=g<W.heap.size∧∀a,(h:a<l.length)→W.cell? ⟨g,a,none⟩=some (.string ⟨l[a].toArray⟩)
theorem StrS.new (w:World) (l:List (List UInt8)) (T:TypeId):StrS w.heap.size l (w.alloc (.cells (l.map fun o=>Value.string ⟨o.toArray⟩).toArray T)):=by
 refine⟨by rw [World.size_alloc];exact Nat.lt_succ_self _,fun a h=> ?_⟩
 rw [cell_of_row _ _ _ _ T (0,0) (heap_alloc_new _ _),List.getElem?_toArray,List.getElem?_map,List.getElem?_eq_getElem h]
 rfl
theorem StrS.bel {g:Nat} {l:List (List UInt8)} {w w':World} (h:StrS g l w) (hb:Below w.heap.size w w'):StrS g l w':=
 ⟨Nat.lt_of_lt_of_le h.1 hb.size,fun a ha=>(World.cell?_of_block (hb.block g h.1)).trans (h.2 a ha)⟩
theorem StrS.lay {g r:Nat} {l:List (List UInt8)} {w:World} (h:StrS g l w) (hr:g≠r) (k:Int) (t:ByteArray) (v:Value) (f u:Int):StrS g l (lay5 w r k t v f u):=
 ⟨by rw [lay5_size];exact h.1,fun a ha=>(World.cell?_of_block (lay5_block _ _ _ _ _ _ _ _ hr)).trans (h.2 a ha)⟩
def ab1 (a:List Nd × List UInt8) (k:Nat):List Nd × List UInt8:=if k=0 then (a.1++ [aa6 a.2,idN 118],[]) else (a.1,a.2++tmI k)
def tmG (ks:List Nat):List Nd × List UInt8:=ks.foldl ab1 ([],[])
theorem ae9: ∀(ks:List Nat) (K:List Nd) (pc:List UInt8),K++tmK pc ks=(ks.foldl ab1 (K,pc)).1++ [aa6 (ks.foldl ab1 (K,pc)).2]
 | [],_,_=>rfl
 |k::ks,K,pc=>by
  rw [af1,List.foldl_cons]
  by_cases hk:k=0
  ·rw [if_pos hk,show ab1 (K,pc) k=(K++ [aa6 pc,idN 118],[]) from if_pos hk,←ae9 ks]
   simp
  ·rw [if_neg hk,show ab1 (K,pc) k=(K,pc++tmI k) from if_neg hk,←ae9 ks]
theorem ac4 (ks:List Nat) (k:Nat):tmG (ks++ [k])=ab1 (tmG ks) k:=by unfold tmG;rw [List.foldl_append];rfl
theorem ao8 (ks:List Nat):tmK [] ks=(tmG ks).1++ [aa6 (tmG ks).2]:=by
 have:=ae9 ks [] []
 rw [List.nil_append] at this
 exact this
theorem ab9: ∀ks:List Nat,aa4 ks=ks.flatMap tmI++ [96]
 | []=>rfl
 |k::ks=>by rw [aa4,ab9 ks,List.flatMap_cons,List.append_assoc]
theorem ad1 (ks:List Nat) (k:Nat):(ks++ [k]).flatMap tmI=ks.flatMap tmI++tmI k:=by rw [List.flatMap_append,List.flatMap_cons,List.flatMap_nil,List.append_nil]
theorem an3 (k:Nat):(tmI k).length≤4:=by
 match k with
 |0=>decide
 |1=>decide
 |2=>decide
 |_+3=>exact Nat.le_of_ble_eq_true rfl
theorem ae5: ∀ks:List Nat,(ks.flatMap tmI).length≤4*ks.length
 | []=>Nat.le_refl _
 |k::ks=>by
  have:=ae5 ks
  have:=an3 k
  rw [List.flatMap_cons,List.length_append,List.length_cons]
  omega
theorem ag9: ∀(ks:List Nat) (K:List Nd) (pc:List UInt8),(ks.foldl ab1 (K,pc)).1.length≤K.length+2*ks.length∧(ks.foldl ab1 (K,pc)).2.length≤pc.length+4*ks.length
 | [],_,_=>⟨Nat.le_refl _,Nat.le_refl _⟩
 |k::ks,K,pc=>by
  rw [List.foldl_cons,List.length_cons]
  by_cases hk:k=0
  ·rw [show ab1 (K,pc) k=(K++ [aa6 pc,idN 118],[]) from if_pos hk]
   have:=ag9 ks (K++ [aa6 pc,idN 118]) []
   simp at this
   omega
  ·rw [show ab1 (K,pc) k=(K,pc++tmI k) from if_neg hk]
   have:=ag9 ks K (pc++tmI k)
   have:=an3 k
   rw [List.length_append] at*
   omega
theorem ao0 (ks:List Nat): ∀n ∈ (tmG ks).1,n.kids= []:=by
 have h: ∀(ks:List Nat) (K:List Nd) (pc:List UInt8),(∀n ∈ K,n.kids= [])→∀n ∈ (ks.foldl ab1 (K,pc)).1,n.kids= []:=by
  intro ks
  induction ks with
  |nil=>intro K pc h;exact h
  |cons k ks ih=>
   intro K pc h
   rw [List.foldl_cons]
   by_cases hk:k=0
   ·rw [show ab1 (K,pc) k=(K++ [aa6 pc,idN 118],[]) from if_pos hk]
    refine ih _ _ fun n hn=> ?_
    rcases List.mem_append.1 hn with hn|hn
    ·exact h n hn
    ·simp only [List.mem_cons,List.not_mem_nil,or_false] at hn
     rcases hn with rfl|rfl<;>rfl
   ·rw [show ab1 (K,pc) k=(K,pc++tmI k) from if_neg hk]
    exact ih _ _ h
 exact h ks [] [] (fun _ h=>by cases h)
def ad8 (K:List Nd):List Value:=kidCells K (K.map fun _=>(none,0))
theorem ac1 (K:List Nd) (n:Nd):ad8 (K++ [n])=ad8 K++(ndCells n.kind n.text none n.kids.length 0 n.from' n.till).toList:=by
 unfold ad8
 rw [List.map_append]
 exact kidCells_snoc K _ n (none,0) (by simp)
theorem af6 {w:World} {base m:Nat} {v:Value} {K:List Nd} (hb:base≤w.heap.size) (hm:K.length=m) (ho:w.ownsRow base 31 5 v m (ad8 K)) (hk: ∀n ∈ K,n.kids= []): ∃b cap,v= .slice b K.length cap∧K.length≤cap∧RowP w base w.heap.size K b 0:=by
 subst hm
 have h:KRow RowE w base v K:=⟨K.map fun _=>(none,0),by simp,ho,fun j hj _=> ?_⟩
 ·obtain⟨b,cap,h1,h2,h3,_⟩:=h.row
  exact⟨b,cap,h1,h2,h3⟩
 ·have he:K[j].kids= []:=hk _ (List.getElem_mem hj)
  rcases hv:v.ownBlock with _|g
  ·refine⟨w.heap.size,w.heap.size,hb,Nat.le_refl _,(fun g h=>by cases h),?_⟩
   simp only [List.getElem_map]
   exact⟨by rw [he];exact Nat.le_refl _,by rw [he];exact ae8 _ _ _ _ _,by rw [he,ShR];trivial⟩
  ·refine⟨w.heap.size,w.heap.size,hb,Nat.le_refl _,(fun g' h=>by cases h;exact .inl (ho.lt g hv).2),?_⟩
   simp only [List.getElem_map]
   exact⟨by rw [he];exact Nat.le_refl _,by rw [he];exact ae8 _ _ _ _ _,by rw [he,ShR];trivial⟩
structure TmSt (w0:World) (r m:Nat) (vk:Value) (K:List Nd) (W:World):Prop where
 box:NdBoxV W r 8 ⟨#[]⟩ vk 0 0
 own:W.ownsRow (r+1) 31 5 vk m (ad8 K)
 bel:Below w0.heap.size w0 W
 lo:w0.heap.size≤r
theorem TmSt.next {w0 W W':World} {r m:Nat} {vk:Value} {K:List Nd} (h:TmSt w0 r m vk K W) (hb:Below W.heap.size W W'):TmSt w0 r m vk K W':=
 ⟨h.box.bel hb,own_below h.own hb,bel_next h.bel hb,h.lo⟩
theorem TmSt.push {w0 W w3:World} {r m m2:Nat} {vk v2:Value} {K K2:List Nd} {o:Obj} (h:TmSt w0 r m vk K W) (hown:w3.ownsRow (r+1) 31 5 v2 m2 (ad8 K2)) (hgrow:(W.alloc o).grownBy w3 vk.ownBlock):
  TmSt w0 r m2 v2 K2 (w3.setCell ⟨r,2,none⟩ v2):=by
 have hlt:=h.box.lt
 have hlo:=h.lo
 refine⟨?_,own_setCell 2 hown (by intro e;have:=(hown.lt r e).1;omega),?_,h.lo⟩
 ·exact heap_setCell_same w3 r 2 _ 31 _ ((push_far hgrow h.own hlt).trans h.box)
 ·refine Below.setCell (p:=⟨r,2,none⟩) ?_ hlo _
  refine(h.bel.alloc h.bel.size o).grown hgrow (by rw [World.size_alloc];have:=h.bel.size;omega) (fun i e=> ?_)
  have:=(h.own.lt i e).1
  omega
theorem TmSt.cells {w0 W:World} {r m:Nat} {vk:Value} {K:List Nd} (h:TmSt w0 r m vk K W):W.cell? ⟨r,0,none⟩=some (.int .i64 8)∧W.cell? ⟨r,1,none⟩=some (.string ⟨#[]⟩)∧W.cell? ⟨r,2,none⟩=some vk∧W.cell? ⟨r,3,none⟩=some (.int .i64 0)∧W.cell? ⟨r,4,none⟩=some (.int .i64 0):=by
 obtain⟨x0,x1,x2,x3,x4,_⟩:=NdBoxV.facts h.box
 exact⟨x0,x1,x2,x3,x4⟩
theorem ap3 {P:ByteArray} {t:ByteArray} : ∀y ∈ ([.int .i64 9,.string P,.slice none 0 0,.int .i64 0,.int .i64 0,.int .i64 1,.string t,.slice none 0 0,.int .i64 0,.int .i64 0]:List Value),y.oneCell'=true:=by
 intro y hy
 simp only [List.mem_cons,List.not_mem_nil,or_false] at hy
 rcases hy with rfl|rfl|rfl|rfl|rfl|rfl|rfl|rfl|rfl|rfl<;>rfl
theorem ai1 (b:ByteArray): ∀(n i:Nat) (r:List UInt8),b.size - i=n→r.length≤(ByteArray.toList.loop b i r).length
 |0,i,r,h=>by
  rw [ByteArray.toList.loop,if_neg (by omega)];simp
 |n+1,i,r,h=>by
  rw [ByteArray.toList.loop,if_pos (by omega)]
  have:=ai1 b n (i+1) (b.get! i::r) (by omega)
  rw [List.length_cons] at this
  omega
theorem af5 {b:ByteArray} (h:0<b.size):b.toList≠ []:=by
 intro e
 have h1:=ai1 b (b.size - 1) 1 [b.get! 0] rfl
 unfold ByteArray.toList at e
 rw [ByteArray.toList.loop,if_pos h] at e
 rw [e] at h1
 simp at h1
theorem ah4 (P:ByteArray) (x y c:UInt8) (h:P.size+2<(P++(⟨#[x,y,c]⟩:ByteArray)).size):(P++(⟨#[x,y,c]⟩:ByteArray))[P.size+2]=c:=by
 have:(P++(⟨#[x,y,c]⟩:ByteArray)).data=P.data++ #[x,y,c]:=ByteArray.data_append
 rw [ByteArray.getElem_eq_getElem_data]
 simp only [this]
 rw [Array.getElem_append_right (by show P.data.size≤P.size+2;exact Nat.le_add_right _ 2)]
 exact(getElem_congr_idx (show P.size+2 - P.data.size=2 from Nat.add_sub_cancel_left _ _)).trans rfl
theorem al8 (P:ByteArray) (x c:UInt8) (h:P.size+1<(P++(⟨#[x,c]⟩:ByteArray)).size):(P++(⟨#[x,c]⟩:ByteArray))[P.size+1]=c:=by
 have:(P++(⟨#[x,c]⟩:ByteArray)).data=P.data++ #[x,c]:=ByteArray.data_append
 rw [ByteArray.getElem_eq_getElem_data]
 simp only [this]
 rw [Array.getElem_append_right (by show P.data.size≤P.size+1;exact Nat.le_add_right _ 1)]
 exact(getElem_congr_idx (show P.size+1 - P.data.size=1 from Nat.add_sub_cancel_left _ _)).trans rfl
theorem ao5 {w:World} {base n size:Nat} {T:TypeId} {v:Value} {xs:List Value} (h:w.ownsRow base T size v n xs): ∃a c,v= .slice a n c:=by
 rcases h.2 with ⟨rfl,rfl⟩|⟨g,cap,cur,rfl,_⟩
 ·exact⟨_,_,rfl⟩
 ·exact⟨_,_,rfl⟩
theorem aj7 {a b:ByteArray} (h:a.size+b.size≤1000) (W:World):(Op.stringOp .add a b).run Tryz.prog W= .ok (.string (a++b)) W:=by
 have hm:IntKind.i64.max=9223372036854775807:=rfl
 unfold Op.stringOp
 simp only []
 rw [if_neg (by rw [hm];omega)]
 rfl
theorem TmSt.v {w0 W:World} {r m:Nat} {vk:Value} {K:List Nd} (h:TmSt w0 r m vk K W) (hm:K.length=m) (hk: ∀n ∈ K,n.kids= []):NdV W (r+1) W.heap.size (.mk 8 ⟨#[]⟩ K 0 0) (.agg #[.int .i64 8,.string ⟨#[]⟩,vk,.int .i64 0,.int .i64 0]):=by
 obtain⟨b,cap,rfl,h1,h2⟩:=af6 h.box.lt hm h.own hk
 exact⟨b,cap,rfl,h1,h2⟩
theorem TmSt.tag {w0 W:World} {r m:Nat} {vk:Value} {K:List Nd} (h:TmSt w0 r m vk K W) (hm:K.length=m) (hk: ∀n ∈ K,n.kids= []):
  NdV (W.alloc (.cells #[.int .i64 1,.string ⟨#[102]⟩,.slice none 0 0,.int .i64 0,.int .i64 0,.int .i64 8,.string ⟨#[]⟩,vk,.int .i64 0,.int .i64 0] 31)) 0 (W.alloc (.cells #[.int .i64 1,.string ⟨#[102]⟩,.slice none 0 0,.int .i64 0,.int .i64 0,.int .i64 8,.string ⟨#[]⟩,vk,.int .i64 0,.int .i64 0] 31)).heap.size
   (.mk 10 ⟨#[]⟩ [idN 102,.mk 8 ⟨#[]⟩ K 0 0] 0 0) (.agg #[.int .i64 10,.string ⟨#[]⟩,.slice (some ⟨W.heap.size,0,none⟩) 2 2,.int .i64 0,.int .i64 0]):=by
 have hlt:=h.box.lt
 obtain⟨b,cap,rfl,h1,h2⟩:=af6 h.box.lt hm h.own hk
 refine⟨_,2,rfl,Nat.le_refl _,?_⟩
 rw [World.size_alloc]
 exact(RowA.new (w:=W) (r:=r) (T:=31) [(idN 102,none,0),(.mk 8 ⟨#[]⟩ K 0 0,b,cap)] (fun x hx=>by
  simp only [List.mem_cons,List.not_mem_nil,or_false] at hx
  rcases hx with rfl|rfl
  ·exact⟨Nat.le_refl _,RowA.nil _ _ _ _⟩
  ·exact⟨h1,RowA.of h2 (Nat.lt_succ_self _)⟩) (by omega) (heap_alloc_new _ _) fun k hk _=>Below.heap_alloc _ _ _ hk).row
theorem al1 {P:ByteArray} : ∀y ∈ ([.int .i64 9,.string P,.slice none 0 0,.int .i64 0,.int .i64 0]:List Value),y.oneCell'=true:=by
 intro y hy
 simp only [List.mem_cons,List.not_mem_nil,or_false] at hy
 rcases hy with rfl|rfl|rfl|rfl|rfl<;>rfl
def ai2 (w:World) (r len:Nat) (s p i:Value) (wr:World):Prop:= ∃(j m:Nat) (ks:List Nat) (S P:ByteArray) (vk:Value),j≤len∧j≤30∧ks.length=j∧m=(tmG ks).1.length∧i= .int .i64 j∧s= .string S∧p= .string P∧S.data.toList=96::ks.flatMap tmI∧P.data.toList=(tmG ks).2∧TmSt w r m vk (tmG ks).1 wr
theorem ah7 {P:ByteArray} {pc:List UInt8} (h:P.data.toList=pc):aa6 pc= .mk 9 P [] 0 0:=by
 subst h
 unfold aa6
 cases P
 simp
theorem ai2.more {w wr:World} {r len j m:Nat} {ks:List Nat} {S P S' P':ByteArray} {vk i:Value} (k:Nat) (hk:k≠0) (hlt:j<len) (h30:j<30) (hoj:ks.length=j) (hm:m=(tmG ks).1.length) (hS:S.data.toList=96::ks.flatMap tmI) (hP:P.data.toList=(tmG ks).2) (hst:TmSt w r m vk (tmG ks).1 wr) (hi:i= .int .i64 ((j+1:Nat):Int)) (eS:S'.data.toList=S.data.toList++tmI k) (eP:P'.data.toList=P.data.toList++tmI k):ai2 w r len (.string S') (.string P') i wr:=by
 have e:tmG (ks++ [k])=((tmG ks).1,(tmG ks).2++tmI k):=by rw [ac4];exact if_neg hk
 exact⟨j+1,m,ks++ [k],S',P',vk,hlt,h30,by simp [hoj],by rw [e];exact hm,hi,rfl,rfl,by rw [eS,hS,ad1];rfl,by rw [eP,hP,e],by rw [e];exact hst⟩
theorem af0 (ao:Option Addr) (len cap:Nat) (w:World) (hc:ak3 w ao len) (hl:len≤33554432) (hx:Lx w):
  Calls Tryz.prog 6 #[.slice ao len cap] w fun e w'=>e= .returned (.bool true)∧Below w.heap.size w w':=by
 have HC:=Lib.hid hc
 have HX:=Lib.hid hx
 clear hc hx
 obtain⟨i0,hi,hz0,hz1,hz2⟩:=info_parts infoNd
 go_enter Tryz.func6,Tryz.ntmps6
 go_wp2_with fail
 refine(ak9 w HX.out).mono ?_
 rintro e w1 ⟨rfl,hb1⟩
 go_upto_region 5 with fail
 have hs:TmSt w w1.heap.size 0 (.slice none 0 0) (tmG []).1 (w1.alloc (.cells #[.int .i64 8,.string ⟨#[]⟩,.slice none 0 0,.int .i64 0,.int .i64 0] 31)):=⟨heap_alloc_new _ _,World.ownsRow_nil _ _ _ _,hb1.alloc hb1.size _,hb1.size⟩
 have HS:=Lib.hid hs
 generalize World.alloc w1 _=w5 at*
 generalize w1.heap.size=r at*
 clear hb1 hs
 go_wp2_with fail
 go_loopw [3,5,6,30,42,48] (fun s p i _ _ _ wr=>ai2 w r len s p i wr) (fun _ _ i _ _ _ _=>30 - (intOf i).toNat)
 case atStart=>exact⟨0,0,[],⟨#[96]⟩,⟨#[]⟩,_,Nat.zero_le _,Nat.zero_le _,rfl,rfl,rfl,rfl,rfl,rfl,rfl,HS.out⟩
 case round=>
  clear HS
  obtain⟨j,m,ks,S,P,vk,hj,hj30,hoj,hm,rfl,rfl,rfl,hS,hP,hst⟩:=hrel
  have hgl:=ag9 ks [] []
  have hm60:m≤60:=by have:m≤0+2*ks.length:=hm▸hgl.1;omega
  have hPs:P.size≤120:=by rw [ak1 hP];have:(tmG ks).2.length≤0+4*ks.length:=hgl.2;omega
  have hSs:S.size≤121:=by rw [ak1 hS];have:=ae5 ks;rw [List.length_cons];omega
  clear hgl
  have HST:=Lib.hid hst
  have HS:=Lib.hid hS
  have HP:=Lib.hid hP
  have HM:=Lib.hid hm
  have hrl:=hst.box.lt
  obtain⟨x0,x1,x2,x3,x4,y0,y1,y2,y3,y4⟩:=NdBoxV.facts hst.box
  by_cases hlt:j<len∧j<30
  ·obtain⟨hlt,hlt30⟩:=hlt
   obtain⟨b,off,rfl,hb,z,hz⟩:=HC.out j hlt
   rw [←hst.bel.cell (p:=⟨b,off+j,none⟩) hb] at hz
   obtain⟨a,ha,ha2⟩:=ar6 z 4 (by decide)
   replace ha:(IntKind.u64.wrap z).tmod 4=(a:Int):=ha
   clear hst hS hm hP
   have h4:a=0∨a=1∨a=2∨a=3:=by omega
   rcases h4 with h|h|h|h
   ·have ha':(IntKind.u64.wrap z).tmod 4=0:=by rw [ha,h];rfl
    clear ha h ha2
    have HCALL:=Lib.hid (fun(W:World) (hW:Below wr.heap.size wr W)=>(ag3 ⟨#[118]⟩ W).mono (R':=fun e w'=>e= .returned (.agg #[.int .i64 1,.string ⟨#[118]⟩,.slice none 0 0,.int .i64 0,.int .i64 0])∧TmSt w r m vk (tmG ks).1 w'∧w'.cell? ⟨r,2,none⟩=some vk∧w'.frozen? ⟨r,2,none⟩=false∧r<w'.heap.size) fun e w' ⟨h1,h2⟩=>⟨h1,(HST.out.next hW).next h2,(NdBoxV.facts ((HST.out.next hW).next h2).box).2.2.1,(NdBoxV.facts ((HST.out.next hW).next h2).box).2.2.2.2.2.2.2.1,((HST.out.next hW).next h2).box.lt⟩)
    go_upto_region 14 with fail
    go_region_law (first|((go_simp;(with_reducible refine(HCALL.out _ (Below.drew (Below.refl _ _))).mono ?_);rintro e w2 ⟨rfl,hst2,e2,f2,hs2⟩))|((refine step_append_lies _ (by rfl) _ _ _ (by rfl) (r+1) 31 i0 _ 5 64 (by kernel_rfl) hi hz0 hz1 hz2 (by rfl) (by decide) vk m (ad8 (tmG ks).1) (by rfl) (hst2.own.alloc _) ⟨w2.heap.size,0,none⟩ 2 2 [.int .i64 9,.string P,.slice none 0 0,.int .i64 0,.int .i64 0,.int .i64 1,.string ⟨#[118]⟩,.slice none 0 0,.int .i64 0,.int .i64 0] (by rfl) (by rfl) (World.news_of_block (heap_alloc_new _ _)) ap3 (by decide) (by unfold maxLen;omega) (by omega) (by rw [World.size_alloc];omega) (w2.heap.size+1) (by simp) ?_;intro g1 cap1 w3 hown3 hgrow3 hat3 hlt3;have b3:=push_far hgrow3 hst2.own hs2;have e3:=(World.cell?_of_block (a:=⟨r,2,none⟩) b3).trans e2;have f3:=(World.frozen?_of_block (a:=⟨r,2,none⟩) b3).trans f2)))
    all_goals
     have hst3:=TmSt.push (K2:=(tmG (ks++ [0])).1) hst2 (by rw [ac4];show World.ownsRow _ _ _ _ _ _ (ad8 ((tmG ks).1++ [aa6 (tmG ks).2,idN 118]));rw [show (tmG ks).1++ [aa6 (tmG ks).2,idN 118]=((tmG ks).1++ [aa6 (tmG ks).2])++ [idN 118] by simp,ac1,ac1,ah7 HP.out,List.append_assoc];exact hown3) hgrow3
     have HST3:=Lib.hid hst3
     clear hst3 hown3 hgrow3 hat3 hst2
     go_wp2_with fail
     go_roundw
     case rel=>exact⟨j+1,m+2,ks++ [0],_,_,_,hlt,by omega,by simp [hoj],by rw [ac4];show m+2=((tmG ks).1++ [aa6 (tmG ks).2,idN 118]).length;rw [List.length_append,←HM.out];rfl,by go_num,rfl,rfl,by rw [ad1];simp [ByteArray.data_append,HS.out,tmI],by rw [ac4];rfl,HST3.out⟩
     case measure=>simp [intOf];omega
   ·have ha':(IntKind.u64.wrap z).tmod 4=1:=by rw [ha,h];rfl
    clear ha h ha2
    go_upto_region 22 with fail
    go_wp2_with fail
    all_goals first
     |(refine⟨ai2.more 1 (by decide) hlt hlt30 hoj HM.out HS.out HP.out HST.out (by go_num) ?_ ?_,?_⟩<;>first|(simp [ByteArray.data_append,tmI];done)|(simp [intOf];omega))
     |rename_i g
      rw [ah4] at g
      exact absurd g.2 (by decide)
   ·have ha':(IntKind.u64.wrap z).tmod 4=2:=by rw [ha,h];rfl
    clear ha h ha2
    go_upto_region 22 with fail
    go_wp2_with fail
    all_goals first
     |(refine⟨ai2.more 2 (by decide) hlt hlt30 hoj HM.out HS.out HP.out HST.out (by go_num) ?_ ?_,?_⟩<;>first|(simp [ByteArray.data_append,tmI];done)|(simp [intOf];omega))
     |(rename_i g;exact absurd g (af5 (by rw [ByteArray.size_append];exact Nat.lt_of_lt_of_le (by decide) (Nat.le_add_left _ _))))
     |rename_i g
      rw [al8] at g
      rcases g with g|g
      ·exact absurd (by simpa using g) (af5 (b:=P++⟨#[10,36]⟩) (by rw [ByteArray.size_append];exact Nat.lt_of_lt_of_le (by decide) (Nat.le_add_left _ _)))
      ·exact absurd g (by decide)
   ·have ha':(IntKind.u64.wrap z).tmod 4=3:=by rw [ha,h];rfl
    clear ha h ha2
    go_upto_region 22 with fail
    go_wp2_with fail
    all_goals first
     |(refine⟨ai2.more 3 (by decide) hlt hlt30 hoj HM.out HS.out HP.out HST.out (by go_num) ?_ ?_,?_⟩<;>first|(simp [ByteArray.data_append,tmI];done)|(simp [intOf];omega))
     |rename_i g
      rw [ah4] at g
      exact absurd g.2 (by decide)
  ·have hend:j=len∨(j=30∧30<len):=by omega
   have hk8:(tmG ks).1++ [aa6 (tmG ks).2]=tmK [] ks:=(ao8 ks).symm
   have hlen:(tmK [] ks).length=m+1:=by rw [←hk8,List.length_append,←hm];rfl
   have hlow: ∀n ∈ tmK [] ks,n.kids= []:=by
    intro n hn
    rw [←hk8] at hn
    rcases List.mem_append.1 hn with hn|hn
    ·exact ao0 ks n hn
    ·rw [List.mem_singleton.1 hn];rfl
   obtain⟨n1,q1,e1,b1,s1⟩:=ao7 (s:=S++⟨#[96]⟩) 20 (ks:=ks) (by omega) (Nat.le_refl _) (by simp [ByteArray.data_append,hS,ab9]) (by rw [ByteArray.size_append];show S.size+1≤_;omega)
   obtain⟨n2,q2,e2,b2,s2⟩:=al7 (s:=⟨#[102]⟩++S++⟨#[96]⟩) 20 (ks:=ks) (by omega) (Nat.le_refl _) (by simp [ByteArray.data_append,hS,ab9]) (by rw [ByteArray.size_append,ByteArray.size_append];show 1+S.size+1≤_;omega)
   have hT1:aa7 (bareT n1) (.mk 8 ⟨#[]⟩ (tmK [] ks) 0 0)=true:=by rw [ac3 (by omega),b1];exact ad2 _
   have hT2:aa7 (bareT n2) (.mk 10 ⟨#[]⟩ [idN 102,.mk 8 ⟨#[]⟩ (tmK [] ks) 0 0] 0 0)=true:=by rw [ac3 (by omega),b2];exact ad2 _
   have HI1:=Lib.hid (fun(W:World) (vk:Value) (h:TmSt w r (m+1) vk (tmK [] ks) W)=>by
    have h2:=ak8 42 (by decide) (by rw [ByteArray.size_append];show S.size+1≤_;omega) e1 (by omega) (by rw [ac3 (by omega)];exact Nat.le_trans (ag1 n1) (by omega)) _ _ _ _ W (h.v hlen hlow) (Nat.le_refl _) (HX.out.bel h.bel)
    rw [hT1] at h2
    exact h2)
   have HI2:=Lib.hid (fun(W:World) (vk:Value) (h:TmSt w r (m+1) vk (tmK [] ks) W)=>by
    have h2:=ak8 42 (by decide) (by rw [ByteArray.size_append,ByteArray.size_append];show 1+S.size+1≤_;omega) e2 (by omega) (by rw [ac3 (by omega)];exact Nat.le_trans (ag1 n2) (by omega)) _ _ _ _ _ (h.tag hlen hlow) (Nat.le_refl _) (HX.out.bel (bel_next h.bel (alloc_bel W _)))
    rw [hT2] at h2
    exact h2)
   have HLF:=Lib.hid (show ad8 (tmG ks).1++ [.int .i64 9,.string P,.slice none 0 0,.int .i64 0,.int .i64 0]=ad8 (tmK [] ks) by rw [←hk8,ac1,ah7 hP];rfl)
   clear e1 e2 b1 b2 s1 s2 hT1 hT2 hlen hlow hk8 hst hS hP hm HC
   rcases hend with rfl|⟨rfl,hl30⟩
   all_goals
    go_upto_region 25 with fail
    go_wp2_with (at_builtin;refine wpList_append_own_at _ rfl _ _ 26 rfl (r+1) 31 i0 _ 5 64 (by kernel_rfl) hi hz0 hz1 hz2 rfl (by decide) _ _ _ rfl (HST.out.own.alloc _) ⟨wr.heap.size,0,none⟩ 1 1 [.int .i64 9,.string P,.slice none 0 0,.int .i64 0,.int .i64 0] rfl rfl (World.news_of_block (heap_alloc_new _ _)) al1 (by unfold maxLen;omega) (by omega) (by rw [World.size_alloc];omega) ?_)
    intro v6 w6 hown6 hgrow6 _ _
    obtain⟨g6,c6,e6⟩:=ao5 hown6
    subst e6
    have b6:=push_far hgrow6 HST.out.own hrl
    have f6:=(World.frozen?_of_block (a:=⟨r,2,none⟩) b6).trans y2
    have e6:=(World.cell?_of_block (a:=⟨r,2,none⟩) b6).trans x2
    rw [HLF.out] at hown6
    have HST6:=Lib.hid (TmSt.push HST.out hown6 hgrow6)
    clear b6 hown6 hgrow6 x0 x1 x2 x3 x4 y0 y1 y2 y3 y4
    go_upto_region 26 with fail
    generalize World.setCell w6 _ _=w7 at*
    have HD:=Lib.hid (HST6.out.next (Below.drew (Below.refl _ _)))
    clear HST6 HST
    have a1:=fun W=>aj7 (a:=S) (b:=⟨#[96]⟩) (show S.size+1≤1000 by omega) W
    have a2:=fun W=>aj7 (a:=⟨#[102]⟩) (b:=S) (show 1+S.size≤1000 by omega) W
    have a3:=fun W=>aj7 (a:=⟨#[102]⟩++S) (b:=⟨#[96]⟩) (by rw [ByteArray.size_append];show 1+S.size+1≤1000;omega) W
    go_region_held3 (fun w'=>w'.cell? ⟨r,0,none⟩=some (.int .i64 8)∧w'.cell? ⟨r,1,none⟩=some (.string ⟨#[]⟩)∧w'.cell? ⟨r,2,none⟩=some (.slice g6 (m+1) c6)∧w'.cell? ⟨r,3,none⟩=some (.int .i64 0)∧w'.cell? ⟨r,4,none⟩=some (.int .i64 0)) (first|exact HD.out.cells|exact(HD.out.next (alloc_bel _ _)).cells)
     (first|(go_at_call 12;(with_reducible refine(HI1.out _ _ HD.out).mono ?_);rintro e w9 ⟨rfl,hb9⟩;replace HD:=Lib.hid (HD.out.next hb9);clear hb9)|(go_at_call 11;(with_reducible refine(ag3 _ _).mono ?_);rintro e w9 ⟨rfl,hb9⟩;replace HD:=Lib.hid (HD.out.next hb9);clear hb9)|(go_at_call 12;have hh:=HI2.out _ _ HD.out;refine hh.mono ?_;clear hh;rintro e w10 ⟨rfl,hb9⟩;replace HD:=Lib.hid (HD.out.next (bel_next (alloc_bel _ _) hb9));clear hb9))
    all_goals
     go_wp2_with fail
     go_ret
     exact⟨rfl,HD.out.bel⟩
end
end Go.Proofs.YtnahajcjpmbflaaGreatDoor
