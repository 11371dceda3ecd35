/- Steps (Nm Kn Kt Kg Km Kc). Conditions: as stated. -/
import Derived.Test.YtnobjeelihkjmaaGreatDoorZk01
import Derived.Test.YtnobjeelihkjmaaGreatDoorZk36
import Derived.Test.YtnobjeelihkjmaaGreatDoorZk37
set_option maxHeartbeats 4000000
set_option maxRecDepth 1000000
namespace Go.Proofs.YtnobjeelihkjmaaGreatDoor
section
open Go.RowKit
theorem be5 {l:List UInt8} (hl:l≠ []):nx l=if (Lib.decodeL l).1=65533∧(Lib.decodeL l).2=1 then (((0:Int),(-1:Int)):Int × Int) else (((Lib.decodeL l).1:Int),((Lib.decodeL l).2:Int)):=by
 have hd:Lib.decodeGo ⟨l.toArray⟩=Lib.decodeL l:=by
  unfold Lib.decodeGo Lib.decodeL
  rw [if_neg]
  show l.length≠0
  exact fun e=>hl (List.length_eq_zero_iff.1 e)
 unfold nx
 rw [hd]
def aP2 (l:List UInt8):Bool:=decide (l≠ []∧al5 false l=l.length)
theorem bf0:ay6 65533=false:=by decide+kernel
theorem bM1 (s:ByteArray) (i:Nat) (h:i<s.size):nx (s.data.toList.drop i)=if (Utf8.decode s i).1=65533∧(Utf8.decode s i).2=1 then (((0:Int),(-1:Int)):Int × Int) else (((Utf8.decode s i).1:Int),((Utf8.decode s i).2:Int)):=by
 rw [be5 (by intro e;have:=congrArg List.length e;rw [List.length_drop,ofl] at this;simp at this;omega),Lib.decodeL_drop]
theorem bq9 (s:ByteArray) (w:World) (hs:s.size≤16777216):
  Calls Tryz.prog 108 #[.string s] w fun e w'=>e= .returned (.bool (aP2 s.data.toList))∧Below w.heap.size w w':=by
 obtain⟨B,hB⟩: ∃B,aP2 s.data.toList=B:=⟨_,rfl⟩
 rw [hB]
 have HB:=hJ hB
 clear hB
 go_enter Tryz.func108,Tryz.ntmps108
 go_wp2_with fail
 go_loopw [2,3,4] (fun _ _ _ wx=> ∃i:Nat,i≤s.size∧wx.heap[w.heap.size]? =some (.stringIter s i)∧Below w.heap.size w wx∧w.heap.size<wx.heap.size∧ae9 false s.data.toList=i+ae9 false (s.data.toList.drop i)∧(0<i→0<(nx s.data.toList).2∧ae2 (nx s.data.toList).1=true)) (fun _ _ _ wx=>s.size - wx.iterPos w.heap.size)
 case atStart=>exact⟨0,by omega,World.iter_heap _ _ _,(Below.refl _ _).alloc (Nat.le_refl _) _,by show _<(w.heap.push _).size;simp,by simp,fun h=>absurd h (by omega)⟩
 case round=>
  obtain⟨i,hi,hk,hb,hlt,hv,hst⟩:=hrel
  by_cases hlts:i<s.size
  ·have hnx:=fun ty=>Lib.run_next_any_at (P:=Tryz.prog) wr _ s i ty hk hlts
   have hna:=bM1 s i hlts
   have hn1:1≤(Utf8.decode s i).2:=Lib.width_pos s i
   have hnl:(Utf8.decode s i).2≤s.size - i:=by
    have:=Lib.decodeL_le (s.data.toList.drop i) (by intro e;have:=congrArg List.length e;rw [List.length_drop,ofl] at this;simp at this;omega)
    rw [Lib.decodeL_drop,List.length_drop,ofl] at this
    exact this
   have hrl:=Lib.rune_le s i
   obtain⟨⟨c,n⟩,hcn⟩: ∃p,Utf8.decode s i=p:=⟨_,rfl⟩
   rw [hcn] at hnx hna hn1 hnl hrl
   simp only at hnx hna hn1 hnl hrl
   clear hcn
   have hk2:=Lib.iterAt_heap wr _ s i (i+n) hk
   have hb2:Below w.heap.size w (wr.iterAt w.heap.size s (i+n)):=Lib.below_iterAt hb (Nat.le_refl _) _ _
   have hl2:w.heap.size<(wr.iterAt w.heap.size s (i+n)).heap.size:=by rw [Lib.iterAt_size];exact hlt
   generalize wr.iterAt w.heap.size s (i+n)=w2 at*
   have HK:=hJ hk2
   have HKr:=hJ hk
   have HNA:=hJ hna
   have HV:=hJ hv
   have HST:=hJ hst
   have hstop:ap0 false (s.data.toList.drop i)=false→B=false:=fun hg=>by
    rw [←HB.out]
    refine decide_eq_false (fun⟨_,h⟩=> ?_)
    have h1:=HV.out
    rw [aE9 hg] at h1
    unfold al5 at h
    rw [ofl] at h
    split at h
    ·omega
    ·omega
   have HSTOP:=hJ hstop
   clear hna hv hst hstop hk hk2 hb
   by_cases hc:c=65533
   ·have HW:=hJ (show B=false from HSTOP.out (by
     have hna:=HNA.out
     unfold ap0
     by_cases hn:n=1
     ·rw [if_pos ⟨hc,hn⟩] at hna
      rw [hna]
      rfl
     ·rw [if_neg (fun h=>hn h.2)] at hna
      rw [hna]
      simp only [hc]
      rw [show ay6 ((65533:Nat):Int)=false from bf0]
      simp))
    subst hc
    go_wp2_with fail
    go_ret
    exact⟨by rw [HW.out];rfl,hb2⟩
   ·have bc:((c:Int)==65533)=false:=by rw [beq_eq_false_iff_ne];omega
    have hna:=HNA.out
    rw [if_neg (fun h=>hc h.1)] at hna
    have hP:=fun W=>aw6 (c:Int) W
    cases hp:ay6 (c:Int) with
    |false=>
     rw [hp] at hP
     have HP:=hJ hP
     have HW:=hJ (show B=false from HSTOP.out (by unfold ap0;rw [hna];simp only [hp];simp))
     clear hP hp hna hc
     go_wp2_with (go_at_call 167;refine(HP.out _).mono ?_;rintro e w3 ⟨rfl,hb3⟩)
     go_ret
     exact⟨by rw [HW.out];rfl,hb2.trans (hb3.mono (by omega))⟩
    |true=>
     rw [hp] at hP
     have HP:=hJ hP
     have hgo:ap0 false (s.data.toList.drop i)=true:=by
      unfold ap0
      rw [hna]
      simp only [hp]
      simp
      omega
     have HN:=hJ (show ae9 false s.data.toList=i+n+ae9 false (s.data.toList.drop (i+n)) by
      rw [HV.out,as4 hgo,hna,Int.toNat_natCast,List.drop_drop]
      omega)
     clear hP hp hgo
     by_cases hi0:i=0
     ·have hS:=fun W=>am0 (c:Int) W
      cases hs1:ae2 (c:Int) with
      |false=>
       rw [hs1] at hS
       have HS:=hJ hS
       have HW:=hJ (show B=false by
        rw [←HB.out]
        refine decide_eq_false (fun⟨hne,h⟩=> ?_)
        rw [hi0,List.drop_zero] at hna
        unfold al5 at h
        rw [if_neg (by rw [hna];simp only [hs1];simp)] at h
        exact hne (List.length_eq_zero_iff.1 h.symm))
       clear hS hs1 hna hc
       subst hi0
       go_wp2_with (first|(go_at_call 167;refine(HP.out _).mono ?_;rintro e w3 ⟨rfl,hb3⟩)|(go_at_call 166;refine(HS.out _).mono ?_;rintro e w4 ⟨rfl,hb4⟩))
       go_ret
       exact⟨by rw [HW.out];rfl,hb2.trans ((aa0 hb3 hb4).mono (by omega))⟩
      |true=>
       rw [hs1] at hS
       have HS:=hJ hS
       have HZ:=hJ (show 0<(nx s.data.toList).2∧ae2 (nx s.data.toList).1=true by
        rw [hi0,List.drop_zero] at hna
        rw [hna]
        exact⟨by simp only;omega,hs1⟩)
       clear hS hs1 hna hc
       subst hi0
       go_wp2_with (first|(go_at_call 167;refine(HP.out _).mono ?_;rintro e w3 ⟨rfl,hb3⟩)|(go_at_call 166;refine(HS.out _).mono ?_;rintro e w4 ⟨rfl,hb4⟩))
       have hbb:=aa0 hb3 hb4
       have hk3:w4.heap[w.heap.size]? =some (.stringIter s (0+n)):=(hbb.block _ hl2).trans HK.out
       go_roundw
       case rel=>exact⟨0+n,by omega,hk3,hb2.trans (hbb.mono (by omega)),by have:=hbb.size;omega,HN.out,fun _=>HZ.out⟩
       case measure=>simp [World.iterPos,hk3,HKr.out];omega
     ·have bi:(((i:Nat):Int)==0)=false:=by rw [beq_eq_false_iff_ne];omega
      have HZ:=hJ (HST.out (by omega))
      clear hna hc
      go_wp2_with (go_at_call 167;refine(HP.out _).mono ?_;rintro e w3 ⟨rfl,hb3⟩)
      have hk3:w3.heap[w.heap.size]? =some (.stringIter s (i+n)):=(hb3.block _ hl2).trans HK.out
      go_roundw
      case rel=>exact⟨i+n,by omega,hk3,hb2.trans (hb3.mono (by omega)),by have:=hb3.size;omega,HN.out,fun _=>HZ.out⟩
      case measure=>simp [World.iterPos,hk3,HKr.out];omega
  ·obtain rfl:i=s.size:=by omega
   have hnx:=fun ty=>Lib.run_next_end_at (P:=Tryz.prog) wr _ s s.size ty hk (by omega)
   by_cases hz:s.size=0
   ·have HW:=hJ (show B=false by rw [←HB.out];exact decide_eq_false (fun h=>h.1 (List.length_eq_zero_iff.1 (by rw [ofl];exact hz))))
    have hem:=ag0 hz
    clear hv hst hz
    go_wp2_with fail
    go_ret
    exact⟨by rw [HW.out];rfl,hb⟩
   ·have hpos:0<s.size:=by omega
    have HW:=hJ (show B=true by
     rw [←HB.out]
     refine decide_eq_true ⟨fun e=>hz (by rw [←ofl,e];rfl),?_⟩
     unfold al5
     rw [if_pos (hst hpos),hv,List.drop_of_length_le (by rw [ofl];exact Nat.le_refl _),ofl]
     rfl)
    have hem:=ah4 hpos
    clear hv hst hz
    go_wp2_with fail
    go_ret
    exact⟨by rw [HW.out];rfl,hb⟩
end
section
open Go.RowKit
def nmU (vs:List Nat):ByteArray:=if aP2 (runesBytes (vs.map Int.ofNat)).data.toList=true then runesBytes (vs.map Int.ofNat) else ⟨#[]⟩
def nmT (t:ByteArray):ByteArray:=match am7 t with
 |some vs=>nmU vs
 |none=>⟨#[]⟩
def bA7:ByteArray:=⟨#[95,95,112,114,111,116,111,95,95]⟩
def bH8:ByteArray:=⟨#[99,111,110,115,116,114,117,99,116,111,114]⟩
def butK (cls:Bool) (k:Int):ByteArray:=if k=13 then bA7 else if cls=true then bH8 else ⟨#[]⟩
def aH1 (k:Int) (t:ByteArray):Bool:=(decide (k=13∨k=44) && decide (t=⟨#[]⟩))||decide (k=15)
def bh3 (but:ByteArray) (n:Nd):Bool:=decide (n.kind=4) && decide (nmT n.text≠⟨#[]⟩) && decide (nmT n.text≠but)
def keyK (but:ByteArray) (n:Nd):Nd:=if bh3 but n=true then .mk 1 (nmT n.text) [] 0 0 else n
def bI9 (but:ByteArray):List Nd→List Nd
 | []=> []
 |k::ks=>keyK but k::ks
def drpK (cls:Bool) (k:Int) (t:ByteArray) (ks:List Nd):List Nd:=if k=86∨k=58 then ks.filter aG8 else if aH1 k t=true then bI9 (butK cls k) ks else ks
mutual
def canK (cls:Bool):Nd→Nd
 | .mk k t ks f u=> .mk k (canT k t) (if k=86∨k=58 then (aS0 (k==25) ks).filter aG8 else if aH1 k t=true then canH (butK cls k) (k==25) ks else aS0 (k==25) ks) f u
def aS0 (cls:Bool):List Nd→List Nd
 | []=> []
 |k::ks=>canK cls k::aS0 cls ks
def canH (but:ByteArray) (cls:Bool):List Nd→List Nd
 | []=> []
 |k::ks=>(if bh3 but k=true then .mk 1 (nmT k.text) [] 0 0 else canK cls k)::aS0 cls ks
end
theorem av2 (c:Bool): ∀ks,aS0 c ks=ks.map (canK c)
 | []=>rfl
 |k::ks=>by rw [aS0,List.map_cons,av2 c ks]
theorem aM8 (c:Bool) (n:Nd):(canK c n).kind=n.kind:=by
 cases n
 rw [canK]
 rfl
theorem bi7 (c:Bool) (t:ByteArray):canK c (.mk 1 t [] 0 0)= .mk 1 t [] 0 0:=by
 rw [canK,aS0]
 unfold canT aH1
 rfl
theorem br9 (but:ByteArray) (c:Bool): ∀ks,canH but c ks=(bI9 but ks).map (canK c)
 | []=>rfl
 |k::ks=>by
  rw [canH,av2]
  show _=canK c (keyK but k)::ks.map (canK c)
  unfold keyK
  split
  ·rw [bi7]
  ·rfl
def swK (cls:Bool) (n:Nd):Nd:= .mk n.kind (canT n.kind n.text) (drpK cls n.kind n.text n.kids) n.from' n.till
theorem bB6 (c:Bool) (n:Nd):canK c n= .mk n.kind (swK c n).text ((swK c n).kids.map (canK (n.kind==25))) n.from' n.till:=by
 cases n with
 |mk k t ks f u=>
  rw [canK]
  show Nd.mk k (canT k t) _ f u= .mk k (canT k t) ((drpK c k t ks).map (canK (k==25))) f u
  congr 1
  unfold drpK
  split
  ·rw [av2,List.filter_map]
   congr 1
   exact List.filter_congr fun n _=>by
    show aG8 (canK _ n)=aG8 n
    unfold aG8
    rw [aM8]
  ·split
   ·exact br9 _ _ _
   ·exact av2 _ _
def okKk (k:Int):Bool:= !decide (k=16) && !decide (k=54)
def ba1:List Nd→Bool
 | []=>false
 |n::_=> !decide (n.kind=4)||(decide ((nmT n.text).size≤1048576) && (match am7 n.text with
  |some vs=>vs.all fun v=>decide (v<55296)
  |none=>false))
theorem aD5 (n:Nd) (l:List Nd):ba1 (n::l)=(!decide (n.kind=4)||(decide ((nmT n.text).size≤1048576) && (match am7 n.text with
  |some vs=>vs.all fun v=>decide (v<55296)
  |none=>false))):=rfl
def okPk (k:Int) (t:ByteArray) (ks:List Nd):Bool:= !aH1 k t||ba1 ks
mutual
def okD:Nd→Bool
 | .mk k t ks _ _=>okKk k && okT k t && decide (ks.length≤4194304) && okPk k t ks && okDs ks
def okDs:List Nd→Bool
 | []=>true
 |k::ks=>okD k && okDs ks
end
theorem bb0: ∀ks,okDs ks=ks.all okD
 | []=>rfl
 |k::ks=>by rw [okDs,List.all_cons,bb0 ks]
theorem bn3 (n:Nd):okD n=(okKk n.kind && okT n.kind n.text && decide (n.kids.length≤4194304) && okPk n.kind n.text n.kids && n.kids.all okD):=by
 cases n
 rw [okD,bb0]
 rfl
end
section
open Go.RowKit
def bg6 (vs:List Nat):List Value:=vs.map fun v=> .int .i32 (v:Nat)
structure Rst (w0:World) (v:Value) (vs:List Nat) (w:World):Prop where
 own:w.ownsRow w0.heap.size 21 1 v vs.length (bg6 vs)
 bel:Below w0.heap.size w0 w
theorem Rst.push {w0 w w1:World} {v v':Value} {vs:List Nat} {x:Nat} {n:Nat} {o:Obj} (h:Rst w0 v vs w) (hn:vs.length=n) (hg:(w.alloc o).grownBy w1 v.ownBlock) (ho:w1.ownsRow w0.heap.size 21 1 v' (n+1) (bg6 vs++ [.int .i32 (x:Nat)])):Rst w0 v' (vs++ [x]) w1:=by
 subst hn
 refine⟨?_,?_⟩
 ·rw [List.length_append,List.length_singleton,show bg6 (vs++ [x])=bg6 vs++ [.int .i32 (x:Nat)] by unfold bg6;rw [List.map_append];rfl]
  exact ho
 ·refine(h.bel.alloc h.bel.size o).grown hg ?_ ?_
  ·have:=h.bel.size;rw [World.size_alloc];omega
  ·intro k hk
   rcases h.own.2 with ⟨e,_⟩|⟨g,cap,cur,e,h2,_⟩
   ·rw [e] at hk;cases hk
   ·rw [e] at hk;cases hk;exact h2
theorem Rst.at' {w0 w:World} {v:Value} {vs:List Nat} (h:Rst w0 v vs w):(vs= []∧v= .slice none 0 0)∨∃g cap,v= .slice (some ⟨g,0,none⟩) vs.length cap∧∀j,(hj:j<vs.length)→w.cell? ⟨g,j,none⟩=some (.int .i32 (vs[j]:Nat)):=by
 have ho:=h.own
 rcases ho.2 with ⟨rfl,h0⟩|⟨g,cap,cur,rfl,hg,hc,hn,hrest⟩
 ·exact .inl ⟨List.length_eq_zero_iff.1 h0,rfl⟩
 ·refine .inr ⟨g,cap,rfl,fun j hj=> ?_⟩
  rw [ho.cellAt j (by omega)]
  unfold bg6
  rw [List.getElem?_map,List.getElem?_eq_getElem hj]
  rfl
theorem Rst.form {w0 w:World} {v:Value} {vs:List Nat} (h:Rst w0 v vs w): ∃b c,v= .slice b vs.length c:=by
 rcases h.at' with ⟨rfl,rfl⟩|⟨g,cap,rfl,_⟩
 ·exact⟨none,0,rfl⟩
 ·exact⟨_,cap,rfl⟩
theorem aJ3: ∀(zs:List Int) (r:ByteArray),(zs.foldl (fun r n=>r++Utf8.encode n) r).size≤r.size+4*zs.length
 | [],r=>Nat.le_refl _
 |z::zs,r=>by
  have h:=aJ3 zs (r++Utf8.encode z)
  have h2:(Utf8.encode z).size≤4:=encode_size_le z
  rw [ByteArray.size_append] at h
  rw [List.foldl_cons,List.length_cons]
  omega
theorem bg7 {vs:List Nat} (h:vs.length≤1048576) (_: ∀v ∈ vs,v<55296):(runesBytes (vs.map Int.ofNat)).size≤16777216:=by
 have h2:=aJ3 (vs.map Int.ofNat) ByteArray.empty
 rw [List.length_map] at h2
 have h3:ByteArray.empty.size=0:=rfl
 unfold runesBytes
 omega
theorem bw6 (t:ByteArray) (vs:List Nat) (w:World) (hs:t.size≤1048576) (h:am7 t=some vs) (hv: ∀v ∈ vs,v<55296) (hx:Lx w):
  Calls Tryz.prog 61 #[.string t] w fun e w'=>e= .returned (.string (nmU vs))∧Below w.heap.size w w':=by
 obtain⟨q,l,hq,hd,hlit⟩:=aJ7 h
 have hln:vs.length≤1048576:=by
  have h1:=hlit.len
  have h2:t.size=(q::l).length:=by rw [←hd];exact(ofl t).symm
  rw [List.length_cons] at h2
  omega
 have HU:=hJ (aK0 t q l vs w (by omega) hq hd hlit hx.tabs)
 have HSM:=hJ hv
 have hv2:=hv
 obtain⟨i0,hi,hz0,hz1,hz2⟩:=info_parts bD0
 clear hlit hq hd h hx hv
 go_enter Tryz.func61,Tryz.ntmps61
 go_upto_region 4 with (go_at_call 63;refine HU.out.mono ?_;rintro e w1 ⟨v,rfl,hu⟩;obtain⟨b,cap,rfl,hat⟩:=hu.at')
 have HAT:=hJ hat
 have HB:=hJ hu.bel
 clear hu hat HU
 obtain⟨n,hn⟩: ∃n,vs.length=n:=⟨_,rfl⟩
 have HN:=hJ hn
 rw [hn] at hln⊢
 clear hn
 have HU0:=hJ (show Rst w1 (.slice none 0 0) [] w1 from⟨World.ownsRow_nil _ _ _ _,Below.refl _ _⟩)
 go_wp2_with fail
 go_loopw [5,7,8,21,33] (fun v _ _ i _ wr=> ∃j:Nat,j≤n∧i= .int .i64 (j:Nat)∧Rst w1 v (vs.take j) wr) (fun _ _ _ i _ _=>n - (intOf i).toNat)
 case atStart=>exact⟨0,Nat.zero_le _,rfl,HU0.out⟩
 case round=>
  clear HU0
  obtain⟨j,hj,rfl,hu⟩:=hrel
  have HU:=hJ hu
  by_cases hjn:j<n
  ·have hj':j<vs.length:=by rw [HN.out];exact hjn
   obtain⟨g,rfl,hg,d0⟩:=HAT.out j hj'
   have hxs:=HSM.out _ (List.getElem_mem hj')
   have hvj:=List.take_succ_eq_append_getElem hj'
   have htl:(vs.take j).length=j:=by rw [List.length_take];omega
   have HTL:=hJ htl
   have HV:=hJ hvj
   obtain⟨x,hx⟩: ∃x,vs[j]=x:=⟨_,rfl⟩
   rw [hx] at d0 hxs HV
   rw [←hu.bel.cell hg] at d0
   have hol:(vs.take j).length≤1048576:=by omega
   obtain⟨b9,c9,rfl⟩:=hu.form
   have hwb:=hu.bel.size
   clear hu hvj hx htl
   generalize vs.take j=us at*
   go_upto_region 9 with fail
   go_wp2_with (at_builtin;refine wpList_append_own_at _ rfl _ _ 145 rfl w1.heap.size 21 i0 (.int .i32 0) 1 4 (by kernel_rfl) hi hz0 hz1 hz2 rfl (by decide) _ _ _ rfl (HU.out.own.alloc _) ⟨wr.heap.size,0,none⟩ 1 1 [.int .i32 (x:Nat)] rfl rfl (aM9 _ _ _) (fun u hu=>by simp at hu;subst hu;rfl) (by unfold maxLen;omega) (by omega) (by rw [World.size_alloc];omega) ?_)
   intro v6 w6 hown6 hgrow6 _ _
   rw [HTL.out] at hown6
   have HU6:=hJ (HU.out.push HTL.out hgrow6 hown6)
   rw [←HV.out] at HU6
   go_wp2_with fail
   go_roundw
   case rel=>exact⟨j+1,by omega,by go_num,HU6.out⟩
   case measure=>simp [intOf];omega
  ·have hjn2:j=n:=by omega
   subst hjn2
   have HZ:=hJ (show vs.take j=vs by rw [List.take_of_length_le];rw [HN.out];exact Nat.le_refl _)
   rw [HZ.out] at HU
   have HBW:=hJ (HB.out.trans (HU.out.bel.mono HB.out.size))
   obtain⟨b9,c9,hv9⟩:=HU.out.form
   have hz9:vs.length≤1048576:=by rw [HN.out];exact hln
   have hcv:(convert 145 9 u5).run Tryz.prog wr= .ok (.string (runesBytes (vs.map Int.ofNat))) wr:=by
    rcases HU.out.at' with ⟨h1,h2⟩|⟨g,cap,h1,h2⟩
    ·rw [h1,h2]
     exact run_convert_runes_nil wr _ _ 21 0 0 (by kernel_rfl) (by kernel_rfl) (by kernel_rfl)
    ·have h:=run_convert_runes (P:=Tryz.prog) wr 145 9 21 ⟨g,0,none⟩ vs.length cap (vs.map Int.ofNat) (by simp) (by kernel_rfl) (by kernel_rfl) (by kernel_rfl) (fun j hj=>by
      have hj2:j<vs.length:=by simpa using hj
      have e:(vs.map Int.ofNat).getD j 0=((vs[j]:Nat):Int):=by simp [List.getD,hj2]
      rw [e]
      simp only [Addr.add,Nat.zero_add]
      split
      ·rename_i h0
       subst h0
       exact h2 0 hj2
      ·exact h2 j hj2)
     rw [List.take_of_length_le (by simp)] at h
     rw [h1]
     exact h
   have hats: ∀j,(hj:j<vs.length)→∃g,b9=some ⟨g,0,none⟩∧wr.cell? ⟨g,j,none⟩=some (.int .i32 (vs[j]:Nat)):=fun j hj=>by
    rcases HU.out.at' with ⟨h1,h2⟩|⟨g,cap,h1,h2⟩
    ·rw [h1] at hj;cases hj
    ·rw [hv9] at h1
     injection h1 with h1
     exact⟨g,h1,h2 j hj⟩
   have HATS:=hJ hats
   subst hv9
   have HCV:=hJ hcv
   have HWN:=hJ (bq9 (runesBytes (vs.map Int.ofNat)) wr (bg7 hz9 hv2))
   obtain⟨m,hm⟩: ∃m,vs.length=m:=⟨_,rfl⟩
   have HM:=hJ hm
   rw [hm] at HCV hz9⊢
   clear hv2 hcv hats hu HU HZ HN hln hj hjn HAT hm
   obtain⟨tt,htt⟩: ∃tt,runesBytes (vs.map Int.ofNat)=tt:=⟨_,rfl⟩
   have hnm:nmU vs=if aP2 tt.data.toList=true then tt else ⟨#[]⟩:=by unfold nmU;rw [htt]
   rw [htt] at HCV HWN
   have HNM:=hJ hnm
   clear hnm htt
   go_upto_region 10 with fail
   go_loopw [10,66] (fun _ i wx=> ∃j:Nat,j≤m∧i= .int .i64 (j:Nat)∧wr=wx) (fun _ i _=>m - (intOf i).toNat)
   case atStart=>exact⟨0,Nat.zero_le _,rfl,rfl⟩
   case round=>
    obtain⟨j,hj,rfl,hw⟩:=hrel
    subst hw
    by_cases hjm:j<m
    ·have hjv:j<vs.length:=by rw [HM.out];exact hjm
     obtain⟨g,rfl,d0⟩:=HATS.out j hjv
     have hxs:=HSM.out _ (List.getElem_mem hjv)
     obtain⟨x,hx⟩: ∃x,vs[j]=x:=⟨_,rfl⟩
     rw [hx] at d0 hxs
     clear hx
     go_wp2_with fail
     go_roundw
     case rel=>exact⟨j+1,by omega,by go_num,trivial⟩
     case measure=>simp [intOf];omega
    ·have hjm2:j=m:=by omega
     subst hjm2
     have hcv:=HCV.out
     cases hB:aP2 tt.data.toList with
     |true=>
      have HN2:=hJ (HNM.out.trans (if_pos hB))
      rw [hB] at HWN
      clear hB HNM HATS
      go_wp2_with (go_at_call 108;refine HWN.out.mono ?_;rintro e w9 ⟨rfl,hb9⟩)
      go_ret
      rw [HN2.out]
      exact⟨rfl,aa0 HBW.out hb9⟩
     |false=>
      have HN2:=hJ (HNM.out.trans (if_neg (by rw [hB];decide)))
      rw [hB] at HWN
      clear hB HNM HATS
      go_wp2_with (go_at_call 108;refine HWN.out.mono ?_;rintro e w9 ⟨rfl,hb9⟩)
      go_ret
      rw [HN2.out]
      exact⟨rfl,aa0 HBW.out hb9⟩
theorem bH2 {a b:ByteArray} (h:a≠b):(a.toList==b.toList)=false:=by
 rw [beq_eq_false_iff_ne,ByteArray.toList_eq,ByteArray.toList_eq]
 exact fun e=>h (aM5 e)
theorem nilT:(⟨#[]⟩:ByteArray).toList= []:=by rw [ByteArray.toList_eq]
theorem tne {t:ByteArray} (h:t≠⟨#[]⟩):(t.toList== [])=false:=by
 rw [←nilT]
 exact bH2 h
theorem bJ3 {t:ByteArray} {vs:List Nat} (h:am7 t=some vs):nmT t=nmU vs:=by unfold nmT;rw [h]
theorem bt5 (n:Nd) (g o:Nat) (F:Nat→Prop) (w:World) (hs:SpC w n g o F) (hlt:g<w.heap.size) (hF: ∀x,F x→x<w.heap.size) (but:ByteArray) (hk:n.kind=4→∃vs,am7 n.text=some vs∧∀v ∈ vs,v<55296) (ht:n.text.size≤1048576) (hx:Lx w):
  Calls Tryz.prog 35 #[.pointer (some ⟨g,o,none⟩),.string but] w fun e w'=>e= .returned (.tuple #[])∧Md w F g o w' (keyK but n):=by
 obtain⟨_,_,d0,d1,d2,d3,d4,f0,f1,f2,f3,f4,_,_⟩:=hs.facts
 have HM:=hJ (Md.refl hs hF)
 clear hs
 by_cases h4:n.kind=4
 ·obtain⟨vs,hu,hv⟩:=hk h4
  have HN:=hJ (bw6 n.text vs w ht hu hv hx)
  rw [←bJ3 hu] at HN
  obtain⟨t,htt⟩: ∃t,nmT n.text=t:=⟨_,rfl⟩
  rw [htt] at HN
  have hkn:keyK but n=if t≠⟨#[]⟩∧t≠but then .mk 1 t [] 0 0 else n:=by
   unfold keyK bh3
   rw [htt,decide_eq_true h4]
   by_cases a:t≠⟨#[]⟩
   ·by_cases b:t≠but
    ·rw [decide_eq_true a,decide_eq_true b,if_pos (show(true && true && true)=true from rfl),if_pos ⟨a,b⟩]
    ·rw [decide_eq_false b,if_neg (by simp),if_neg (fun h=>b h.2)]
   ·rw [decide_eq_false a,if_neg (by simp),if_neg (fun h=>a h.1)]
  have HK:=hJ hkn
  rw [h4] at d0
  clear hk h4 hu hv hx htt hkn
  go_enter Tryz.func35,Tryz.ntmps35
  go_upto_region 2 with (go_at_call 61;refine HN.out.mono ?_;rintro e w1 ⟨rfl,hb1⟩)
  have hgb:=hb1.block g hlt
  have HM1:=hJ (HM.out.bel hlt hb1)
  replace d0:=(World.cell?_of_block (a:=⟨g,o,none⟩) hgb).trans d0
  replace d1:=(World.cell?_of_block (a:=⟨g,o+1,none⟩) hgb).trans d1
  replace d2:=(World.cell?_of_block (a:=⟨g,o+2,none⟩) hgb).trans d2
  replace d3:=(World.cell?_of_block (a:=⟨g,o+3,none⟩) hgb).trans d3
  replace d4:=(World.cell?_of_block (a:=⟨g,o+4,none⟩) hgb).trans d4
  replace f0:=(World.frozen?_of_block (a:=⟨g,o,none⟩) hgb).trans f0
  replace f1:=(World.frozen?_of_block (a:=⟨g,o+1,none⟩) hgb).trans f1
  replace f2:=(World.frozen?_of_block (a:=⟨g,o+2,none⟩) hgb).trans f2
  replace f3:=(World.frozen?_of_block (a:=⟨g,o+3,none⟩) hgb).trans f3
  replace f4:=(World.frozen?_of_block (a:=⟨g,o+4,none⟩) hgb).trans f4
  clear hgb hb1 HM
  by_cases a:t=⟨#[]⟩
  ·have h1:(t.toList== [])=true:=by rw [a,nilT];rfl
   have HK2:=hJ (HK.out.trans (if_neg (fun h=>h.1 a)))
   clear a HK HN
   go_wp2_with fail
   go_end0
   rw [HK2.out]
   exact⟨rfl,HM1.out⟩
  ·have h1:(t.toList== [])=false:=tne a
   by_cases b:t=but
   ·have HK2:=hJ (HK.out.trans (if_neg (fun h=>h.2 b)))
    subst b
    clear a HK HN
    go_wp2_with fail
    go_end0
    rw [HK2.out]
    exact⟨rfl,HM1.out⟩
   ·have h2:(t.toList==but.toList)=false:=bH2 b
    have HK2:=hJ (HK.out.trans (if_pos ⟨a,b⟩))
    clear a b HK HN
    go_wp2_with fail
    go_end0
    rw [HK2.out]
    exact⟨rfl,HM1.out.leaf 1 _⟩
 ·have HK:=hJ (show keyK but n=n by unfold keyK bh3;rw [decide_eq_false h4];rfl)
  have b4:(n.kind !=4)=true:=by rw [bne_iff_ne];exact h4
  clear hk h4
  go_enter Tryz.func35,Tryz.ntmps35
  go_wp2_with fail
  refine bodyPost_ret (results_none rfl _ _ _) rfl ?_
  rw [HK.out]
  exact⟨rfl,HM.out⟩
end
section
open Go.RowKit
def midK (c:Bool) (n:Nd) (j:Nat):Nd:= .mk n.kind n.text ((n.kids.take j).map (canK c)++n.kids.drop j) n.from' n.till
theorem aL4 (c:Bool) (n:Nd) (j:Nat) (hj:j≤n.kids.length):(midK c n j).kids.length=n.kids.length:=by
 show((n.kids.take j).map (canK c)++n.kids.drop j).length=_
 rw [List.length_append,List.length_map,List.length_take,List.length_drop]
 omega
theorem bv9 (c:Bool) (n:Nd) (j:Nat) (hj:j<n.kids.length) (h:j<(midK c n j).kids.length):(midK c n j).kids[j]=n.kids[j]:=by
 refine Option.some.inj ?_
 rw [←List.getElem?_eq_getElem h]
 show((n.kids.take j).map (canK c)++n.kids.drop j)[j]? =_
 rw [List.getElem?_append_right (by rw [List.length_map,List.length_take];omega),List.length_map,List.length_take,Nat.min_eq_left (Nat.le_of_lt hj),Nat.sub_self,List.getElem?_drop,Nat.add_zero,List.getElem?_eq_getElem hj]
theorem bw0 (c:Bool) (n:Nd) (j:Nat) (hj:j<n.kids.length):(Nd.mk (midK c n j).kind (midK c n j).text ((midK c n j).kids.set j (canK c n.kids[j])) (midK c n j).from' (midK c n j).till)=midK c n (j+1):=by
 unfold midK
 show Nd.mk _ _ (((n.kids.take j).map (canK c)++n.kids.drop j).set j (canK c n.kids[j])) _ _=_
 rw [List.set_append_right _ _ (by simp;omega),List.length_map,List.length_take,Nat.min_eq_left (Nat.le_of_lt hj),Nat.sub_self,List.drop_eq_getElem_cons hj,List.set_cons_zero,List.take_succ_eq_append_getElem hj,List.map_append,List.append_assoc]
 rfl
theorem bm5 (c:Bool) (n:Nd):midK c n 0=n:=by cases n;rfl
theorem bv8 (c:Bool) (n:Nd):midK c n n.kids.length= .mk n.kind n.text (n.kids.map (canK c)) n.from' n.till:=by
 unfold midK
 rw [List.take_length,List.drop_length,List.append_nil]
section
variable {w w1 w2 w':World} {F:Nat→Prop} {g o:Nat} {n m m':Nd}
theorem Md.kidK {c:Bool} {B j:Nat} (h:Md w F g o w1 (midK c n j)) (hj:j<n.kids.length) (hg: ¬F g) (hlt:g<w.heap.size) (hF: ∀x,F x→B≤x) (hB:B≤w.heap.size):
  ∃(g2:Nat) (F2:Nat→Prop) (cap:Nat),w1.cell? ⟨g,o+2,none⟩=some (.slice (some ⟨g2,0,none⟩) n.kids.length cap)∧¬F2 g2∧(∀x,F2 x→B≤x∧x<w1.heap.size)∧B≤g2∧g2<w1.heap.size∧SpC w1 n.kids[j] g2 (j*5) F2∧
   ∀w2,Md w1 F2 g2 (j*5) w2 (canK c n.kids[j])→Md w F g o w2 (midK c n (j+1)):=by
 obtain⟨F',h2,h3,h4,h5,h6⟩:=h.at' hg hlt hF hB
 have hj':j<(midK c n j).kids.length:=by rw [aL4 c n j (Nat.le_of_lt hj)];exact hj
 obtain⟨g2,F2,cap,k1,k2,k3,k4,k5,k6⟩:=h2.kid h3 (fun x hx=>(h4 x hx).2) j hj'
 rw [aL4 c n j (Nat.le_of_lt hj)] at k1
 rw [bv9 c n j hj hj'] at k5
 refine⟨g2,F2,cap,k1,k3,fun x hx=>h4 x (k4 x hx),(h4 g2 k2).1,(h4 g2 k2).2,k5,fun w2 ⟨F3,a1,a2,a3⟩=>h6 ?_⟩
 obtain⟨b1,b2⟩:=k6 w2 _ F3 a1 a2 a3
 rw [bw0 c n j hj] at b2
 exact⟨_,b1,b2,fun x hx=>⟨hx.imp id (fun h=>h.1),by rcases hx with hx|hx;exact Nat.lt_of_lt_of_le (h4 x hx).2 a1.size;exact hx.2⟩⟩
end
end
section
open Go.RowKit
theorem aL2 {k:Int} {t:ByteArray} (h:k≠13∧k≠44∧k≠15):aH1 k t=false:=by
 unfold aH1
 rw [decide_eq_false (by omega),decide_eq_false h.2.2]
 rfl
theorem bw9 {t:ByteArray} (h:(nmT t).size≤1048576):okD (.mk 1 (nmT t) [] 0 0)=true:=by
 rw [okD,okDs]
 unfold okKk okT okPk aH1
 rw [decide_eq_true h]
 rfl
theorem be4 (w0:World) (hx:Lx w0): ∀(z:Nat) (n:Nd),aa4 n≤z→okD n=true→∀(g o:Nat) (F:Nat→Prop) (w:World) (c:Bool),SpC w n g o F→¬F g→(∀x,F x→w0.heap.size≤x∧x<w.heap.size)→w0.heap.size≤g→g<w.heap.size→Below w0.heap.size w0 w→
  Calls Tryz.prog 21 #[.pointer (some ⟨g,o,none⟩),.bool c] w fun e w'=>e= .returned (.tuple #[])∧Md w F g o w' (canK c n):=by
 intro z
 induction z with
 |zero=>
  intro n hz
  rw [ac6] at hz
  omega
 |succ z ih=>
  intro n hz hok g o F w c hs hg hF hgb hgl hbw
  rw [bn3,Bool.and_eq_true,Bool.and_eq_true,Bool.and_eq_true,Bool.and_eq_true,decide_eq_true_eq,List.all_eq_true] at hok
  obtain⟨⟨⟨⟨hk,ht⟩,hl⟩,hpk⟩,hkids⟩:=hok
  have HIH:=hJ ih
  have HKS:=hJ (show∀k ∈ (swK c n).kids,aa4 k≤z∧okD k=true from fun k hk=>by
   rw [ac6] at hz
   have key: ∀x ∈ n.kids,aa4 x≤z∧okD x=true:=fun x hx=>⟨by have:=aj5 hx;omega,hkids x hx⟩
   change k ∈ drpK c n.kind n.text n.kids at hk
   unfold drpK at hk
   split at hk
   ·exact key k (List.mem_filter.1 hk).1
   ·split at hk
    ·rename_i hkey
     cases hks:n.kids with
     |nil=>rw [hks] at hk;cases hk
     |cons x xs=>
      have hkz:ba1 (x::xs)=true:=by
       have h:=hpk
       unfold okPk at h
       rw [hkey,hks] at h
       exact h
      rw [hks] at hk key
      rcases List.mem_cons.1 hk with rfl|hk
      ·have h1:=key x (.head _)
       unfold keyK
       split
       ·rename_i ht
        have h4:x.kind=4:=by
         unfold bh3 at ht
         simp only [Bool.and_eq_true,decide_eq_true_eq] at ht
         exact ht.1.1
        have h2:=ac6 x
        rw [aD5] at hkz
        rw [decide_eq_true h4] at hkz
        simp only [Bool.not_true,Bool.false_or,Bool.and_eq_true,decide_eq_true_eq] at hkz
        exact⟨by show 1+0≤z;omega,bw9 hkz.1⟩
       ·exact h1
      ·exact key k (.tail _ hk)
    ·exact key k hk)
  have HPK:=hJ hpk
  have HKO:=hJ hkids
  have HS:=hJ hs
  have HX:=hJ hx
  clear ih hkids hs hx hpk hz
  go_enter Tryz.func21,Tryz.ntmps21
  go_upto_if 8 with fail
  go_cut [4] (fun b wx=>b= .string (butK c 0)∧w=wx)
  case first=>
   cases c
   all_goals
    go_wp2_with fail
    go_meet
    exact⟨rfl,rfl⟩
  case rest=>
   obtain⟨rfl,hcut⟩:=hcut
   subst hcut
   obtain⟨b,cap,d0,d1,d2,d3,d4,f0,f1,f2,f3,f4,hcap,_⟩:=HS.out.facts
   obtain⟨K,hK⟩: ∃K,n.kind=K:=⟨_,rfl⟩
   obtain⟨T,hT⟩: ∃T,n.text=T:=⟨_,rfl⟩
   rw [hK] at d0 hk ht
   rw [hT] at d1 ht
   have HK:=hJ hK
   have HT:=hJ hT
   have HM0:=hJ (Md.refl HS.out (fun x hx=>(hF x hx).2))
   have HXW:=hJ (HX.out.bel hbw)
   have HOK:=hJ hk
   have HOT:=hJ ht
   clear hK hT hk ht
   go_upto_block 0 with fail
   go_cut [4,5,6] from 13 to 104 (fun _ _ _ wx=>Md w F g o wx (swK c n))
   case first=>
    have hok:=HOK.out
    unfold okKk at hok
    simp only [Bool.and_eq_true,Bool.not_eq_true',decide_eq_false_iff_not] at hok
    obtain⟨n16,n54⟩:=hok
    have hot:=HOT.out
    unfold okT at hot
    rw [Bool.and_eq_true,Bool.and_eq_true,decide_eq_true_eq] at hot
    obtain⟨⟨ht4,ht9⟩,hts⟩:=hot
    have HSW:=hJ (show swK c n= .mk K (canT K T) (drpK c K T n.kids) n.from' n.till by unfold swK;rw [HK.out,HT.out])
    by_cases h9:K=9∨K=51∨K=78
    ·have h13:(13:UInt8) ∉ T.data.toList:=by
      rw [decide_eq_true h9] at ht9
      simp at ht9
      simpa using ht9
     have HRA:=hJ (fun(old:ByteArray) (r:List UInt8) (W:World) (ho:old.data.toList=13::r) (hb:Below w.heap.size w W)=>bF6 T old ⟨#[10]⟩ 13 r W ho h13 hts (HXW.out.max.below hb))
     have HB:=hJ (Below.refl w.heap.size w)
     have HS2:=hJ (show swK c n= .mk n.kind T n.kids n.from' n.till by rw [HSW.out,HK.out];unfold canT drpK;rw [if_neg (by omega),if_neg (by omega),if_neg (by omega),if_neg (by rw [aL2 (by omega)];decide)])
     clear ht4 ht9 h13
     rcases h9 with rfl|rfl|rfl
     all_goals
      go_wp2_with (go_at_call 36;refine(HRA.out _ _ _ rfl HB.out).mono ?_;rintro e w2 ⟨rfl,hb2⟩;replace HB:=hJ (aa0 HB.out hb2);clear hb2;have e1:=(World.cell?_of_block (a:=⟨g,o+1,none⟩) (HB.out.block g hgl)).trans d1;have f11:=(World.frozen?_of_block (a:=⟨g,o+1,none⟩) (HB.out.block g hgl)).trans f1)
      go_meet
      rw [HS2.out]
      exact(HM0.out.bel hgl HB.out).text hg hgl T
    by_cases h4:K=4
    ·have hsm:(am7 T).isSome=true:=by
      rw [decide_eq_true h4] at ht4
      simpa using ht4
     have HS2:=hJ (show swK c n= .mk n.kind (bq2 T) n.kids n.from' n.till by rw [HSW.out,HK.out];unfold canT drpK;rw [if_pos h4,if_neg (by omega),if_neg (by rw [aL2 (by omega)];decide)])
     have HC:=hJ (bj2 T w hts hsm HXW.out)
     clear ht4 ht9 hsm h9
     subst h4
     go_wp2_with (go_at_call 37;refine HC.out.mono ?_;rintro e w2 ⟨rfl,hb2⟩;have HB:=hJ hb2;clear hb2;have e1:=(World.cell?_of_block (a:=⟨g,o+1,none⟩) (HB.out.block g hgl)).trans d1;have f11:=(World.frozen?_of_block (a:=⟨g,o+1,none⟩) (HB.out.block g hgl)).trans f1)
     go_meet
     rw [HS2.out]
     exact(HM0.out.bel hgl HB.out).text hg hgl _
    by_cases h3:K=3
    ·have HS2:=hJ (show swK c n= .mk n.kind (numC T) n.kids n.from' n.till by rw [HSW.out,HK.out];unfold canT drpK;rw [if_neg h4,if_pos h3,if_neg (by omega),if_neg (by rw [aL2 (by omega)];decide)])
     have HC:=hJ (bi8 T w (by omega) HXW.out.max)
     clear ht4 ht9 h9 h4
     subst h3
     by_cases hc:(az7 T).2=0
     ·have HN:=hJ (show numC T=⟨(az7 T).1.toArray⟩ by unfold numC;rw [if_pos hc])
      rw [hc] at HC
      clear hc
      go_wp2_with (go_at_call 38;refine HC.out.mono ?_;rintro e w2 ⟨rfl,hb2⟩;have HB:=hJ hb2;clear hb2;have e1:=(World.cell?_of_block (a:=⟨g,o+1,none⟩) (HB.out.block g hgl)).trans d1;have f11:=(World.frozen?_of_block (a:=⟨g,o+1,none⟩) (HB.out.block g hgl)).trans f1)
      go_meet
      rw [HS2.out,HN.out]
      exact(HM0.out.bel hgl HB.out).text hg hgl _
     ·have HN:=hJ (show numC T=T by unfold numC;rw [if_neg hc])
      have hcb:((az7 T).2==0)=false:=by rw [beq_eq_false_iff_ne];exact hc
      clear hc
      go_wp2_with (go_at_call 38;refine HC.out.mono ?_;rintro e w2 ⟨rfl,hb2⟩;have HB:=hJ hb2;clear hb2)
      go_meet
      rw [HS2.out,HN.out,←HT.out,bm7]
      exact HM0.out.bel hgl HB.out
    by_cases h86:K=86∨K=58
    ·have HS2:=hJ (show swK c n= .mk n.kind n.text (n.kids.filter aG8) n.from' n.till by rw [HSW.out,HK.out,HT.out];unfold canT drpK;rw [if_neg h4,if_neg h3,if_pos h86])
     have HC:=hJ (ba0 40 aG8 (fun _ _=>by kernel_rfl) bm2 n g o F w HS.out hg (fun x hx=>(hF x hx).2) hgl hl)
     clear ht4 ht9 h9 h4 h3
     rcases h86 with rfl|rfl
     all_goals
      go_wp2_with (go_at_call 39;refine HC.out.mono ?_;rintro e w2 ⟨rfl,hkp,hsp⟩)
      go_meet
      rw [HS2.out]
      exact⟨_,hkp,hsp,fun x hx=>⟨hx.imp id (fun h=>h.1),by rcases hx with hx|hx;exact Nat.lt_of_lt_of_le (hF x hx).2 hkp.size;exact hx.2⟩⟩
    by_cases hkey:aH1 K T=true
    ·have hkk:ba1 n.kids=true:=by
      have hpk:=HPK.out
      rw [HK.out,HT.out] at hpk
      unfold okPk at hpk
      rw [hkey] at hpk
      exact hpk
     obtain⟨k0,ks0,hks⟩: ∃k0 ks0,n.kids=k0::ks0:=by
      cases hks:n.kids with
      |nil=>rw [hks] at hkk;cases hkk
      |cons a l=>exact⟨a,l,rfl⟩
     rw [hks] at hkk
     have hk4:k0.kind=4→∃vs,am7 k0.text=some vs∧∀v ∈ vs,v<55296:=fun h=>by
      have hkk2:=hkk
      rw [aD5] at hkk2
      rw [decide_eq_true h] at hkk2
      simp only [Bool.not_true,Bool.false_or,Bool.and_eq_true] at hkk2
      replace hkk2:=hkk2.2
      cases hu:am7 k0.text with
      |none=>rw [hu] at hkk2;cases hkk2
      |some vs=>
       rw [hu] at hkk2
       exact⟨vs,rfl,fun v hv=>of_decide_eq_true (List.all_eq_true.1 hkk2 v hv)⟩
     have hkt:k0.text.size≤1048576:=by
      have h1:=HKO.out k0 (by rw [hks];exact .head _)
      rw [bn3,Bool.and_eq_true,Bool.and_eq_true,Bool.and_eq_true,Bool.and_eq_true] at h1
      have h2:=h1.1.1.1.2
      unfold okT at h2
      rw [Bool.and_eq_true,decide_eq_true_eq] at h2
      exact h2.2
     have HS2:=hJ (show swK c n= .mk n.kind n.text (n.kids.set 0 (keyK (butK c K) k0)) n.from' n.till by rw [HSW.out,HK.out,HT.out];unfold canT drpK;rw [if_neg h4,if_neg h3,if_neg h86,if_pos hkey,hks];rfl)
     obtain⟨g2,F2,cap2,k1,k2,k3,k5,k6,k7⟩:=HS.out.kid hg (fun x hx=>(hF x hx).2) 0 (by rw [hks];simp)
     have ek0:n.kids[0]'(by rw [hks];simp)=k0:=by simp [hks]
     rw [ek0] at k6
     have hl1:n.kids.length=ks0.length+1:=by rw [hks];rfl
     rw [hl1] at k1
     have hcp:ks0.length+1≤cap2:=by rw [k1] at d2;injection d2 with d2;injection d2 with _ _ d2;omega
     have hll:ks0.length+1≤4194304:=by omega
     have hl0:0<ks0.length+1:=by omega
     clear d2
     generalize ks0.length+1=L at*
     have HKY:=hJ (fun but=>bt5 k0 g2 (0*5) F2 w k6 (hF g2 k2).2 (fun x hx=>(hF x (k5 x hx)).2) but hk4 hkt HXW.out)
     have HK7:=hJ k7
     have hkc:(K=13∧T=⟨#[]⟩)∨(K=44∧T=⟨#[]⟩)∨K=15:=by
      have h:=hkey
      unfold aH1 at h
      simp only [Bool.or_eq_true,Bool.and_eq_true,decide_eq_true_eq] at h
      rcases h with ⟨h|h,h2⟩|h
      ·exact .inl ⟨h,h2⟩
      ·exact .inr (.inl ⟨h,h2⟩)
      ·exact .inr (.inr h)
     clear ht4 ht9 h9 h4 h3 h86 hkk hk4 hks ek0 hl1 k2 k3 k5 k6 k7 hkey hkt
     rcases hkc with ⟨h1,h2⟩|⟨h1,h2⟩|h1
     ·subst h2
      subst h1
      go_wp2_with (go_at_call 35;refine(HKY.out _).mono ?_;rintro e w2 ⟨rfl,F3,a1,a2,a3⟩)
      go_meet
      rw [HS2.out]
      obtain⟨q1,q2⟩:=HK7.out w2 _ F3 a1 a2 a3
      exact⟨_,q1,q2,fun x hx=>⟨hx.imp id (fun h=>h.1),by rcases hx with hx|hx;exact Nat.lt_of_lt_of_le (hF x hx).2 a1.size;exact hx.2⟩⟩
     ·subst h2
      subst h1
      go_wp2_with (go_at_call 35;refine(HKY.out _).mono ?_;rintro e w2 ⟨rfl,F3,a1,a2,a3⟩)
      go_meet
      rw [HS2.out]
      obtain⟨q1,q2⟩:=HK7.out w2 _ F3 a1 a2 a3
      exact⟨_,q1,q2,fun x hx=>⟨hx.imp id (fun h=>h.1),by rcases hx with hx|hx;exact Nat.lt_of_lt_of_le (hF x hx).2 a1.size;exact hx.2⟩⟩
     ·subst h1
      go_wp2_with (go_at_call 35;refine(HKY.out _).mono ?_;rintro e w2 ⟨rfl,F3,a1,a2,a3⟩)
      go_meet
      rw [HS2.out]
      obtain⟨q1,q2⟩:=HK7.out w2 _ F3 a1 a2 a3
      exact⟨_,q1,q2,fun x hx=>⟨hx.imp id (fun h=>h.1),by rcases hx with hx|hx;exact Nat.lt_of_lt_of_le (hF x hx).2 a1.size;exact hx.2⟩⟩
    ·have HS2:=hJ (show swK c n=n by rw [HSW.out];unfold canT drpK;rw [if_neg h4,if_neg h3,if_neg h86,if_neg hkey,←HK.out,←HT.out,bm7])
     have hno:K≠15∧((K=13∨K=44)→T≠⟨#[]⟩):=by
      refine⟨fun h=>hkey ?_,fun h h2=>hkey ?_⟩
      ·unfold aH1;rw [decide_eq_true h];simp
      ·unfold aH1;rw [decide_eq_true h,decide_eq_true h2];rfl
     obtain⟨n15,hT0⟩:=hno
     by_cases n13:K=13
     ·have htw:=tne (hT0 (.inl n13))
      clear ht4 ht9 h9 h4 h3 h86 n16 n54 hkey hT0 n15
      subst n13
      go_wp2_with fail
      go_meet
      rw [HS2.out]
      exact HM0.out
     by_cases n44:K=44
     ·have htw:=tne (hT0 (.inr n44))
      clear ht4 ht9 h9 h4 h3 h86 n16 n54 hkey hT0 n15 n13
      subst n44
      go_wp2_with fail
      all_goals
       go_meet
       rw [HS2.out]
       exact HM0.out
     have b1:(K==13)=false:=beq_eq_false_iff_ne.2 n13
     have b2:(K==44)=false:=beq_eq_false_iff_ne.2 n44
     have b3:(K==15)=false:=beq_eq_false_iff_ne.2 n15
     have b5:(K==54)=false:=beq_eq_false_iff_ne.2 n54
     have b4:(K==16)=false:=beq_eq_false_iff_ne.2 n16
     have b6:(K==9)=false:=beq_eq_false_iff_ne.2 (by omega)
     have b7:(K==51)=false:=beq_eq_false_iff_ne.2 (by omega)
     have b8:(K==78)=false:=beq_eq_false_iff_ne.2 (by omega)
     have b9:(K==4)=false:=beq_eq_false_iff_ne.2 h4
     have b10:(K==3)=false:=beq_eq_false_iff_ne.2 h3
     have b11:(K==86)=false:=beq_eq_false_iff_ne.2 (by omega)
     have b12:(K==58)=false:=beq_eq_false_iff_ne.2 (by omega)
     clear ht4 ht9 h9 h4 h3 h86 n13 n15 n16 n44 n54 hkey hT0
     go_wp2_with fail
     go_meet
     rw [HS2.out]
     exact HM0.out
   case rest=>
    have HC0:=hJ hcut
    obtain⟨m,hm⟩: ∃m,(swK c n).kids.length=m:=⟨_,rfl⟩
    have hml:m≤4194304:=by
     rw [←hm]
     refine Nat.le_trans ?_ hl
     show(drpK c n.kind n.text n.kids).length≤_
     unfold drpK
     split
     ·exact List.length_filter_le _ _
     ·split
      ·cases n.kids<;>exact Nat.le_refl _
      ·exact Nat.le_refl _
    have HMM:=hJ hm
    have HEQ:=hJ (show canK c n= .mk (swK c n).kind (swK c n).text ((swK c n).kids.map (canK (n.kind==25))) (swK c n).from' (swK c n).till from bB6 c n)
    have HKD:=hJ (show(swK c n).kind=K from HK.out)
    rw [HK.out] at HEQ
    clear d0 d1 d2 d3 d4 f0 f1 f2 f3 f4 HM0 HXW HOK HOT HT HK HS hcut hm HKO HPK
    generalize swK c n=n1 at*
    obtain⟨cl,hcl⟩: ∃cl,(K==25)=cl:=⟨_,rfl⟩
    rw [hcl] at HEQ
    have HCL:=hJ hcl
    clear hcl
    obtain⟨F1,hs1,_,_,_,_⟩:=HC0.out.at' hg hgl (fun x hx=>(hF x hx).1) (Nat.le_trans hgb (Nat.le_of_lt hgl))
    obtain⟨b1,cap1,_,_,e2,_,_,_,_,_,_,_,hcap1,_⟩:=hs1.facts
    rw [HMM.out] at e2
    clear hs1
    go_wp2_with fail
    go_loopw [7,110] (fun _ i wr=> ∃j:Nat,j≤m∧i= .int .i64 (j:Nat)∧Md w F g o wr (midK cl n1 j)) (fun _ i _=>m - (intOf i).toNat)
    case atStart=>exact⟨0,Nat.zero_le _,rfl,by rw [bm5];exact HC0.out⟩
    case round=>
     clear HC0 e2
     obtain⟨j,hj,rfl,hmd⟩:=hrel
     have HMD:=hJ hmd
     by_cases hjm:j<m
     ·have hj':j<n1.kids.length:=by rw [HMM.out];exact hjm
      obtain⟨g2,F2,cap2,k1,k2,k3,k4,k5,k6,k7⟩:=hmd.kidK hj' hg hgl (fun x hx=>(hF x hx).1) (Nat.le_trans hgb (Nat.le_of_lt hgl))
      obtain⟨F3,hs3,_,_,_,_⟩:=hmd.at' hg hgl (fun x hx=>(hF x hx).1) (Nat.le_trans hgb (Nat.le_of_lt hgl))
      have d0:wr.cell? ⟨g,o,none⟩=some (.int .i64 K):=by
       obtain⟨_,_,h,_⟩:=hs3.facts
       rw [←HKD.out]
       exact h
      have hcl:m≤cap2:=by
       obtain⟨_,cap,_,_,h,_,_,_,_,_,_,_,hc,_⟩:=hs3.facts
       rw [k1] at h
       injection h with h
       injection h with _ _ h
       rw [aL4 cl n1 j (Nat.le_of_lt hj'),HMM.out] at hc
       omega
      rw [HMM.out] at k1
      have HCALL:=hJ (fun(W:World) (hb:Below wr.heap.size wr W)=>show Calls Tryz.prog 21 #[.pointer (some ⟨g2,j*5,none⟩),.bool cl] W fun e w2=>e= .returned (.tuple #[])∧Md w F g o w2 (midK cl n1 (j+1)) from by
       have hgw:g<wr.heap.size:=by
        obtain⟨_,h,_⟩:=hmd
        exact Nat.lt_of_lt_of_le hgl h.size
       have hmW:=hmd.bel hgl hb
       obtain⟨g3,F4,cap4,q1,q2,q3,q4,q5,q6,q7⟩:=hmW.kidK hj' hg hgl (fun x hx=>(hF x hx).1) (Nat.le_trans hgb (Nat.le_of_lt hgl))
       rw [World.cell?_of_block (hb.block g hgw),k1] at q1
       obtain rfl:g2=g3:=by
        injection q1 with q1
        injection q1 with q1
        injection q1 with q1
        injection q1
       refine(HIH.out _ (HKS.out _ (List.getElem_mem hj')).1 (HKS.out _ (List.getElem_mem hj')).2 g2 (j*5) F4 W cl q6 q2 q3 q4 q5 (hbw.trans (hmW.below hgb (fun x hx=>(hF x hx).1) (Nat.le_trans hgb (Nat.le_of_lt hgl))))).mono ?_
       rintro e w2 ⟨rfl,h⟩
       exact⟨rfl,q7 w2 h⟩)
      clear k2 k3 k4 k5 k6 k7 hs3 hmd
      have hclw:=HCL.out
      go_upto_region 30 with fail
      go_region_law (go_simp;(with_reducible refine(HCALL.out _ (Below.drew (Below.refl _ _))).mono ?_);rintro e w2 ⟨rfl,hmd2⟩)
      all_goals
       go_wp2_with fail
       go_roundw
       case rel=>exact⟨j+1,hjm,by go_num,hmd2⟩
       case measure=>simp [intOf];omega
     ·have hjm2:j=m:=by omega
      subst hjm2
      have e:midK cl n1 j=canK c n:=by rw [HEQ.out,←HMM.out,bv8]
      rw [e] at hmd
      obtain⟨F3,hs3,hg3,hF3,hgl3,hnx⟩:=hmd.at' hg hgl (fun x hx=>(hF x hx).1) (Nat.le_trans hgb (Nat.le_of_lt hgl))
      have hkl:(canK c n).kids.length≤4194304:=by
       rw [HEQ.out]
       show(n1.kids.map (canK cl)).length≤_
       rw [List.length_map,HMM.out]
       exact hml
      have hfil:(canK c n).kids.filter bp4=(canK c n).kids:=by
       rw [List.filter_eq_self]
       intro k hk
       rw [HEQ.out] at hk
       obtain⟨k0,hk0,rfl⟩:=List.mem_map.1 hk
       have h1:=(HKS.out k0 hk0).2
       rw [bn3,Bool.and_eq_true,Bool.and_eq_true,Bool.and_eq_true,Bool.and_eq_true] at h1
       have h2:=h1.1.1.1.1
       unfold okKk at h2
       simp only [Bool.and_eq_true,Bool.not_eq_true',decide_eq_false_iff_not] at h2
       unfold bp4
       rw [aM8]
       simp [h2.2]
      have HC:=hJ (ba0 42 bp4 (fun _ _=>by kernel_rfl) bm3 (canK c n) g o F3 wr hs3 hg3 (fun x hx=>(hF3 x hx).2) hgl3 hkl)
      rw [hfil,bm7] at HC
      clear hs3 hmd HMD e hkl hfil
      go_wp2_with (go_at_call 39;refine HC.out.mono ?_;rintro e w2 ⟨rfl,hkp,hsp⟩)
      go_end0
      exact⟨rfl,hnx ⟨_,hkp,hsp,fun x hx=>⟨hx.imp id (fun h=>h.1),by rcases hx with hx|hx;exact Nat.lt_of_lt_of_le (hF3 x hx).2 hkp.size;exact hx.2⟩⟩⟩
theorem bm4 (w0:World) (hx:Lx w0) (n:Nd) (hok:okD n=true) (g o:Nat) (F:Nat→Prop) (w:World) (c:Bool) (hs:SpC w n g o F) (hg: ¬F g) (hF: ∀x,F x→w0.heap.size≤x∧x<w.heap.size) (hgb:w0.heap.size≤g) (hgl:g<w.heap.size) (hb:Below w0.heap.size w0 w):
  Calls Tryz.prog 21 #[.pointer (some ⟨g,o,none⟩),.bool c] w fun e w'=>e= .returned (.tuple #[])∧Md w F g o w' (canK c n):=be4 w0 hx _ n (Nat.le_refl _) hok g o F w c hs hg hF hgb hgl hb
end
section
open Go.RowKit
theorem aH2 (n:Nd) (v:Value) (w:World) (L B:Nat) (hv:NdV w L B n v) (hB:B≤w.heap.size) (hsz:aa4 n≤4194304) (hok:okD (aq0 n)=true) (hx:Lx w):
  Calls Tryz.prog 12 #[v] w fun e w'=> ∃u,e= .returned u∧NdV w' w.heap.size w'.heap.size (canK false (aq0 n)) u∧Below w.heap.size w w':=by
 obtain⟨b,cap,rfl,hcap,hrow⟩:=hv
 obtain⟨m,hm⟩: ∃m,aq0 n=m:=⟨_,rfl⟩
 rw [hm] at hok⊢
 obtain⟨k,hk⟩: ∃k,canK false m=k:=⟨_,rfl⟩
 rw [hk]
 unfold aa7 at*
 have hba:=(ac0 w (.cells #[.int .i64 n.kind,.string n.text,.slice b n.kids.length cap,.int .i64 n.from',.int .i64 n.till] 27)).alloc (by simp) (.cells #[.int .i64 0,.string ⟨#[]⟩,.slice none 0 0,.int .i64 0,.int .i64 0] 27)
 have hbx:=(aq5 w n b cap).bel (ac0 _ (.cells #[.int .i64 0,.string ⟨#[]⟩,.slice none 0 0,.int .i64 0,.int .i64 0] 27)) (by simp)
 have hbq:aa6 ((w.alloc (.cells #[.int .i64 n.kind,.string n.text,.slice b n.kids.length cap,.int .i64 n.from',.int .i64 n.till] 27)).alloc (.cells #[.int .i64 0,.string ⟨#[]⟩,.slice none 0 0,.int .i64 0,.int .i64 0] 27)) (w.heap.size+1) 0 ⟨#[]⟩ (.slice none 0 0) 0 0:=by
  have:=heap_alloc_new (w.alloc (.cells #[.int .i64 n.kind,.string n.text,.slice b n.kids.length cap,.int .i64 n.from',.int .i64 n.till] 27)) (.cells #[.int .i64 0,.string ⟨#[]⟩,.slice none 0 0,.int .i64 0,.int .i64 0] 27)
  rw [World.size_alloc] at this
  exact this
 have HR:=hJ hrow
 have HX:=hJ hx
 clear hrow hx
 go_enter Tryz.func12,Tryz.ntmps12
 go_upto_region 1 with fail
 generalize World.alloc (World.alloc w _) _=w1 at*
 have HB:=hJ hba
 have HQ:=hJ hbq
 have hsz1:=hba.size
 have hN:=bh7 n (.agg #[.int .i64 n.kind,.string n.text,.slice b n.kids.length cap,.int .i64 n.from',.int .i64 n.till]) w1 L B ⟨b,cap,rfl,hcap,ad5 HR.out (hba.mono hB)⟩ (Nat.le_trans hB hsz1) hsz
 rw [hm] at hN
 have HN:=hJ hN
 clear hN hm
 obtain⟨z0,z1,z2,z3,z4,_⟩:=hbx.facts
 go_upto_region 2 with (go_at_call 20;refine HN.out.mono ?_;rintro e w2 ⟨u,rfl,hu,hb2⟩;have HB2:=hJ hb2;have HU:=hJ hu;obtain⟨b4,cap4,rfl,_⟩:=hu;unfold aa7 at*)
 clear hba hbx hbq z0 z1 z2 z3 z4
 obtain⟨b5,cap5,e5,hc5,hx5⟩:=HU.out
 unfold aa7 at e5
 obtain⟨rfl,rfl⟩:b4=b5∧cap4=cap5:=by
  injection e5 with e5
  injection e5 with e5
  simp at e5
  exact e5
 have hal:=ac0 w2 (.cells #[.int .i64 m.kind,.string m.text,.slice b4 m.kids.length cap4,.int .i64 m.from',.int .i64 m.till] 27)
 have hsp:SpC (w2.alloc (.cells #[.int .i64 m.kind,.string m.text,.slice b4 m.kids.length cap4,.int .i64 m.from',.int .i64 m.till] 27)) m w2.heap.size 0 (fun y=>w1.heap.size≤y∧y<w2.heap.size):=
  SpC.box (heap_alloc_new _ _) hc5 (as3 (fun x hx=>hal.block x hx.2) (fun _ h=>h) hx5)
 have hb3:=aa0 (aa0 HB.out HB2.out) hal
 have HQ3:=hJ ((HQ.out.bel HB2.out).bel hal)
 have hsz2:=HB2.out.size
 have hsa:(w2.alloc (.cells #[.int .i64 m.kind,.string m.text,.slice b4 m.kids.length cap4,.int .i64 m.from',.int .i64 m.till] 27)).heap.size=w2.heap.size+1:=World.size_alloc _ _
 generalize w2.alloc (.cells #[.int .i64 m.kind,.string m.text,.slice b4 m.kids.length cap4,.int .i64 m.from',.int .i64 m.till] 27)=w3 at*
 have HB3:=hJ hb3
 have hMC:=bm4 w HX.out m hok w2.heap.size 0 _ w3 false hsp (fun h=>by omega) (fun x hx=>⟨by omega,by omega⟩) (by omega) (by omega) hb3
 rw [hk] at hMC
 have HMC:=hJ hMC
 clear hMC hk
 clear hal hb3 hsp e5 hx5 HU HN
 go_upto_region 3 with (go_at_call 21;refine HMC.out.mono ?_;rintro e w4 ⟨rfl,hmd⟩)
 obtain⟨F',hkp,hs4,hf4⟩:=hmd
 have hql:=HQ.out.lt
 have hq4:aa6 w4 (w.heap.size+1) 0 ⟨#[]⟩ (.slice none 0 0) 0 0:=(hkp.blk (w.heap.size+1) HQ3.out.lt (by omega) (fun h=>by omega)).trans HQ3.out
 have HB4:=hJ (HB3.out.trans (hkp.below (B:=w.heap.size) (by omega) (fun x hx=>by omega) (by omega)))
 have hkz:=hkp.size
 obtain⟨b6,cap6,c0,c1,c2,c3,c4,_,_,_,_,_,hc6,hx6⟩:=hs4.facts
 have HQ4:=hJ hq4
 have HX6:=hJ hx6
 obtain⟨x0,x1,x2,x3,x4,y0,y1,y2,y3,y4⟩:=aa6.facts hq4
 simp only [Nat.zero_add] at c0 c1 c2 c3 c4
 clear hq4 hx6 hs4 HMC
 go_wp2_with fail
 refine bodyPost_ret (results_nd rfl _ _ (w.heap.size+1) rfl HQ4.out.lay) rfl ?_
 refine⟨_,rfl,⟨b6,cap6,rfl,hc6,SpX.row (F:=F') (fun x hx=> ?_) (as3 (fun x hx=>ad6 _ _ _ _ _ _ _ _ ?_) (fun _ h=>h) HX6.out)⟩,lay5_bel HB4.out (by omega) _ _ _ _ _⟩
 ·obtain⟨h1,h2⟩:=hf4 x hx
  simp only [World.size_setCell]
  omega
 ·obtain⟨h1,h2⟩:=hf4 x hx
  omega
end
end Go.Proofs.YtnobjeelihkjmaaGreatDoor
