/- Steps (Cu Cx). Conditions: as stated. -/
import Derived.Test.YtnobjeelihkjmaaGreatDoorZk03
set_option maxHeartbeats 4000000
set_option maxRecDepth 20000
namespace Go.Proofs.YtnobjeelihkjmaaGreatDoor
section
open Go.RowKit
def hexV (X:Nat):List UInt8→Nat
 | []=>X
 |c::l=>hexV (X*16+(hexD c).toNat) l
inductive LitV (q:UInt8):List UInt8→List Nat→Prop
 |done:LitV q [q] []
 |chr (l:List UInt8) (r n:Nat) (vs:List Nat):nx l=((r:Int),(n:Int))→1≤n∧n≤4→r≠10→r≠13→r≠92→r<55296→l.head?≠some q→LitV q (l.drop n) vs→LitV q l (r::vs)
 |x (a b:UInt8) (l:List UInt8) (vs:List Nat):0≤hexD a→0≤hexD b→LitV q l vs→LitV q (92::120::a::b::l) (hexV 0 [a,b]::vs)
 |u (a b c d:UInt8) (l:List UInt8) (vs:List Nat):0≤hexD a→0≤hexD b→0≤hexD c→0≤hexD d→LitV q l vs→LitV q (92::117::a::b::c::d::l) (hexV 0 [a,b,c,d]::vs)
theorem LitV.plain {q:UInt8} (c:UInt8) (l:List UInt8) (vs:List Nat) (h1:32≤c.toNat) (h2:c.toNat<127) (h3:c≠q) (h4:c≠92) (h:LitV q l vs):LitV q (c::l) (c.toNat::vs):=
 .chr (c::l) c.toNat 1 vs (ba9 _ _ (by omega)) ⟨by omega,by omega⟩ (by omega) (by omega) (fun e=>h4 (UInt8.toNat.inj (by rw [e];rfl))) (by omega) (fun e=>h3 (by injection e)) h
theorem LitV.ne {q:UInt8} {l:List UInt8} {vs:List Nat} (h:LitV q l vs):l≠ []:=by
 cases h with
 |chr l r n vs h1 h2 h3 h4=>
  rintro rfl
  have h5:nx []=(65533,0):=by decide
  rw [h5] at h1
  injection h1 with _ h1
  omega
 |_=>simp
theorem LitV.step {q:UInt8} {l:List UInt8} {vs:List Nat} (h:LitV q l vs):(l= [q]∧vs= [])∨(∃(r n:Nat) (v':List Nat),vs=r::v'∧nx l=((r:Int),(n:Int))∧(1≤n∧n≤4)∧r≠10∧r≠13∧r≠92∧r<55296∧l.head?≠some q∧LitV q (l.drop n) v')∨
  ∃b a l' v',(b=120∧a.length=2∨b=117∧a.length=4)∧l=92::b::(a++l')∧vs=hexV 0 a::v'∧(∀c ∈ a,0≤hexD c)∧LitV q l' v':=by
 rcases h with _|⟨l,r,n,v,h1,h2,h3,h4,h5,h6,h7,h8⟩|⟨a,b,l,v,h1,h2,h3⟩|⟨a,b,c,d,l,v,h1,h2,h3,h4,h5⟩
 ·exact .inl ⟨rfl,rfl⟩
 ·exact .inr (.inl ⟨r,n,v,rfl,h1,h2,h3,h4,h5,h6,h7,h8⟩)
 ·exact .inr (.inr ⟨120,[a,b],l,v,.inl ⟨rfl,rfl⟩,rfl,rfl,by simp [h1,h2],h3⟩)
 ·exact .inr (.inr ⟨117,[a,b,c,d],l,v,.inr ⟨rfl,rfl⟩,rfl,rfl,by simp [h1,h2,h3,h4],h5⟩)
theorem aD1 {s:ByteArray} {k:Nat} {c:UInt8} {l:List UInt8} (h:s.data.toList.drop k=c::l): ∃hk:k<s.size,s[k]=c∧s.data.toList.drop (k+1)=l:=by
 have hk:k<s.size:=by
  have:=congrArg List.length h
  rw [List.length_drop,ofl,List.length_cons] at this
  omega
 refine⟨hk,?_⟩
 rw [ac5 s k hk] at h
 injection h with h1 h2
 exact⟨h1,h2⟩
theorem bk5: ∀(l:List UInt8) (X j:Nat),X<16 ^ j→hexV X l<16 ^ (j+l.length)
 | [],X,j,h=>h
 |c::l,X,j,h=>by
  have h1:=aL0 c
  have h2:=bk5 l (X*16+(hexD c).toNat) (j+1) (by rw [Nat.pow_succ];omega)
  rw [hexV,List.length_cons,show j+(l.length+1)=j+1+l.length by omega]
  exact h2
theorem aS4 (s:ByteArray) (p:Nat) (a l:List UInt8) (w:World) (hs:s.size≤16777216) (hp:p≤s.size) (hm:a.length≤4) (hd:s.data.toList.drop p=a++l) (ha: ∀c ∈ a,0≤hexD c) (z zm:Int) (hz:z=p) (hzm:zm=a.length):
  Calls Tryz.prog 225 #[.string s,.int .i64 z,.int .i64 zm] w fun e w'=>e= .returned (.tuple #[.int .i64 (hexV 0 a:Nat),.int .i64 ((p+a.length:Nat):Int),.bool true])∧w=w':=by
 subst hz
 subst hzm
 have HA:=hJ ha
 have HD:=hJ hd
 obtain⟨m,hmm⟩: ∃m,a.length=m:=⟨_,rfl⟩
 rw [hmm] at hm⊢
 have HL:=hJ hmm
 obtain⟨V,hV⟩: ∃V,hexV 0 a=V:=⟨_,rfl⟩
 rw [hV]
 have HV:=hJ hV
 clear ha hd hmm hV
 go_enter Tryz.func225,Tryz.ntmps225
 go_wp2
 go_loop [1,9,11] (fun y x i=> ∃(j X k:Nat) (b:List UInt8),k=p+j∧j+b.length=m∧k≤s.size∧X<16 ^ j∧y= .int .i64 (k:Nat)∧x= .int .i64 (X:Nat)∧i= .int .i64 (j:Nat)∧hexV X b=V∧s.data.toList.drop k=b++l∧∀c ∈ b,0≤hexD c) (fun _ _ i=>m - (intOf i).toNat)
 case atStart=>exact⟨0,0,p,a,rfl,by have:=HL.out;omega,hp,by decide,rfl,rfl,rfl,HV.out,HD.out,HA.out⟩
 case round=>
  obtain⟨j,X,k,b,hkj,hj,hpj,hX,rfl,rfl,rfl,hV,hD,hA⟩:=hrel
  have hX4:X<65536:=Nat.lt_of_lt_of_le hX (Nat.le_trans (Nat.pow_le_pow_right (by decide) (show j≤4 by omega)) (Nat.le_refl (16 ^ 4)))
  have HX:=hJ hX
  cases b with
  |nil=>
   have hjm:j=m:=by simpa using hj
   subst hjm
   have hVX:X=V:=hV
   subst hVX
   clear hV hD hA hX
   subst hkj
   go_wp2
   go_ret3
   exact⟨rfl,rfl⟩
  |cons c b=>
   rw [List.length_cons] at hj
   have hjm:j<m:=by omega
   obtain⟨hlt,hc,hD2⟩:=aD1 (s:=s) (k:=k) (c:=c) (l:=b++l) hD
   have hH:=fun W=>aM0 s[k] W
   have hle:=aL0 s[k]
   have hd0:0≤hexD s[k]:=by rw [hc];exact hA c (.head _)
   obtain⟨d,hd'⟩: ∃d:Nat,hexD s[k]=d:=⟨_,(Int.toNat_of_nonneg hd0).symm⟩
   have HKJ:=hJ hkj
   have hd16:d<16:=by omega
   have ho:=bE9 X d (by omega) hd16
   have HN:=hJ (show hexV (X*16+d) b=V by rw [←hV,hexV,←hc,hd'];rfl)
   have HA2:=hJ (show∀y ∈ b,0≤hexD y from fun y hy=>hA y (.tail _ hy))
   have HD2:=hJ hD2
   rw [hd'] at hH
   have HH:=hJ hH
   clear hH hle hd' hV hD hA hD2 hX hd0 hc hkj
   go_wp2_with (go_at_call 259;refine(HH.out _).mono ?_;rintro e w' ⟨rfl,rfl⟩)
   go_round
   case rel=>exact⟨j+1,X*16+d,k+1,b,by have:=HKJ.out;omega,by omega,by omega,by have:=HX.out;rw [Nat.pow_succ];omega,by go_num,by first|go_num|(congr 1;omega),by go_num,HN.out,HD2.out,HA2.out⟩
   case measure=>simp [intOf];omega
theorem aS1 {s:ByteArray} {p:Nat} {c:UInt8} {l:List UInt8} (hd:s.data.toList.drop p=c::l) (hc:c.toNat<128):Lib.decodeGo (s.extract p s.size)=(c.toNat,1):=by
 have h:=av4 s p
 rw [hd,ba9 _ _ hc] at h
 split at h
 ·injection h with h1 h2
  omega
 ·injection h with h1 h2
  exact Prod.ext (by simp only;omega) (by simp only;omega)
theorem aS6 (s:ByteArray) (p:Nat) (b:UInt8) (a l:List UInt8) (w:World) (hs:s.size≤16777216) (hb:b=120∧a.length=2∨b=117∧a.length=4) (hd:s.data.toList.drop p=92::b::(a++l)) (ha: ∀c ∈ a,0≤hexD c) (hT:Lib.Utf8Tabs 3 4 w) (z:Int) (hz:z=p):
  Calls Tryz.prog 176 #[.string s,.int .i64 z] w fun e w'=>e= .returned (.tuple #[.int .i64 (hexV 0 a:Nat),.int .i64 ((p+2+a.length:Nat):Int),.bool true])∧Below w.heap.size w w':=by
 subst hz
 obtain⟨hp,hp0,hd1⟩:=aD1 hd
 obtain⟨hp1,hpb,hd2⟩:=aD1 hd1
 have hdr:=Tryz.utf8_DecodeRuneInString (s.extract (p+1) s.size) w hT
 rw [aS1 hd1 (by rcases hb with ⟨rfl,_⟩|⟨rfl,_⟩<;>decide)] at hdr
 have HD:=hJ hdr
 have HG:=hJ (fun W=>aS4 s (p+1+1) a l W hs (by omega) (by omega) hd2 ha _ _ rfl rfl)
 have hne: ∀(h:p+1+1<s.size),a.length=4→s[p+1+1]≠123:=by
  intro h h4 h5
  cases a with
  |nil=>cases h4
  |cons c a=>
   obtain⟨_,h6,_⟩:=aD1 (s:=s) (k:=p+1+1) (c:=c) (l:=a++l) hd2
   have h7:=ha c (.head _)
   rw [←h6,h5] at h7
   exact absurd h7 (by decide)
 have HNE:=hJ hne
 have hl2:p+1+1<s.size:=by
  have h4:=congrArg List.length hd2
  rw [List.length_drop,ofl,List.length_append] at h4
  omega
 clear hdr hne hd hd1 hd2 ha hT hp0 hpb
 rcases hb with ⟨rfl,hl⟩|⟨rfl,hl⟩
 ·rw [hl] at HG⊢
  clear HNE hl
  go_enter Tryz.func176,Tryz.ntmps176
  go_wp2_with (go_at_call 113;refine HD.out.mono ?_;rintro e w1 ⟨rfl,hb1⟩)
  go_wp2_with (go_at_call 225;refine(HG.out _).mono ?_;rintro e w2 ⟨rfl,rfl⟩)
  go_ret3
  exact⟨rfl,hb1⟩
 ·have b1:(((s[p+1+1].toNat:Nat):Int)==123)=false:=ap3 (HNE.out hl2 hl)
  rw [hl] at HG⊢
  clear HNE hl
  go_enter Tryz.func176,Tryz.ntmps176
  go_wp2_with (go_at_call 113;refine HD.out.mono ?_;rintro e w1 ⟨rfl,hb1⟩)
  go_wp2_with (go_at_call 225;refine(HG.out _).mono ?_;rintro e w2 ⟨rfl,rfl⟩)
  go_ret3
  exact⟨rfl,hb1⟩
def ptL (ps:List (Nat × Nat × Bool × Nat)):List Value:=ps.flatMap fun p=>ag8 (p.1:Int) (p.2.1:Int) p.2.2.1 (p.2.2.2:Int)
theorem by1 (ps:List (Nat × Nat × Bool × Nat)) (p:Nat × Nat × Bool × Nat):ptL (ps++ [p])=ptL ps++ag8 (p.1:Int) (p.2.1:Int) p.2.2.1 (p.2.2.2:Int):=by
 unfold ptL
 rw [List.flatMap_append]
 simp
def bc5 (s:ByteArray) (q:UInt8) (vs:List Nat) (w:World) (v a:Value) (wr:World):Prop:=
 ∃(k:Nat) (ps:List (Nat × Nat × Bool × Nat)) (rest:List Nat),1≤k∧k<s.size∧ps.length≤k∧a= .int .i64 (k:Nat)∧Pst w v ps.length (ptL ps) wr∧LitV q (s.data.toList.drop k) rest∧ps.map (·.2.2.2)++rest=vs
structure PvN (s:ByteArray) (q:UInt8) (vs:List Nat) (n j:Nat) (ps:List (Nat × Nat × Bool × Nat)) (p:Nat × Nat × Bool × Nat):Prop where
 len:ps.length=n
 ex: ∃rest,LitV q (s.data.toList.drop j) rest∧ps.map (·.2.2.2)++p.2.2.2::rest=vs
theorem bc5.next {s:ByteArray} {q:UInt8} {vs:List Nat} {w wr:World} {v:Value} {n k j:Nat} {ps:List (Nat × Nat × Bool × Nat)} {p:Nat × Nat × Bool × Nat} {z:Int} (h:PvN s q vs n j ps p) (_hk:1≤k) (hj:k<j) (hn:n≤k) (hp:Pst w v (n+1) (ptL ps++ag8 (p.1:Int) (p.2.1:Int) p.2.2.1 (p.2.2.2:Int)) wr) (hz:z=(j:Nat)):bc5 s q vs w v (.int .i64 z) wr:=by
 obtain⟨rest,h1,h2⟩:=h.ex
 have h3:j<s.size:=by
  have h4:=h1.ne
  have h5:(s.data.toList.drop j).length≠0:=fun e=>h4 (List.length_eq_zero_iff.1 e)
  rw [List.length_drop,ofl] at h5
  omega
 subst hz
 refine⟨j,ps++ [p],rest,by omega,h3,by rw [List.length_append,List.length_singleton,h.len];omega,rfl,?_,h1,?_⟩
 ·rw [List.length_append,List.length_singleton,h.len,by1]
  exact hp
 ·rw [List.map_append,List.append_assoc]
  exact h2
theorem bf1 (s:ByteArray) (q:UInt8) (l:List UInt8) (vs:List Nat) (w:World) (hs:s.size≤16777216) (hq:q=39∨q=34) (hd:s.data.toList=q::l) (hl:LitV q l vs) (hT:Lib.Utf8Tabs 3 4 w):
  Calls Tryz.prog 114 #[.string s] w fun e w'=> ∃(v:Value) (ps:List (Nat × Nat × Bool × Nat)),e= .returned (.tuple #[v,.int .i64 0,.bool true])∧Pst w v ps.length (ptL ps) w'∧ps.map (·.2.2.2)=vs∧ps.length≤s.size:=by
 obtain⟨h0,hs0,hd1⟩:=aD1 (s:=s) (k:=0) (c:=q) (l:=l) (by rw [List.drop_zero];exact hd)
 rw [Nat.zero_add] at hd1
 have h1:1<s.size:=by
  have h4:l.length≠0:=fun e=>hl.ne (List.length_eq_zero_iff.1 e)
  rw [←hd1,List.length_drop,ofl] at h4
  omega
 have hem:=ah4 h0
 obtain⟨i0,hi,hz0,hz1,hz2⟩:=info_parts bA5
 have HT:=hJ hT
 have HP0:=hJ (show bc5 s s[0] vs w (.slice none 0 0) (.int .i64 1) w from⟨1,[],vs,Nat.le_refl _,h1,Nat.zero_le _,rfl,⟨World.ownsRow_nil _ _ _ _,Below.refl _ _⟩,by rw [hd1,hs0];exact hl,rfl⟩)
 have HQ:=hJ (show s[0]=39∨s[0]=34 by rw [hs0];exact hq)
 have HQ9:=hJ (show s[0]=39∨s[0]=34 by rw [hs0];exact hq)
 have HQ8:=hJ (show s[0].toNat<128 by rw [hs0];rcases hq with rfl|rfl<;>decide)
 clear hT hq hs0 hd1 hd hl
 go_enter Tryz.func114,Tryz.ntmps114
 go_wp2_with fail
 go_step3
 go_upto_region 1 with fail
 go_cut [22] from 11 to 21 (fun v wx=>v= .bool false∧w=wx)
 case first=>
  rcases HQ.out with h|h
  ·have b1:(((s[0].toNat:Nat):Int) !=39)=false:=by rw [bne_eq_false_iff_eq,h];rfl
   clear h
   go_wp2_with fail
   go_meet
   exact⟨rfl,rfl⟩
  ·have b1:(((s[0].toNat:Nat):Int) !=39)=true:=by rw [h];rfl
   have b2:(((s[0].toNat:Nat):Int) !=34)=false:=by rw [bne_eq_false_iff_eq,h];rfl
   clear h
   go_wp2_with fail
   go_meet
   exact⟨rfl,rfl⟩
 case rest=>
  obtain⟨rfl,rfl⟩:=hcut
  clear HQ
  go_wp2_with fail
  go_step3
  go_wp2_with fail
  go_loopw [5,6,7,8,9,10,41,48,60] (fun v a _ _ _ _ _ _ _ wr=>bc5 s s[0] vs w v a wr) (fun _ a _ _ _ _ _ _ _ _=>s.size - (intOf a).toNat)
  case atStart=>exact HP0.out
  case round=>
   clear HP0
   obtain⟨k,ps,rest,hk1,hlt,hnk,rfl,hpst,hlit,hvs⟩:=hrel
   obtain⟨n,hn⟩: ∃n,ps.length=n:=⟨_,rfl⟩
   rw [hn] at hpst hnk
   have hlt0:k≤s.size:=Nat.le_of_lt hlt
   have hx:=ac5 s k hlt
   have hst:=hlit.step
   obtain⟨R,W,hdec,hR,hW4,hst2⟩: ∃R W:Nat,Lib.decodeGo (s.extract k s.size)=(R,W)∧R≤1114111∧W≤4∧((s.data.toList.drop k= [s[0]]∧rest= []∧R=s[k].toNat∧W=1)∨(∃v',rest=R::v'∧R≠65533∧R≠10∧R≠13∧R≠92∧s[k]≠s[0]∧1≤W∧LitV s[0] (s.data.toList.drop (k+W)) v')∨
     ∃b a l' v',(b=120∧a.length=2∨b=117∧a.length=4)∧s.data.toList.drop k=92::b::(a++l')∧rest=hexV 0 a::v'∧(∀c ∈ a,0≤hexD c)∧LitV s[0] l' v'∧R=92∧W=1):=by
    rcases hst with ⟨e,er⟩|⟨r,n,v',er,h1,h2,h3,h4,h5,h6,h7,h8⟩|⟨b,a,l',v',h1,h2,h3,h4,h5⟩
    ·have e0:s[k]=s[0]:=by rw [hx] at e;injection e
     exact⟨s[k].toNat,1,aS1 hx (by rw [e0];exact HQ8.out),by have:=HQ8.out;rw [e0];omega,by omega,.inl ⟨e,er,rfl,rfl⟩⟩
    ·have hd:=av4 s k
     rw [h1] at hd
     have hdd:Lib.decodeGo (s.extract k s.size)=(r,n):=by
      split at hd
      ·injection hd with _ hd
       omega
      ·injection hd with hd1 hd2
       exact Prod.ext (by simp only;omega) (by simp only;omega)
     refine⟨r,n,hdd,by omega,h2.2,.inr (.inl ⟨v',er,by omega,h3,h4,h5,?_,h2.1,?_⟩)⟩
     ·intro e
      rw [hx] at h7
      exact h7 (by rw [e];rfl)
     ·rw [←List.drop_drop]
      exact h8
    ·have e0:s[k]=92:=by rw [hx] at h2;injection h2
     exact⟨92,1,by have h:=aS1 hx (by rw [e0];decide);rw [e0] at h;exact h,by omega,by omega,.inr (.inr ⟨b,a,l',v',h1,h2,h3,h4,h5,rfl,rfl⟩)⟩
   clear hst
   have hd:=Tryz.utf8_DecodeRuneInString (s.extract k s.size) wr (Utf8Tabs_below HT.out hpst.bel)
   rw [hdec] at hd
   have HD:=hJ hd
   have HP:=hJ hpst
   have HN:=hJ hn
   have HVS:=hJ hvs
   have HST:=hJ hst2
   clear hd hpst hlit hvs hn hst2 hdec
   go_upto_region 8 with (go_at_call 113;refine HD.out.mono ?_;rintro e w1 ⟨rfl,hb1⟩)
   have hp1:=HP.out.next hb1
   have hp2:=hp1.next (Below.alloc (Below.refl _ w1) (Nat.le_refl _) (.cells #[.int .i64 k,.int .i64 ((k:Int)+(W:Int)),.bool false,.int .i64 R] 156))
   have hpt:PtAt (w1.alloc (.cells #[.int .i64 k,.int .i64 ((k:Int)+(W:Int)),.bool false,.int .i64 R] 156)) w1.heap.size k ((k:Int)+(W:Int)) false R:=heap_alloc_new _ _
   have hne:=hp1.own_lt
   have hgw:=hp1.bel.size
   generalize w1.alloc (.cells #[.int .i64 k,.int .i64 ((k:Int)+(W:Int)),.bool false,.int .i64 R] 156)=w2 at*
   generalize w1.heap.size=g at*
   clear hp1 hb1 HD HP
   rcases HST.out with ⟨e,er,hR1,hW1⟩|⟨v',er,h2,h3,h4,h5,h6,hW1,h7⟩|⟨b,a,l',v',hba,e,er,ha,h6,hR1,hW1⟩
   ·have hq0:s[k]=s[0]:=by rw [hx] at e;injection e
    have hend:k=s.size - 1:=by
     have h:=congrArg List.length e
     rw [List.length_drop,ofl,List.length_singleton] at h
     omega
    have bq:(((s[k].toNat:Nat):Int)==((s[0].toNat:Nat):Int))=true:=aq9 hq0
    have HB:=hJ hp2
    have be:(((k:Nat):Int) !=((s.size:Nat):Int) - 1)=false:=by rw [bne_eq_false_iff_eq];omega
    have HW:=hJ (show ps.map (·.2.2.2)=vs by have h:=HVS.out;rw [er,List.append_nil] at h;exact h)
    subst hR1
    subst hW1
    clear hp2 hpt hq0 hend HST HVS hx er e
    go_quiet (fail)
    go_wp2_with fail
    try rw [Exit.noGoto_ret]
    go_ret3
    exact⟨_,ps,rfl,by rw [HN.out];exact HB.out.next (aa3 (Below.refl _ _) _),HW.out,by rw [HN.out];omega⟩
   ·have HR:=hJ (show PvN s s[0] vs n (k+W) ps (k,k+W,false,R) from⟨HN.out,v',h7,by rw [←er];exact HVS.out⟩)
    have bq:(((s[k].toNat:Nat):Int)==((s[0].toNat:Nat):Int))=false:=ap3 h6
    have b10:((R:Int)==10)=false:=by rw [beq_eq_false_iff_ne];omega
    have b13:((R:Int)==13)=false:=by rw [beq_eq_false_iff_ne];omega
    have b92:((R:Int)==92)=false:=by rw [beq_eq_false_iff_ne];omega
    have bff:((R:Int)==65533)=false:=by rw [beq_eq_false_iff_ne];omega
    have hkW:k+W≤s.size:=by
     have h:=h7.ne
     have h5:(s.data.toList.drop (k+W)).length≠0:=fun e=>h (List.length_eq_zero_iff.1 e)
     rw [List.length_drop,ofl] at h5
     omega
    clear HST HVS hx er h2 h3 h4 h5 h6 h7
    have HP:=hJ hp2
    clear hp2
    obtain⟨d0,d1,d2,d3,g0,g1,g2,g3⟩:=PtAt.facts hpt
    go_quiet (fail)
    go_upto_region 19 with fail
    clear d0 d1 d2 d3 g0 g1 g2 g3
    generalize hwd:w2.drewN _=w3 at*
    have hbd:Below w2.heap.size w2 w3:=by rw [←hwd];exact aa3 (Below.refl _ _) _
    clear hwd
    have hpt6:=hpt.bel hbd
    replace HP:=hJ (HP.out.next hbd)
    clear hbd hpt
    obtain⟨d0,d1,d2,d3,g0,g1,g2,g3⟩:=PtAt.facts hpt6
    have hown:=HP.out.own
    have hsz:=HP.out.bel.size
    have hone:=aQ4 k ((k:Int)+(W:Int)) false (R:Int)
    go_wp2_with (at_builtin;refine wpList_append_own_at _ rfl _ _ 152 rfl w.heap.size 156 i0 (.agg #[.int .i64 0,.int .i64 0,.bool false,.int .i64 0]) 4 32 (by kernel_rfl) hi hz0 hz1 hz2 rfl (by decide) _ _ _ rfl (hown.alloc _) ⟨w3.heap.size,0,none⟩ 1 1 (ag8 k ((k:Int)+(W:Int)) false (R:Int)) rfl rfl (aQ3 _ _ _ _ _) hone (by unfold maxLen;omega) (by omega) (by rw [World.size_alloc];omega) ?_)
    intro v' w7 hown' hgrow _ _
    have hpush:=Pst.push HP.out hgrow hown'
    have hpt7:=hpt6.grown hgrow hne
    clear d0 d1 d2 d3 g0 g1 g2 g3
    clear hown' hgrow hown hpt6
    obtain⟨d0,d1,d2,d3,g0,g1,g2,g3⟩:=PtAt.facts hpt7
    go_wp2_with fail
    go_roundw
    case rel=>exact bc5.next HR.out hk1 (by omega) (by omega) (by rw [←Int.natCast_add] at hpush;exact hpush) (by omega)
    case measure=>simp [intOf];omega
   ·have hc:s[k]=92:=by rw [hx] at e;injection e
    obtain⟨t,ht⟩: ∃t,2+a.length=t:=⟨_,rfl⟩
    have hd2:s.data.toList.drop (k+t)=l':=by
     have h:=congrArg (List.drop t) e
     rw [List.drop_drop] at h
     rw [h,←ht]
     show(92::b::(a++l')).drop (2+a.length)=l'
     rw [Nat.add_comm,List.drop_succ_cons,List.drop_succ_cons,List.drop_left]
    have ht2:2≤t:=by omega
    obtain⟨x,hxv⟩: ∃x,hexV 0 a=x:=⟨_,rfl⟩
    have HR:=hJ (show PvN s s[0] vs n (k+t) ps (k,k+t,true,x) from⟨HN.out,v',by rw [hd2];exact h6,by show _++x::v'=vs;rw [←hxv,←er];exact HVS.out⟩)
    have HES:=hJ (fun W h=>aS6 s k b a l' W hs hba e ha h _ rfl)
    rw [hxv,Nat.add_assoc,ht,Int.natCast_add] at HES
    have bq:(((s[k].toNat:Nat):Int)==((s[0].toNat:Nat):Int))=false:=by
     rw [hc]
     rw [beq_eq_false_iff_ne]
     rcases HQ9.out with h|h<;>rw [h]<;>decide
    have hk92:((s[k].toNat:Nat):Int)=92:=by rw [hc];rfl
    rw [hk92] at bq
    subst hR1
    subst hW1
    have HP:=hJ hp2
    clear HST HVS hx er e ha h6 hba hd2 hc hp2 hxv ht
    obtain⟨d0,d1,d2,d3,g0,g1,g2,g3⟩:=PtAt.facts hpt
    go_quiet (fail)
    go_upto_region 15 with fail
    clear d0 d1 d2 d3 g0 g1 g2 g3
    generalize hwd:w2.drewN _=w3 at*
    have hbd:Below w2.heap.size w2 w3:=by rw [←hwd];exact aa3 (Below.refl _ _) _
    clear hwd
    have hpt3:=hpt.bel hbd
    replace HP:=hJ (HP.out.next hbd)
    clear hbd hpt
    obtain⟨d0,d1,d2,d3,g0,g1,g2,g3⟩:=PtAt.facts hpt3
    go_upto_region 16 with fail
    have hpt4:=hpt3.set2 true
    have hp4:=HP.out.setCell (u:= .bool true) 2 hgw hne
    clear d0 d1 d2 d3 g0 g1 g2 g3 HP
    clear hpt3
    generalize World.setCell _ _ _=w4 at*
    have HP:=hJ hp4
    have HPT:=hJ hpt4
    clear hp4 hpt4
    go_upto_region 17 with (go_at_call 176;refine(HES.out _ (Utf8Tabs_below HT.out HP.out.bel)).mono ?_;rintro e w5 ⟨rfl,hb5⟩;replace HP:=hJ (HP.out.next hb5);have hpt5:=HPT.out.bel hb5;clear hb5;obtain⟨d0,d1,d2,d3,g0,g1,g2,g3⟩:=PtAt.facts hpt5)
    have hpt6:=(hpt5.set3 (x:Nat)).set1 ((k:Int)+((t:Nat):Int))
    have hp6:=(HP.out.setCell (u:= .int .i64 (x:Nat)) 3 hgw hne).setCell (u:= .int .i64 ((k:Int)+((t:Nat):Int))) 1 hgw hne
    clear d0 d1 d2 d3 g0 g1 g2 g3 HP hpt5
    generalize World.setCell (World.setCell _ _ _) _ _=w6 at*
    have HP:=hJ hp6
    clear hp6
    obtain⟨d0,d1,d2,d3,g0,g1,g2,g3⟩:=PtAt.facts hpt6
    go_upto_region 19 with fail
    have hown:=HP.out.own
    have hsz:=HP.out.bel.size
    have hone:=aQ4 k ((k:Int)+((t:Nat):Int)) true (x:Nat)
    go_wp2_with (at_builtin;refine wpList_append_own_at _ rfl _ _ 152 rfl w.heap.size 156 i0 (.agg #[.int .i64 0,.int .i64 0,.bool false,.int .i64 0]) 4 32 (by kernel_rfl) hi hz0 hz1 hz2 rfl (by decide) _ _ _ rfl (hown.alloc _) ⟨w6.heap.size,0,none⟩ 1 1 (ag8 k ((k:Int)+((t:Nat):Int)) true (x:Nat)) rfl rfl (aQ3 _ _ _ _ _) hone (by unfold maxLen;omega) (by omega) (by rw [World.size_alloc];omega) ?_)
    intro v' w7 hown' hgrow _ _
    have hpush:=Pst.push HP.out hgrow hown'
    have hpt7:=hpt6.grown hgrow hne
    clear d0 d1 d2 d3 g0 g1 g2 g3
    clear hown' hgrow hown hpt6
    obtain⟨d0,d1,d2,d3,g0,g1,g2,g3⟩:=PtAt.facts hpt7
    go_wp2_with fail
    go_roundw
    case rel=>exact bc5.next HR.out hk1 (by omega) (by omega) (by rw [←Int.natCast_add] at hpush;exact hpush) (by omega)
    case measure=>simp [intOf];omega
end
section
open Go.RowKit
def intL (vs:List Nat):List Value:=vs.map fun v=> .int .i64 (v:Nat)
theorem bD1:(Tryz.prog.info? 3).map (fun i=>(i.zero,i.size,i.bytes))=some (some (.int .i64 0),1,8):=by kernel_rfl
theorem LitV.small {q:UInt8} {l:List UInt8} {vs:List Nat} (h:LitV q l vs): ∀v ∈ vs,v≤65535:=by
 have h2: ∀a:List UInt8,a.length≤4→hexV 0 a≤65535:=by
  intro a ha
  have h3:=bk5 a 0 0 (by decide)
  have h4:16 ^ (0+a.length)≤16 ^ 4:=Nat.pow_le_pow_right (by decide) (by omega)
  have h5:(16:Nat) ^ 4=65536:=by decide
  omega
 induction h with
 |done=>simp
 |chr l r n vs _ _ _ _ _ h6 _ _ ih=>
  intro v hv
  rcases List.mem_cons.1 hv with rfl|hv
  ·omega
  ·exact ih v hv
 |x a b l vs h1 h3 h4 ih=>
  intro v hv
  rcases List.mem_cons.1 hv with rfl|hv
  ·exact h2 [a,b] (by show 2≤4;decide)
  ·exact ih v hv
 |u a b c d l vs h1 h3 h4 h5 h6 ih=>
  intro v hv
  rcases List.mem_cons.1 hv with rfl|hv
  ·exact h2 [a,b,c,d] (by show 4≤4;decide)
  ·exact ih v hv
structure Ust (w0:World) (v:Value) (vs:List Nat) (w:World):Prop where
 own:w.ownsRow w0.heap.size 3 1 v vs.length (intL vs)
 bel:Below w0.heap.size w0 w
theorem Ust.bel' {w0 w w':World} {v:Value} {vs:List Nat} (h:Ust w0 v vs w) (hb:Below w.heap.size w w'):Ust w0 v vs w':=⟨aE7 h.own hb,h.bel.trans (hb.mono h.bel.size)⟩
theorem Ust.push {w0 w w1:World} {v v':Value} {vs:List Nat} {x:Nat} {n:Nat} {o:Obj} (h:Ust w0 v vs w) (hn:vs.length=n) (hg:(w.alloc o).grownBy w1 v.ownBlock) (ho:w1.ownsRow w0.heap.size 3 1 v' (n+1) (intL vs++ [.int .i64 (x:Nat)])):Ust w0 v' (vs++ [x]) w1:=by
 subst hn
 refine⟨?_,?_⟩
 ·rw [List.length_append,List.length_singleton,show intL (vs++ [x])=intL vs++ [.int .i64 (x:Nat)] by unfold intL;rw [List.map_append];rfl]
  exact ho
 ·refine(h.bel.alloc h.bel.size o).grown hg ?_ ?_
  ·have:=h.bel.size;rw [World.size_alloc];omega
  ·intro k hk
   rcases h.own.2 with ⟨e,_⟩|⟨g,cap,cur,e,h2,_⟩
   ·rw [e] at hk;cases hk
   ·rw [e] at hk;cases hk;exact h2
theorem Pst.at' {w0 w:World} {v:Value} {ps:List (Nat × Nat × Bool × Nat)} (h:Pst w0 v ps.length (ptL ps) w): ∃b cap,v= .slice b ps.length cap∧∀j,(hj:j<ps.length)→∃g,b=some ⟨g,0,none⟩∧g<w.heap.size∧w.cell? ⟨g,j*4,none⟩=some (.int .i64 (ps[j].1:Nat))∧w.cell? ⟨g,j*4+1,none⟩=some (.int .i64 (ps[j].2.1:Nat))∧w.cell? ⟨g,j*4+2,none⟩=some (.bool ps[j].2.2.1)∧w.cell? ⟨g,j*4+3,none⟩=some (.int .i64 (ps[j].2.2.2:Nat)):=by
 have hget: ∀(ps:List (Nat × Nat × Bool × Nat)) (j i:Nat) (hj:j<ps.length),i<4→(ptL ps)[j*4+i]? =(ag8 (ps[j].1:Int) (ps[j].2.1:Int) ps[j].2.2.1 (ps[j].2.2.2:Int))[i]? :=by
  intro ps
  induction ps with
  |nil=>intro j i hj;exact absurd hj (by simp)
  |cons p ps ih=>
   intro j i hj hi
   have e:ptL (p::ps)=ag8 (p.1:Int) (p.2.1:Int) p.2.2.1 (p.2.2.2:Int)++ptL ps:=rfl
   have hl:(ag8 (p.1:Int) (p.2.1:Int) p.2.2.1 (p.2.2.2:Int)).length=4:=rfl
   rw [e]
   cases j with
   |zero=>
    rw [Nat.zero_mul,Nat.zero_add,List.getElem?_append_left (by omega)]
    rfl
   |succ j=>
    rw [List.getElem?_append_right (by omega),hl,show(j+1)*4+i - 4=j*4+i by omega,ih j i (by simpa using hj) hi]
    rfl
 have ho:=h.own
 rcases ho.2 with ⟨rfl,h0⟩|⟨g,cap,cur,rfl,hg,hc,hn,hrest⟩
 ·have:ps= []:=List.length_eq_zero_iff.1 h0
  subst this
  exact⟨none,0,rfl,fun j hj=>absurd hj (by simp)⟩
 ·refine⟨_,cap,rfl,fun j hj=>⟨g,rfl,(Array.getElem?_eq_some_iff.1 hc).1,?_⟩⟩
  have key: ∀i,i<4→w.cell? ⟨g,j*4+i,none⟩=(ag8 (ps[j].1:Int) (ps[j].2.1:Int) ps[j].2.2.1 (ps[j].2.2.2:Int))[i]? :=fun i hi=>by
   rw [ho.cellAt (j*4+i) (by omega)]
   exact hget ps j i hj hi
  exact⟨key 0 (by decide),key 1 (by decide),key 2 (by decide),key 3 (by decide)⟩
theorem bF0 {w:World} {B B' size n:Nat} {e:TypeId} {v:Value} {xs:List Value} (hB:B'≤B) (h:w.ownsRow B e size v n xs):w.ownsRow B' e size v n xs:=
 ⟨h.1,h.2.imp id fun⟨g,cap,cur,a,b,r⟩=>⟨g,cap,cur,a,Nat.le_trans hB b,r⟩⟩
theorem aM9 (w:World) (u:Value) (T:TypeId): ∀j x,([u]:List Value)[j]? =some x→(w.alloc (.cells #[u] T)).cell? ((⟨w.heap.size,0,none⟩:Addr).add j)=some x:=by
 intro j x h
 cases j with
 |zero=>
  show(w.alloc (.cells #[u] T)).cell? ⟨w.heap.size,0,none⟩=some x
  rw [cell_of_row _ _ 0 _ T (0,0) (heap_alloc_new _ _)]
  exact h
 |succ j=>simp at h
theorem aK0 (s:ByteArray) (q:UInt8) (l:List UInt8) (vs:List Nat) (w:World) (hs:s.size≤16777216) (hq:q=39∨q=34) (hd:s.data.toList=q::l) (hl:LitV q l vs) (hT:Lib.Utf8Tabs 3 4 w):
  Calls Tryz.prog 63 #[.string s] w fun e w'=> ∃v,e= .returned (.tuple #[v,.int .i64 0])∧Ust w v vs w':=by
 have HP:=hJ (bf1 s q l vs w hs hq hd hl hT)
 have HSM:=hJ hl.small
 obtain⟨i0,hi,hz0,hz1,hz2⟩:=info_parts bD1
 clear hq hd hl hT
 go_enter Tryz.func63,Tryz.ntmps63
 go_upto_region 2 with (go_at_call 114;refine HP.out.mono ?_;rintro e w1 ⟨pv,ps,rfl,hpst,hvs,hpl⟩;obtain⟨b,cap,rfl,hat⟩:=hpst.at')
 have HAT:=hJ hat
 have HB:=hJ hpst.bel
 have HVS:=hJ hvs
 obtain⟨n,hn⟩: ∃n,ps.length=n:=⟨_,rfl⟩
 have HN:=hJ hn
 rw [hn] at hpl⊢
 have HU0:=hJ (show Ust w1 (.slice none 0 0) [] w1 from⟨World.ownsRow_nil _ _ _ _,Below.refl _ _⟩)
 clear hpst hvs hn hat HP
 go_wp2_with fail
 go_loopw [7,9,10,21,30,34] (fun v _ _ i _ _ wr=> ∃j:Nat,j≤n∧i= .int .i64 (j:Nat)∧Ust w1 v (vs.take j) wr) (fun _ _ _ i _ _ _=>n - (intOf i).toNat)
 case atStart=>exact⟨0,Nat.zero_le _,rfl,HU0.out⟩
 case round=>
  clear HU0
  obtain⟨j,hj,rfl,hu⟩:=hrel
  have HU:=hJ hu
  by_cases hjn:j<n
  ·have hj':j<ps.length:=by rw [HN.out];exact hjn
   obtain⟨g,rfl,hg,d0,d1,d2,d3⟩:=HAT.out j hj'
   have hvj:(vs.take (j+1))=vs.take j++ [ps[j].2.2.2]:=by
    have hl:j<vs.length:=by rw [←HVS.out,List.length_map];exact hj'
    rw [List.take_succ_eq_append_getElem hl]
    congr 1
    simp only [←HVS.out,List.getElem_map]
   have hxs:ps[j].2.2.2≤65535:=HSM.out _ (by rw [←HVS.out];exact List.mem_map.2 ⟨ps[j],List.getElem_mem hj',rfl⟩)
   have HV:=hJ hvj
   obtain⟨x,hx⟩: ∃x,ps[j].2.2.2=x:=⟨_,rfl⟩
   rw [hx] at d3 hxs HV
   rw [←hu.bel.cell hg] at d0 d1 d2 d3
   have hx0:(0:Int)≤(x:Nat):=by omega
   have hx1:((x:Nat):Int)≤65535:=by omega
   have htl:(vs.take j).length=j:=by rw [List.length_take,←HVS.out,List.length_map];omega
   have HTL:=hJ htl
   have hwb:=hu.bel.size
   clear hu hvj hx htl
   generalize vs.take j=us at*
   generalize ps[j].1=pa at*
   generalize ps[j].2.1=pc at*
   generalize ps[j].2.2.1=pf at*
   go_upto_region 9 with fail
   clear d0 d1 d2 d3
   have hpt:PtAt (wr.alloc (.cells #[.int .i64 (pa:Nat),.int .i64 (pc:Nat),.bool pf,.int .i64 (x:Nat)] 156)) wr.heap.size (pa:Nat) (pc:Nat) pf (x:Nat):=heap_alloc_new _ _
   have hu2:=HU.out.bel' ((Below.refl _ wr).alloc (Nat.le_refl _) (.cells #[.int .i64 (pa:Nat),.int .i64 (pc:Nat),.bool pf,.int .i64 (x:Nat)] 156))
   have HU2:=hJ hu2
   have hws:=hu2.bel.size
   clear hu2
   generalize World.alloc wr _=w2 at*
   obtain⟨d0,d1,d2,d3,g0,g1,g2,g3⟩:=PtAt.facts hpt
   have hol:us.length≤16777216:=by rw [HTL.out];omega
   go_upto_region 8 with fail
   go_wp2_with (at_builtin;refine wpList_append_own_at _ rfl _ _ 99 rfl w1.heap.size 3 i0 (.int .i64 0) 1 8 (by kernel_rfl) hi hz0 hz1 hz2 rfl (by decide) _ _ _ rfl (HU2.out.own.alloc _) ⟨w2.heap.size,0,none⟩ 1 1 [.int .i64 (x:Nat)] rfl rfl (aM9 _ _ _) (fun u hu=>by simp at hu;subst hu;rfl) (by unfold maxLen;omega) (by omega) (by rw [World.size_alloc];omega) ?_)
   intro v6 w6 hown6 hgrow6 _ _
   rw [HTL.out] at hown6
   have HU6:=hJ (HU2.out.push HTL.out hgrow6 hown6)
   rw [←HV.out] at HU6
   go_wp2_with fail
   go_roundw
   case rel=>exact⟨j+1,by omega,by go_num,HU6.out⟩
   case measure=>simp [intOf];omega
  ·have hjn2:j=n:=by omega
   subst hjn2
   have HZ:=hJ (show vs.take j=vs by rw [List.take_of_length_le];rw [←HVS.out,List.length_map,HN.out];exact Nat.le_refl _)
   rw [HZ.out] at HU
   go_wp2_with fail
   go_ret2
   exact⟨_,rfl,bF0 HB.out.size HU.out.own,HB.out.trans (HU.out.bel.mono HB.out.size)⟩
theorem Ust.at' {w0 w:World} {v:Value} {vs:List Nat} (h:Ust w0 v vs w): ∃b cap,v= .slice b vs.length cap∧∀j,(hj:j<vs.length)→∃g,b=some ⟨g,0,none⟩∧g<w.heap.size∧w.cell? ⟨g,j,none⟩=some (.int .i64 (vs[j]:Nat)):=by
 have ho:=h.own
 rcases ho.2 with ⟨rfl,h0⟩|⟨g,cap,cur,rfl,hg,hc,hn,hrest⟩
 ·have:vs= []:=List.length_eq_zero_iff.1 h0
  subst this
  exact⟨none,0,rfl,fun j hj=>absurd hj (by simp)⟩
 ·refine⟨_,cap,rfl,fun j hj=>⟨g,rfl,(Array.getElem?_eq_some_iff.1 hc).1,?_⟩⟩
  rw [ho.cellAt j (by omega)]
  unfold intL
  rw [List.getElem?_map,List.getElem?_eq_getElem hj]
  rfl
end
end Go.Proofs.YtnobjeelihkjmaaGreatDoor
