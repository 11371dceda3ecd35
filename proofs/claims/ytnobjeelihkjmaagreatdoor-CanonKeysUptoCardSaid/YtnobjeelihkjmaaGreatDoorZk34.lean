/- Steps (F G H I J K L). Conditions: as stated. -/
import Derived.Test.YtnobjeelihkjmaaGreatDoorZk01
import Derived.Lib.ConvBytes
set_option maxHeartbeats 2000000
set_option maxRecDepth 20000
namespace Go.Proofs.YtnobjeelihkjmaaGreatDoor
section
open Go.RowKit
def as9 (l:List UInt8):Prop:= ∀c ∈ l,48≤c.toNat∧c.toNat≤57
def aB2 (n:Nat) (l:List UInt8):Nat:=l.foldl (fun n c=>10*n+(c.toNat - 48)) n
def valN (l:List UInt8):Nat:=aB2 0 l
theorem ai7 (n:Nat):aB2 n []=n:=by unfold aB2;rw [List.foldl_nil]
theorem az4 (n:Nat) (c:UInt8) (l:List UInt8):aB2 n (c::l)=aB2 (10*n+(c.toNat - 48)) l:=by unfold aB2;rw [List.foldl_cons]
theorem aL6 (k:Nat):0<10 ^ k:=Nat.pow_pos (by decide)
theorem ax9: ∀(l:List UInt8) (n:Nat),aB2 n l=n*10 ^ l.length+aB2 0 l
 | [],n=>by simp [ai7]
 |c::l,n=>by
  rw [az4,az4,ax9 l (10*n+(c.toNat - 48)),ax9 l (10*0+(c.toNat - 48)),List.length_cons,Nat.pow_succ]
  rw [Nat.add_mul,Nat.mul_zero,Nat.zero_add,←Nat.add_assoc]
  congr 2
  rw [Nat.mul_comm 10 n,Nat.mul_assoc,Nat.mul_comm 10]
theorem bz1 (l:List UInt8) (n:Nat):n≤aB2 n l:=by
 rw [ax9]
 have:=Nat.mul_le_mul_left n (aL6 l.length)
 omega
theorem ap5 (a b:List UInt8):valN (a++b)=valN a*10 ^ b.length+valN b:=by
 unfold valN
 rw [←ax9]
 unfold aB2
 rw [List.foldl_append]
theorem bc1 (c:UInt8):valN [c]=c.toNat - 48:=by simp [valN,az4,ai7]
theorem aG7 (a:List UInt8) (c:UInt8):valN (a++ [c])=10*valN a+(c.toNat - 48):=by
 rw [ap5,bc1]
 simp
 omega
theorem ao6 (c:UInt8) (l:List UInt8):valN (c::l)=(c.toNat - 48)*10 ^ l.length+valN l:=by
 have:=ap5 [c] l
 rw [bc1] at this
 exact this
theorem bq7 {l:List UInt8} (h:as9 l):valN l<10 ^ l.length:=by
 induction l with
 |nil=>simp [valN,ai7]
 |cons c l ih=>
  have h1:=ih (fun d hd=>h d (List.mem_cons_of_mem _ hd))
  have h2:=h c List.mem_cons_self
  rw [ao6,List.length_cons,Nat.pow_succ]
  have:(c.toNat - 48)*10 ^ l.length≤9*10 ^ l.length:=Nat.mul_le_mul_right _ (by omega)
  omega
theorem bj9 {c:UInt8} (h:48≤c.toNat∧c.toNat≤57):digB (c.toNat - 48)=c:=UInt8.toNat.inj (by rw [ae0 (by omega)];omega)
def av3 (l:List UInt8):Prop:=as9 l∧l≠ []∧(l.length=1∨l.head?≠some 48)
theorem bs2: ∀(n:Nat) (l:List UInt8),l.length≤n→av3 l→decL (valN l)=l:=by
 intro n
 induction n with
 |zero=>intro l hl hc;exact absurd (List.length_eq_zero_iff.1 (by omega)) hc.2.1
 |succ n ih=>
  intro l hl ⟨hd,hne,hh⟩
  obtain⟨m,c,rfl⟩: ∃m c,l=m++ [c]:=⟨l.dropLast,l.getLast hne,(List.dropLast_concat_getLast hne).symm⟩
  have hc:=hd c (by simp)
  rw [aG7]
  by_cases hm:m= []
  ·subst hm
   show decL (10*0+(c.toNat - 48))= [c]
   rw [aj3 (by omega),Nat.mul_zero,Nat.zero_add,bj9 hc]
  ·have hlm:0<m.length:=List.length_pos_iff.2 hm
   have hhd:m.head?≠some 48:=by
    rcases hh with h1|h1
    ·rw [List.length_append,List.length_singleton] at h1;omega
    ·cases m with
     |nil=>exact absurd rfl hm
     |cons x m'=>exact h1
   have hmd:as9 m:=fun d h=>hd d (by simp [h])
   have hpos:1≤valN m:=by
    cases m with
    |nil=>exact absurd rfl hm
    |cons x m'=>
     have hx:=hmd x List.mem_cons_self
     have hx48:x.toNat≠48:=fun e=>hhd (by
      rw [show x=48 from UInt8.toNat.inj e]
      rfl)
     rw [ao6]
     have:1*1≤(x.toNat - 48)*10 ^ m'.length:=Nat.mul_le_mul (by omega) (aL6 _)
     omega
   have hi:=ih m (by rw [List.length_append,List.length_singleton] at hl;omega) ⟨hmd,hm,.inr hhd⟩
   rw [decL,if_neg (by omega),show(10*valN m+(c.toNat - 48)) / 10=valN m by omega,show(10*valN m+(c.toNat - 48)) % 10=c.toNat - 48 by omega,hi,bj9 hc]
theorem aI0 {l:List UInt8} (h:av3 l):decL (valN l)=l:=bs2 l.length l (Nat.le_refl _) h
def ax5 (l:List UInt8) (most:Nat):Int:=if valN l≤most then valN l else -1
theorem bp8 (s:ByteArray) (most:Nat) (w:World) (hs:s.size≤16777216) (hm:most≤16777216) (hd:as9 s.data.toList):
  Calls Tryz.prog 126 #[.string s,.int .i64 most] w fun e w'=>e= .returned (.int .i64 (ax5 s.data.toList most))∧w=w':=by
 have HD:=hJ hd
 clear hd
 go_enter Tryz.func126,Tryz.ntmps126
 go_wp2
 go_loop [9,5,6] (fun i n _=> ∃k m:Nat,k≤s.size∧i= .int .i64 k∧m≤most∧n= .int .i64 m∧valN s.data.toList=aB2 m (s.data.toList.drop k)) (fun i _ _=>s.size - (intOf i).toNat)
 case atStart=>exact⟨0,0,Nat.zero_le _,rfl,Nat.zero_le _,rfl,rfl⟩
 case round=>
  obtain⟨k,m,hk,rfl,hmm,rfl,hv⟩:=hrel
  have HV:=hJ hv
  clear hv
  by_cases hlt:k<s.size
  ·have hx:=HD.out s[k] (List.mem_of_getElem? (bs5 s k hlt))
   have hdk:=ac5 s k hlt
   have HN:=hJ (show valN s.data.toList=aB2 (10*m+(s[k].toNat - 48)) (s.data.toList.drop (k+1)) by rw [HV.out,hdk];rfl)
   by_cases hgt:most<10*m+(s[k].toNat - 48)
   ·have HZ:=hJ (show ax5 s.data.toList most= -1 by
     unfold ax5
     rw [if_neg]
     rw [HN.out]
     have:=bz1 (s.data.toList.drop (k+1)) (10*m+(s[k].toNat - 48))
     omega)
    clear hdk
    go_wp2_with fail
    go_ret
    exact⟨by rw [HZ.out];rfl,rfl⟩
   ·clear hdk
    go_wp2_with fail
    go_round
    case rel=>exact⟨k+1,10*m+(s[k].toNat - 48),by omega,by go_num,by omega,by go_num,HN.out⟩
    case measure=>simp [intOf];omega
  ·obtain rfl:k=s.size:=by omega
   have HZ:=hJ (show ax5 s.data.toList most=m by
    have h:=HV.out
    rw [av5] at h
    unfold ax5
    rw [if_pos (by rw [h];exact hmm),h]
    rfl)
   go_wp2_with fail
   go_ret
   exact⟨by rw [HZ.out];rfl,rfl⟩
end
section
open Go.RowKit
structure BRow (w:World) (B g:Nat) (l:List UInt8):Prop where
 cell: ∀j (h:j<l.length),w.cell? ⟨g,j,none⟩=some (.int .u8 (l[j].toNat:Int))
 fz: ∀j,j<l.length→w.frozen? ⟨g,j,none⟩=false
 ge:B≤g
theorem BRow.of_own {w:World} {B g n cap:Nat} {l:List UInt8} (h:w.ownsRow B 5 1 (.slice (some ⟨g,0,none⟩) n cap) n (Lib.byteCells l)) (hn:n=l.length):BRow w B g l:=by
 subst hn
 refine⟨fun j hj=> ?_,fun j _=>h.frozenAt j,?_⟩
 ·rw [h.cellAt j (by omega)]
  simp [Lib.byteCells,List.getElem?_eq_getElem hj]
 ·rcases h.2 with ⟨e,_⟩|⟨g',c',cur,e,hb,_⟩
  ·cases e
  ·cases e;exact hb
theorem aC8 (w:World) (s:ByteArray):Below w.heap.size w (Lib.bytesWorld w 5 s):=
 ⟨rfl,rfl,rfl,by rw [Lib.bytesWorld_size];omega,fun j hj=>Lib.bytesWorld_at_old w _ s j hj⟩
theorem aZ2 (w:World) (s:ByteArray):BRow (Lib.bytesWorld w 5 s) w.heap.size w.heap.size s.data.toList:=by
 refine⟨fun j hj=> ?_,fun j hj=> ?_,Nat.le_refl _⟩
 ·rw [Lib.bytesWorld_cell w _ s j (by rwa [ofl] at hj),List.getD_eq_getElem?_getD,List.getElem?_eq_getElem hj]
  rfl
 ·have h:=Lib.bytesWorld_at_new w 5 s
  unfold World.frozen?
  simp only [h]
  have:s.size≤(Lib.bytesCells w 5 s).size:=by
   unfold Lib.bytesCells
   rw [Array.size_append,Array.size_map]
   exact Nat.le_add_right _ _
  rw [ofl] at hj
  simp only [Bool.and_eq_false_iff,decide_eq_false_iff_not]
  exact .inl (by omega)
structure AddR (p b:Nat) (D hi lo:List UInt8) (m:Nat):Prop where
 val:valN hi*10 ^ lo.length+m*10 ^ lo.length+valN lo=p+b
 pre: ∃t,D=hi++t
 dig:as9 lo
 lead:hi= []→lo≠ []∧(0<m∨lo.head?≠some 48)
 len:hi≠ []→hi.length+lo.length=D.length
theorem bc6 (D:List UInt8) (b:Nat) (hD:D≠ []):AddR (valN D) b D D [] b:=
 ⟨by simp [valN,ai7],⟨[],by simp⟩,fun _ h=>(by cases h),fun h=>absurd h hD,fun _=>by simp⟩
theorem aK7 {n:Nat} (h:n<10):48≤(digB n).toNat∧(digB n).toNat≤57:=by rw [ae0 h];omega
theorem bj8 {n:Nat} (h:n<10) (h0:0<n):digB n≠48:=fun e=>by
 have:=congrArg UInt8.toNat e
 rw [ae0 h] at this
 have e48:(48:UInt8).toNat=48:=rfl
 omega
theorem bB2 {p b m:Nat} {D hi lo:List UInt8} {c:UInt8} (h:AddR p b D (hi++ [c]) lo m) (hm:0<m):AddR p b D hi (digB ((m+(c.toNat - 48)) % 10)::lo) ((m+(c.toNat - 48)) / 10):=by
 have hlt:(m+(c.toNat - 48)) % 10<10:=Nat.mod_lt _ (by decide)
 have hdm:=Nat.div_add_mod (m+(c.toNat - 48)) 10
 generalize hq:(m+(c.toNat - 48)) / 10=q at*
 generalize hr:(m+(c.toNat - 48)) % 10=r at*
 refine⟨?_,?_,?_,fun _=>⟨by simp,?_⟩,fun _=>by have:=h.len (by simp);simp at this⊢;omega⟩
 ·rw [←h.val,ao6,aG7,List.length_cons,ae0 hlt,Nat.pow_succ]
  have e1:valN hi*(10 ^ lo.length*10)+q*(10 ^ lo.length*10)+((48+r - 48)*10 ^ lo.length+valN lo)=(10*valN hi+(10*q+r))*10 ^ lo.length+valN lo:=by
   rw [show 48+r - 48=r by omega]
   simp only [Nat.add_mul]
   have: ∀x k:Nat,x*(k*10)=10*x*k:=fun x k=>by rw [Nat.mul_comm k 10,←Nat.mul_assoc,Nat.mul_comm x 10]
   rw [this,this]
   omega
  rw [e1,hdm]
  simp only [Nat.add_mul]
  omega
 ·obtain⟨t,ht⟩:=h.pre
  exact⟨c::t,by rw [ht];simp⟩
 ·intro d hd
  rcases List.mem_cons.1 hd with rfl|hd
  ·exact aK7 hlt
  ·exact h.dig d hd
 ·by_cases hq0:0<q
  ·exact .inl hq0
  ·exact .inr (by simp only [List.head?_cons,ne_eq,Option.some.injEq];exact bj8 hlt (by omega))
theorem br5 {p b m:Nat} {D lo:List UInt8} (h:AddR p b D [] lo m) (hm:0<m):AddR p b D [] (digB (m % 10)::lo) (m / 10):=by
 have hlt:m % 10<10:=Nat.mod_lt _ (by decide)
 have hdm:=Nat.div_add_mod m 10
 generalize hq:m / 10=q at*
 generalize hr:m % 10=r at*
 refine⟨?_,h.pre,?_,fun _=>⟨by simp,?_⟩,fun e=>absurd rfl e⟩
 ·rw [←h.val,ao6,List.length_cons,ae0 hlt,Nat.pow_succ]
  have e1:valN []*(10 ^ lo.length*10)+q*(10 ^ lo.length*10)+((48+r - 48)*10 ^ lo.length+valN lo)=(10*q+r)*10 ^ lo.length+valN lo:=by
   rw [show 48+r - 48=r by omega,show valN []=0 from ai7 0]
   simp only [Nat.add_mul]
   have: ∀x k:Nat,x*(k*10)=10*x*k:=fun x k=>by rw [Nat.mul_comm k 10,←Nat.mul_assoc,Nat.mul_comm x 10]
   rw [this,this]
   omega
  rw [e1,hdm,show valN []=0 from ai7 0]
  omega
 ·intro d hd
  rcases List.mem_cons.1 hd with rfl|hd
  ·exact aK7 hlt
  ·exact h.dig d hd
 ·by_cases hq0:0<q
  ·exact .inl hq0
  ·exact .inr (by simp only [List.head?_cons,ne_eq,Option.some.injEq];exact bj8 hlt (by omega))
theorem bi0 {b:Nat} {D hi lo:List UInt8} (h:AddR (valN D) b D hi lo 0) (hD:av3 D):decL (valN D+b)=hi++lo:=by
 have hv:valN (hi++lo)=valN D+b:=by rw [ap5,←h.val];omega
 rw [←hv]
 refine aI0 ?_
 obtain⟨t,ht⟩:=h.pre
 have hall:as9 (hi++lo):=fun c hc=>by
  rcases List.mem_append.1 hc with hc|hc
  ·exact hD.1 c (by rw [ht];simp [hc])
  ·exact h.dig c hc
 cases hi with
 |nil=>
  obtain⟨h0,h1⟩:=h.lead rfl
  refine⟨hall,by simpa using h0,.inr ?_⟩
  rcases h1 with h1|h1
  ·omega
  ·exact h1
 |cons x hi'=>
  refine⟨hall,by simp,?_⟩
  have hlen:=h.len (by simp)
  rcases hD.2.2 with h1|h1
  ·left
   rw [List.length_append]
   omega
  ·right
   rw [ht] at h1
   exact h1
end
section
open Go.RowKit
theorem BRow.set {w:World} {B g:Nat} {l:List UInt8} (h:BRow w B g l) (k:Nat) (hk:k<l.length) (c:UInt8):BRow (w.setCell ⟨g,k,none⟩ (.int .u8 (c.toNat:Int))) B g (l.set k c):=by
 refine⟨fun j hj=> ?_,fun j hj=> ?_,h.ge⟩
 ·rw [List.length_set] at hj
  by_cases e:k=j
  ·subst e
   rw [World.cell?_setCell_same _ _ _ (h.cell k hk)]
   simp
  ·rw [World.cell?_setCell_other _ _ _ _ (fun e'=>e (congrArg Addr.off e')),h.cell j hj,List.getElem_set_ne e]
 ·rw [World.frozen?_setCell]
  rw [List.length_set] at hj
  exact h.fz j hj
theorem aC7 {w:World} {B g cap:Nat} {l:List UInt8} (h:BRow w B g l):(convert 41 9 (.slice (some ⟨g,0,none⟩) l.length cap)).run Tryz.prog w= .ok (.string ⟨l.toArray⟩) w:=by
 refine run_convert_bytes_back w 41 9 5 ⟨g,0,none⟩ cap l (by kernel_rfl) (by kernel_rfl) (by kernel_rfl) fun j hj=> ?_
 have:=h.cell j hj
 have hadd:(⟨g,0,none⟩:Addr).add j=⟨g,j,none⟩:=by unfold Addr.add;split<;>simp_all
 rw [hadd]
 exact this
theorem bn5 (l:List UInt8): ∀u ∈ Lib.byteCells l,u.oneCell'=true:=by
 intro u hu
 simp only [Lib.byteCells,List.mem_map] at hu
 obtain⟨b,_,rfl⟩:=hu
 rfl
theorem aE3 (l:List UInt8):l= []∨∃m c,l=m++ [c]:=by
 rcases List.eq_nil_or_concat l with h|⟨m,c,h⟩
 ·exact .inl h
 ·exact .inr ⟨m,c,by rw [h,List.concat_eq_append]⟩
theorem bt1:(Tryz.prog.info? 5).map (fun i=>(i.zero,i.size,i.bytes))=some (some (.int .u8 0),1,1):=by kernel_rfl
def AddS (w wr:World) (p b:Nat) (D:List UInt8) (n v i:Value):Prop:=
 ∃(m g cap:Nat) (hi lo:List UInt8),n= .int .i64 m∧m≤4194304∧hi.length+lo.length+m≤20971520∧v= .slice (some ⟨g,0,none⟩) (hi++lo).length cap∧i= .int .i64 ((hi.length:Int) - 1)∧BRow wr w.heap.size g (hi++lo)∧AddR p b D hi lo m∧Below w.heap.size w wr
theorem bw3 (s:ByteArray) (b:Nat) (w:World) (hs:s.size≤16777216) (hb:b≤4194304) (hD:av3 s.data.toList):
  Calls Tryz.prog 72 #[.string s,.bool false,.int .i64 b] w fun e w'=>e= .returned (.tuple #[.string ⟨(decL (valN s.data.toList+b)).toArray⟩,.bool false])∧Below w.heap.size w w':=by
 obtain⟨i0,hi0,hz0,hz1,hz2⟩:=info_parts bt1
 have HD:=hJ hD
 have hbb:=aC8 w s
 have hbr:=aZ2 w s
 have hcv:=Lib.run_convert_string_bytes (P:=Tryz.prog) (u:= .string) w 9 41 5 s (by kernel_rfl) (by kernel_rfl) (by kernel_rfl)
 generalize Lib.bytesWorld w 5 s=w1 at*
 generalize grownCap w s.size 0 5=cp at*
 have HB:=hJ hbb
 have HR:=hJ hbr
 clear hD hbb hbr
 go_enter Tryz.func72,Tryz.ntmps72
 go_wp2_with fail
 go_loopw [2,10,11] (fun n v i wr=>AddS w wr (valN s.data.toList) b s.data.toList n v i) (fun n _ i _=>(intOf i+1).toNat+(intOf n).toNat)
 case atStart=>
  refine⟨b,w.heap.size,cp,s.data.toList,[],rfl,by omega,by rw [ofl,List.length_nil];omega,by rw [List.append_nil,ofl],by rw [ofl],by rw [List.append_nil];exact HR.out,bc6 _ _ HD.out.2.1,HB.out⟩
 case round=>
  obtain⟨m,g,cap,hi,lo,rfl,hm,hsum,rfl,rfl,hbr,har,hbel⟩:=hrel
  have HAR:=hJ har
  have HBR:=hJ hbr
  clear har hbr
  by_cases hm0:0<m
  ·rcases aE3 hi with rfl|⟨hi',c,rfl⟩
   ·have hge:=HBR.out.ge
    have hnews: ∀(j:Nat) (u:Value),(Lib.byteCells lo)[j]? =some u→(wr.alloc (.cells #[.int .u8 48] 5)).cell? ((⟨g,0,none⟩:Addr).add j)=some u:=fun j u hj=>by
     have hjl:j<lo.length:=by
      have:=(List.getElem?_eq_some_iff.1 hj).1
      simpa [Lib.byteCells] using this
     have hc:=HBR.out.cell j hjl
     have hadd:(⟨g,0,none⟩:Addr).add j=⟨g,j,none⟩:=by unfold Addr.add;split<;>simp_all
     have e:u= .int .u8 (lo[j].toNat:Int):=by
      have:(Lib.byteCells lo)[j]? =some (.int .u8 (lo[j].toNat:Int)):=by simp [Lib.byteCells,List.getElem?_eq_getElem hjl]
      rw [this] at hj
      exact(Option.some.inj hj).symm
     have hal:Below wr.heap.size wr (wr.alloc (.cells #[.int .u8 48] 5)):=(Below.refl _ _).alloc (Nat.le_refl _) _
     rw [hadd,hal.cell (World.block_lt_of_cell? _ _ hc),e]
     exact hc
    have HNW:=hJ hnews
    rw [List.length_nil,Nat.zero_add] at hsum
    clear hnews
    rw [List.nil_append]
    go_wp2_with (at_builtin;(refine wpList_append_own_at _ rfl _ _ 41 rfl wr.heap.size 5 i0 (.int .u8 0) 1 1 (by kernel_rfl) hi0 hz0 hz1 hz2 rfl (by decide) _ 1 [.int .u8 48] rfl (World.ownsRow_lit wr #[.int .u8 48] 1 (Nat.le_refl _) (by decide) rfl) ⟨g,0,none⟩ lo.length cap (Lib.byteCells lo) rfl (by simp [Lib.byteCells]) HNW.out (bn5 lo) (by unfold maxLen;omega) (by omega) (by rw [World.size_alloc];omega) ?_))
    intro v' w2 hown' hgrow _ _
    have hb1:Below w.heap.size w w2:=by
     refine(hbel.alloc hbel.size _).grown hgrow ?_ ?_
     ·rw [World.size_alloc];have:=hbel.size;omega
     ·intro k hk
      cases hk
      exact hbel.size
    rcases hown'.2 with ⟨_,h0⟩|⟨g2,cap2,cur,rfl,hgb,_⟩
    ·omega
    have hbr2:BRow w2 wr.heap.size g2 (48::lo):=BRow.of_own hown' (by rw [List.length_cons];omega)
    have hcell:w2.cell? ⟨g2,0,none⟩=some (.int .u8 48):=hbr2.cell 0 (by simp)
    have hfz:w2.frozen? ⟨g2,0,none⟩=false:=hbr2.fz 0 (by simp)
    have hbs:=hbr2.set 0 (by simp) (digB (m % 10))
    rw [List.set_cons_zero,ae0 (Nat.mod_lt _ (by decide))] at hbs
    have HN:=hJ (br5 HAR.out hm0)
    have HBS:=hJ hbs
    have HSZ:=hJ hbel.size
    clear hown' hgrow hbr2 hbs hbel HNW HBR hge
    go_wp2_with fail
    go_roundw
    case rel=>
     have hv:(48+(m:Int) % 10)=((48+m % 10:Nat):Int):=by omega
     rw [hv]
     refine⟨m / 10,g2,cap2,[],digB (m % 10)::lo,?_,by omega,?_,?_,rfl,⟨HBS.out.cell,HBS.out.fz,Nat.le_trans HSZ.out HBS.out.ge⟩,HN.out,hb1.setCell (Nat.le_trans HSZ.out hgb) _⟩
     ·congr 1
     ·rw [List.length_cons,List.length_nil];omega
     ·congr 1;rw [List.nil_append,List.length_cons];omega
    case measure=>simp [intOf];omega
   ·have hlen:(hi'++ [c]++lo).length=hi'.length+1+lo.length:=by simp;omega
    have hk:hi'.length<(hi'++ [c]++lo).length:=by omega
    have hce:(hi'++ [c]++lo)[hi'.length]=c:=by simp
    have hcell:=HBR.out.cell hi'.length hk
    have hfz:=HBR.out.fz hi'.length hk
    rw [hce] at hcell
    have hc:=(HD.out.1 c (by obtain⟨t,ht⟩:=HAR.out.pre;rw [ht];simp))
    have hset:(hi'++ [c]++lo).set hi'.length (digB ((m+(c.toNat - 48)) % 10))=hi'++digB ((m+(c.toNat - 48)) % 10)::lo:=by simp
    have hbs:=HBR.out.set hi'.length hk (digB ((m+(c.toNat - 48)) % 10))
    rw [hset,ae0 (Nat.mod_lt _ (by decide))] at hbs
    have HN:=hJ (bB2 HAR.out hm0)
    have HBS:=hJ hbs
    have hsz:(hi'++ [c]++lo).length=(hi'++digB ((m+(c.toNat - 48)) % 10)::lo).length:=by simp
    have HSZ:=hJ hsz
    have hge:=HBR.out.ge
    rw [List.length_append,List.length_singleton] at hsum
    clear hset hbs hce hsz
    rw [hlen] at hk⊢
    go_wp2_with fail
    go_roundw
    case rel=>
     have hv:(48+((m:Int)+((c.toNat:Int) - 48)) % 10)=((48+(m+(c.toNat - 48)) % 10:Nat):Int):=by omega
     rw [hv]
     refine⟨(m+(c.toNat - 48)) / 10,g,cap,hi',digB ((m+(c.toNat - 48)) % 10)::lo,?_,by omega,?_,?_,rfl,HBS.out,HN.out,hbel.setCell hge _⟩
     ·congr 1;omega
     ·rw [List.length_cons];omega
     ·congr 1;rw [List.length_append,List.length_cons];omega
    case measure=>simp [intOf];omega
  ·obtain rfl:m=0:=by omega
   have hstr:=aC7 (cap:=cap) HBR.out
   rw [List.length_append] at hstr⊢
   have HF:=hJ (bi0 HAR.out HD.out)
   go_wp2_with fail
   go_ret2
   exact⟨by rw [HF.out];rfl,hbel⟩
end
section
open Go.RowKit
structure SubR (r:Nat) (D hi lo:List UInt8) (m:Nat):Prop where
 val:valN hi*10 ^ lo.length+valN lo=r+m*10 ^ lo.length
 pre: ∃t,D=hi++t
 dig:as9 lo
theorem bh2 {D:List UInt8} {b:Nat} (h:b<valN D):SubR (valN D - b) D D [] b:=
 ⟨by simp [show valN []=0 from ai7 0];omega,⟨[],by simp⟩,fun _ h=>(by cases h)⟩
theorem bq5 {r m:Nat} {D lo:List UInt8} (h:SubR r D [] lo m) (hr:0<r) (hm:0<m):False:=by
 have h1:=h.val
 rw [show valN []=0 from ai7 0,Nat.zero_mul,Nat.zero_add] at h1
 have h2:=bq7 h.dig
 have h3:1*10 ^ lo.length≤m*10 ^ lo.length:=Nat.mul_le_mul_right _ hm
 omega
theorem bq4 {r m d k:Nat} {D hi lo:List UInt8} {c:UInt8} (h:SubR r D (hi++ [c]) lo m) (hd:d<10) (he:(c.toNat - 48)+10*k=d+m % 10):SubR r D hi (digB d::lo) (m / 10+k):=by
 have hdm:=Nat.div_add_mod m 10
 refine⟨?_,?_,?_⟩
 ·have hv:=h.val
  rw [aG7] at hv
  rw [ao6,List.length_cons,ae0 hd,Nat.pow_succ,show 48+d - 48=d by omega]
  generalize 10 ^ lo.length=T at*
  have e1:(10*valN hi+(c.toNat - 48))*T+10*k*T=valN hi*(T*10)+(d*T+m % 10*T):=by
   rw [←Nat.add_mul,←Nat.add_mul,Nat.add_assoc,he,Nat.add_mul]
   congr 1
   rw [Nat.mul_comm 10,Nat.mul_assoc,Nat.mul_comm 10]
  have e2:(m / 10+k)*(T*10)+m % 10*T=m*T+10*k*T:=by
   conv=>rhs;rw [←hdm]
   rw [Nat.add_mul,Nat.add_mul]
   have: ∀x:Nat,x*(T*10)=10*x*T:=fun x=>by rw [Nat.mul_comm T 10,←Nat.mul_assoc,Nat.mul_comm x 10]
   rw [this,this]
   omega
  omega
 ·obtain⟨t,ht⟩:=h.pre
  exact⟨c::t,by rw [ht];simp⟩
 ·intro x hx
  rcases List.mem_cons.1 hx with rfl|hx
  ·exact aK7 hd
  ·exact h.dig x hx
theorem aR3: ∀l:List UInt8,valN (l.dropWhile (· ==48))=valN l
 | []=>rfl
 |c::l=>by
  rw [List.dropWhile_cons]
  split
  ·rename_i h
   have hc:c=48:=by simpa using h
   rw [aR3 l,ao6,hc]
   show _=(48 - 48)*_+_
   simp
  ·rfl
theorem aG4: ∀l:List UInt8,(l.dropWhile (· ==48)).head?≠some 48
 | []=>by simp
 |c::l=>by
  rw [List.dropWhile_cons]
  split
  ·exact aG4 l
  ·rename_i h
   simpa using h
theorem by9 {l:List UInt8} (hd:as9 l) (hv:0<valN l):Lib.trimLeftB l 48=decL (valN l):=by
 unfold Lib.trimLeftB
 have h1:=aR3 l
 rw [←h1]
 refine(aI0 ⟨fun c hc=>hd c ((List.dropWhile_sublist _).subset hc),?_,.inr (aG4 l)⟩).symm
 intro e
 rw [e,show valN []=0 from ai7 0] at h1
 omega
theorem bq3 {r:Nat} {D hi lo:List UInt8} (h:SubR r D hi lo 0) (hD:as9 D) (hr:0<r):Lib.trimLeftB (hi++lo) 48=decL r:=by
 have hv:valN (hi++lo)=r:=by rw [ap5,h.val];omega
 obtain⟨t,ht⟩:=h.pre
 rw [by9 (fun c hc=>by
  rcases List.mem_append.1 hc with hc|hc
  ·exact hD c (by rw [ht];simp [hc])
  ·exact h.dig c hc) (by omega),hv]
def SubS (w wr:World) (r g:Nat) (n:Nat) (D:List UInt8) (v i:Value):Prop:=
 ∃(m:Nat) (hi lo:List UInt8),v= .int .i64 m∧m≤4194304∧i= .int .i64 ((hi.length:Int) - 1)∧hi.length+lo.length=n∧BRow wr w.heap.size g (hi++lo)∧SubR r D hi lo m∧Below w.heap.size w wr
def at8 (p b:Nat):ByteArray × Bool:=if p≤b then (⟨(decL (b - p)).toArray⟩,false) else (⟨(decL (p - b)).toArray⟩,true)
theorem bw5 (s:ByteArray) (b:Nat) (w:World) (hs:s.size≤16777216) (hb:b≤4194304) (hD:av3 s.data.toList):
  Calls Tryz.prog 72 #[.string s,.bool true,.int .i64 b] w fun e w'=>e= .returned (.tuple #[.string (at8 (valN s.data.toList) b).1,.bool (at8 (valN s.data.toList) b).2])∧Below w.heap.size w w':=by
 have HD:=hJ hD
 have hbb:=aC8 w s
 have hbr:=aZ2 w s
 have hcv:=Lib.run_convert_string_bytes (P:=Tryz.prog) (u:= .string) w 9 41 5 s (by kernel_rfl) (by kernel_rfl) (by kernel_rfl)
 generalize Lib.bytesWorld w 5 s=w1 at*
 generalize grownCap w s.size 0 5=cp at*
 have HB:=hJ hbb
 have HR:=hJ hbr
 have hsm:=fun W=>bp8 s b W hs (by omega) hD.1
 clear hD hbb hbr
 by_cases hle:valN s.data.toList≤b
 ·have hz:ax5 s.data.toList b=valN s.data.toList:=by unfold ax5;rw [if_pos hle]
  rw [hz] at hsm
  have HM:=hJ (show at8 (valN s.data.toList) b=(⟨(decL (b - valN s.data.toList)).toArray⟩,false) by unfold at8;rw [if_pos hle])
  generalize valN s.data.toList=p at*
  have HS:=hJ hsm
  have HT:=hJ (by7 (b - p) (by omega))
  clear hsm hz
  go_enter Tryz.func72,Tryz.ntmps72
  go_wp2_with (first|(go_at_call 126;refine(HS.out _).mono ?_;rintro e w2 ⟨rfl,rfl⟩)|(go_at_call 127;refine(HT.out _ _ (by omega)).mono ?_;rintro e w3 ⟨rfl,hb3⟩))
  go_ret2
  exact⟨by rw [HM.out];rfl,aa0 HB.out hb3⟩
 ·have hz:ax5 s.data.toList b= -1:=by unfold ax5;rw [if_neg hle]
  rw [hz] at hsm
  have HM:=hJ (show at8 (valN s.data.toList) b=(⟨(decL (valN s.data.toList - b)).toArray⟩,true) by unfold at8;rw [if_neg hle])
  have HS:=hJ hsm
  have HST:=hJ (bh2 (D:=s.data.toList) (b:=b) (by omega))
  have hr0:0<valN s.data.toList - b:=by omega
  clear hsm hz hle
  generalize valN s.data.toList - b=r at*
  go_enter Tryz.func72,Tryz.ntmps72
  go_wp2_with (go_at_call 126;refine(HS.out _).mono ?_;rintro e w2 ⟨rfl,rfl⟩)
  go_loopw [2,13,14] (fun v i _ wr=>SubS w wr r w.heap.size s.size s.data.toList v i) (fun _ i _ _=>(intOf i+1).toNat)
  case atStart=>
   exact⟨b,s.data.toList,[],rfl,hb,by rw [ofl],by rw [ofl];rfl,by rw [List.append_nil];exact HR.out,HST.out,HB.out⟩
  case round=>
   obtain⟨m,hi,lo,rfl,hm,rfl,hlen,hbr,hsr,hbel⟩:=hrel
   have HSR:=hJ hsr
   have HBR:=hJ hbr
   clear hsr hbr
   by_cases hm0:0<m
   ·rcases aE3 hi with rfl|⟨hi',c,rfl⟩
    ·exact absurd (bq5 HSR.out hr0 hm0) id
    ·have hl2:(hi'++ [c]++lo).length=s.size:=by rw [List.length_append];exact hlen
     rw [List.length_append,List.length_singleton] at hlen
     have hk:hi'.length<(hi'++ [c]++lo).length:=by omega
     have hce:(hi'++ [c]++lo)[hi'.length]=c:=by simp
     have hcell:=HBR.out.cell hi'.length hk
     have hfz:=HBR.out.fz hi'.length hk
     rw [hce] at hcell
     have hc:=(HD.out.1 c (by obtain⟨t,ht⟩:=HSR.out.pre;rw [ht];simp))
     have hge:=HBR.out.ge
     by_cases hlt:c.toNat - 48<m % 10
     ·have hdl:c.toNat - 48+10 - m % 10<10:=by omega
      have hset:(hi'++ [c]++lo).set hi'.length (digB (c.toNat - 48+10 - m % 10))=hi'++digB (c.toNat - 48+10 - m % 10)::lo:=by simp
      have hbs:=HBR.out.set hi'.length hk (digB (c.toNat - 48+10 - m % 10))
      rw [hset,ae0 hdl] at hbs
      have HN:=hJ (bq4 (k:=1) HSR.out hdl (by omega))
      have HBS:=hJ hbs
      clear hset hbs hce hl2 hk
      go_wp2_with fail
      go_roundw
      case rel=>
       have hv:(48+((c.toNat:Int) - 48 - (m:Int) % 10+10))=((48+(c.toNat - 48+10 - m % 10):Nat):Int):=by omega
       rw [hv]
       refine⟨m / 10+1,hi',digB (c.toNat - 48+10 - m % 10)::lo,?_,by omega,rfl,?_,HBS.out,HN.out,hbel.setCell hge _⟩
       ·congr 1
       ·rw [List.length_cons];omega
      case measure=>simp [intOf]
     ·have hdl:c.toNat - 48 - m % 10<10:=by omega
      have hset:(hi'++ [c]++lo).set hi'.length (digB (c.toNat - 48 - m % 10))=hi'++digB (c.toNat - 48 - m % 10)::lo:=by simp
      have hbs:=HBR.out.set hi'.length hk (digB (c.toNat - 48 - m % 10))
      rw [hset,ae0 hdl] at hbs
      have HN:=hJ (bq4 (k:=0) HSR.out hdl (by omega))
      have HBS:=hJ hbs
      clear hset hbs hce hl2 hk
      go_wp2_with fail
      go_roundw
      case rel=>
       have hv:(48+((c.toNat:Int) - 48 - (m:Int) % 10))=((48+(c.toNat - 48 - m % 10):Nat):Int):=by omega
       rw [hv]
       refine⟨m / 10,hi',digB (c.toNat - 48 - m % 10)::lo,?_,by omega,rfl,?_,HBS.out,HN.out,hbel.setCell hge _⟩
       ·congr 1
       ·rw [List.length_cons];omega
      case measure=>simp [intOf]
   ·obtain rfl:m=0:=by omega
    have hstr:=aC7 (cap:=cp) HBR.out
    rw [List.length_append,hlen] at hstr
    obtain⟨Q,hQ⟩: ∃Q:ByteArray,(⟨(hi++lo).toArray⟩:ByteArray)=Q:=⟨_,rfl⟩
    have hQl:Q.data.toList=hi++lo:=by rw [←hQ]
    rw [hQ] at hstr
    have hT:=fun W=>Tryz.strings_TrimLeft_one Q 48 (by decide) W
    rw [hQl,bq3 HSR.out HD.out.1 hr0] at hT
    have HT:=hJ hT
    clear hT hQl hQ
    go_wp2_with (go_at_call 67;refine(HT.out _).mono ?_;rintro e w2 ⟨rfl,rfl⟩)
    go_ret2
    exact⟨by rw [HM.out];rfl,hbel⟩
end
section
open Go.RowKit
def ar4 (p:Nat) (minus:Bool) (z:Int):Int:=(if minus then -(p:Int) else p)+z
theorem aN5:decL 0= [48]:=by rw [aj3 (by decide)];rfl
theorem bC1 {n:Nat} (h:decL n= [48]):n=0:=by
 by_cases h10:n<10
 ·rw [aj3 h10] at h
  have:=congrArg UInt8.toNat (List.cons.inj h).1
  rw [ae0 h10] at this
  have e48:(48:UInt8).toNat=48:=rfl
  omega
 ·rw [aZ5 h10] at h
  have h1:=congrArg List.length h
  rw [List.length_append,List.length_singleton] at h1
  have hpos: ∀m,0<(decL m).length:=fun m=>by
   by_cases hm:m<10
   ·rw [aj3 hm];simp
   ·rw [decL,if_neg hm];simp
  have a1:=hpos (n / 10)
  have a2:=hpos (n % 10)
  omega
def aO8 (p:Nat) (minus:Bool) (z:Int):Ending:= .returned (.tuple #[.string ⟨(decL (ar4 p minus z).natAbs).toArray⟩,.bool (decide (ar4 p minus z<0))])
theorem ba5 (s:ByteArray) (minus:Bool) (b:Nat) (w:World) (hs:s.size≤16777216) (hb:b≤4194304) (hD:av3 s.data.toList) (z:Int) (hz:z=b):
  Calls Tryz.prog 72 #[.string s,.bool minus,.int .i64 z] w fun e w'=>e=aO8 (valN s.data.toList) minus z∧Below w.heap.size w w':=by
 subst hz
 cases minus with
 |false=>
  refine(bw3 s b w hs hb hD).mono fun e w' ⟨he,hw⟩=>⟨he.trans ?_,hw⟩
  unfold aO8 ar4
  rw [show ((if false=true then -(valN s.data.toList:Int) else (valN s.data.toList:Int))+(b:Int))=((valN s.data.toList+b:Nat):Int) by simp,Int.natAbs_natCast,decide_eq_false (by omega)]
 |true=>
  refine(bw5 s b w hs hb hD).mono fun e w' ⟨he,hw⟩=>⟨he.trans ?_,hw⟩
  unfold aO8 ar4 at8
  by_cases h:valN s.data.toList≤b
  ·rw [if_pos h,show((if true=true then -(valN s.data.toList:Int) else (valN s.data.toList:Int))+(b:Int))=((b - valN s.data.toList:Nat):Int) by simp;omega,Int.natAbs_natCast,decide_eq_false (by omega)]
  ·rw [if_neg h,show((if true=true then -(valN s.data.toList:Int) else (valN s.data.toList:Int))+(b:Int))= -((valN s.data.toList - b:Nat):Int) by simp;omega,Int.natAbs_neg,Int.natAbs_natCast,decide_eq_true (by omega)]
theorem bw4 (s:ByteArray) (minus:Bool) (z:Int) (w:World) (hs:s.size≤16777216) (h1: -4194304≤z) (h2:z≤4194304) (hD:av3 s.data.toList):
  Calls Tryz.prog 72 #[.string s,.bool minus,.int .i64 z] w fun e w'=>e=aO8 (valN s.data.toList) minus z∧Below w.heap.size w w':=by
 by_cases hz:0≤z
 ·exact ba5 s minus z.toNat w hs (by omega) hD z (by omega)
 ·have hin:=fun(W:World) (y:Int) (hy:y=(-z).toNat)=>ba5 s (!minus) (-z).toNat W hs (by omega) hD y hy
  have hneg:ar4 (valN s.data.toList) (!minus) (-z)= -ar4 (valN s.data.toList) minus z:=by
   unfold ar4
   cases minus<;>simp<;>omega
  have hA:aO8 (valN s.data.toList) (!minus) (-z)= .returned (.tuple #[.string ⟨(decL (ar4 (valN s.data.toList) minus z).natAbs).toArray⟩,.bool (decide (0<ar4 (valN s.data.toList) minus z))]):=by
   unfold aO8
   rw [hneg,Int.natAbs_neg]
   congr 5
   simp
  have hB:aO8 (valN s.data.toList) minus z= .returned (.tuple #[.string ⟨(decL (ar4 (valN s.data.toList) minus z).natAbs).toArray⟩,.bool (decide (ar4 (valN s.data.toList) minus z<0))]):=rfl
  have hin2: ∀(W:World) (y:Int),y= -z→Calls Tryz.prog 72 #[.string s,.bool (!minus),.int .i64 y] W fun e w'=>e= .returned (.tuple #[.string ⟨(decL (ar4 (valN s.data.toList) minus z).natAbs).toArray⟩,.bool (decide (0<ar4 (valN s.data.toList) minus z))])∧Below W.heap.size W w':=fun W y hy=>by
   subst hy
   have:=hin W (-z) (by omega)
   rw [hA] at this
   exact this
  rw [hB]
  generalize ar4 (valN s.data.toList) minus z=v at*
  obtain⟨T,hT⟩: ∃T:ByteArray,(⟨(decL v.natAbs).toArray⟩:ByteArray)=T:=⟨_,rfl⟩
  have hTl:T.data.toList=decL v.natAbs:=by rw [←hT]
  rw [hT] at hin2⊢
  have HIN:=hJ hin2
  clear hin hin2 hA hB hneg hT
  by_cases hv0:v=0
  ·have hT0:T=⟨#[48]⟩:=(ab9 T [48] (by rw [hTl,hv0];exact aN5)).symm
   subst hT0
   have HV:=hJ hv0
   have HINV:=hJ (show∀(W:World) (y:Int),y= -z→Calls Tryz.prog 72 #[.string s,.bool (!minus),.int .i64 y] W fun e w'=>e= .returned (.tuple #[.string ⟨#[48]⟩,.bool false])∧Below W.heap.size W w' from fun W y hy=>by
    have:=HIN.out W y hy
    rw [decide_eq_false (show¬0<v by omega)] at this
    exact this)
   clear hTl hv0
   cases minus
   all_goals
    go_enter Tryz.func72,Tryz.ntmps72
    go_wp2_with (go_at_call 72;refine(HINV.out _ _ (by omega)).mono ?_;rintro e w1 ⟨rfl,hb1⟩)
    go_ret2
    exact⟨by rw [decide_eq_false (show¬v<0 by have:=HV.out;omega)];rfl,hb1⟩
  ·have hne:T.toList≠ [48]:=fun e=>by
    rw [Lib.toList_data,hTl] at e
    have:=bC1 e
    omega
   by_cases hp:0<v
   ·have HV:=hJ hp
    have HINV:=hJ (show∀(W:World) (y:Int),y= -z→Calls Tryz.prog 72 #[.string s,.bool (!minus),.int .i64 y] W fun e w'=>e= .returned (.tuple #[.string T,.bool true])∧Below W.heap.size W w' from fun W y hy=>by
     have:=HIN.out W y hy
     rw [decide_eq_true hp] at this
     exact this)
    clear hTl hv0 hne hp HIN
    cases minus
    all_goals
     go_enter Tryz.func72,Tryz.ntmps72
     go_wp2_with (go_at_call 72;refine(HINV.out _ _ (by omega)).mono ?_;rintro e w1 ⟨rfl,hb1⟩)
     go_ret2
     exact⟨by rw [decide_eq_false (show¬v<0 by have:=HV.out;omega)];rfl,hb1⟩
   ·have HV:=hJ (show v<0 by omega)
    have HINV:=hJ (show∀(W:World) (y:Int),y= -z→Calls Tryz.prog 72 #[.string s,.bool (!minus),.int .i64 y] W fun e w'=>e= .returned (.tuple #[.string T,.bool false])∧Below W.heap.size W w' from fun W y hy=>by
     have:=HIN.out W y hy
     rw [decide_eq_false hp] at this
     exact this)
    have hne1:(T.toList== [48])=false:=by rw [beq_eq_false_iff_ne];exact hne
    have hne2:(T.toList != [48])=true:=by rw [bne_iff_ne];exact hne
    clear hTl hv0 hp HIN
    cases minus
    all_goals
     go_enter Tryz.func72,Tryz.ntmps72
     go_wp2_with (go_at_call 72;refine(HINV.out _ _ (by omega)).mono ?_;rintro e w1 ⟨rfl,hb1⟩)
     go_ret2
     exact⟨by rw [decide_eq_true HV.out];rfl,hb1⟩
end
section
def okB (b:Nat) (c:UInt8):Prop:=isD b c=true∨c=95
theorem aL7 (b:Nat): ∀(p:Bool) (l:List UInt8),∀c ∈ l.take (runN b p l),okB b c
 |_,[],c,h=>by simp [runN] at h
 |p,d::l,c,h=>by
  rw [runN] at h
  split at h
  ·rename_i hd
   rw [List.take_succ_cons] at h
   rcases List.mem_cons.1 h with rfl|h
   ·exact .inl hd
   ·exact aL7 b true l c h
  ·split at h
   ·rename_i hu
    rw [List.take_succ_cons] at h
    rcases List.mem_cons.1 h with rfl|h
    ·exact .inr hu.1
    ·exact aL7 b false l c h
   ·simp at h
theorem aB9 (b:Nat) (s:ByteArray): ∀c ∈ (runB b s).1.data.toList,okB b c:=by
 intro c hc
 unfold runB at hc
 simp only [az8] at hc
 exact aL7 b false _ c hc
theorem bI5 {c:UInt8} (h:isD 0 c=true):48≤c.toNat∧c.toNat≤57:=by
 unfold isD at h
 split at h
 ·omega
 ·split at h
  ·omega
  ·split at h
   ·omega
   ·simp at h
theorem bk9 {b:Nat} {c:UInt8} (h:isD b c=true):c.toNat<128:=by
 unfold isD at h
 split at h
 ·omega
 ·split at h
  ·omega
  ·split at h
   ·omega
   ·have h:=of_decide_eq_true h
    have g: ∀n:Fin 256,(n.val|||32)≤102→n.val<128:=by decide+kernel
    exact g ⟨c.toNat,c.toNat_lt⟩ h.2.2.1
theorem bn2 {b:Nat} {c:UInt8} (h:okB b c):c.toNat<128:=by
 rcases h with h|rfl
 ·exact bk9 h
 ·decide
structure bH0 (s:ByteArray) (x:Lit):Prop where
 base:x.base=(if an7 s=true then 16 else 10)
 whole: ∃b,(∀c ∈ x.whole.data.toList,okB b c)∧(an7 s=false→b=0)
 part: ∀c ∈ x.part.data.toList,okB 0 c
 power: ∀c ∈ x.power.data.toList,okB 0 c
 sizes:x.whole.size≤s.size∧x.part.size≤s.size∧x.power.size≤s.size
theorem aD2 (b:Nat): ∀c ∈ emp.data.toList,okB b c:=fun c h=>by cases h
theorem bh4 (s:ByteArray): ∀c ∈ (ac3 s).1.data.toList,okB 0 c:=by
 unfold ac3
 split
 ·intro c hc
  have:c=48:=by simpa using hc
  subst this
  exact .inl (by decide)
 ·exact aB9 0 s
theorem bh5 (s:ByteArray):(ac3 s).1.size≤s.size:=by
 unfold ac3
 split
 ·rename_i h
  exact ag5 h
 ·exact(al8 0 s).2
theorem bn8 (s:ByteArray): ∀c ∈ (ag6 s).2.1.data.toList,okB 0 c:=by
 unfold ag6
 split
 ·exact aB9 0 _
 ·exact aD2 0
theorem bn9 (s:ByteArray):(ag6 s).2.1.size≤s.size:=by
 unfold ag6
 split
 ·have:=(al8 0 (s.extract 1 s.size)).2
  rw [ByteArray.size_extract] at this
  simp only
  omega
 ·exact Nat.zero_le _
theorem bx6 {m:Bool} {d:ByteArray} {q} (h:powO m d=some q):(∀c ∈ q.2.1.data.toList,okB 0 c)∧q.2.1.size≤d.size:=by
 unfold powO at h
 split at h
 ·cases h
 ·cases h
  exact⟨aB9 0 d,(al8 0 d).2⟩
theorem bC5 (x:Lit) (s:ByteArray) (hp: ∀c ∈ x.power.data.toList,okB 0 c) (hz:x.power.size≤s.size):
  (expL x s).1.base=x.base∧(expL x s).1.whole=x.whole∧(expL x s).1.part=x.part∧(∀c ∈ (expL x s).1.power.data.toList,okB 0 c)∧(expL x s).1.power.size≤s.size:=by
 unfold expL
 cases h:expO s with
 |none=>exact⟨rfl,rfl,rfl,hp,hz⟩
 |some q=>
  obtain⟨m,p,r⟩:=q
  unfold expO at h
  split at h
  ·split at h
   ·have h1:=bx6 h
    have h2:=az3 (s.extract 1 s.size)
    rw [ByteArray.size_extract] at h2
    exact⟨rfl,rfl,rfl,h1.1,by have:=h1.2;simp only at this⊢;omega⟩
   ·cases h
  ·cases h
theorem bB4 (x:Lit) (s:ByteArray):(bigL x s).1.base=x.base∧(bigL x s).1.whole=x.whole∧(bigL x s).1.part=x.part∧(bigL x s).1.power=x.power:=by
 unfold bigL
 split<;>exact⟨rfl,rfl,rfl,rfl⟩
theorem bG2 (s:ByteArray):bH0 s (ak3 s).1:=by
 unfold ak3
 cases ho:an7 s with
 |true=>
  rw [if_pos rfl]
  have hz:=(al8 (s.data.toList[1]!.toNat|||32) (s.extract 2 s.size)).2
  rw [ByteArray.size_extract] at hz
  exact⟨by rw [ho];rfl,⟨_,aB9 _ _,fun h=>by rw [ho] at h;cases h⟩,aD2 0,aD2 0,by simp only [aF8];omega,Nat.zero_le _,Nat.zero_le _⟩
 |false=>
  rw [if_neg (by decide)]
  have hw:=bh4 s
  have hwl:=bh5 s
  have hws:=au4 s
  have hp:=bn8 (ac3 s).2
  have hpl:=bn9 (ac3 s).2
  have hps:=ay7 (ac3 s).2
  unfold aF7
  simp only
  split
  ·exact⟨by rw [ho];rfl,⟨0,hw,fun _=>rfl⟩,hp,aD2 0,hwl,Nat.le_trans hpl hws,Nat.zero_le _⟩
  ·obtain⟨e1,e2,e3,e4,e5⟩:=bC5 (ai2 (ac3 s).1 (ag6 (ac3 s).2).1 (ag6 (ac3 s).2).2.1) (ag6 (ac3 s).2).2.2 (aD2 0) (Nat.zero_le _)
   obtain⟨g1,g2,g3,g4⟩:=bB4 (expL (ai2 (ac3 s).1 (ag6 (ac3 s).2).1 (ag6 (ac3 s).2).2.1) (ag6 (ac3 s).2).2.2).1 (expL (ai2 (ac3 s).1 (ag6 (ac3 s).2).1 (ag6 (ac3 s).2).2.1) (ag6 (ac3 s).2).2.2).2
   refine⟨by rw [g1,e1,ho];rfl,⟨0,by rw [g2,e2];exact hw,fun _=>rfl⟩,by rw [g3,e3];exact hp,by rw [g4];exact e4,by rw [g2,e2];exact hwl,by rw [g3,e3];exact Nat.le_trans hpl hws,by rw [g4];omega⟩
end
section
open Go.RowKit
def ap9 (l:List UInt8):List UInt8:=if l= [] then [48] else l
def aZ3 (s:ByteArray) (x:Lit):List UInt8:=Lib.toLowerA (s.data.toList.take 2)++ap9 (Lib.trimLeftB (Lib.toLowerA (ah0 x.whole.data.toList)) 48)++(aj4 x.big).data.toList
def bd6 (x:Lit):List UInt8:=Lib.trimLeftB (ah0 x.whole.data.toList++ah0 x.part.data.toList) 48
def powT (x:Lit):List UInt8:=ap9 (Lib.trimLeftB (ah0 x.power.data.toList) 48)
def valT (x:Lit):Int:=ar4 (valN (powT x)) (x.minus && decide (powT x≠ [48])) ((bd6 x).length - (Lib.trimRightB (bd6 x) 48).length - (ah0 x.part.data.toList).length)
def aZ4 (x:Lit):List UInt8:=
 if bd6 x= [] then [48]++(aj4 x.big).data.toList
 else Lib.trimRightB (bd6 x) 48++ [101]++((if valT x<0 then [45] else [])++decL (valT x).natAbs)++(aj4 x.big).data.toList
def az7 (s:ByteArray):List UInt8 × Int:=if (ax1 s).2=true then (if (ax1 s).1.base=16 then aZ3 s (ax1 s).1 else aZ4 (ax1 s).1,0) else ([],200)
theorem bl0 {s:ByteArray} (h:an7 s=true):2<s.size∧∀c ∈ s.data.toList.take 2,c.toNat<128:=by
 have h2:=aI4 h
 refine⟨h2,fun c hc=> ?_⟩
 unfold an7 at h
 rw [dif_pos h2] at h
 simp only [Bool.and_eq_true,Bool.or_eq_true,beq_iff_eq,decide_eq_true_eq] at h
 have e:s.data.toList.take 2= [s[0],s[1]]:=by
  have e0:=ac5 s 0 (by omega)
  have e1:=ac5 s 1 (by omega)
  rw [List.drop_zero] at e0
  rw [e0,e1]
  rfl
 rw [e] at hc
 rcases List.mem_cons.1 hc with rfl|hc
 ·rw [h.1.1];decide
 ·have hc:c=s[1]:=by simpa using hc
  subst hc
  have g: ∀n:Fin 256,((n.val|||32)=120∨(n.val|||32)=111∨(n.val|||32)=98)→n.val<128:=by decide+kernel
  exact g ⟨s[1].toNat,s[1].toNat_lt⟩ (by rcases h.1.2 with (h|h)|h<;>simp [h])
theorem aA7 (l:List UInt8): ∃A:ByteArray,(⟨l.toArray⟩:ByteArray)=A∧A.data.toList=l:=⟨_,rfl,rfl⟩
theorem aZ0 {l:List UInt8} (h: ∀c ∈ l,c.toNat<128): ∀(j:Nat) (b:UInt8),l[j]? =some b→b.toNat<128:=fun _ b hb=>h b (List.mem_of_getElem? hb)
theorem aI9 {l:List UInt8} {c:UInt8} (h:c ∈ ah0 l):c ∈ l:=(List.mem_filter.1 h).1
theorem bd4: ∀(k n:Nat),n<10 ^ k→(decL n).length≤k+1:=by
 intro k
 induction k with
 |zero=>
  intro n h
  have:n=0:=by simpa using h
  subst this
  rw [aN5]
  decide
 |succ k ih=>
  intro n h
  by_cases h10:n<10
  ·rw [aj3 h10];simp
  ·rw [decL,if_neg h10,List.length_append,List.length_singleton]
   have:=ih (n / 10) (by rw [Nat.pow_succ] at h;omega)
   omega
theorem bi9 {l:List UInt8} (h: ∀c ∈ l,okB 0 c):av3 (ap9 (Lib.trimLeftB (ah0 l) 48)):=by
 have hd:as9 (Lib.trimLeftB (ah0 l) 48):=fun c hc=>by
  have h1:=(List.dropWhile_sublist (· ==(48:UInt8))).subset hc
  rcases h c (aI9 h1) with h2|h2
  ·exact bI5 h2
  ·have:=(List.mem_filter.1 h1).2
   simp [h2] at this
 unfold ap9
 split
 ·refine⟨fun c hc=> ?_,by simp,.inl rfl⟩
  have:c=48:=by simpa using hc
  subst this
  decide
 ·rename_i hne
  exact⟨hd,hne,.inr (aG4 _)⟩
theorem bi8 (s:ByteArray) (w:World) (hs:s.size≤2097152) (hM:aq1 w):
  Calls Tryz.prog 38 #[.string s] w fun e w'=>e= .returned (.tuple #[.string ⟨(az7 s).1.toArray⟩,.int .i64 (az7 s).2])∧Below w.heap.size w w':=by
 have hR:=bo7 s w (by omega) hM
 have hok:bH0 s (ax1 s).1:=bG2 s
 have hcb:az7 s=if (ax1 s).2=true then (if (ax1 s).1.base=16 then aZ3 s (ax1 s).1 else aZ4 (ax1 s).1,0) else ([],200):=rfl
 have hoth:(ax1 s).1.base=16→2<s.size∧∀c ∈ s.data.toList.take 2,c.toNat<128:=fun h=>by
  rw [hok.base] at h
  cases ho:an7 s with
  |false=>rw [ho] at h;cases h
  |true=>exact bl0 ho
 generalize ax1 s=q at*
 obtain⟨x,f⟩:=q
 simp only at hR hok hcb hoth
 have HR:=hJ hR
 have HM:=hJ hM
 have HCB:=hJ hcb
 clear hR hM hcb
 cases f with
 |false=>
  have HF:=hJ (HCB.out.trans (if_neg (by decide)))
  clear hok hoth HCB
  have HR2:=hJ HR.out
  obtain⟨base,whole,point,part,ex,minus,power,big⟩:=x
  unfold Lit.val Lit.cells at HR2
  clear HR
  go_enter Tryz.func38,Tryz.ntmps38
  go_wp2_with (go_at_call 66;refine HR2.out.mono ?_;rintro e w1 ⟨rfl,hb1⟩)
  go_ret2
  exact⟨by rw [HF.out];rfl,ai0 hb1 _⟩
 |true=>
  have HF:=hJ (HCB.out.trans (if_pos rfl))
  clear HCB
  have hw:=hok.whole
  have hpt:=hok.part
  have hpw:=hok.power
  have hsz:=hok.sizes
  obtain⟨base,whole,point,part,ex,minus,power,big⟩:=x
  simp only at hw hpt hpw hsz hoth
  obtain⟨bb,hwa,_⟩:=hw
  obtain⟨z1,z2,z3⟩:=hsz
  have HR2:=hJ HR.out
  unfold Lit.val Lit.cells at HR2
  clear HR hok
  by_cases h16:base=16
  ·subst h16
   obtain⟨hs2,has⟩:=hoth rfl
   rw [if_pos rfl] at HF
   obtain⟨A,hA,hAl⟩:=aA7 (ah0 whole.data.toList)
   obtain⟨B,hB,hBl⟩:=aA7 (Lib.toLowerA A.data.toList)
   obtain⟨D,hD,hDl⟩:=aA7 (Lib.trimLeftB B.data.toList 48)
   obtain⟨E,hE,hEl⟩:=aA7 (Lib.toLowerA (s.extract 0 2).data.toList)
   have cA:=fun W h=>ar8 whole W (by omega) h
   have hasc: ∀c ∈ A.data.toList,c.toNat<128:=fun c hc=>by rw [hAl] at hc;exact bn2 (hwa c (aI9 hc))
   have hAs:A.size≤2097152:=by rw [←ofl,hAl];have:=as6 whole.data.toList;rw [ofl] at this;omega
   have cB:=fun W=>Tryz.strings_ToLower_ascii A W (by omega) (aZ0 hasc)
   have cD:=fun W=>Tryz.strings_TrimLeft_one B 48 (by decide) W
   have hse:(s.extract 0 2).data.toList=s.data.toList.take 2:=az8 s 2
   have cE:=fun W=>Tryz.strings_ToLower_ascii (s.extract 0 2) W (by rw [ByteArray.size_extract];omega) (aZ0 (by rw [hse];exact has))
   rw [hA] at cA
   rw [hB] at cB
   rw [hD] at cD
   rw [hE] at cE
   have HCR:=hJ (show aZ3 s ⟨16,whole,point,part,ex,minus,power,big⟩=E.data.toList++ap9 D.data.toList++(aj4 big).data.toList by
    unfold aZ3;rw [hEl,hDl,hBl,hAl,hse])
   have hDs:D.size≤2097152:=by
    rw [←ofl,hDl,hBl]
    have h1:=(List.dropWhile_sublist (· ==(48:UInt8)) (l:=Lib.toLowerA A.data.toList)).length_le
    have h2:(Lib.toLowerA A.data.toList).length=A.data.toList.length:=List.length_map _
    unfold Lib.trimLeftB
    rw [h2,ofl] at h1
    omega
   have hEs:E.size=2:=by
    rw [←ofl,hEl]
    have h2:(Lib.toLowerA (s.extract 0 2).data.toList).length=(s.extract 0 2).data.toList.length:=List.length_map _
    rw [h2,ofl,ByteArray.size_extract]
    omega
   generalize hS2:s.extract 0 2=S2 at*
   have CA:=hJ cA
   have CB:=hJ cB
   have CD:=hJ cD
   have CE:=hJ cE
   clear cA cB cD cE hA hB hD hE hAl hBl hDl hEl hasc hse has hwa hpt hpw hoth
   go_enter Tryz.func38,Tryz.ntmps38
   go_upto_region 2 with (go_at_call 66;refine HR2.out.mono ?_;rintro e w1 ⟨rfl,hb1⟩)
   have hL:aa9 (w1.alloc (.cells (Lit.cells ⟨16,whole,point,part,ex,minus,power,big⟩) 110)) w1.heap.size ⟨16,whole,point,part,ex,minus,power,big⟩:=heap_alloc_new _ _
   have hb2:Below w.heap.size w (w1.alloc (.cells (Lit.cells ⟨16,whole,point,part,ex,minus,power,big⟩) 110)):=ai0 hb1 _
   have hM2:=HM.out.below hb2
   unfold Lit.cells at hL hb2 hM2
   simp only at hL hb2 hM2
   generalize w1.alloc _=w2 at*
   generalize w1.heap.size=b4 at*
   obtain⟨c0,c1,c2,c3,c4,c5,c6,c7,f0,f1,f2,f3,f4,f5,f6,f7⟩:=aa9.facts hL
   have HL:=hJ hL
   have HM2:=hJ hM2
   clear hL hM2
   go_upto_region 6 with (first|(go_at_call 69;refine(CA.out _ HM2.out).mono ?_;rintro e w3 ⟨rfl,hb3⟩)|(go_at_call 68;refine(CB.out _).mono ?_;rintro e w4p ⟨rfl,hb4⟩)|(go_at_call 67;refine(CD.out _).mono ?_;rintro e w4 ⟨rfl,rfl⟩))
   have hbb:=aa0 hb3 hb4
   have HL4:=hJ (HL.out.below hbb HL.out.lt)
   have hbw:=aa0 hb2 hbb
   have hen:(aj4 big).size≤1:=by cases big<;>decide
   cases he:D.toList.isEmpty with
   |true=>
    have HZ:=hJ (show ap9 D.data.toList= [48] by rw [←Lib.toList_data,List.isEmpty_iff.1 he];rfl)
    go_wp2_with (first|(go_at_call 68;refine(CE.out _).mono ?_;rintro e w5 ⟨rfl,hb5⟩)|(go_at_call 70;refine(ao8 _ big _ ((HL4.out.below hb5 HL4.out.lt).cell 7)).mono ?_;rintro e w6 ⟨rfl,rfl⟩))
    go_ret2
    refine⟨?_,aa0 hbw hb5⟩
    rw [HF.out,HCR.out,HZ.out,←ab9 (E++⟨#[48]⟩++aj4 big) (E.data.toList++ [48]++(aj4 big).data.toList) (by simp)]
    rfl
   |false=>
    have HZ:=hJ (show ap9 D.data.toList=D.data.toList by unfold ap9;rw [if_neg];intro h;rw [Lib.toList_data,h] at he;cases he)
    go_wp2_with (first|(go_at_call 68;refine(CE.out _).mono ?_;rintro e w5 ⟨rfl,hb5⟩)|(go_at_call 70;refine(ao8 _ big _ ((HL4.out.below hb5 HL4.out.lt).cell 7)).mono ?_;rintro e w6 ⟨rfl,rfl⟩))
    go_ret2
    refine⟨?_,aa0 hbw hb5⟩
    rw [HF.out,HCR.out,HZ.out,←ab9 (E++D++aj4 big) (E.data.toList++D.data.toList++(aj4 big).data.toList) (by simp)]
    rfl
  ·have hb16:((base:Int)==16)=false:=by rw [beq_eq_false_iff_ne];omega
   rw [if_neg h16] at HF
   obtain⟨P,hP,hPl⟩:=aA7 (ah0 part.data.toList)
   obtain⟨A,hA,hAl⟩:=aA7 (ah0 whole.data.toList)
   obtain⟨D,hD,hDl⟩:=aA7 (Lib.trimLeftB (A++P).data.toList 48)
   obtain⟨K,hK,hKl⟩:=aA7 (Lib.trimRightB D.data.toList 48)
   obtain⟨Q0,hQ,hQl⟩:=aA7 (ah0 power.data.toList)
   obtain⟨W0,hW,hWl⟩:=aA7 (Lib.trimLeftB Q0.data.toList 48)
   have hdT:bd6 ⟨base,whole,point,part,ex,minus,power,big⟩=D.data.toList:=by unfold bd6;rw [hDl,ByteArray.data_append,Array.toList_append,hAl,hPl]
   have hpT:powT ⟨base,whole,point,part,ex,minus,power,big⟩=ap9 W0.data.toList:=by unfold powT;rw [hWl,hQl]
   have hPs:P.size≤2097152:=by rw [←ofl,hPl];have:=as6 part.data.toList;rw [ofl] at this;omega
   have hAs:A.size≤2097152:=by rw [←ofl,hAl];have:=as6 whole.data.toList;rw [ofl] at this;omega
   have hQs:Q0.size≤2097152:=by rw [←ofl,hQl];have:=as6 power.data.toList;rw [ofl] at this;omega
   have hDs:D.size≤4194304:=by
    rw [←ofl,hDl]
    have h1:=(List.dropWhile_sublist (· ==(48:UInt8)) (l:=(A++P).data.toList)).length_le
    rw [ofl,ByteArray.size_append] at h1
    unfold Lib.trimLeftB
    omega
   have hKs:K.size≤D.size:=by
    rw [←ofl,hKl]
    have h1:=(List.dropWhile_sublist (· ==(48:UInt8)) (l:=D.data.toList.reverse)).length_le
    rw [List.length_reverse,ofl] at h1
    unfold Lib.trimRightB
    rw [List.length_reverse]
    exact h1
   have hWs:W0.size≤2097152:=by
    rw [←ofl,hWl]
    have h1:=(List.dropWhile_sublist (· ==(48:UInt8)) (l:=Q0.data.toList)).length_le
    rw [ofl] at h1
    unfold Lib.trimLeftB
    omega
   obtain⟨PW,hPW,hPWl⟩:=aA7 (ap9 W0.data.toList)
   have hcan:av3 PW.data.toList:=by rw [hPWl,hWl,hQl];exact bi9 hpw
   have hPWs:PW.size≤2097152:=by
    rw [←ofl,hPWl]
    unfold ap9
    split
    ·decide
    ·rw [ofl];exact hWs
   have hvT:valT ⟨base,whole,point,part,ex,minus,power,big⟩=ar4 (valN PW.data.toList) (minus && decide (PW.data.toList≠ [48])) ((D.size:Int) - K.size - P.size):=by
    unfold valT
    rw [hpT,hdT,←hKl,hPWl,ofl,ofl,←hPl,ofl]
   have hva:(valT ⟨base,whole,point,part,ex,minus,power,big⟩).natAbs≤valN PW.data.toList+4194304:=by
    rw [hvT]
    unfold ar4
    split<;>omega
   have hvp:valN PW.data.toList<10 ^ PW.size:=by
    have:=bq7 hcan.1
    rwa [ofl] at this
   have hmo: ∀(mv:Bool),mv=(minus && decide (PW.data.toList≠ [48]))→∀W:World,Calls Tryz.prog 72 #[.string PW,.bool mv,.int .i64 ((D.size:Int) - K.size - P.size)] W fun e w'=>e= .returned (.tuple #[.string ⟨(decL (valT ⟨base,whole,point,part,ex,minus,power,big⟩).natAbs).toArray⟩,.bool (decide (valT ⟨base,whole,point,part,ex,minus,power,big⟩<0))])∧Below W.heap.size W w':=fun mv hmv W=>by
    subst hmv
    have:=bw4 PW (minus && decide (PW.data.toList≠ [48])) ((D.size:Int) - K.size - P.size) W (by omega) (by omega) (by omega) hcan
    unfold aO8 at this
    rw [←hvT] at this
    exact this
   have hcT:aZ4 ⟨base,whole,point,part,ex,minus,power,big⟩=if D.data.toList= [] then [48]++(aj4 big).data.toList else K.data.toList++ [101]++((if valT ⟨base,whole,point,part,ex,minus,power,big⟩<0 then [45] else [])++decL (valT ⟨base,whole,point,part,ex,minus,power,big⟩).natAbs)++(aj4 big).data.toList:=by
    unfold aZ4
    rw [hdT,←hKl]
   generalize valT ⟨base,whole,point,part,ex,minus,power,big⟩=v at*
   obtain⟨T,hT,hTl⟩:=aA7 (decL v.natAbs)
   rw [hT] at hmo
   rw [←hTl] at hcT
   have hTs:T.size≤20000000:=by
    rw [←ofl,hTl]
    have h1:=bd4 (PW.size+7) v.natAbs (by
     rw [Nat.pow_add]
     have hp1:=aL6 PW.size
     generalize 10 ^ PW.size=t at*
     omega)
    omega
   have cP:=fun W h=>ar8 part W (by omega) h
   have cA:=fun W h=>ar8 whole W (by omega) h
   have cQ:=fun W h=>ar8 power W (by omega) h
   have cD:=fun W=>Tryz.strings_TrimLeft_one (A++P) 48 (by decide) W
   have cK:=fun W=>Tryz.strings_TrimRight_one D 48 (by decide) W (by omega)
   have cW:=fun W=>Tryz.strings_TrimLeft_one Q0 48 (by decide) W
   rw [hP] at cP
   rw [hA] at cA
   rw [hQ] at cQ
   rw [hD] at cD
   rw [hK] at cK
   rw [hW] at cW
   have CP:=hJ cP
   have CA:=hJ cA
   have CQ:=hJ cQ
   have CD:=hJ cD
   have CK:=hJ cK
   have CW:=hJ cW
   have HMO0:=hJ hmo
   have HCT0:=hJ hcT
   have HPW:=hJ hPWl
   clear hva hvp cP cA cQ cD cK cW hP hA hQ hD hK hW hPl hAl hQl hDl hKl hWl hdT hpT hvT hmo hcT hcan hPW hT hTl hPWl hwa hpt hpw hoth h16
   go_enter Tryz.func38,Tryz.ntmps38
   go_upto_region 2 with (go_at_call 66;refine HR2.out.mono ?_;rintro e w1 ⟨rfl,hb1⟩)
   have hL:aa9 (w1.alloc (.cells (Lit.cells ⟨base,whole,point,part,ex,minus,power,big⟩) 110)) w1.heap.size ⟨base,whole,point,part,ex,minus,power,big⟩:=heap_alloc_new _ _
   have hb2:Below w.heap.size w (w1.alloc (.cells (Lit.cells ⟨base,whole,point,part,ex,minus,power,big⟩) 110)):=ai0 hb1 _
   have hM2:=HM.out.below hb2
   unfold Lit.cells at hL hb2 hM2
   simp only at hL hb2 hM2
   generalize w1.alloc _=w2 at*
   generalize w1.heap.size=b4 at*
   obtain⟨c0,c1,c2,c3,c4,c5,c6,c7,f0,f1,f2,f3,f4,f5,f6,f7⟩:=aa9.facts hL
   have HL:=hJ hL
   have HM2:=hJ hM2
   clear hL hM2
   go_upto_region 10 with (go_at_call 69;refine(CP.out _ HM2.out).mono ?_;rintro e w3 ⟨rfl,hb3⟩)
   have HL3:=hJ (HL.out.below hb3 HL.out.lt)
   have HM3:=hJ (HM2.out.below hb3)
   clear c0 c1 c2 c3 c4 c5 c6 c7 f0 f1 f2 f3 f4 f5 f6 f7
   obtain⟨c0,c1,c2,c3,c4,c5,c6,c7,f0,f1,f2,f3,f4,f5,f6,f7⟩:=aa9.facts HL3.out
   go_upto_region 11 with (first|(go_at_call 69;refine(CA.out _ HM3.out).mono ?_;rintro e w4p ⟨rfl,hb4⟩)|(go_at_call 67;refine(CD.out _).mono ?_;rintro e w4 ⟨rfl,rfl⟩))
   have HL4:=hJ (HL3.out.below hb4 HL3.out.lt)
   have HM4:=hJ (HM3.out.below hb4)
   have hb4w:=aa0 (aa0 hb2 hb3) hb4
   have hen:(aj4 big).size≤1:=by cases big<;>decide
   clear c0 c1 c2 c3 c4 c5 c6 c7 f0 f1 f2 f3 f4 f5 f6 f7
   obtain⟨c0,c1,c2,c3,c4,c5,c6,c7,f0,f1,f2,f3,f4,f5,f6,f7⟩:=aa9.facts HL4.out
   cases he:D.toList.isEmpty with
   |true=>
    have HCT:=hJ (HCT0.out.trans (if_pos (by rw [←Lib.toList_data];exact List.isEmpty_iff.1 he)))
    go_wp2_with (go_at_call 70;refine(ao8 _ big _ (HL4.out.cell 7)).mono ?_;rintro e w6 ⟨rfl,rfl⟩)
    go_ret2
    refine⟨?_,hb4w⟩
    rw [HF.out,HCT.out,←ab9 (⟨#[48]⟩++aj4 big) ([48]++(aj4 big).data.toList) (by simp)]
    rfl
   |false=>
    have HCT:=hJ (HCT0.out.trans (if_neg (by intro h;rw [Lib.toList_data,h] at he;cases he)))
    clear HCT0
    go_upto_region 15 with (first|(go_at_call 71;refine(CK.out _).mono ?_;rintro e w5 ⟨rfl,rfl⟩)|(go_at_call 69;refine(CQ.out _ HM4.out).mono ?_;rintro e w7p ⟨rfl,hb7p⟩)|(go_at_call 67;refine(CW.out _).mono ?_;rintro e w7 ⟨rfl,rfl⟩))
    have hb7:=aa0 hb4w hb7p
    have HL7:=hJ (HL4.out.below hb7p HL4.out.lt)
    clear c0 c1 c2 c3 c4 c5 c6 c7 f0 f1 f2 f3 f4 f5 f6 f7 hb7p HL HL3 HL4 HM HM2 HM3 HM4 CP CA CQ CD CK CW HR2
    obtain⟨c0,c1,c2,c3,c4,c5,c6,c7,f0,f1,f2,f3,f4,f5,f6,f7⟩:=aa9.facts HL7.out
    go_upto_if 56 with fail
    go_cut [10] (fun t wx=>t= .string PW∧wx=w7)
    case first=>
     cases hw0:W0.toList.isEmpty with
     |true=>
      have HPW2:=hJ (show PW=⟨#[48]⟩ by
       refine aM5 ?_
       rw [HPW.out,←Lib.toList_data,List.isEmpty_iff.1 hw0]
       rfl)
      clear HMO0
      go_wp2_with fail
      go_meet
      exact⟨by rw [HPW2.out],rfl⟩
     |false=>
      have HPW2:=hJ (show PW=W0 by
       refine aM5 ?_
       rw [HPW.out]
       unfold ap9
       rw [if_neg]
       intro h
       rw [Lib.toList_data,h] at hw0
       cases hw0)
      clear HMO0
      go_wp2_with fail
      go_meet
      exact⟨by rw [HPW2.out],rfl⟩
    case rest=>
     obtain⟨rfl,hwc⟩:=hcut
     subst hwc
     cases minus with
     |false=>
      have HMO:=hJ (HMO0.out false (rfl))
      clear HMO0
      cases hv:decide (v<0) with
      |true=>
       rw [hv] at HMO
       have HV:=hJ (of_decide_eq_true hv)
       clear hv
       go_wp2_with (first|(go_at_call 72;refine(HMO.out _).mono ?_;rintro e w8 ⟨rfl,hb8⟩)|(go_at_call 70;refine(ao8 _ big _ ((HL7.out.below hb8 HL7.out.lt).cell 7)).mono ?_;rintro e w9 ⟨rfl,rfl⟩))
       go_ret2
       refine⟨?_,aa0 hb7 hb8⟩
       rw [HF.out,HCT.out,if_pos HV.out,←ab9 (K++⟨#[101]⟩++(⟨#[45]⟩++T)++aj4 big) (K.data.toList++ [101]++([45]++T.data.toList)++(aj4 big).data.toList) (by simp)]
       rfl
      |false=>
       rw [hv] at HMO
       have HV:=hJ (of_decide_eq_false hv)
       clear hv
       go_wp2_with (first|(go_at_call 72;refine(HMO.out _).mono ?_;rintro e w8 ⟨rfl,hb8⟩)|(go_at_call 70;refine(ao8 _ big _ ((HL7.out.below hb8 HL7.out.lt).cell 7)).mono ?_;rintro e w9 ⟨rfl,rfl⟩))
       go_ret2
       refine⟨?_,aa0 hb7 hb8⟩
       rw [HF.out,HCT.out,if_neg (show¬v<0 by have:=HV.out;omega),List.nil_append,←ab9 (K++⟨#[101]⟩++T++aj4 big) (K.data.toList++ [101]++T.data.toList++(aj4 big).data.toList) (by simp)]
       rfl
     |true=>
      by_cases hmn:PW.data.toList= [48]
      ·have hP48:PW=⟨#[48]⟩:=aM5 hmn
       subst hP48
       have HMO:=hJ (HMO0.out false (by simp))
       clear HMO0
       cases hv:decide (v<0) with
       |true=>
        rw [hv] at HMO
        have HV:=hJ (of_decide_eq_true hv)
        clear hv
        go_wp2_with (first|(go_at_call 72;refine(HMO.out _).mono ?_;rintro e w8 ⟨rfl,hb8⟩)|(go_at_call 70;refine(ao8 _ big _ ((HL7.out.below hb8 HL7.out.lt).cell 7)).mono ?_;rintro e w9 ⟨rfl,rfl⟩))
        go_ret2
        refine⟨?_,aa0 hb7 hb8⟩
        rw [HF.out,HCT.out,if_pos HV.out,←ab9 (K++⟨#[101]⟩++(⟨#[45]⟩++T)++aj4 big) (K.data.toList++ [101]++([45]++T.data.toList)++(aj4 big).data.toList) (by simp)]
        rfl
       |false=>
        rw [hv] at HMO
        have HV:=hJ (of_decide_eq_false hv)
        clear hv
        go_wp2_with (first|(go_at_call 72;refine(HMO.out _).mono ?_;rintro e w8 ⟨rfl,hb8⟩)|(go_at_call 70;refine(ao8 _ big _ ((HL7.out.below hb8 HL7.out.lt).cell 7)).mono ?_;rintro e w9 ⟨rfl,rfl⟩))
        go_ret2
        refine⟨?_,aa0 hb7 hb8⟩
        rw [HF.out,HCT.out,if_neg (show¬v<0 by have:=HV.out;omega),List.nil_append,←ab9 (K++⟨#[101]⟩++T++aj4 big) (K.data.toList++ [101]++T.data.toList++(aj4 big).data.toList) (by simp)]
        rfl
      ·have hne1:(PW.toList== [48])=false:=by rw [beq_eq_false_iff_ne,Lib.toList_data];exact hmn
       have hne2:(PW.toList != [48])=true:=by rw [bne_iff_ne,Lib.toList_data];exact hmn
       have hne3:PW.toList≠ [48]:=by rw [Lib.toList_data];exact hmn
       have HMO:=hJ (HMO0.out true (by simp [hmn]))
       clear HMO0
       cases hv:decide (v<0) with
       |true=>
        rw [hv] at HMO
        have HV:=hJ (of_decide_eq_true hv)
        clear hv
        go_wp2_with (first|(go_at_call 72;refine(HMO.out _).mono ?_;rintro e w8 ⟨rfl,hb8⟩)|(go_at_call 70;refine(ao8 _ big _ ((HL7.out.below hb8 HL7.out.lt).cell 7)).mono ?_;rintro e w9 ⟨rfl,rfl⟩))
        go_ret2
        refine⟨?_,aa0 hb7 hb8⟩
        rw [HF.out,HCT.out,if_pos HV.out,←ab9 (K++⟨#[101]⟩++(⟨#[45]⟩++T)++aj4 big) (K.data.toList++ [101]++([45]++T.data.toList)++(aj4 big).data.toList) (by simp)]
        rfl
       |false=>
        rw [hv] at HMO
        have HV:=hJ (of_decide_eq_false hv)
        clear hv
        go_wp2_with (first|(go_at_call 72;refine(HMO.out _).mono ?_;rintro e w8 ⟨rfl,hb8⟩)|(go_at_call 70;refine(ao8 _ big _ ((HL7.out.below hb8 HL7.out.lt).cell 7)).mono ?_;rintro e w9 ⟨rfl,rfl⟩))
        go_ret2
        refine⟨?_,aa0 hb7 hb8⟩
        rw [HF.out,HCT.out,if_neg (show¬v<0 by have:=HV.out;omega),List.nil_append,←ab9 (K++⟨#[101]⟩++T++aj4 big) (K.data.toList++ [101]++T.data.toList++(aj4 big).data.toList) (by simp)]
        rfl
end
end Go.Proofs.YtnobjeelihkjmaaGreatDoor
