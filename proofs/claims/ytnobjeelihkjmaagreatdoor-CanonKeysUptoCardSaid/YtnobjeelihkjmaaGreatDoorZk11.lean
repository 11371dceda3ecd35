/- Steps (Pb Pc Pd Pi Pe Pf Pg Ph Pj Pl Py Ya Yb). Conditions: as stated. -/
import Derived.Test.YtnobjeelihkjmaaGreatDoorZk10
set_option maxHeartbeats 2000000
set_option maxRecDepth 100000
namespace Go.Proofs.YtnobjeelihkjmaaGreatDoor
section
open Go.RowKit
def PkR (wa:World) (t:Tk) (cs:List Cm) (a c:Int) (u5 u6 u7 u8:Value) (wx:World):Prop:=
 ∃g v,u5= .pointer (some ⟨g,0,none⟩)∧wa.heap.size≤g∧TkAt wx g t∧u6=v∧u7= .int .i64 a∧u8= .int .i64 c∧OwnC wa.heap.size wx v cs∧Below wa.heap.size wa wx
theorem OwnC.nil (B:Nat) (w:World):OwnC B w (.slice none 0 0) []:=World.ownsRow_nil _ _ _ _
theorem PkR.after {wa w1:World} {t:Tk} {cs:List Cm} {a c:Int} {v:Value} (ho:OwnC wa.heap.size w1 v cs) (hb:Below wa.heap.size wa w1):
  PkR wa t cs a c (.pointer (some ⟨w1.heap.size,0,none⟩)) v (.int .i64 a) (.int .i64 c) (w1.alloc (.cells #[.int .i64 t.kind,.string t.text,.int .i64 t.from',.int .i64 t.till,.bool t.line] 49)):=
 ⟨_,v,rfl,hb.size,TkAt.new rfl,rfl,rfl,rfl,OwnC.bel ho (Below.alloc (Below.refl _ _) (Nat.le_refl _) _),hb.alloc hb.size _⟩
theorem PkR.ahead {wa w1:World} {t z:Tk} {cs:List Cm} {a c:Int} {v:Value} {g B:Nat} (hg:TkAt w1 g z) (ho:OwnC B w1 v cs) (hb:Below wa.heap.size wa w1) (hz:wa.heap.size≤g) (hB:g<B):
  PkR wa t cs a c (.pointer (some ⟨g,0,none⟩)) v (.int .i64 a) (.int .i64 c) (((((w1.setCell ⟨g,0,none⟩ (.int .i64 t.kind)).setCell ⟨g,1,none⟩ (.string t.text)).setCell ⟨g,2,none⟩ (.int .i64 t.from')).setCell ⟨g,3,none⟩ (.int .i64 t.till)).setCell ⟨g,4,none⟩ (.bool t.line)):=
 ⟨g,v,rfl,hz,TkAt.lay hg,rfl,rfl,rfl,(ho.lay5 hB).mono (by omega),ay1 hb (by omega)⟩
theorem P.peekN {E:PE} (hE:E.Ok) {F:Nat→Prop} {w:World} {p:Ps} (goal:Int) (h:St E F w p) (hne:ac8 E.s goal p≠ .out) (hg: ∀(z:Nat) (W:World) (kind:Int) (q n:Nat) (line:Bool),z≤E.s.size→nxt E.s z goal= .fine kind q n line []→Below w.heap.size w W→Calls Tryz.prog 32 #[.string E.s,.int .i64 (z:Int),.int .i64 goal] W fun e w'=>aH4 E.s W (.fine kind q n line []) e w'):
  Calls Tryz.prog 18 #[.pointer (some ⟨E.b,0,none⟩),.int .i64 goal] w (Ans E F X0 w (ac8 E.s goal p) fun t v _=>v= .agg #[.int .i64 t.kind,.string t.text,.int .i64 t.from',.int .i64 t.till,.bool t.line]):=by
 have c0:=h.c_s
 have c1:=h.c_at
 have c2:=h.c_kind
 have c3:=h.c_text
 have c4:=h.c_from
 have c5:=h.c_till
 have c6:=h.c_line
 have c8:=h.c_goal
 have hlt:=h.lt
 have hlt2:E.b<w.heap.size+1:=by omega
 have hk:=ax8 w
 have hb0:Below w.heap.size w (w.alloc (.cells #[.int .i64 0,.string ⟨#[]⟩,.int .i64 0,.int .i64 0,.bool false] 49)):=Below.alloc (Below.refl _ _) (Nat.le_refl _) _
 have HS:=hJ h
 have HGG:=hJ hg
 clear hg
 obtain⟨T,hT⟩: ∃T,ac8 E.s goal p=T:=⟨_,rfl⟩
 rw [hT] at hne⊢
 have HT:=hJ hT
 have HNE:=hJ hne
 have HE:=hJ hE
 have HK:=hJ hk
 have HB:=hJ hb0
 have HB3:=hJ (Below.alloc (Below.refl _ (w.alloc (.cells #[.int .i64 0,.string ⟨#[]⟩,.int .i64 0,.int .i64 0,.bool false] 49))) (Nat.le_refl _) (.cells #[.int .i64 0,.string ⟨#[]⟩,.int .i64 0,.int .i64 0,.bool false] 49))
 have HB2:=hJ (Below.alloc hb0 hb0.size (.cells #[.int .i64 0,.string ⟨#[]⟩,.int .i64 0,.int .i64 0,.bool false] 49))
 clear h hne hE hk hb0 hT
 have HP:=hJ (Tryz.strings_HasPrefix p.tok.text ⟨#[47]⟩)
 go_enter Tryz.func18,Tryz.ntmps18
 go_upto_region 1 with (fail)
 go_cut [45] from 46 (fun u wx=>u= .bool (aq6 goal p)∧wx=w.alloc (.cells #[.int .i64 0,.string ⟨#[]⟩,.int .i64 0,.int .i64 0,.bool false] 49))
 case first=>
  by_cases g0:p.goal=0
  ·have e:aq6 goal p=false:=decide_eq_false fun h=>h.1 g0
   have e0:(p.goal !=0)=false:=by rw [g0];rfl
   have HG:=hJ g0
   have HQ:=hJ e
   clear g0 e
   go_wp2_with fail
   go_meet
   exact⟨by rw [HQ.out],rfl⟩
  ·have e0:(p.goal !=0)=true:=by rw [bne_iff_ne];exact g0
   by_cases g1:p.goal=goal
   ·have e:aq6 goal p=true:=decide_eq_true ⟨g0,.inl g1⟩
    have e1:(p.goal==goal)=true:=by rw [beq_iff_eq];exact g1
    have HG:=hJ g1
    have HQ:=hJ e
    clear g0 g1 e
    go_wp2_with fail
    go_meet
    exact⟨by rw [HQ.out],rfl⟩
   ·have e1:(p.goal==goal)=false:=by rw [beq_eq_false_iff_ne];exact g1
    by_cases g2:goal≤2∧p.goal≤2
    ·obtain⟨g2,g3⟩:=g2
     have e:aq6 goal p= !Lib.hasPrefix p.tok.text.data.toList [47]:=by
      unfold aq6
      cases hh:Lib.hasPrefix p.tok.text.data.toList [47]
      ·exact decide_eq_true ⟨g0,.inr ⟨g2,g3,rfl⟩⟩
      ·exact decide_eq_false fun h=>h.2.elim g1 fun h=>by cases h.2.2
     have HQ:=hJ e
     clear e g0 g1
     go_wp2_with (go_at_call 31;refine(HP.out _).mono ?_;rintro e w1 ⟨rfl,rfl⟩)
     go_meet
     exact⟨by rw [HQ.out],rfl⟩
    ·have e:aq6 goal p=false:=decide_eq_false fun h=>h.2.elim g1 fun h=>g2 ⟨h.1,h.2.1⟩
     have HQ:=hJ e
     clear e g0 g1
     by_cases g4:goal≤2
     ·have g5: ¬p.goal≤2:=fun h=>g2 ⟨g4,h⟩
      have HG:=hJ g2
      clear g2
      go_wp2_with fail
      go_meet
      exact⟨by rw [HQ.out],rfl⟩
     ·have HG:=hJ g2
      clear g2
      go_wp2_with fail
      go_meet
      exact⟨by rw [HQ.out],rfl⟩
 case rest=>
  obtain⟨rfl,rfl⟩:=hcut
  cases hc:aq6 goal p with
  |true=>
   have HQ:=hJ (show T= .ok p.tok p by rw [←HT.out];unfold ac8;rw [if_pos hc])
   clear hc
   go_wp2_with fail
   refine bodyPost_ret (aQ6 (x:=p.tok) rfl _ _ w.heap.size rfl ?_) rfl ?_
   ·exact TkAt.new rfl
   ·exact Ans.val HQ.out HS.out rfl rfl (Below.alloc (Below.refl _ _) (Nat.le_refl _) _)
  |false=>
   have hQ:bk1 E.s goal p=T:=by rw [←HT.out];unfold ac8;rw [if_neg (by rw [hc];decide)]
   clear hc
   unfold bk1 at hQ
   by_cases hr:p.at'<0∨(E.s.size:Int)<p.at'
   ·rw [if_pos hr] at hQ
    exact absurd hQ.symm HNE.out
   ·rw [if_neg hr] at hQ
    obtain⟨z,hz⟩: ∃z:Nat,p.at'=z:=⟨p.at'.toNat,by omega⟩
    have hzs:z≤E.s.size:=by omega
    rw [hz,Int.toNat_natCast] at hQ
    rw [hz] at c1
    have HZ:=hJ hz
    clear hr hz
    cases hn:nxt E.s z goal with
    |bad place code=>
     simp only [hn] at hQ
     exact absurd hQ.symm HNE.out
    |fine kind q n line cs0=>
     cases cs0 with
     |cons c cs0=>
      simp only [hn] at hQ
      exact absurd hQ.symm HNE.out
     |nil=>
     simp only [hn] at hQ
     have HN:=hJ fun W hb=>HGG.out z W kind q n line hzs hn hb
     generalize ([]:List Cm)=cs at HN hQ
     have HQ:=hJ hQ
     clear hn hQ
     go_upto_region 3 with fail
     go_cut [5,6,7,8] from 68 (PkR (w.alloc (.cells #[.int .i64 0,.string ⟨#[]⟩,.int .i64 0,.int .i64 0,.bool false] 49)) (tkOf E.s kind q n line) cs 0 0)
     case first=>
      go_region_with (go_at_call 32;(first|(refine(HN.out _ HB2.out.drew).mono ?_;unfold aH4 Tk.val Tk.cells;rintro e w1 ⟨v,rfl,ho,hb⟩;have hkg:=(ax8 (w.alloc (.cells #[.int .i64 0,.string ⟨#[]⟩,.int .i64 0,.int .i64 0,.bool false] 49))).drew.bel hb;simp only [World.size_alloc] at hkg;obtain⟨z0,z1,z2,z3,z4,y0,y1,y2,y3,y4⟩:=hkg.fs)|(refine(HN.out _ HB.out.drew).mono ?_;unfold aH4 Tk.val Tk.cells;rintro e w1 ⟨v,rfl,ho,hb⟩)))
      all_goals go_wp2_with fail
      all_goals go_meet
      all_goals first|exact PkR.after (t:=tkOf E.s kind q n line) (ho.mono (by simp)) (aa0 (Below.refl _ (w.alloc (.cells #[.int .i64 0,.string ⟨#[]⟩,.int .i64 0,.int .i64 0,.bool false] 49))).drew hb)|exact PkR.ahead (t:=tkOf E.s kind q n line) (B:=w.heap.size+2) hkg (ho.mono (by simp)) (aa0 HB3.out.drew hb) (by simp) (by omega)
     case rest=>
      obtain⟨g,v,rfl,hg,hkg,rfl,rfl,rfl,ho,hb⟩:=hcut
      obtain⟨pa,pc,rfl⟩:=ho.form
      have hs:=HS.out.only (Only.of_below (aa0 HB.out hb))
      have hkz:=HK.out.bel hb
      simp only [World.size_alloc] at hg
      have d2:=hs.c_kind
      have d3:=hs.c_text
      have d4:=hs.c_from
      have d5:=hs.c_till
      have d6:=hs.c_line
      obtain⟨va,d7⟩:=hs.c_ahead
      have d8:=hs.c_goal
      have f2:=hs.frozen 2
      have f3:=hs.frozen 3
      have f4:=hs.frozen 4
      have f5:=hs.frozen 5
      have f6:=hs.frozen 6
      have f7:=hs.frozen 7
      have f8:=hs.frozen 8
      have hgb:g≠E.b:=by omega
      have hwb:w.heap.size≠E.b:=by omega
      obtain⟨z0,z1,z2,z3,z4,y0,y1,y2,y3,y4⟩:=hkg.fs
      obtain⟨x0,x1,x2,x3,x4,v0,v1,v2,v3,v4⟩:=hkz.fs
      clear c0 c1 c2 c3 c4 c5 c6 c8
      go_wp2_with fail
      obtain⟨F1,hF1,hnew,_,hs1,_⟩:=HS.out.enter (Only.of_below HB.out)
      obtain⟨hs2,hp2⟩:=hs1.peeked (X:=X0) HE.out.hb hb (tkOf E.s kind q n line) cs (.slice pa cs.length pc) goal ho
      have hk7:=((((((hkz.other hwb 2 (.int .i64 (tkOf E.s kind q n line).kind)).other hwb 3 (.string (tkOf E.s kind q n line).text)).other hwb 4 (.int .i64 (tkOf E.s kind q n line).from')).other hwb 5 (.int .i64 (tkOf E.s kind q n line).till)).other hwb 6 (.bool (tkOf E.s kind q n line).line)).other hwb 7 (.slice pa cs.length pc)).other hwb 8 (.int .i64 goal)
      refine bodyPost_ret (aQ6 (x:=tkOf E.s kind q n line) rfl _ _ w.heap.size rfl ?_) rfl ?_
      ·exact TkAt.lay (kind:=(tkOf E.s kind q n line).kind) (text:=(tkOf E.s kind q n line).text) (from':=(tkOf E.s kind q n line).from') (till:=(tkOf E.s kind q n line).till) (line:=(tkOf E.s kind q n line).line) hk7
      ·have hQ:=HQ.out
       subst hQ
       have hF2:F1 w.heap.size:=hnew _ (Nat.le_refl _) (by simp)
       have hlt7:=hs2.lt
       generalize hw7:(((((((wc.setCell ⟨E.b,2,none⟩ (.int .i64 (tkOf E.s kind q n line).kind)).setCell ⟨E.b,3,none⟩ (.string (tkOf E.s kind q n line).text)).setCell ⟨E.b,4,none⟩ (.int .i64 (tkOf E.s kind q n line).from')).setCell ⟨E.b,5,none⟩ (.int .i64 (tkOf E.s kind q n line).till)).setCell ⟨E.b,6,none⟩ (.bool (tkOf E.s kind q n line).line)).setCell ⟨E.b,7,none⟩ (.slice pa cs.length pc)).setCell ⟨E.b,8,none⟩ (.int .i64 goal))=w7 at*
       have o1: ∀(a:World) (j:Nat) (u:Value),Only (fun k=>k=w.heap.size) w7 a→Only (fun k=>k=w.heap.size) w7 (a.setCell ⟨w.heap.size,j,none⟩ u):=fun a j u ha=>ha.setCell (.inl rfl) u
       have ho2:=o1 _ 4 (.bool (tkOf E.s kind q n line).line) (o1 _ 3 (.int .i64 (tkOf E.s kind q n line).till) (o1 _ 2 (.int .i64 (tkOf E.s kind q n line).from') (o1 _ 1 (.string (tkOf E.s kind q n line).text) (o1 _ 0 (.int .i64 (tkOf E.s kind q n line).kind) (Only.refl _ w7)))))
       refine⟨_,rfl,rfl,?_,?_⟩
       ·have h3:=(hs2.only (ho2.mono fun _ hk=>hk▸hF2)).weak hF1
        rw [HZ.out] at*
        exact h3
       ·exact(((PB.refl E.b X0 w).only' (Only.of_below (X:=fun _=>False) (aa0 HB.out hb)) hlt id (fun _ hk=>hk.elim)).then hp2).only' ho2 hlt7 hwb.symm (fun _ hk=> .inr (Nat.le_of_eq hk.symm))
theorem P.peek {E:PE} (hE:E.Ok) {F:Nat→Prop} {w:World} {p:Ps} (goal:Int) (h:St E F w p) (hne:ac8 E.s goal p≠ .out) (hg:goal=1∨goal=2:=by decide):
  Calls Tryz.prog 18 #[.pointer (some ⟨E.b,0,none⟩),.int .i64 goal] w (Ans E F X0 w (ac8 E.s goal p) fun t v _=>v= .agg #[.int .i64 t.kind,.string t.text,.int .i64 t.from',.int .i64 t.till,.bool t.line]):=
 P.peekN hE goal h hne fun z W _ _ _ _ hz hn hb=>aY5 E.s z goal W hE.hs hz ((hE.lx.bel h.bel).bel hb) _ rfl hn hg
end
section
open Go.RowKit
theorem aF5 {P:Program} {w:World} {base:Nat} {t ty e:TypeId} {i:TypeInfo} {size:Nat} (ht:P.underlying t=some (.slice e)) (hi:P.info? e=some i) {v:Value} {n:Nat} {xs:List Value} (hown:w.ownsRow base e size v n xs):
  (Builtin.append_ #[t,t] ty #[v,.slice none 0 0]).run P w= .ok v w:=by
 rcases hown.2 with ⟨rfl,rfl⟩|⟨g,cap,cur,rfl,_,_,hnc,_⟩
 ·simp [Builtin.append_,run_underlying ht,sizeOf,typeInfo,hi,Builtin.lenOf,Builtin.firstCells]
 ·simp [Builtin.append_,run_underlying ht,sizeOf,typeInfo,hi,Builtin.lenOf,Builtin.firstCells,hnc,storeCells]
theorem aw5 {w:World} {base size n:Nat} {e:TypeId} {v:Value} {xs:List Value} (h:w.ownsRow base e size v n xs): ∃a m c,v= .slice a m c:=by
 rcases h.2 with ⟨hv,_⟩|⟨g,cap,cur,hv,_⟩
 ·exact⟨_,_,_,hv⟩
 ·exact⟨_,_,_,hv⟩
theorem aG2 {P:Program} {w:World} {ops:Array Oper} {o:Oper} {a:Act} {K:Act→World→Prop} {Q:Exit→Act→World→Prop} {E:Prop} (hgd:o.guard=none) (s x:Operand) (t:TypeId)
  (ho:o.op= .call { callee:= .builtin .append,args:= #[s,x],argTypes:= #[t,t] })
  (base:Nat) (e:TypeId) (i:TypeInfo) (z:Value) (size bytes:Nat) (ht:P.underlying t=some (.slice e)) (hi:P.info? e=some i) (hz:i.zero=some z)
  (hsize:i.size=size) (hby:i.bytes=bytes) (hzs:z.cells.size=size) (hsz:0<size)
  (v:Value) (n:Nat) (xs:List Value) (hs:a.eval s=v) (hown:w.ownsRow base e size v n xs)
  (u:Value) (base2 m:Nat) (news:List Value) (hx:a.eval x=u) (hown2:w.ownsRow base2 e size u m news) (h1: ∀u ∈ news,u.oneCell'=true)
  (h63:n+m≤maxLen) (hbytes:(n+m)*bytes≤140737488355328) (hbase:base≤w.heap.size)
  (h: ∀v' w',w'.ownsRow base e size v' (n+m) (xs++news)→w.grownBy w' v.ownBlock→(v'.ownBlock=v.ownBlock∨v'.ownBlock=some w.heap.size)→K (a.put o.dst v') w'):
  if Region.wanted o (yielded ops a.tmps)=true then Oper.wp P o a w K Q else E:=by
 have hw:Region.wanted o (yielded ops a.tmps)=true:=by simp [Region.wanted,hgd]
 rw [if_pos hw]
 have key: ∃v' w',(Builtin.append_ #[t,t] o.type #[v,u]).run P w= .ok v' w'∧w'.ownsRow base e size v' (n+m) (xs++news)∧w.grownBy w' v.ownBlock∧(v'.ownBlock=v.ownBlock∨v'.ownBlock=some w.heap.size):=by
  rcases hown2.2 with ⟨rfl,hm⟩|⟨g,cap,cur,rfl,hg,hc,hn,hcm,hcs,htk⟩
  ·subst hm
   have hn:news= []:=List.eq_nil_of_length_eq_zero (by simpa using hown2.1)
   subst hn
   exact⟨v,w,aF5 ht hi hown,by simpa using hown,World.grownBy.refl w _,.inl rfl⟩
  ·obtain⟨v',w',hr,h2,h3,_,h5⟩:=run_append_own_at (P:=P) w base t o.type e i z size bytes ht hi hz hsize hby hzs hsz v n xs hown ⟨g,0,none⟩ m cap news hown2.1 (fun j u hu=>by
    have hj:j<m*size:=by
     have:=(List.getElem?_eq_some_iff.1 hu).1
     rw [hown2.1] at this
     exact this
    rw [show (⟨g,0,none⟩:Addr).add j=⟨g,j,none⟩ by unfold Addr.add;split<;>simp_all,cell_of_row w g j _ _ _ hc,←hu,←htk,List.getElem?_take,if_pos hj]
    simp) h1 h63 hbytes hbase
   exact⟨v',w',hr,h2,h3,h5⟩
 obtain⟨v',w',hrun,h2,h3,h4⟩:=key
 unfold Oper.wp execOp
 simp only [ho,resolve,invoke,builtin,Sem.run_bind,Sem.run_pure,Result.andThen_ok,List.map_toArray,List.map_cons,List.map_nil,hs,hx,hrun]
 exact h v' w' h2 h3 h4
theorem aN0 (a b:List Cm):as8 (a++b)=as8 a++as8 b:=by simp [as8]
theorem bj1 (cs:List Cm): ∀u ∈ as8 cs,u.oneCell'=true:=by
 intro u hu
 simp only [as8,List.mem_flatMap] at hu
 obtain⟨c,_,hc⟩:=hu
 simp only [aq7,List.mem_cons,List.not_mem_nil,or_false] at hc
 rcases hc with rfl|rfl|rfl|rfl<;>rfl
section
variable {E:PE} {F X:Nat→Prop} {w:World} {p:Ps}
theorem StO.taken {va vc:Value} {mb:Nat} {D:DataW Unit} (hE:E.w0.heap.size≤E.b) (h:StO E F w p va vc mb D) {w1:World} {v':Value} (hown:w1.ownsRow E.w0.heap.size 132 4 v' (p.cms.length+p.ahead.length) (as8 p.cms++as8 p.ahead)) (hg:w.grownBy w1 vc.ownBlock) (hat:v'.ownBlock=vc.ownBlock∨v'.ownBlock=some w.heap.size):
  St E F ((((w1.setCell ⟨E.b,9,none⟩ v').setCell ⟨E.b,1,none⟩ (.int .i64 p.tok.till)).setCell ⟨E.b,8,none⟩ (.int .i64 0)).setCell ⟨E.b,7,none⟩ (.slice none 0 0)) { p with cms:=p.cms++p.ahead,at':=p.tok.till,goal:=0,ahead:= [] } ∧
  PB E.b X w ((((w1.setCell ⟨E.b,9,none⟩ v').setCell ⟨E.b,1,none⟩ (.int .i64 p.tok.till)).setCell ⟨E.b,8,none⟩ (.int .i64 0)).setCell ⟨E.b,7,none⟩ (.slice none 0 0)):=by
 have hlt:E.b<w.heap.size:=(Array.getElem?_eq_some_iff.1 h.hb).1
 have ho1:Only (fun k=>vc.ownBlock=some k) w w1:=⟨hg.os,hg.tape,hg.output,hg.size,fun k hk hn=>hg.block k hk fun e=>hn e.symm⟩
 have ho1':Only (fun k=>k=E.b∨vc.ownBlock=some k∨k=mb) w w1:=ho1.mono fun _ hk=> .inr (.inl hk)
 have o1: ∀(a:World) (j:Nat) (u:Value),Only (fun k=>k=E.b∨vc.ownBlock=some k∨k=mb) w a→Only (fun k=>k=E.b∨vc.ownBlock=some k∨k=mb) w (a.setCell ⟨E.b,j,none⟩ u):=fun a j u ha=>ha.setCell (.inl (.inl rfl)) u
 have ho2:=o1 _ 7 (.slice none 0 0) (o1 _ 8 (.int .i64 0) (o1 _ 1 (.int .i64 p.tok.till) (o1 _ 9 v' ho1')))
 have o3: ∀(a:World) (j:Nat) (u:Value),Only (fun k=>k=E.b) w1 a→Only (fun k=>k=E.b) w1 (a.setCell ⟨E.b,j,none⟩ u):=fun a j u ha=>ha.setCell (.inl rfl) u
 have ho4:=o3 _ 7 (.slice none 0 0) (o3 _ 8 (.int .i64 0) (o3 _ 1 (.int .i64 p.tok.till) (o3 _ 9 v' (Only.refl _ w1))))
 have hs:=fun(a:World) (c:Array Value) (j:Nat) (u:Value) (ha:a.heap[E.b]? =some (.cells c 61 (0,0)))=>heap_setCell_same a E.b j c 61 u ha
 have hb1:=(ho1.block E.b hlt h.cb).trans h.hb
 have hb2:=hs _ _ 7 (.slice none 0 0) (hs _ _ 8 (.int .i64 0) (hs _ _ 1 (.int .i64 p.tok.till) (hs _ _ 9 v' hb1)))
 have hvl:=fun g (hg:v'.ownBlock=some g)=>aa5 hown hg
 have hvF: ∀g,v'.ownBlock=some g→vc.ownBlock=some g∨g=w.heap.size:=fun g hg=>hat.imp (fun e=>e.symm.trans hg) (fun e=>by rw [hg] at e;injection e)
 have hmbl:=ah7 h.map
 have hvb:v'.ownBlock≠some E.b:=fun e=>(hvF _ e).elim h.cb (by omega)
 have h2:StO E F ((((w1.setCell ⟨E.b,9,none⟩ v').setCell ⟨E.b,1,none⟩ (.int .i64 p.tok.till)).setCell ⟨E.b,8,none⟩ (.int .i64 0)).setCell ⟨E.b,7,none⟩ (.slice none 0 0)) { p with cms:=p.cms++p.ahead,at':=p.tok.till,goal:=0,ahead:= [] } (.slice none 0 0) v' mb D:=by
  refine⟨hb2.trans (congrArg (fun c=>some (Obj.cells c 61 (0,0))) (by simp [ad8]:_=ad8 E { p with cms:=p.cms++p.ahead,at':=p.tok.till,goal:=0,ahead:= [] } (.slice none 0 0) v' mb)),OwnC.nil _ _,(fun g hg=>by cases hg),?_,hvb,fun e=>(hvF _ e).elim h.cmb (by omega),h.mbb,h.mb0,am6 h.map (ho4.block mb (Nat.lt_of_lt_of_le hmbl hg.size) h.mbb|>.trans (ho1.block mb hmbl h.cmb)),h.com,fun k hk=> ?_,?_,h.nst⟩
  ·show World.ownsRow _ _ _ 4 v' (p.cms++p.ahead).length (as8 (p.cms++p.ahead))
   rw [aN0,List.length_append]
   exact ad0 hown fun g hg hl=>ho4.block g hl fun e=>hvb (e▸hg)
  ·obtain⟨f1,f2,f3,f4,f5⟩:=h.fo k hk
   exact⟨f1,Nat.lt_of_lt_of_le f2 ho2.size,f3,fun e=>(hvF _ e).elim f4 (by omega),f5⟩
  ·exact⟨ho2.os.trans h.bel.os,ho2.tape.trans h.bel.tape,ho2.output.trans h.bel.output,Nat.le_trans h.bel.size ho2.size,fun k hk=>(ho2.block k (Nat.lt_of_lt_of_le hk h.bel.size) (fun e=>by
    have:=h.mb0
    rcases e with e|e|e
    ·omega
    ·have:=(aa5 h.cm e).2
     omega
    ·omega)).trans (h.bel.block k hk)⟩
 exact⟨h2.st,h.pb h2 ho2 (fun k hk=>(hvF k hk).imp id (fun e=>Nat.le_of_eq e.symm)) rfl⟩
end
theorem bC0:(Tryz.prog.info? 132).map (fun i=>(i.zero,i.size,i.bytes))=some (some (.agg #[.int .i64 0,.string ⟨#[]⟩,.int .i64 0,.int .i64 0]),4,40):=by kernel_rfl
theorem P.take {E:PE} (hE:E.Ok) {F:Nat→Prop} {w:World} {p:Ps} (h:St E F w p) (hne:ad7 p≠ .out):
  Calls Tryz.prog 45 #[.pointer (some ⟨E.b,0,none⟩)] w (Ans E F X0 w (ad7 p) fun t v _=>v= .agg #[.int .i64 t.kind,.string t.text,.int .i64 t.from',.int .i64 t.till,.bool t.line]):=by
 have hl:p.cms.length+p.ahead.length≤4194304:=by
  unfold ad7 at hne
  split at hne
  ·exact absurd rfl hne
  ·omega
 have hT:ad7 p= .ok p.tok { p with cms:=p.cms++p.ahead,at':=p.tok.till,goal:=0,ahead:= [] } :=by unfold ad7;rw [if_neg (by omega)]
 rw [hT]
 clear hT hne
 have c2:=h.c_kind
 have c3:=h.c_text
 have c4:=h.c_from
 have c5:=h.c_till
 have c6:=h.c_line
 have hlt:=h.lt
 have hlt2:E.b<w.heap.size+1:=by omega
 have HS:=hJ h
 have HE:=hJ hE
 have HL:=hJ hl
 clear h hE hl
 go_enter Tryz.func45,Tryz.ntmps45
 have HK:=hJ (ax8 w)
 have HT2:=hJ (TkAt.new (k:=p.tok.kind) (x:=p.tok.text) (f:=p.tok.from') (u:=p.tok.till) (l:=p.tok.line) (World.size_alloc w (.cells #[.int .i64 0,.string ⟨#[]⟩,.int .i64 0,.int .i64 0,.bool false] 49)))
 go_upto_region 2 with fail
 have hb0:=(Below.alloc (Below.refl _ w) (Nat.le_refl _) (.cells #[.int .i64 0,.string ⟨#[]⟩,.int .i64 0,.int .i64 0,.bool false] 49))
 have hb1:=hb0.alloc hb0.size (.cells #[.int .i64 p.tok.kind,.string p.tok.text,.int .i64 p.tok.from',.int .i64 p.tok.till,.bool p.tok.line] 49)
 have hkz:=HK.out.alloc (.cells #[.int .i64 p.tok.kind,.string p.tok.text,.int .i64 p.tok.from',.int .i64 p.tok.till,.bool p.tok.line] 49)
 have hkt:=HT2.out
 generalize hwa:(w.alloc (.cells #[.int .i64 0,.string ⟨#[]⟩,.int .i64 0,.int .i64 0,.bool false] 49)).alloc (.cells #[.int .i64 p.tok.kind,.string p.tok.text,.int .i64 p.tok.from',.int .i64 p.tok.till,.bool p.tok.line] 49)=wa at*
 have hza:wa.heap.size=w.heap.size+2:=by rw [←hwa];simp
 obtain⟨F1,hF1,hnew,_,hs1,_⟩:=HS.out.enter (Only.of_below hb1)
 have hFz:F1 w.heap.size:=hnew _ (Nat.le_refl _) (by omega)
 have hFt:F1 (w.heap.size+1):=hnew _ (by omega) (by omega)
 clear hwa hnew
 obtain⟨va,vc,mb,D,hs2⟩:=hs1.open
 have d7:wa.cell? ⟨E.b,7,none⟩=some va:=by rw [cell_of_row wa E.b 7 _ _ _ hs2.hb];rfl
 have d9:wa.cell? ⟨E.b,9,none⟩=some vc:=by rw [cell_of_row wa E.b 9 _ _ _ hs2.hb];rfl
 have f9:=hs1.frozen 9
 have hlw:=hs1.lt
 obtain⟨i0,hi,hz0,hz1,hz2⟩:=info_parts bC0
 have HM:=hJ hs2
 have HA:=hJ hs1
 have HB1:=hJ hb1
 have HZ:=hJ hza
 clear c2 c3 c4 c5 c6 hs1 hs2 hb0 hb1 hza
 go_region_law (first|((refine aG2 (w:=wa.drew) (by rfl) _ _ _ (by rfl) E.w0.heap.size 132 i0 _ 4 40 (by kernel_rfl) hi hz0 hz1 hz2 (by rfl) (by decide) vc p.cms.length (as8 p.cms) (by rfl) HM.out.cm va 0 p.ahead.length (as8 p.ahead) (by rfl) HM.out.ah (bj1 _) (by have:=HL.out;unfold maxLen;omega) (by have:=HL.out;omega) HM.out.bel.size ?_;intro v' w1 hown hgrow hat;obtain⟨sa,sn,sc,rfl⟩:=aw5 hown;have hbk:=hgrow.block E.b hlw (fun e=>HM.out.cb e.symm);have e9:=(World.cell?_of_block (a:=⟨E.b,9,none⟩) hbk).trans d9;have e9f:=(World.frozen?_of_block (a:=⟨E.b,9,none⟩) hbk).trans f9;have hold: ∀k,F1 k→w1.heap[k]? =wa.heap[k]? :=fun k hk=>hgrow.block k (HM.out.fo k hk).2.1 fun e=>(HM.out.fo k hk).2.2.2.1 e.symm;have hkt1:=hkt.same (hold _ hFt);have hkz1:=hkz.same (hold _ hFz);obtain⟨t0,t1,t2,t3,t4,y0,y1,y2,y3,y4⟩:=hkt1.fs;obtain⟨x0,x1,x2,x3,x4,v0,v1,v2,v3,v4⟩:=hkz1.fs;have g1:=(World.cell?_of_block (a:=⟨E.b,1,none⟩) hbk).trans HA.out.c_at;have g7:=(World.cell?_of_block (a:=⟨E.b,7,none⟩) hbk).trans d7;have g8:=(World.cell?_of_block (a:=⟨E.b,8,none⟩) hbk).trans HA.out.c_goal;have h1:=(World.frozen?_of_block (a:=⟨E.b,1,none⟩) hbk).trans (HA.out.frozen 1);have h7:=(World.frozen?_of_block (a:=⟨E.b,7,none⟩) hbk).trans (HA.out.frozen 7);have h8:=(World.frozen?_of_block (a:=⟨E.b,8,none⟩) hbk).trans (HA.out.frozen 8))))
 all_goals
  have hwb:w.heap.size≠E.b:=by omega
  have hwb2:w.heap.size+1≠E.b:=by omega
  have HO:=hJ hown
  have HT:=hJ hat
  have HBK:=hJ hbk
  clear hown hat hbk hold
  go_wp2_with fail
  obtain⟨h3,h4⟩:=HM.out.taken (X:=X0) HE.out.hb HO.out ⟨hgrow.os,hgrow.tape,hgrow.output,hgrow.size,hgrow.block⟩ HT.out
  refine bodyPost_ret (aQ6 (x:=p.tok) rfl _ _ w.heap.size rfl ?_) rfl ?_
  ·exact TkAt.lay (kind:=p.tok.kind) (text:=p.tok.text) (from':=p.tok.from') (till:=p.tok.till) (line:=p.tok.line) ((((hkz1.other hwb 9 (.slice sa sn sc)).other hwb 1 (.int .i64 p.tok.till)).other hwb 8 (.int .i64 0)).other hwb 7 (.slice none 0 0))
  ·have hlt4:=h3.lt
   generalize ((((w1.setCell ⟨E.b,9,none⟩ (.slice sa sn sc)).setCell ⟨E.b,1,none⟩ (.int .i64 p.tok.till)).setCell ⟨E.b,8,none⟩ (.int .i64 0)).setCell ⟨E.b,7,none⟩ (.slice none 0 0))=w4 at*
   have o1: ∀(a:World) (j:Nat) (u:Value),Only (fun k=>k=w.heap.size) w4 a→Only (fun k=>k=w.heap.size) w4 (a.setCell ⟨w.heap.size,j,none⟩ u):=fun a j u ha=>ha.setCell (.inl rfl) u
   have ho2:=o1 _ 4 (.bool p.tok.line) (o1 _ 3 (.int .i64 p.tok.till) (o1 _ 2 (.int .i64 p.tok.from') (o1 _ 1 (.string p.tok.text) (o1 _ 0 (.int .i64 p.tok.kind) (Only.refl _ w4)))))
   refine⟨_,rfl,rfl,(h3.only (ho2.mono fun _ hk=>hk▸hFz)).weak hF1,?_⟩
   exact(((PB.refl E.b X0 w).only' (Only.of_below (X:=fun _=>False) HB1.out) hlt id (fun _ hk=>hk.elim)).then h4).only' ho2 hlt4 hwb.symm (fun _ hk=> .inr (Nat.le_of_eq hk.symm))
end
section
open Go.RowKit
section
variable {E:PE} {F X Y:Nat→Prop} {w wc W w1:World} {p q:Ps}
theorem PM.ne {α β:Type} {x:PM α} {k:α→PM β} {T:Res β} (h:(x>>=k) p=T) (hn:T≠ .out):x p≠ .out:=by
 rcases PM.cases h hn with ⟨a,q,h1,_⟩|⟨c,i,h1,_⟩<;>rw [h1]<;>exact fun e=>by cases e
theorem PM.get {β:Type} {k:Ps→PM β} {T:Res β} (h:(getP>>=k) p=T):k p p=T:=h
theorem PM.tail {α:Type} {x:PM α} {T:Res α} (h:x p=T):(x>>=fun a=>pure a) p=T:=by
 rw [←h]
 show PM.bind x _ p=x p
 unfold PM.bind
 cases x p<;>rfl
theorem Ans.bad {α:Type} {T:Res α} {c i:Int} {A:α→Value→World→Prop} (ht:T= .bad c i) (hp:PB E.b X w w1):Ans E F X w T A (.panicked (flt c i)) w1:=by
 subst ht
 exact⟨rfl,hp⟩
theorem Ans.ok {α:Type} {T:Res α} {a:α} {v:Value} {A:α→Value→World→Prop} (ht:T= .ok a q) (hA:A a v w1) (hs:St E F w1 q) (hp:PB E.b X w w1):Ans E F X w T A (.returned v) w1:=by
 subst ht
 exact⟨v,rfl,hA,hs,hp⟩
abbrev Mine (F X:Nat→Prop) (w:World):Nat→Prop:=fun k=>F k∧(X k∨w.heap.size≤k)
theorem PB.adv (hp:PB E.b X w wc) (hs:St E F wc q) (ho:Only (Mine F X w) wc W):PB E.b X w W:=hp.only' ho hs.lt (fun h=>hs.notF h.1) fun _ h=>h.2
theorem St.adv (hs:St E F wc q) (ho:Only (Mine F X w) wc W):St E F W q:=hs.only (ho.mono fun _ h=>h.1)
theorem aK5 {P:Program} {k:FuncId} {args:Array Value} {K:Ending→World→Prop} (hs:St E F wc q) (hp:PB E.b X w wc) (ho:Only (Mine F X w) wc W)
  (h: ∀F2:Nat→Prop,(∀k,F k→F2 k)→(∀k,wc.heap.size≤k→k<W.heap.size→F2 k)→(∀n v,IsP E F wc n v→IsP E F2 W n v)→St E F2 W q→PB E.b X w W→Calls P k args W K):Calls P k args W K:=by
 obtain⟨F2,h1,h2,_,h3,h4⟩:=hs.enter (ho.mono fun _ h=>h.1)
 exact h F2 h1 h2 h4 h3 (hp.adv hs ho)
theorem af8 {P:Program} {k:FuncId} {args:Array Value} {K:Ending→World→Prop} {α:Type} {T:Res α} {c i:Int} {A:α→Value→World→Prop} (v:Value) (h:Calls P k args W (Ans E F X W T A)) (ht:T= .bad c i) (hq: ∀w',PB E.b X W w'→K (.panicked (flt c i)) w') (_:False→K (.returned v) W):Calls P k args W K:=
 h.mono fun e w' ha=>by
  subst ht
  obtain⟨rfl,hp⟩:=ha
  exact hq w' hp
theorem St.box (hs:St E F W q) (hp:PB E.b X0 W w1) {g:Nat} (hg:F g):w1.heap[g]? =W.heap[g]? :=hs.fr hp hg fun h=>h
end
theorem Only.lay5 {X:Nat→Prop} {a w:World} {g:Nat} {u0 u1 u2 u3 u4:Value} (h:Only X a w) (hg:X g∨a.heap.size≤g):Only X a (((((w.setCell ⟨g,0,none⟩ u0).setCell ⟨g,1,none⟩ u1).setCell ⟨g,2,none⟩ u2).setCell ⟨g,3,none⟩ u3).setCell ⟨g,4,none⟩ u4):=
 ((((h.setCell (p:=⟨g,0,none⟩) hg u0).setCell (p:=⟨g,1,none⟩) hg u1).setCell (p:=⟨g,2,none⟩) hg u2).setCell (p:=⟨g,3,none⟩) hg u3).setCell (p:=⟨g,4,none⟩) hg u4
def NB (w:World) (g:Nat):Prop:= ∃k t b n cap f u,ab0 w g k t b n cap f u
theorem NB.fs {w:World} {g:Nat} (h:NB w g): ∃(k:Int) (t:ByteArray) (b:Option Addr) (n cap:Nat) (f u:Int),w.cell? ⟨g,0,none⟩=some (.int .i64 k)∧w.cell? ⟨g,1,none⟩=some (.string t)∧w.cell? ⟨g,2,none⟩=some (.slice b n cap)∧w.cell? ⟨g,3,none⟩=some (.int .i64 f)∧w.cell? ⟨g,4,none⟩=some (.int .i64 u)∧
  w.frozen? ⟨g,0,none⟩=false∧w.frozen? ⟨g,1,none⟩=false∧w.frozen? ⟨g,2,none⟩=false∧w.frozen? ⟨g,3,none⟩=false∧w.frozen? ⟨g,4,none⟩=false:=by
 obtain⟨k,t,b,n,cap,f,u,h⟩:=h
 exact⟨k,t,b,n,cap,f,u,h.facts⟩
theorem NB.lay {w:World} {g:Nat} (h:NB w g) (k:Int) (t:ByteArray) (b:Option Addr) (n cap:Nat) (f u:Int):
  ab0 (((((w.setCell ⟨g,0,none⟩ (.int .i64 k)).setCell ⟨g,1,none⟩ (.string t)).setCell ⟨g,2,none⟩ (.slice b n cap)).setCell ⟨g,3,none⟩ (.int .i64 f)).setCell ⟨g,4,none⟩ (.int .i64 u)) g k t b n cap f u:=by
 obtain⟨k0,t0,b0,n0,cap0,f0,u0,h⟩:=h
 unfold ab0 at h⊢
 have hs:=fun(a:World) (c:Array Value) (j:Nat) (u:Value) (ha:a.heap[g]? =some (.cells c 27 (0,0)))=>heap_setCell_same a g j c 27 u ha
 exact(hs _ _ 4 (.int .i64 u) (hs _ _ 3 (.int .i64 f) (hs _ _ 2 (.slice b n cap) (hs _ _ 1 (.string t) (hs _ _ 0 (.int .i64 k) h))))).trans (congrArg (fun c=>some (Obj.cells c 27 (0,0))) (by simp [aa7]))
theorem NB.same {w w':World} {g:Nat} (h:NB w g) (hk:w'.heap[g]? =w.heap[g]?):NB w' g:=by
 obtain⟨k,t,b,n,cap,f,u,h⟩:=h
 exact⟨k,t,b,n,cap,f,u,hk.trans h⟩
theorem ab0.same {w w':World} {g:Nat} {k:Int} {t:ByteArray} {b:Option Addr} {n cap:Nat} {f u:Int} (h:ab0 w g k t b n cap f u) (hk:w'.heap[g]? =w.heap[g]?):ab0 w' g k t b n cap f u:=hk.trans h
theorem ab0.alloc {w:World} {g:Nat} {k:Int} {t:ByteArray} {b:Option Addr} {n cap:Nat} {f u:Int} (h:ab0 w g k t b n cap f u) (o:Obj):ab0 (w.alloc o) g k t b n cap f u:=(Below.heap_alloc w o g h.lt).trans h
theorem ab0.nb {w:World} {g:Nat} {k:Int} {t:ByteArray} {b:Option Addr} {n cap:Nat} {f u:Int} (h:ab0 w g k t b n cap f u):NB w g:=⟨k,t,b,n,cap,f,u,h⟩
theorem ab0.new {w:World} {g:Nat} {k:Int} {t:ByteArray} {b:Option Addr} {n cap:Nat} {f u:Int} (h:w.heap.size=g):ab0 (w.alloc (.cells #[.int .i64 k,.string t,.slice b n cap,.int .i64 f,.int .i64 u] 27)) g k t b n cap f u:=by
 subst h
 exact heap_alloc_new _ _
theorem bw7 (w:World):NB (w.alloc (.cells #[.int .i64 0,.string ⟨#[]⟩,.slice none 0 0,.int .i64 0,.int .i64 0] 27)) w.heap.size:=⟨_,_,_,_,_,_,_,ab0.new rfl⟩
section
variable {E:PE} {F F1 X Y:Nat→Prop} {w wc W w1:World} {p q:Ps}
theorem bI0 {fn:Func} {r:Tmp} {tmps:Array Value} {g:Nat} {t z:Tk} {T:Res Tk} (hr:fn.results= #[.cell r 49]) (hr2:tmps.getD r undef= .pointer (some ⟨g,0,none⟩)) (hk:TkAt wc g z) (hs:St E F1 wc q) (hF: ∀k,F k→F1 k) (hg:F1 g) (hgw:w.heap.size≤g) (hp:PB E.b X w wc) (ht:T= .ok t q):
  bodyPost Tryz.prog fn (Ans E F X w T fun t v _=>v= .agg #[.int .i64 t.kind,.string t.text,.int .i64 t.from',.int .i64 t.till,.bool t.line]) Exit.ret { tmps:=tmps,defers:= [] } (((((wc.setCell ⟨g,0,none⟩ (.int .i64 t.kind)).setCell ⟨g,1,none⟩ (.string t.text)).setCell ⟨g,2,none⟩ (.int .i64 t.from')).setCell ⟨g,3,none⟩ (.int .i64 t.till)).setCell ⟨g,4,none⟩ (.bool t.line)):=by
 refine bodyPost_ret (aQ6 (x:=t) hr _ _ g hr2 (TkAt.lay hk)) rfl ?_
 have ho:Only (Mine F1 X w) wc _:=Only.lay5 (u0:= .int .i64 t.kind) (u1:= .string t.text) (u2:= .int .i64 t.from') (u3:= .int .i64 t.till) (u4:= .bool t.line) (Only.refl _ wc) (.inl ⟨hg,.inr hgw⟩)
 exact Ans.ok ht rfl ((hs.adv ho).weak hF) (hp.adv hs ho)
theorem fin_nd {fn:Func} {r:Tmp} {tmps:Array Value} {g:Nat} {n:Nd} {a:Option Addr} {cap:Nat} {T:Res Nd} (hr:fn.results= #[.cell r 27]) (hr2:tmps.getD r undef= .pointer (some ⟨g,0,none⟩)) (hk:NB wc g) (hs:St E F1 wc q) (hF: ∀k,F k→F1 k) (hg:F1 g) (hgw:w.heap.size≤g) (hp:PB E.b X w wc) (ht:T= .ok n q) (hn:IsP E F1 wc n (.agg #[.int .i64 n.kind,.string n.text,.slice a n.kids.length cap,.int .i64 n.from',.int .i64 n.till])):
  bodyPost Tryz.prog fn (Ans E F X w T fun n v w'=>IsP E F w' n v) Exit.ret { tmps:=tmps,defers:= [] } (((((wc.setCell ⟨g,0,none⟩ (.int .i64 n.kind)).setCell ⟨g,1,none⟩ (.string n.text)).setCell ⟨g,2,none⟩ (.slice a n.kids.length cap)).setCell ⟨g,3,none⟩ (.int .i64 n.from')).setCell ⟨g,4,none⟩ (.int .i64 n.till)):=by
 refine bodyPost_ret (aF3 hr _ _ g hr2 (hk.lay n.kind n.text a n.kids.length cap n.from' n.till)) rfl ?_
 have ho:Only (Mine F1 X w) wc _:=Only.lay5 (u0:= .int .i64 n.kind) (u1:= .string n.text) (u2:= .slice a n.kids.length cap) (u3:= .int .i64 n.from') (u4:= .int .i64 n.till) (Only.refl _ wc) (.inl ⟨hg,.inr hgw⟩)
 exact Ans.ok ht ((hn.only (ho.mono fun _ h=>h.1) hs.lt hs.notF).weak hF) ((hs.adv ho).weak hF) (hp.adv hs ho)
theorem ao9 {α:Type} {fn:Func} {tmps:Array Value} {T:Res α} {x:α} {A:α→Value→World→Prop} (hr:fn.results= #[]) (hs:St E F1 wc q) (hF: ∀k,F k→F1 k) (hp:PB E.b X w wc) (ht:T= .ok x q) (hA:A x (.tuple #[]) wc):
  bodyPost Tryz.prog fn (Ans E F X w T A) Exit.normal { tmps:=tmps,defers:= [] } wc:=bodyPost_end (results_none hr _ _ _) rfl (Ans.ok ht hA (hs.weak hF) hp)
end
end
section
open Go.RowKit
theorem P.ident {E:PE} {F:Nat→Prop} {w:World} {p:Ps} (t:Tk) (h:St E F w p):
  Calls Tryz.prog 81 #[.pointer (some ⟨E.b,0,none⟩),.agg #[.int .i64 t.kind,.string t.text,.int .i64 t.from',.int .i64 t.till,.bool t.line]] w fun e w'=>e= .returned (.bool (am4 E.m p.flags t))∧Below w.heap.size w w':=by
 have c10:=h.c_mod
 have c11:=h.c_flags
 have hlt:=h.lt
 have hlt2:E.b<w.heap.size+1:=by omega
 clear h
 have hb:=bt t.text [97,119,97,105,116]
 have HR:Hid (∀W,Calls Tryz.prog 149 #[.string t.text,.bool E.m] W fun e w'=>e= .returned (.bool (aa1 t.text E.m))∧w'=W):=hJ fun W=>(aQ7 t.text E.m W).mono fun _ _ h=>⟨h.1,h.2.symm⟩
 have hB:=(Below.alloc (Below.refl _ w) (Nat.le_refl _) (.cells #[.int .i64 t.kind,.string t.text,.int .i64 t.from',.int .i64 t.till,.bool t.line] 49))
 unfold am4
 by_cases hk:t.kind=1
 ·have h0:(t.kind==1)=true:=by rw [beq_iff_eq];exact hk
  have HK:=hJ hk
  clear hk
  cases hr:aa1 t.text E.m with
  |true=>
   rw [hr] at HR
   clear hr
   go_enter Tryz.func81,Tryz.ntmps81
   go_wp2_with fail
   go_quiet ((go_at_call 149;exact Calls.quiet_of_same (HR.out _)))
   go_wp2_with fail
   go_ret
   exact⟨by rw [decide_eq_true HK.out];rfl,aa3 hB _⟩
  |false=>
   rw [hr] at HR
   clear hr
   cases hf:(bits .and .i64 p.flags 4==0) with
   |true=>
    go_enter Tryz.func81,Tryz.ntmps81
    go_wp2_with fail
    go_quiet ((go_at_call 149;exact Calls.quiet_of_same (HR.out _)))
    go_wp2_with fail
    go_ret
    exact⟨by unfold hasF;rw [decide_eq_true HK.out,hf];rfl,aa3 hB _⟩
   |false=>
    go_enter Tryz.func81,Tryz.ntmps81
    go_wp2_with fail
    go_quiet ((go_at_call 149;exact Calls.quiet_of_same (HR.out _)))
    go_wp2_with fail
    go_ret
    trace_state
    exact⟨by unfold hasF;rw [decide_eq_true HK.out,hf];simp,aa3 hB _⟩
 ·have h0:(t.kind==1)=false:=by rw [beq_eq_false_iff_ne];exact hk
  have HK:=hJ hk
  clear hk
  go_enter Tryz.func81,Tryz.ntmps81
  go_wp2_with fail
  go_quiet (fail)
  go_wp2_with fail
  go_ret
  exact⟨by rw [decide_eq_false HK.out];rfl,aa3 hB _⟩
end
section
open Go.RowKit
theorem P.is {E:PE} (hE:E.Ok) {F:Nat→Prop} {w:World} {p:Ps} (x:ByteArray) (h:St E F w p) (hne:isP E.s x p≠ .out):
  Calls Tryz.prog 29 #[.pointer (some ⟨E.b,0,none⟩),.string x] w (Ans E F X0 w (isP E.s x p) fun b v _=>v= .bool b):=by
 obtain⟨T,hT⟩: ∃T,isP E.s x p=T:=⟨_,rfl⟩
 rw [hT] at hne⊢
 unfold isP at hT
 have HT:=hJ hT
 have HN:=hJ hne
 have HS:=hJ h
 have HP:=hJ (PB.refl E.b X0 w)
 have HE:=hJ hE
 clear h hne hT hE
 go_enter Tryz.func29,Tryz.ntmps29
 go_wp2_with fail
 refine(P.peek HE.out 1 HS.out (PM.ne HT.out HN.out)).mono ?_
 intro e w1 h1
 rcases PM.cases HT.out HN.out with ⟨t,q1,hx,hk⟩|⟨c,i,hx,hk⟩
 rotate_left
 ·rw [hx] at h1
  obtain⟨rfl,hp1⟩:=h1
  replace HT:=hJ hk
  clear hx hk
  go_wp2_with fail
  exact⟨rfl,Ans.bad HT.out (HP.out.then hp1)⟩
 rw [hx] at h1
 obtain⟨v,rfl,rfl,hs1,hp1⟩:=h1
 replace HS:=hJ hs1
 replace HP:=hJ (HP.out.then hp1)
 replace HT:=hJ hk
 clear hs1 hp1 hx hk
 go_wp2_with fail
 refine(P.punct t x _).mono ?_
 rintro e w2 ⟨rfl,hb⟩
 replace HP:=hJ (HP.out.adv HS.out (Only.below (Only.refl _ _) hb))
 replace HS:=hJ (HS.out.adv (X:=X0) (w:=w) (Only.below (Only.refl _ _) hb))
 clear hb
 cases hc:aa2 t x with
 |true=>
  have hk:=HT.out
  rw [hc,if_pos rfl] at hk
  replace HT:=hJ hk
  clear hk
  go_wp2_with fail
  refine(P.take HE.out HS.out (PM.ne HT.out HN.out)).mono ?_
  intro e w3 h1
  rcases PM.cases HT.out HN.out with ⟨_,q3,hx,hk⟩|⟨c,i,hx,hk⟩
  rotate_left
  ·rw [hx] at h1
   obtain⟨rfl,hp1⟩:=h1
   replace HT:=hJ hk
   clear hx hk
   go_wp2_with fail
   exact⟨rfl,Ans.bad HT.out (HP.out.then hp1)⟩
  rw [hx] at h1
  obtain⟨v,rfl,rfl,hs1,hp1⟩:=h1
  replace HS:=hJ hs1
  replace HP:=hJ (HP.out.then hp1)
  replace HT:=hJ hk
  clear hs1 hp1 hx hk
  go_wp2_with fail
  go_ret
  exact Ans.ok HT.out.symm rfl HS.out HP.out
 |false=>
  have hk:=HT.out
  rw [hc,if_neg (by decide)] at hk
  replace HT:=hJ hk
  clear hk
  go_wp2_with fail
  go_ret
  exact Ans.ok HT.out.symm rfl HS.out HP.out
theorem P.word {E:PE} (hE:E.Ok) {F:Nat→Prop} {w:World} {p:Ps} (x:ByteArray) (h:St E F w p) (hne:bh6 E.s x p≠ .out):
  Calls Tryz.prog 190 #[.pointer (some ⟨E.b,0,none⟩),.string x] w (Ans E F X0 w (bh6 E.s x p) fun b v _=>v= .bool b):=by
 obtain⟨T,hT⟩: ∃T,bh6 E.s x p=T:=⟨_,rfl⟩
 rw [hT] at hne⊢
 unfold bh6 at hT
 have HT:=hJ hT
 have HN:=hJ hne
 have HS:=hJ h
 have HP:=hJ (PB.refl E.b X0 w)
 have HE:=hJ hE
 clear h hne hT hE
 go_enter Tryz.func190,Tryz.ntmps190
 go_wp2_with fail
 refine(P.peek HE.out 1 HS.out (PM.ne HT.out HN.out)).mono ?_
 intro e w1 h1
 rcases PM.cases HT.out HN.out with ⟨t,q1,hx,hk⟩|⟨c,i,hx,hk⟩
 rotate_left
 ·rw [hx] at h1
  obtain⟨rfl,hp1⟩:=h1
  replace HT:=hJ hk
  clear hx hk
  go_wp2_with fail
  exact⟨rfl,Ans.bad HT.out (HP.out.then hp1)⟩
 rw [hx] at h1
 obtain⟨v,rfl,rfl,hs1,hp1⟩:=h1
 replace HS:=hJ hs1
 replace HP:=hJ (HP.out.then hp1)
 replace HT:=hJ hk
 clear hs1 hp1 hx hk
 go_wp2_with fail
 refine(P.name t x _).mono ?_
 rintro e w2 ⟨rfl,hb⟩
 replace HP:=hJ (HP.out.adv HS.out (Only.below (Only.refl _ _) hb))
 replace HS:=hJ (HS.out.adv (X:=X0) (w:=w) (Only.below (Only.refl _ _) hb))
 clear hb
 cases hc:ae7 t x with
 |true=>
  have hk:=HT.out
  rw [hc,if_pos rfl] at hk
  replace HT:=hJ hk
  clear hk
  go_wp2_with fail
  refine(P.take HE.out HS.out (PM.ne HT.out HN.out)).mono ?_
  intro e w3 h1
  rcases PM.cases HT.out HN.out with ⟨_,q3,hx,hk⟩|⟨c,i,hx,hk⟩
  rotate_left
  ·rw [hx] at h1
   obtain⟨rfl,hp1⟩:=h1
   replace HT:=hJ hk
   clear hx hk
   go_wp2_with fail
   exact⟨rfl,Ans.bad HT.out (HP.out.then hp1)⟩
  rw [hx] at h1
  obtain⟨v,rfl,rfl,hs1,hp1⟩:=h1
  replace HS:=hJ hs1
  replace HP:=hJ (HP.out.then hp1)
  replace HT:=hJ hk
  clear hs1 hp1 hx hk
  go_wp2_with fail
  go_ret
  exact Ans.ok HT.out.symm rfl HS.out HP.out
 |false=>
  have hk:=HT.out
  rw [hc,if_neg (by decide)] at hk
  replace HT:=hJ hk
  clear hk
  go_wp2_with fail
  go_ret
  exact Ans.ok HT.out.symm rfl HS.out HP.out
theorem P.must {E:PE} (hE:E.Ok) {F:Nat→Prop} {w:World} {p:Ps} (x:ByteArray) (h:St E F w p) (hne:aT3 E.s x p≠ .out):
  Calls Tryz.prog 141 #[.pointer (some ⟨E.b,0,none⟩),.string x] w (Ans E F X0 w (aT3 E.s x p) fun _ v _=>v= .tuple #[]):=by
 obtain⟨T,hT⟩: ∃T,aT3 E.s x p=T:=⟨_,rfl⟩
 rw [hT] at hne⊢
 unfold aT3 at hT
 have HT:=hJ hT
 have HN:=hJ hne
 have HS:=hJ h
 have HP:=hJ (PB.refl E.b X0 w)
 have HE:=hJ hE
 clear h hne hT hE
 go_enter Tryz.func141,Tryz.ntmps141
 go_wp2_with fail
 refine(P.word HE.out x HS.out (PM.ne HT.out HN.out)).mono ?_
 intro e w1 h1
 rcases PM.cases HT.out HN.out with ⟨b,q1,hx,hk⟩|⟨c,i,hx,hk⟩
 rotate_left
 ·rw [hx] at h1
  obtain⟨rfl,hp1⟩:=h1
  replace HT:=hJ hk
  clear hx hk
  go_wp2_with fail
  exact⟨rfl,Ans.bad HT.out (HP.out.then hp1)⟩
 rw [hx] at h1
 obtain⟨v,rfl,rfl,hs1,hp1⟩:=h1
 replace HS:=hJ hs1
 replace HP:=hJ (HP.out.then hp1)
 replace HT:=hJ hk
 clear hs1 hp1 hx hk
 cases b with
 |true=>
  have hk:=HT.out
  rw [if_pos rfl] at hk
  replace HT:=hJ hk
  clear hk
  go_wp2_with fail
  exact ao9 rfl HS.out (fun _ h=>h) HP.out HT.out.symm rfl
 |false=>
  have hk:=HT.out
  rw [if_neg (by decide)] at hk
  replace HT:=hJ hk
  clear hk
  go_wp2_with fail
  refine(P.odd HS.out).mono ?_
  rintro e w9 ⟨rfl,rfl⟩
  go_wp2_with fail
  exact⟨rfl,Ans.bad HT.out.symm HP.out⟩
theorem P.want {E:PE} (hE:E.Ok) {F:Nat→Prop} {w:World} {p:Ps} (x:ByteArray) (h:St E F w p) (hne:ap6 E.s x p≠ .out):
  Calls Tryz.prog 89 #[.pointer (some ⟨E.b,0,none⟩),.string x] w (Ans E F X0 w (ap6 E.s x p) fun t v _=>v= .agg #[.int .i64 t.kind,.string t.text,.int .i64 t.from',.int .i64 t.till,.bool t.line]):=by
 obtain⟨T,hT⟩: ∃T,ap6 E.s x p=T:=⟨_,rfl⟩
 rw [hT] at hne⊢
 unfold ap6 at hT
 have HT:=hJ hT
 have HN:=hJ hne
 have HS:=hJ h
 have HP:=hJ (PB.refl E.b X0 w)
 have HE:=hJ hE
 clear h hne hT hE
 go_enter Tryz.func89,Tryz.ntmps89
 go_wp2_with fail
 refine aK5 HS.out HP.out (Only.alloc (Only.refl _ _) _) ?_
 intro F1 hF1 hnew hn1 hs1 hp1
 replace HS:=hJ hs1
 replace HP:=hJ hp1
 have hmr:F1 (w.heap.size):=hnew _ (by simp) (by simp)
 have HBr:=hJ (ax8 w)
 clear hnew hs1 hp1
 refine(P.peek HE.out 1 HS.out (PM.ne HT.out HN.out)).mono ?_
 intro e w1 h1
 rcases PM.cases HT.out HN.out with ⟨t,q1,hx,hk⟩|⟨c,i,hx,hk⟩
 rotate_left
 ·rw [hx] at h1
  obtain⟨rfl,hp1⟩:=h1
  replace HT:=hJ hk
  clear hx hk
  go_wp2_with fail
  exact⟨rfl,Ans.bad HT.out (HP.out.then hp1)⟩
 rw [hx] at h1
 obtain⟨v,rfl,rfl,hs1,hp1⟩:=h1
 replace HBr:=hJ (HBr.out.same (HS.out.box hp1 hmr))
 replace HS:=hJ hs1
 replace HP:=hJ (HP.out.then hp1)
 replace HT:=hJ hk
 clear hs1 hp1 hx hk
 go_wp2_with fail
 refine(P.punct t x _).mono ?_
 rintro e w2 ⟨rfl,hb⟩
 replace HBr:=hJ (HBr.out.same (hb.block _ (HS.out.fo _ hmr).2.1))
 replace HP:=hJ (HP.out.adv HS.out (Only.below (Only.refl _ _) hb))
 replace HS:=hJ (HS.out.adv (X:=X0) (w:=w) (Only.below (Only.refl _ _) hb))
 clear hb
 cases hc:aa2 t x with
 |true=>
  have hk:=HT.out
  rw [hc,if_pos rfl] at hk
  replace HT:=hJ hk
  clear hk
  go_wp2_with fail
  replace HT:=hJ (PM.tail HT.out)
  refine(P.take HE.out HS.out (PM.ne HT.out HN.out)).mono ?_
  intro e w3 h1
  rcases PM.cases HT.out HN.out with ⟨u,q3,hx,hk⟩|⟨c,i,hx,hk⟩
  rotate_left
  ·rw [hx] at h1
   obtain⟨rfl,hp1⟩:=h1
   replace HT:=hJ hk
   clear hx hk
   go_wp2_with fail
   exact⟨rfl,Ans.bad HT.out (HP.out.then hp1)⟩
  rw [hx] at h1
  obtain⟨v,rfl,rfl,hs1,hp1⟩:=h1
  replace HBr:=hJ (HBr.out.same (HS.out.box hp1 hmr))
  replace HS:=hJ hs1
  replace HP:=hJ (HP.out.then hp1)
  replace HT:=hJ hk
  clear hs1 hp1 hx hk
  obtain⟨zr0,zr1,zr2,zr3,zr4,yr0,yr1,yr2,yr3,yr4⟩:=HBr.out.fs
  go_wp2_with fail
  exact bI0 rfl rfl HBr.out HS.out hF1 hmr (Nat.le_refl _) HP.out HT.out.symm
 |false=>
  have hk:=HT.out
  rw [hc,if_neg (by decide)] at hk
  replace HT:=hJ hk
  clear hk
  go_wp2_with fail
  refine(P.odd HS.out).mono ?_
  rintro e w9 ⟨rfl,rfl⟩
  go_wp2_with fail
  exact⟨rfl,Ans.bad HT.out.symm HP.out⟩
theorem P.semicolon {E:PE} (hE:E.Ok) {F:Nat→Prop} {w:World} {p:Ps} (h:St E F w p) (hne:ao3 E.s p≠ .out):
  Calls Tryz.prog 135 #[.pointer (some ⟨E.b,0,none⟩)] w (Ans E F X0 w (ao3 E.s p) fun _ v _=>v= .tuple #[]):=by
 obtain⟨T,hT⟩: ∃T,ao3 E.s p=T:=⟨_,rfl⟩
 rw [hT] at hne⊢
 unfold ao3 at hT
 have HT:=hJ hT
 have HN:=hJ hne
 have HS:=hJ h
 have HP:=hJ (PB.refl E.b X0 w)
 have HE:=hJ hE
 clear h hne hT hE
 go_enter Tryz.func135,Tryz.ntmps135
 go_wp2_with fail
 refine(P.peek HE.out 1 HS.out (PM.ne HT.out HN.out)).mono ?_
 intro e w1 h1
 rcases PM.cases HT.out HN.out with ⟨t,q1,hx,hk⟩|⟨c,i,hx,hk⟩
 rotate_left
 ·rw [hx] at h1
  obtain⟨rfl,hp1⟩:=h1
  replace HT:=hJ hk
  clear hx hk
  go_wp2_with fail
  exact⟨rfl,Ans.bad HT.out (HP.out.then hp1)⟩
 rw [hx] at h1
 obtain⟨v,rfl,rfl,hs1,hp1⟩:=h1
 replace HS:=hJ hs1
 replace HP:=hJ (HP.out.then hp1)
 replace HT:=hJ hk
 clear hs1 hp1 hx hk
 go_wp2_with fail
 refine aK5 HS.out HP.out (Only.alloc (Only.refl _ _) _) ?_
 intro F1 hF1 hnew hn1 hs1 hp1
 replace HS:=hJ hs1
 replace HP:=hJ hp1
 have hmt:F1 (w1.heap.size):=hnew _ (by simp) (by simp)
 have HBt:=hJ ((TkAt.new rfl:TkAt (w1.alloc (.cells #[.int .i64 t.kind,.string t.text,.int .i64 t.from',.int .i64 t.till,.bool t.line] 49)) (w1.heap.size) t))
 clear hnew hs1 hp1
 refine(P.punct t ⟨#[59]⟩ _).mono ?_
 rintro e w2 ⟨rfl,hb⟩
 replace HBt:=hJ (HBt.out.same (hb.block _ (HS.out.fo _ hmt).2.1))
 replace HP:=hJ (HP.out.adv HS.out (Only.below (Only.refl _ _) hb))
 replace HS:=hJ (HS.out.adv (X:=X0) (w:=w) (Only.below (Only.refl _ _) hb))
 clear hb
 cases hc:aa2 t ⟨#[59]⟩ with
 |true=>
  have hk:=HT.out
  rw [hc,if_pos rfl] at hk
  replace HT:=hJ hk
  clear hk
  go_wp2_with fail
  refine(P.take HE.out HS.out (PM.ne HT.out HN.out)).mono ?_
  intro e w3 h1
  rcases PM.cases HT.out HN.out with ⟨_,q3,hx,hk⟩|⟨c,i,hx,hk⟩
  rotate_left
  ·rw [hx] at h1
   obtain⟨rfl,hp1⟩:=h1
   replace HT:=hJ hk
   clear hx hk
   go_wp2_with fail
   exact⟨rfl,Ans.bad HT.out (HP.out.then hp1)⟩
  rw [hx] at h1
  obtain⟨v,rfl,rfl,hs1,hp1⟩:=h1
  replace HBt:=hJ (HBt.out.same (HS.out.box hp1 hmt))
  replace HS:=hJ hs1
  replace HP:=hJ (HP.out.then hp1)
  replace HT:=hJ hk
  clear hs1 hp1 hx hk
  go_wp2_with fail
  exact ao9 rfl HS.out hF1 HP.out HT.out.symm rfl
 |false=>
  have hk:=HT.out
  rw [hc,if_neg (by decide)] at hk
  replace HT:=hJ hk
  clear hk
  obtain⟨zt0,zt1,zt2,zt3,zt4,yt0,yt1,yt2,yt3,yt4⟩:=HBt.out.fs
  go_wp2_with fail
  refine(P.punct t ⟨#[125]⟩ _).mono ?_
  rintro e w3 ⟨rfl,hb⟩
  replace HBt:=hJ (HBt.out.same (hb.block _ (HS.out.fo _ hmt).2.1))
  replace HP:=hJ (HP.out.adv HS.out (Only.below (Only.refl _ _) hb))
  replace HS:=hJ (HS.out.adv (X:=X0) (w:=w) (Only.below (Only.refl _ _) hb))
  clear hb
  cases hd:aa2 t ⟨#[125]⟩ with
  |true=>
   have hk:=HT.out
   rw [if_neg (by rw [hd];simp)] at hk
   replace HT:=hJ hk
   clear hk
   go_wp2_with fail
   exact ao9 rfl HS.out hF1 HP.out HT.out.symm rfl
  |false=>
   by_cases he:t.kind=0
   ·have h0:(t.kind !=0)=false:=by rw [he];rfl
    have hk:=HT.out
    rw [if_neg (by rw [he];simp)] at hk
    replace HT:=hJ hk
    clear hk
    have HZ:=hJ he
    clear he
    obtain⟨zt0,zt1,zt2,zt3,zt4,yt0,yt1,yt2,yt3,yt4⟩:=HBt.out.fs
    go_wp2_with fail
    exact ao9 rfl HS.out hF1 HP.out HT.out.symm rfl
   ·have h0:(t.kind !=0)=true:=by rw [bne_iff_ne];exact he
    obtain⟨zt0,zt1,zt2,zt3,zt4,yt0,yt1,yt2,yt3,yt4⟩:=HBt.out.fs
    cases hl:t.line with
    |true=>
     have hk:=HT.out
     rw [if_neg (by rw [hl];simp)] at hk
     replace HT:=hJ hk
     clear hk
     go_wp2_with fail
     exact ao9 rfl HS.out hF1 HP.out HT.out.symm rfl
    |false=>
     have hk:=HT.out
     rw [if_pos (by rw [hd,hl];simp [he])] at hk
     replace HT:=hJ hk
     clear hk
     clear he
     go_wp2_with fail
     refine(P.odd HS.out).mono ?_
     rintro e w9 ⟨rfl,rfl⟩
     go_wp2_with fail
     exact⟨rfl,Ans.bad HT.out.symm HP.out⟩
theorem P.takeIdent {E:PE} (hE:E.Ok) {F:Nat→Prop} {w:World} {p:Ps} (h:St E F w p) (hne:ak8 E.s E.m p≠ .out):
  Calls Tryz.prog 197 #[.pointer (some ⟨E.b,0,none⟩)] w (Ans E F X0 w (ak8 E.s E.m p) fun n v w'=>IsP E F w' n v):=by
 obtain⟨T,hT⟩: ∃T,ak8 E.s E.m p=T:=⟨_,rfl⟩
 rw [hT] at hne⊢
 unfold ak8 at hT
 have HT:=hJ hT
 have HN:=hJ hne
 have HS:=hJ h
 have HP:=hJ (PB.refl E.b X0 w)
 have HE:=hJ hE
 clear h hne hT hE
 go_enter Tryz.func197,Tryz.ntmps197
 go_wp2_with fail
 refine aK5 HS.out HP.out (Only.alloc (Only.refl _ _) _) ?_
 intro F1 hF1 hnew hn1 hs1 hp1
 replace HS:=hJ hs1
 replace HP:=hJ hp1
 have hmr:F1 (w.heap.size):=hnew _ (by simp) (by simp)
 have HBr:=hJ (bw7 w)
 clear hnew hs1 hp1
 refine(P.peek HE.out 1 HS.out (PM.ne HT.out HN.out)).mono ?_
 intro e w1 h1
 rcases PM.cases HT.out HN.out with ⟨t,q1,hx,hk⟩|⟨c,i,hx,hk⟩
 rotate_left
 ·rw [hx] at h1
  obtain⟨rfl,hp1⟩:=h1
  replace HT:=hJ hk
  clear hx hk
  go_wp2_with fail
  exact⟨rfl,Ans.bad HT.out (HP.out.then hp1)⟩
 rw [hx] at h1
 obtain⟨v,rfl,rfl,hs1,hp1⟩:=h1
 replace HBr:=hJ (HBr.out.same (HS.out.box hp1 hmr))
 replace HS:=hJ hs1
 replace HP:=hJ (HP.out.then hp1)
 replace HT:=hJ hk
 clear hs1 hp1 hx hk
 go_wp2_with fail
 have hk:=PM.get HT.out
 replace HT:=hJ hk
 clear hk
 refine(P.ident t HS.out).mono ?_
 rintro e w2 ⟨rfl,hb⟩
 replace HBr:=hJ (HBr.out.same (hb.block _ (HS.out.fo _ hmr).2.1))
 replace HP:=hJ (HP.out.adv HS.out (Only.below (Only.refl _ _) hb))
 replace HS:=hJ (HS.out.adv (X:=X0) (w:=w) (Only.below (Only.refl _ _) hb))
 clear hb
 cases hc:am4 E.m q1.flags t with
 |true=>
  have hk:=HT.out
  rw [hc,if_pos rfl] at hk
  replace HT:=hJ hk
  clear hk
  go_wp2_with fail
  refine(P.take HE.out HS.out (PM.ne HT.out HN.out)).mono ?_
  intro e w3 h1
  rcases PM.cases HT.out HN.out with ⟨u,q3,hx,hk⟩|⟨c,i,hx,hk⟩
  rotate_left
  ·rw [hx] at h1
   obtain⟨rfl,hp1⟩:=h1
   replace HT:=hJ hk
   clear hx hk
   go_wp2_with fail
   exact⟨rfl,Ans.bad HT.out (HP.out.then hp1)⟩
  rw [hx] at h1
  obtain⟨v,rfl,rfl,hs1,hp1⟩:=h1
  replace HBr:=hJ (HBr.out.same (HS.out.box hp1 hmr))
  replace HS:=hJ hs1
  replace HP:=hJ (HP.out.then hp1)
  replace HT:=hJ hk
  clear hs1 hp1 hx hk
  go_wp2_with fail
  refine(P.leaf 1 u _).mono ?_
  rintro e w9 ⟨rfl,hb⟩
  have HB9:=HBr.out.same (hb.block _ (HS.out.fo _ hmr).2.1)
  obtain⟨_,_,_,_,_,_,_,z0,z1,z2,z3,z4,y0,y1,y2,y3,y4⟩:=HB9.fs
  go_wp2_with fail
  have ho:Only (Mine F1 X0 w) _ w9:=Only.of_below hb
  exact fin_nd (n:=ar1 1 u) (a:=none) (cap:=0) rfl rfl HB9 (HS.out.adv ho) hF1 hmr (Nat.le_refl _) (HP.out.adv HS.out ho) HT.out.symm ⟨none,0,rfl,Nat.le_refl _,au7 _ _ _ _⟩
 |false=>
  have hk:=HT.out
  rw [hc,if_neg (by decide)] at hk
  replace HT:=hJ hk
  clear hk
  go_wp2_with fail
  refine(P.odd HS.out).mono ?_
  rintro e w9 ⟨rfl,rfl⟩
  go_wp2_with fail
  exact⟨rfl,Ans.bad HT.out.symm HP.out⟩
end
section
open Go.RowKit
def Clo {α:Type} (E:PE) (F X:Nat→Prop) (B:World→Prop) (A:α→World→Prop) (x:PM α) (k:FuncId) (caps:Array Value):Prop:=
 ∀(w:World) (p:Ps),B w→St E F w p→x p≠ .out→Calls Tryz.prog k caps w (Ans E F X w (x p) fun a v w'=>v= .tuple #[]∧A a w')
theorem bn7 {w:World} {b j k:Nat} {v:Value} (h9:j≠9) (h14:j≠14) (h:Own (w.setCell ⟨b,j,none⟩ v) b k):Own w b k:=by
 have e9:(w.setCell ⟨b,j,none⟩ v).cell? ⟨b,9,none⟩=w.cell? ⟨b,9,none⟩:=World.cell?_setCell_other _ _ _ _ (by intro e;injection e with _ e;exact h9 e)
 have e14:(w.setCell ⟨b,j,none⟩ v).cell? ⟨b,14,none⟩=w.cell? ⟨b,14,none⟩:=World.cell?_setCell_other _ _ _ _ (by intro e;injection e with _ e;exact h14 e)
 unfold Own at h⊢
 rw [e9,e14] at h
 exact h
theorem P.deeper {α:Type} {E:PE} (hE:E.Ok) {F X:Nat→Prop} {w:World} {p:Ps} {B:World→Prop} {A:α→World→Prop} {x:PM α} {k:FuncId} {caps:Array Value} (place:Int) (hk: ∀W,(callFunc k caps).run Tryz.prog W= .ok (.enter k caps) W) (hc:Clo E F X B A x k caps) (hB:B w) (hBs: ∀w1 w2,B w1→Only (fun j=>j=E.b) w1 w2→B w2)
  (hA: ∀a w1 w2,A a w1→Only (fun j=>j=E.b) w1 w2→(∀k,Own w2 E.b k→Own w1 E.b k)→A a w2) (h:St E F w p) (hne:ah2 place x p≠ .out):
  Calls Tryz.prog 46 #[.pointer (some ⟨E.b,0,none⟩),.int .i64 place,.func (Fn.func k) #[] caps] w (Ans E F X w (ah2 place x p) fun a v w'=>v= .tuple #[]∧A a w'):=by
 obtain⟨T,hT⟩: ∃T,ah2 place x p=T:=⟨_,rfl⟩
 rw [hT] at hne⊢
 unfold ah2 at hT
 have c12:=h.c_nest
 have f12:=h.frozen 12
 have hlt:=h.lt
 obtain⟨n0,n1⟩:=h.nst
 by_cases hd:4000≤p.nest
 ·rw [if_pos hd] at hT
  have HT:=hJ hT
  have HS:=hJ h
  clear hT h hne
  go_enter Tryz.func46,Tryz.ntmps46
  go_wp2_with fail
  refine(P.fail _ _ _ _).mono ?_
  rintro e w9 ⟨rfl,rfl⟩
  go_wp2_with fail
  exact⟨rfl,Ans.bad HT.out.symm (PB.refl _ _ _)⟩
 ·rw [if_neg hd] at hT
  obtain⟨hs1,hp1⟩:=h.set (X:=X) hE.hb 12 (.int .i64 (p.nest+1)) { p with nest:=p.nest+1 } (fun _ _ _=>rfl) rfl rfl rfl (by simp only;omega)
  have HT:=hJ hT
  have HN:=hJ hne
  have HE:=hJ hE
  have HS:=hJ h
  clear hT h hne hE
  go_enter Tryz.func46,Tryz.ntmps46
  go_wp2_with fail
  have hne2:x { p with nest:=p.nest+1 } ≠ .out:=by
   intro e
   have:=HT.out
   unfold PM.bind at this
   rw [e] at this
   exact HN.out this.symm
  refine(hc _ _ (hBs _ _ hB (Only.setCell (X:=fun j=>j=E.b) (Only.refl _ _) (p:=⟨E.b,12,none⟩) (.inl rfl) _)) hs1 hne2).mono ?_
  intro e w1 h1
  have hT:=HT.out
  unfold PM.bind at hT
  cases hx:x { p with nest:=p.nest+1 } with
  |out=>exact absurd hx hne2
  |bad c i=>
   rw [hx] at h1 hT
   obtain⟨rfl,hp2⟩:=h1
   clear hx hne2 HT
   have HT:=hJ hT
   clear hT
   go_wp2_with fail
   exact⟨rfl,Ans.bad HT.out.symm (hp1.trans hp2)⟩
  |ok a q=>
   rw [hx] at h1 hT
   obtain⟨v,rfl,⟨rfl,ha⟩,hs2,hp2⟩:=h1
   clear hx hne2 HT
   simp only at hT
   by_cases hq:q.nest≤0
   ·rw [if_pos hq] at hT
    exact absurd hT.symm HN.out
   ·rw [if_neg hq] at hT
    have HT:=hJ hT
    have d12:=hs2.c_nest
    have g12:=hs2.frozen 12
    obtain⟨m0,m1⟩:=hs2.nst
    obtain⟨hs3,hp3⟩:=hs2.set (X:=X) HE.out.hb 12 (.int .i64 (q.nest - 1)) { q with nest:=q.nest - 1 } (fun _ _ _=>rfl) rfl rfl rfl (by simp only;omega)
    have HA:=hJ ha
    clear hT ha
    go_wp2_with fail
    exact ao9 rfl hs3 (fun _ h=>h) ((hp1.trans hp2).trans hp3) HT.out.symm ⟨rfl,hA _ _ _ HA.out (Only.setCell (X:=fun j=>j=E.b) (Only.refl _ _) (p:=⟨E.b,12,none⟩) (.inl rfl) _) fun _=>bn7 (by decide) (by decide)⟩
theorem P.with {α:Type} {E:PE} (hE:E.Ok) {F X:Nat→Prop} {w:World} {p:Ps} {B:World→Prop} {A:α→World→Prop} {x:PM α} {k:FuncId} {caps:Array Value} (on off:Int) (hk: ∀W,(callFunc k caps).run Tryz.prog W= .ok (.enter k caps) W) (hc:Clo E F X B A x k caps) (hB:B w) (hBs: ∀w1 w2,B w1→Only (fun j=>j=E.b) w1 w2→B w2)
  (hA: ∀a w1 w2,A a w1→Only (fun j=>j=E.b) w1 w2→(∀k,Own w2 E.b k→Own w1 E.b k)→A a w2) (h:St E F w p) (hne:am2 on off x p≠ .out):
  Calls Tryz.prog 151 #[.pointer (some ⟨E.b,0,none⟩),.int .i64 on,.int .i64 off,.func (Fn.func k) #[] caps] w (Ans E F X w (am2 on off x p) fun a v w'=>v= .tuple #[]∧A a w'):=by
 obtain⟨T,hT⟩: ∃T,am2 on off x p=T:=⟨_,rfl⟩
 rw [hT] at hne⊢
 unfold am2 at hT
 have c11:=h.c_flags
 have f11:=h.frozen 11
 have hlt:=h.lt
 obtain⟨hs1,hp1⟩:=h.set (X:=X) hE.hb 11 (.int .i64 (setF p.flags on off)) { p with flags:=setF p.flags on off } (fun _ _ _=>rfl) rfl rfl rfl h.nst
 have HT:=hJ hT
 have HN:=hJ hne
 have HE:=hJ hE
 have HS:=hJ h
 clear hT h hne hE
 go_enter Tryz.func151,Tryz.ntmps151
 go_wp2_with fail
 have hne2:x { p with flags:=setF p.flags on off } ≠ .out:=by
  intro e
  have:=HT.out
  unfold PM.bind at this
  rw [e] at this
  exact HN.out this.symm
 refine(hc _ _ (hBs _ _ hB (Only.setCell (X:=fun j=>j=E.b) (Only.refl _ _) (p:=⟨E.b,11,none⟩) (.inl rfl) _)) hs1 hne2).mono ?_
 intro e w1 h1
 have hT:=HT.out
 unfold PM.bind at hT
 cases hx:x { p with flags:=setF p.flags on off } with
 |out=>exact absurd hx hne2
 |bad c i=>
  rw [hx] at h1 hT
  obtain⟨rfl,hp2⟩:=h1
  clear hx hne2 HT
  have HT:=hJ hT
  clear hT
  go_wp2_with fail
  exact⟨rfl,Ans.bad HT.out.symm (hp1.trans hp2)⟩
 |ok a q=>
  rw [hx] at h1 hT
  obtain⟨v,rfl,⟨rfl,ha⟩,hs2,hp2⟩:=h1
  clear hx hne2 HT
  simp only at hT
  have HT:=hJ hT
  have d11:=hs2.c_flags
  have g11:=hs2.frozen 11
  obtain⟨hs3,hp3⟩:=hs2.set (X:=X) HE.out.hb 11 (.int .i64 p.flags) { q with flags:=p.flags } (fun _ _ _=>rfl) rfl rfl rfl hs2.nst
  have HA:=hJ ha
  clear hT ha
  go_wp2_with fail
  exact ao9 rfl hs3 (fun _ h=>h) ((hp1.trans hp2).trans hp3) HT.out.symm ⟨rfl,hA _ _ _ HA.out (Only.setCell (X:=fun j=>j=E.b) (Only.refl _ _) (p:=⟨E.b,11,none⟩) (.inl rfl) _) fun _=>bn7 (by decide) (by decide)⟩
end
section
open Go.RowKit
def CloL {α:Type} (E:PE) (F X:Nat→Prop) (w0:World) (A:α→(Nat→Prop)→World→Prop) (one:α→PM α) (k:FuncId) (caps:Array Value):Prop:=
 ∀(a:α) (F':Nat→Prop) (w:World) (p:Ps),(∀j,F j→F' j)→w0.heap.size≤w.heap.size→A a F' w→St E F' w p→one a p≠ .out→Calls Tryz.prog k caps w fun e w'=>match one a p with
  | .ok b q=> ∃F'':Nat→Prop,(∀j,F j→F'' j)∧e= .returned (.tuple #[])∧A b F'' w'∧St E F'' w' q∧PB E.b (fun j=>X j∨w0.heap.size≤j) w w'
  | .bad c i=>e= .panicked (flt c i)∧PB E.b (fun j=>X j∨w0.heap.size≤j) w w'
  | .out=>True
def AnsL {α:Type} (E:PE) (F X:Nat→Prop) (w:World) (A:α→(Nat→Prop)→World→Prop) (T:Res (α × Bool)) (e:Ending) (w':World):Prop:=match T with
 | .ok r q=> ∃F'':Nat→Prop,(∀j,F j→F'' j)∧e= .returned (.bool r.2)∧A r.1 F'' w'∧St E F'' w' q∧PB E.b X w w'
 | .bad c i=>e= .panicked (flt c i)∧PB E.b X w w'
 | .out=>True
theorem AnsL.bad {α:Type} {E:PE} {F X:Nat→Prop} {w w1:World} {A:α→(Nat→Prop)→World→Prop} {T:Res (α × Bool)} {c i:Int} (ht:T= .bad c i) (hp:PB E.b X w w1):AnsL E F X w A T (.panicked (flt c i)) w1:=by
 subst ht
 exact⟨rfl,hp⟩
theorem AnsL.ok {α:Type} {E:PE} {F F' X:Nat→Prop} {w w1:World} {q:Ps} {A:α→(Nat→Prop)→World→Prop} {T:Res (α × Bool)} {a:α} {b:Bool} (ht:T= .ok (a,b) q) (hF: ∀j,F j→F' j) (hA:A a F' w1) (hs:St E F' w1 q) (hp:PB E.b X w w1):AnsL E F X w A T (.returned (.bool b)) w1:=by
 subst ht
 exact⟨F',hF,rfl,hA,hs,hp⟩
def LsR {α:Type} (E:PE) (F X:Nat→Prop) (w:World) (A:α→(Nat→Prop)→World→Prop) (closing:ByteArray) (goal:Int) (one:α→PM α) (T:Res (α × Bool)) (n:Nat) (u:Value) (wr:World):Prop:=
 ∃a F' q b,u= .bool b∧ar3 E.s closing goal one n a b q=T∧(∀j,F j→F' j)∧A a F' wr∧St E F' wr q∧PB E.b X w wr
theorem P.list {α:Type} {E:PE} (hE:E.Ok) {F X:Nat→Prop} {w:World} {p:Ps} {A:α→(Nat→Prop)→World→Prop} {one:α→PM α} {k:FuncId} {caps:Array Value} (closing:ByteArray) (goal:Int) (f:Nat) (a0:α) (hk: ∀W,(callFunc k caps).run Tryz.prog W= .ok (.enter k caps) W) (hc:CloL E F X w A one k caps)
  (hA: ∀a F' w1 w2 q,A a F' w1→St E F' w1 q→PB E.b X0 w1 w2→A a F' w2) (ha:A a0 F w) (h:St E F w p) (hne:ar3 E.s closing goal one f a0 false p≠ .out) (hg:goal=1∨goal=2:=by decide):
  Calls Tryz.prog 234 #[.pointer (some ⟨E.b,0,none⟩),.string closing,.int .i64 goal,.func (Fn.func k) #[] caps] w (AnsL E F X w A (ar3 E.s closing goal one f a0 false p)):=by
 have HGG:=hJ hg
 clear hg
 obtain⟨T,hT⟩: ∃T,ar3 E.s closing goal one f a0 false p=T:=⟨_,rfl⟩
 rw [hT] at hne⊢
 have HT:=hJ hT
 have HN:=hJ hne
 have HS:=hJ h
 have HE:=hJ hE
 have HA0:=hJ ha
 have HK:=hJ hk
 have HC:=hJ hc
 have HA:=hJ hA
 clear h hne hT hE ha hc hA
 go_enter Tryz.func234,Tryz.ntmps234
 go_wp2_with fail
 go_loopg [9] f (fun n u wr=>LsR E F X w A closing goal one T n u wr)
 case atStart=>exact⟨a0,F,p,false,rfl,HT.out,fun _ h=>h,HA0.out,HS.out,PB.refl _ _ _⟩
 case round=>
  obtain⟨a,F',q,b,rfl,hT2,hF,ha,hs,hp⟩:=hrel
  clear HA0 HS HT
  have HT:=hJ hT2
  have HA0:=hJ ha
  have HS:=hJ hs
  have HP:=hJ hp
  clear hT2 ha hs hp
  cases gk with
  |zero=>exact absurd HT.out.symm HN.out
  |succ n=>
   have hT3:=HT.out
   unfold ar3 at hT3
   replace HT:=hJ hT3
   clear hT3
   go_wp2_with fail
   refine(P.peek HE.out goal HS.out (PM.ne HT.out HN.out) HGG.out).mono ?_
   intro e w1 h1
   rcases PM.cases HT.out HN.out with ⟨t,q1,hx,hk2⟩|⟨c,i,hx,hk2⟩
   rotate_left
   ·rw [hx] at h1
    obtain⟨rfl,hp1⟩:=h1
    replace HT:=hJ hk2
    clear hx hk2
    go_wp2_with fail
    exact⟨rfl,AnsL.bad HT.out (HP.out.then hp1)⟩
   rw [hx] at h1
   obtain⟨v,rfl,rfl,hs1,hp1⟩:=h1
   replace HA0:=hJ (HA.out _ _ _ _ _ HA0.out HS.out hp1)
   replace HS:=hJ hs1
   replace HP:=hJ (HP.out.then hp1)
   replace HT:=hJ hk2
   clear hs1 hp1 hx hk2
   go_wp2_with fail
   refine(P.punct t closing _).mono ?_
   rintro e w2 ⟨rfl,hb⟩
   have hp1:=(PB.refl E.b X0 _).adv HS.out (Only.of_below hb)
   replace HA0:=hJ (HA.out _ _ _ _ _ HA0.out HS.out hp1)
   replace HP:=hJ (HP.out.then hp1)
   replace HS:=hJ (HS.out.adv (X:=X0) (w:=w) (Only.of_below hb))
   clear hb hp1
   cases hc:aa2 t closing with
   |true=>
    have hk2:=HT.out
    rw [hc,if_pos rfl] at hk2
    replace HT:=hJ hk2
    clear hk2
    go_wp2_with fail
    refine(P.take HE.out HS.out (PM.ne HT.out HN.out)).mono ?_
    intro e w3 h1
    rcases PM.cases HT.out HN.out with ⟨_,q3,hx,hk2⟩|⟨c,i,hx,hk2⟩
    rotate_left
    ·rw [hx] at h1
     obtain⟨rfl,hp1⟩:=h1
     replace HT:=hJ hk2
     clear hx hk2
     go_wp2_with fail
     exact⟨rfl,AnsL.bad HT.out (HP.out.then hp1)⟩
    rw [hx] at h1
    obtain⟨v,rfl,rfl,hs1,hp1⟩:=h1
    replace HA0:=hJ (HA.out _ _ _ _ _ HA0.out HS.out hp1)
    replace HS:=hJ hs1
    replace HP:=hJ (HP.out.then hp1)
    replace HT:=hJ hk2
    clear hs1 hp1 hx hk2
    go_wp2_with fail
    go_ret
    exact AnsL.ok HT.out.symm hF HA0.out HS.out HP.out
   |false=>
    have hk2:=HT.out
    rw [hc,if_neg (by decide)] at hk2
    replace HT:=hJ hk2
    clear hk2
    go_wp2_with fail
    refine(HC.out _ _ _ _ hF HP.out.only.size HA0.out HS.out (PM.ne HT.out HN.out)).mono ?_
    intro e w3 h1
    rcases PM.cases HT.out HN.out with ⟨a1,q3,hx,hk2⟩|⟨c,i,hx,hk2⟩
    rotate_left
    ·rw [hx] at h1
     obtain⟨rfl,hp1⟩:=h1
     replace HT:=hJ hk2
     clear hx hk2
     go_wp2_with fail
     exact⟨rfl,AnsL.bad HT.out (HP.out.trans' hp1 fun _ h=>h)⟩
    rw [hx] at h1
    obtain⟨F2,hF2,rfl,ha1,hs1,hp1⟩:=h1
    replace HA0:=hJ ha1
    replace HS:=hJ hs1
    replace HP:=hJ (HP.out.trans' hp1 fun _ h=>h)
    replace HT:=hJ hk2
    clear hs1 hp1 hx hk2 ha1 hF hc
    have hF:=hF2
    clear hF2
    go_wp2_with fail
    refine(P.peek HE.out 1 HS.out (PM.ne HT.out HN.out)).mono ?_
    intro e w4 h1
    rcases PM.cases HT.out HN.out with ⟨u,q4,hx,hk2⟩|⟨c,i,hx,hk2⟩
    rotate_left
    ·rw [hx] at h1
     obtain⟨rfl,hp1⟩:=h1
     replace HT:=hJ hk2
     clear hx hk2
     go_wp2_with fail
     exact⟨rfl,AnsL.bad HT.out (HP.out.then hp1)⟩
    rw [hx] at h1
    obtain⟨v,rfl,rfl,hs1,hp1⟩:=h1
    replace HA0:=hJ (HA.out _ _ _ _ _ HA0.out HS.out hp1)
    replace HS:=hJ hs1
    replace HP:=hJ (HP.out.then hp1)
    replace HT:=hJ hk2
    clear hs1 hp1 hx hk2
    go_wp2_with fail
    refine(P.punct u closing _).mono ?_
    rintro e w5 ⟨rfl,hb⟩
    have hp1:=(PB.refl E.b X0 _).adv HS.out (Only.of_below hb)
    replace HA0:=hJ (HA.out _ _ _ _ _ HA0.out HS.out hp1)
    replace HP:=hJ (HP.out.then hp1)
    replace HS:=hJ (HS.out.adv (X:=X0) (w:=w) (Only.of_below hb))
    clear hb hp1
    cases hd:aa2 u closing with
    |true=>
     have hk2:=HT.out
     rw [hd,if_pos rfl] at hk2
     replace HT:=hJ hk2
     clear hk2
     go_wp2_with fail
     refine(P.take HE.out HS.out (PM.ne HT.out HN.out)).mono ?_
     intro e w6 h1
     rcases PM.cases HT.out HN.out with ⟨_,q6,hx,hk2⟩|⟨c,i,hx,hk2⟩
     rotate_left
     ·rw [hx] at h1
      obtain⟨rfl,hp1⟩:=h1
      replace HT:=hJ hk2
      clear hx hk2
      go_wp2_with fail
      exact⟨rfl,AnsL.bad HT.out (HP.out.then hp1)⟩
     rw [hx] at h1
     obtain⟨v,rfl,rfl,hs1,hp1⟩:=h1
     replace HA0:=hJ (HA.out _ _ _ _ _ HA0.out HS.out hp1)
     replace HS:=hJ hs1
     replace HP:=hJ (HP.out.then hp1)
     replace HT:=hJ hk2
     clear hs1 hp1 hx hk2
     go_wp2_with fail
     go_ret
     exact AnsL.ok HT.out.symm hF HA0.out HS.out HP.out
    |false=>
     have hk2:=HT.out
     rw [hd,if_neg (by decide)] at hk2
     replace HT:=hJ hk2
     clear hk2
     go_wp2_with fail
     refine(P.want HE.out ⟨#[44]⟩ HS.out (PM.ne HT.out HN.out)).mono ?_
     intro e w6 h1
     rcases PM.cases HT.out HN.out with ⟨_,q6,hx,hk2⟩|⟨c,i,hx,hk2⟩
     rotate_left
     ·rw [hx] at h1
      obtain⟨rfl,hp1⟩:=h1
      replace HT:=hJ hk2
      clear hx hk2
      go_wp2_with fail
      exact⟨rfl,AnsL.bad HT.out (HP.out.then hp1)⟩
     rw [hx] at h1
     obtain⟨v,rfl,rfl,hs1,hp1⟩:=h1
     replace HA0:=hJ (HA.out _ _ _ _ _ HA0.out HS.out hp1)
     replace HS:=hJ hs1
     replace HP:=hJ (HP.out.then hp1)
     replace HT:=hJ hk2
     clear hs1 hp1 hx hk2
     go_wp2_with fail
     go_roundg n
     case measure=>exact Nat.lt_succ_self n
     case rel=>exact⟨_,_,_,true,rfl,HT.out,hF,HA0.out,HS.out,HP.out⟩
end
section
open Go.RowKit
def MbV (E:PE) (F:Nat→Prop) (w:World) (m:Mb) (v:Value):Prop:= ∃a cap,v= .agg #[.int .i64 m.from',.bool m.static,.string m.kind,.int .i64 m.key.kind,.string m.key.text,.slice a m.key.kids.length cap,.int .i64 m.key.from',.int .i64 m.key.till,.bool m.block]∧IsP E F w m.key (.agg #[.int .i64 m.key.kind,.string m.key.text,.slice a m.key.kids.length cap,.int .i64 m.key.from',.int .i64 m.key.till])
def NdIn (E:PE) (F:Nat→Prop) (w:World) (g:Nat) (n:Nd):Prop:= ∃a cap,ab0 w g n.kind n.text a n.kids.length cap n.from' n.till∧IsP E F w n (.agg #[.int .i64 n.kind,.string n.text,.slice a n.kids.length cap,.int .i64 n.from',.int .i64 n.till])
def bh8 (k:FuncId) (e:Nat):Prop:= ∀(t:Tk) (W:World),(callFunc k #[.agg #[.int .i64 t.kind,.string t.text,.int .i64 t.from',.int .i64 t.till,.bool t.line]]).run Tryz.prog W= .ok (.enter k #[.agg #[.int .i64 t.kind,.string t.text,.int .i64 t.from',.int .i64 t.till,.bool t.line]]) W∧Calls Tryz.prog k #[.agg #[.int .i64 t.kind,.string t.text,.int .i64 t.from',.int .i64 t.till,.bool t.line]] W fun e' w'=>e'= .returned (.bool (endB e t))∧Below W.heap.size W w'
def bG9 (E:PE) (F:Nat→Prop) (w:World) (o:Option Nd) (v:Value):Prop:=match o with
 |none=>v= .pointer none
 |some n=> ∃g,F g∧v= .pointer (some ⟨g,0,none⟩)∧NdIn E F w g n
abbrev pb (E:PE):Value:= .pointer (some ⟨E.b,0,none⟩)
def CN (E:PE) (f:FuncId) (x:PM Nd) (args:Array Value):Prop:= ∀(F:Nat→Prop) (w:World) (p:Ps),St E F w p→x p≠ .out→Calls Tryz.prog f args w (Ans E F X0 w (x p) fun n v w'=>IsP E F w' n v)
def CV (E:PE) (f:FuncId) (x:PM Nd) (n:Nd) (args:Value→Array Value):Prop:= ∀(F:Nat→Prop) (w:World) (p:Ps) (v:Value),IsP E F w n v→St E F w p→x p≠ .out→Calls Tryz.prog f (args v) w (Ans E F X0 w (x p) fun n v w'=>IsP E F w' n v)
def ad1 (E:PE) (R:(x:Fn)→PM x.Out):Fn→Prop
 | .expression=>CN E 17 (R .expression) #[pb E]
 | .inner=>CN E 208 (R .inner) #[pb E]
 | .innerAssign=>CN E 88 (R .innerAssign) #[pb E]
 | .assign=>CN E 27 (R .assign) #[pb E]
 | .yield=>CN E 49 (R .yield) #[pb E]
 | .cond=>CN E 53 (R .cond) #[pb E]
 | .unary=>CN E 218 (R .unary) #[pb E]
 | .args=>CN E 243 (R .args) #[pb E]
 | .spread=>CN E 302 (R .spread) #[pb E]
 | .index=>CN E 279 (R .index) #[pb E]
 | .array=>CN E 296 (R .array) #[pb E]
 | .function=>CN E 153 (R .function) #[pb E]
 | .binding=>CN E 199 (R .binding) #[pb E]
 | .arrayPattern=>CN E 237 (R .arrayPattern) #[pb E]
 | .objectPattern=>CN E 238 (R .objectPattern) #[pb E]
 | .object=>CN E 297 (R .object) #[pb E]
 | .prop=>CN E 311 (R .prop) #[pb E]
 | .element2=>CN E 240 (R .element2) #[pb E]
 | .alone=>CN E 140 (R .alone) #[pb E]
 | .block=>CN E 132 (R .block) #[pb E]
 | .head=>CN E 139 (R .head) #[pb E]
 | .element1=>CN E 299 (R .element1) #[pb E]
 | .program=>CN E 22 (R .program) #[pb E]
 | .leftHand=>CN E 206 (R .leftHand) #[pb E]
 | .outer=>CN E 191 (R .outer) #[pb E]
 | .takeText=>CN E 196 (R .takeText) #[pb E]
 | .fromText=>CN E 192 (R .fromText) #[pb E]
 | .arrowOf t=>CN E 51 (R (.arrowOf t)) #[pb E,.agg #[.int .i64 t.kind,.string t.text,.int .i64 t.from',.int .i64 t.till,.bool t.line]]
 | .primary t=>CN E 273 (R (.primary t)) #[pb E,.agg #[.int .i64 t.kind,.string t.text,.int .i64 t.from',.int .i64 t.till,.bool t.line]]
 | .named t=>CN E 295 (R (.named t)) #[pb E,.agg #[.int .i64 t.kind,.string t.text,.int .i64 t.from',.int .i64 t.till,.bool t.line]]
 | .paren t=>CN E 298 (R (.paren t)) #[pb E,.agg #[.int .i64 t.kind,.string t.text,.int .i64 t.from',.int .i64 t.till,.bool t.line]]
 | .simple t=>CN E 133 (R (.simple t)) #[pb E,.agg #[.int .i64 t.kind,.string t.text,.int .i64 t.from',.int .i64 t.till,.bool t.line]]
 | .branch t=>CN E 137 (R (.branch t)) #[pb E,.agg #[.int .i64 t.kind,.string t.text,.int .i64 t.from',.int .i64 t.till,.bool t.line]]
 | .returned t=>CN E 142 (R (.returned t)) #[pb E,.agg #[.int .i64 t.kind,.string t.text,.int .i64 t.from',.int .i64 t.till,.bool t.line]]
 | .jump t=>CN E 143 (R (.jump t)) #[pb E,.agg #[.int .i64 t.kind,.string t.text,.int .i64 t.from',.int .i64 t.till,.bool t.line]]
 | .tried t=>CN E 144 (R (.tried t)) #[pb E,.agg #[.int .i64 t.kind,.string t.text,.int .i64 t.from',.int .i64 t.till,.bool t.line]]
 | .switched t=>CN E 145 (R (.switched t)) #[pb E,.agg #[.int .i64 t.kind,.string t.text,.int .i64 t.from',.int .i64 t.till,.bool t.line]]
 | .loop t=>CN E 138 (R (.loop t)) #[pb E,.agg #[.int .i64 t.kind,.string t.text,.int .i64 t.from',.int .i64 t.till,.bool t.line]]
 | .imported t=>CN E 131 (R (.imported t)) #[pb E,.agg #[.int .i64 t.kind,.string t.text,.int .i64 t.from',.int .i64 t.till,.bool t.line]]
 | .exported t=>CN E 130 (R (.exported t)) #[pb E,.agg #[.int .i64 t.kind,.string t.text,.int .i64 t.from',.int .i64 t.till,.bool t.line]]
 | .defaultOf t=>CN E 195 (R (.defaultOf t)) #[pb E,.agg #[.int .i64 t.kind,.string t.text,.int .i64 t.from',.int .i64 t.till,.bool t.line]]
 | .attr t=>CN E 319 (R (.attr t)) #[pb E,.agg #[.int .i64 t.kind,.string t.text,.int .i64 t.from',.int .i64 t.till,.bool t.line]]
 | .body text from' params=>CV E 84 (R (.body text from' params)) params fun v=> #[pb E,.string text,.int .i64 from',v]
 | .assigned n=>CV E 52 (R (.assigned n)) n fun v=> #[pb E,v]
 | .param n last=> ∀(F:Nat→Prop) (w:World) (p:Ps) (v:Value),IsP E F w n v→St E F w p→R (.param n last) p≠ .out→Calls Tryz.prog 275 #[pb E,v,.bool last] w (Ans E F X0 w (R (.param n last) p) fun _ v _=>v= .tuple #[])
 | .plain n=> ∀(F:Nat→Prop) (w:World) (p:Ps) (v:Value),IsP E F w n v→St E F w p→R (.plain n) p≠ .out→Calls Tryz.prog 305 #[pb E,v] w (Ans E F X0 w (R (.plain n) p) fun _ v _=>v= .tuple #[])
 | .element of k last=> ∀(F:Nat→Prop) (w:World) (p:Ps) (v:Value),IsP E F w k v→St E F w p→R (.element of k last) p≠ .out→Calls Tryz.prog 304 #[pb E,.int .i64 of,v,.bool last] w (Ans E F X0 w (R (.element of k last) p) fun _ v _=>v= .tuple #[])
 | .params args=>CV E 244 (R (.params args)) args fun v=> #[pb E,v]
 | .binary least nullish=> ∀(F:Nat→Prop) (w:World) (p:Ps),(0≤least∧least≤100)→St E F w p→R (.binary least nullish) p≠ .out→Calls Tryz.prog 87 #[pb E,.int .i64 least,.bool nullish] w (Ans E F X0 w (R (.binary least nullish) p) fun n v w'=>IsP E F w' n v)
 | .operand least=>CN E 156 (R (.operand least)) #[pb E,.int .i64 least]
 | .arguments from'=>CN E 274 (R (.arguments from')) #[pb E,.int .i64 from']
 | .link n calls templates=> ∀(F:Nat→Prop) (w:World) (p:Ps) (v:Value),IsP E F w n v→St E F w p→R (.link n calls templates) p≠ .out→Calls Tryz.prog 246 #[pb E,v,.bool calls,.bool templates] w (Ans E F X0 w (R (.link n calls templates) p) fun r v w'=> ∃u,v= .tuple #[u,.bool r.2]∧IsP E F w' r.1 u)
 | .optional n=>CV E 277 (R (.optional n)) n fun v=> #[pb E,v]
 | .chain n=>CV E 245 (R (.chain n)) n fun v=> #[pb E,v]
 | .base t calls=>CN E 242 (R (.base t calls)) #[pb E,.agg #[.int .i64 t.kind,.string t.text,.int .i64 t.from',.int .i64 t.till,.bool t.line],.bool calls]
 | .new from'=>CN E 272 (R (.new from')) #[pb E,.int .i64 from']
 | .template tagged=>CN E 280 (R (.template tagged)) #[pb E,.bool tagged]
 | .takeKey cls=>CN E 265 (R (.takeKey cls)) #[pb E,.bool cls]
 | .members cls=> ∀(F:Nat→Prop) (w:World) (p:Ps),St E F w p→R (.members cls) p≠ .out→Calls Tryz.prog 266 #[pb E,.bool cls] w (Ans E F X0 w (R (.members cls) p) fun m v w'=>MbV E F w' m v)
 | .method m=> ∀(F:Nat→Prop) (w:World) (p:Ps) (v:Value),MbV E F w m v→St E F w p→R (.method m) p≠ .out→Calls Tryz.prog 268 #[pb E,v] w (Ans E F X0 w (R (.method m) p) fun n v w'=>IsP E F w' n v)
 | .callable text from' id of=>CV E 241 (R (.callable text from' id of)) id fun v=> #[pb E,.string text,.int .i64 from',v,.string of]
 | .formals of=>CN E 271 (R (.formals of)) #[pb E,.string of]
 | .defaulted n=>CV E 263 (R (.defaulted n)) n fun v=> #[pb E,v]
 | .funcs must=>CN E 201 (R (.funcs must)) #[pb E,.bool must]
 | .cls must=>CN E 200 (R (.cls must)) #[pb E,.bool must]
 | .declaration must=>CN E 136 (R (.declaration must)) #[pb E,.bool must]
 | .statements dir top e=> ∀(F:Nat→Prop) (w:World) (p:Ps) (k:FuncId),bh8 k e→St E F w p→R (.statements dir top e) p≠ .out→Calls Tryz.prog 43 #[pb E,.bool dir,.bool top,.func (Fn.func k) #[] #[]] w (Ans E F X0 w (R (.statements dir top e) p) fun ks v w'=>KsIn E F w' ks v)
 | .statement t list=>CN E 77 (R (.statement t list)) #[pb E,.agg #[.int .i64 t.kind,.string t.text,.int .i64 t.from',.int .i64 t.till,.bool t.line],.bool list]
 | .declared t first=> ∀(F:Nat→Prop) (w:World) (p:Ps) (v:Value),bG9 E F w first v→St E F w p→R (.declared t first) p≠ .out→Calls Tryz.prog 134 #[pb E,.agg #[.int .i64 t.kind,.string t.text,.int .i64 t.from',.int .i64 t.till,.bool t.line],v] w (Ans E F X0 w (R (.declared t first) p) fun n v w'=>IsP E F w' n v)
 | .through t text first=>CV E 202 (R (.through t text first)) first fun v=> #[pb E,.agg #[.int .i64 t.kind,.string t.text,.int .i64 t.from',.int .i64 t.till,.bool t.line],.string text,v]
 | .counted t first=>CV E 204 (R (.counted t first)) first fun v=> #[pb E,.agg #[.int .i64 t.kind,.string t.text,.int .i64 t.from',.int .i64 t.till,.bool t.line],v]
 | .modular t top=>CN E 76 (R (.modular t top)) #[pb E,.agg #[.int .i64 t.kind,.string t.text,.int .i64 t.from',.int .i64 t.till,.bool t.line],.bool top]
 | .specs imports=>CN E 193 (R (.specs imports)) #[pb E,.bool imports]
 | .markup from'=>CN E 314 (R (.markup from')) #[pb E,.int .i64 from']
 | .children of=>CN E 317 (R (.children of)) #[pb E,.string of]
 | .closing of from'=> ∀(F:Nat→Prop) (w:World) (p:Ps),St E F w p→R (.closing of from') p≠ .out→Calls Tryz.prog 322 #[pb E,.string of,.int .i64 from'] w (Ans E F X0 w (R (.closing of from') p) fun _ v _=>v= .tuple #[])
 | .jname points=>CN E 318 (R (.jname points)) #[pb E,.bool points]
structure Env (E:PE) (R:(x:Fn)→PM x.Out):Prop where
 ok:E.Ok
 h: ∀x,ad1 E R x
end
section
open Go.RowKit
theorem PM.node {β:Type} {kind:Int} {text:ByteArray} {from':Int} {ks:List Nd} {p:Ps} {k:Nd→PM β} {T:Res β} (h:(ac7 kind text from' ks>>=k) p=T):k (.mk kind text ks from' p.at') p=T:=h
theorem ab3 (k:Int) (x:ByteArray) (f u:Int) (l:Bool) (W:World):(Instr.field 49 (.agg #[.int .i64 k,.string x,.int .i64 f,.int .i64 u,.bool l]) 0).run Tryz.prog W= .ok (.int .i64 k) W:=by kernel_rfl
theorem ab4 (k:Int) (x:ByteArray) (f u:Int) (l:Bool) (W:World):(Instr.field 49 (.agg #[.int .i64 k,.string x,.int .i64 f,.int .i64 u,.bool l]) 1).run Tryz.prog W= .ok (.string x) W:=by kernel_rfl
theorem ab5 (k:Int) (x:ByteArray) (f u:Int) (l:Bool) (W:World):(Instr.field 49 (.agg #[.int .i64 k,.string x,.int .i64 f,.int .i64 u,.bool l]) 2).run Tryz.prog W= .ok (.int .i64 f) W:=by kernel_rfl
theorem ab6 (k:Int) (x:ByteArray) (f u:Int) (l:Bool) (W:World):(Instr.field 49 (.agg #[.int .i64 k,.string x,.int .i64 f,.int .i64 u,.bool l]) 3).run Tryz.prog W= .ok (.int .i64 u) W:=by kernel_rfl
theorem ab7 (k:Int) (x:ByteArray) (f u:Int) (l:Bool) (W:World):(Instr.field 49 (.agg #[.int .i64 k,.string x,.int .i64 f,.int .i64 u,.bool l]) 4).run Tryz.prog W= .ok (.bool l) W:=by kernel_rfl
theorem ab8 (fn:Go.Fn) (first cap:Array Value) (w:World):(Instr.makeFunc fn first cap).run Tryz.prog w= .ok (.func fn first cap) w:=rfl
theorem PM.look {β:Type} {s:ByteArray} {place:Int} {p:Ps} {k:Tk→PM β} {T:Res β} (h:(aE0 s place>>=k) p=T) (hn:aE0 s place p≠ .out):k (bv6 s place) p=T:=by
 unfold aE0 at h hn
 split at hn
 ·exact absurd rfl hn
 ·rename_i hp
  rw [if_neg hp] at h
  exact h
def ac2 (w:World) (g:Nat) (v:Value) (t:TypeId):Prop:=w.heap[g]? =some (.cells #[v] t (0,0))
theorem ac2.new {w:World} {g:Nat} {v:Value} {t:TypeId} (h:w.heap.size=g):ac2 (w.alloc (.cells #[v] t)) g v t:=by
 subst h
 exact heap_alloc_new _ _
theorem ac2.lt {w:World} {g:Nat} {v:Value} {t:TypeId} (h:ac2 w g v t):g<w.heap.size:=(Array.getElem?_eq_some_iff.1 h).1
theorem ac2.alloc {w:World} {g:Nat} {v:Value} {t:TypeId} (h:ac2 w g v t) (o:Obj):ac2 (w.alloc o) g v t:=(Below.heap_alloc w o g h.lt).trans h
theorem ac2.same {w w':World} {g:Nat} {v:Value} {t:TypeId} (h:ac2 w g v t) (hk:w'.heap[g]? =w.heap[g]?):ac2 w' g v t:=hk.trans h
theorem ac2.fs {w:World} {g:Nat} {v:Value} {t:TypeId} (h:ac2 w g v t):w.cell? ⟨g,0,none⟩=some v∧w.frozen? ⟨g,0,none⟩=false:=
 ⟨cell_of_row w g 0 _ _ _ h,frozen_of_row w g 0 _ _ h⟩
theorem ac2.set {w:World} {g:Nat} {v u:Value} {t:TypeId} (h:ac2 w g v t):ac2 (w.setCell ⟨g,0,none⟩ u) g u t:=heap_setCell_same w g 0 _ t u h
def PrAt (w:World) (g b:Nat):Prop:=ac2 w g (.pointer (some ⟨b,0,none⟩)) 46
theorem PrAt.new {w:World} {g b:Nat} (h:w.heap.size=g):PrAt (w.alloc (.cells #[.pointer (some ⟨b,0,none⟩)] 46)) g b:=ac2.new h
theorem PrAt.alloc {w:World} {g b:Nat} (h:PrAt w g b) (o:Obj):PrAt (w.alloc o) g b:=ac2.alloc h o
theorem PrAt.same {w w':World} {g b:Nat} (h:PrAt w g b) (hk:w'.heap[g]? =w.heap[g]?):PrAt w' g b:=ac2.same h hk
theorem PrAt.fs {w:World} {g b:Nat} (h:PrAt w g b):w.cell? ⟨g,0,none⟩=some (.pointer (some ⟨b,0,none⟩))∧w.frozen? ⟨g,0,none⟩=false:=ac2.fs h
theorem PrAt.lt {w:World} {g b:Nat} (h:PrAt w g b):g<w.heap.size:=ac2.lt h
theorem NB.lt {w:World} {g:Nat} (h:NB w g):g<w.heap.size:=by
 obtain⟨k,t,b,n,cap,f,u,h⟩:=h
 exact h.lt
theorem NB.alloc {w:World} {g:Nat} (h:NB w g) (o:Obj):NB (w.alloc o) g:=by
 obtain⟨k,t,b,n,cap,f,u,h⟩:=h
 exact⟨k,t,b,n,cap,f,u,h.alloc o⟩
section
variable {E:PE} {F F1 X:Nat→Prop} {w wc W w1:World} {p q:Ps}
theorem IsP.form {n:Nd} {v:Value} (h:IsP E F w n v): ∃a cap,v= .agg #[.int .i64 n.kind,.string n.text,.slice a n.kids.length cap,.int .i64 n.from',.int .i64 n.till]∧IsP E F w n (.agg #[.int .i64 n.kind,.string n.text,.slice a n.kids.length cap,.int .i64 n.from',.int .i64 n.till]):=by
 obtain⟨a,cap,rfl,h2,h3⟩:=h
 exact⟨a,cap,rfl,a,cap,rfl,h2,h3⟩
theorem av9 (E:PE) (F:Nat→Prop) (w:World):IsP E F w .zero (.agg #[.int .i64 0,.string ⟨#[]⟩,.slice none 0 0,.int .i64 0,.int .i64 0]):=⟨none,0,rfl,Nat.le_refl _,au7 _ _ _ _⟩
def aa8 (x:Nd × Option Addr × Nat):List Value:= [.int .i64 x.1.kind,.string x.1.text,.slice x.2.1 x.1.kids.length x.2.2,.int .i64 x.1.from',.int .i64 x.1.till]
theorem an4: ∀(l:List (Nd × Option Addr × Nat)) (j i:Nat) (h:j<l.length),i<5→(l.flatMap aa8)[j*5+i]? =(aa8 l[j])[i]?
 | [],_,_,h,_=>absurd h (by simp)
 |x::l,0,i,_,hi=>by
  rw [List.flatMap_cons,Nat.zero_mul,Nat.zero_add,List.getElem?_append_left (by simp [aa8];omega)]
  rfl
 |x::l,j+1,i,h,hi=>by
  rw [List.flatMap_cons,List.getElem?_append_right (by simp [aa8];omega),show(j+1)*5+i - (aa8 x).length=j*5+i by simp [aa8];omega]
  exact an4 l j i (by simpa using h) hi
theorem ksN (hs:St E F w p) (l:List (Nd × Option Addr × Nat)) (h: ∀x ∈ l,IsP E F w x.1 (.agg #[.int .i64 x.1.kind,.string x.1.text,.slice x.2.1 x.1.kids.length x.2.2,.int .i64 x.1.from',.int .i64 x.1.till])):
  KsIn E F (w.alloc (.cells (l.flatMap aa8).toArray 27)) (l.map (·.1)) (.slice (some ⟨w.heap.size,0,none⟩) l.length l.length):=by
 have ho:Only (fun _=>False) w (w.alloc (.cells (l.flatMap aa8).toArray 27)):=Only.alloc (Only.refl _ _) _
 have hnew:=heap_alloc_new w (.cells (l.flatMap aa8).toArray 27)
 have hB:=(Array.getElem?_eq_some_iff.1 hnew).1
 have hown: ¬Own (w.alloc (.cells (l.flatMap aa8).toArray 27)) E.b w.heap.size:=fun hO=>by
  rw [Own.same (ho.block _ hs.lt id)] at hO
  obtain⟨va,vc,mb,D,h0⟩:=hs.open
  rcases (h0.own _).1 hO with e|e|e
  ·have:=hs.lt;omega
  ·have:=(aa5 h0.cm e).1;omega
  ·have:=ah7 h0.map;omega
 refine⟨_,l.length,by rw [List.length_map],by rw [List.length_map];exact Nat.le_refl _,at3 fun j hj=>⟨_,0,rfl,?_⟩⟩
 rw [List.length_map] at hj
 rw [List.getElem_map,Nat.zero_add,Nat.zero_add,aq2]
 obtain⟨a,cap,hv,hc,hr⟩:=(h l[j] (List.getElem_mem hj)).only (ho.mono (fun _ h=>h.elim)) hs.lt hs.notF
 have e:a=l[j].2.1∧cap=l[j].2.2:=by
  simp only [Value.agg.injEq] at hv
  have:=congrArg (fun c:Array Value=>c[2]?) hv
  simp at this
  exact⟨this.1.symm,this.2.symm⟩
 obtain⟨rfl,rfl⟩:=e
 have hcell:=fun i (hi:i<5)=>(cell_of_row _ w.heap.size (j*5+i) _ _ _ hnew).trans ((by simp:(l.flatMap aa8).toArray[j*5+i]? =(l.flatMap aa8)[j*5+i]?).trans (an4 l j i hj hi))
 exact⟨l[j].2.1,l[j].2.2,⟨hB,hown,fun hf=>by have:=(hs.fo _ hf).2.1;omega⟩,hcell 0 (by decide),hcell 1 (by decide),hcell 2 (by decide),hcell 3 (by decide),hcell 4 (by decide),hc,hr⟩
theorem ks0 (E:PE) (F:Nat→Prop) (w:World):KsIn E F w [] (.slice none 0 0):=⟨none,0,rfl,Nat.le_refl _,au7 _ _ _ _⟩
end
end
section
open Go.RowKit
theorem ak2:(Tryz.prog.info? 27).map (fun i=>(i.zero,i.size,i.bytes))=some (some (.agg #[.int .i64 0,.string ⟨#[]⟩,.slice none 0 0,.int .i64 0,.int .i64 0]),5,64):=by kernel_rfl
abbrev Kd:=Nd × Option Addr × Nat
theorem ay2: ∀l:List Kd,(l.flatMap aa8).length=l.length*5
 | []=>rfl
 |x::l=>by rw [List.flatMap_cons,List.length_append,ay2 l,List.length_cons];simp [aa8];omega
theorem ad9 (x:Kd): ∀u ∈ aa8 x,u.oneCell'=true:=by
 intro u hu
 simp only [aa8,List.mem_cons,List.not_mem_nil,or_false] at hu
 rcases hu with rfl|rfl|rfl|rfl|rfl<;>rfl
def KdOk (E:PE) (F:Nat→Prop) (w:World) (x:Kd):Prop:=IsP E F w x.1 (.agg #[.int .i64 x.1.kind,.string x.1.text,.slice x.2.1 x.1.kids.length x.2.2,.int .i64 x.1.from',.int .i64 x.1.till])
structure KsO (E:PE) (F:Nat→Prop) (w:World) (base:Nat) (v:Value) (l:List Kd):Prop where
 own:w.ownsRow base 27 5 v l.length (l.flatMap aa8)
 is: ∀x ∈ l,KdOk E F w x
 inF: ∀g,v.ownBlock=some g→F g
section
variable {E:PE} {F F1 X:Nat→Prop} {w w0 wc W w1:World} {p q:Ps} {base:Nat} {v:Value} {l:List Kd}
theorem KsO.nil (E:PE) (F:Nat→Prop) (w:World) (base:Nat):KsO E F w base (.slice none 0 0) []:=⟨World.ownsRow_nil _ _ _ _,(fun _ h=>by cases h),(fun _ h=>by cases h)⟩
theorem KsO.pb (h:KsO E F w base v l) (hs:St E F w p) (hp:PB E.b X0 w w1):KsO E F w1 base v l:=
 ⟨ad0 h.own fun g hg _=>hs.box hp (h.inF g hg),fun x hx=>(h.is x hx).pb hp fun _ h=>h.elim,h.inF⟩
theorem KsO.only (h:KsO E F w base v l) (hs:St E F w p) (ho:Only (fun k=>F k∧v.ownBlock≠some k) w w1):KsO E F w1 base v l:=
 ⟨ad0 h.own fun g hg hl=>ho.block g hl fun h=>h.2 hg,fun x hx=>(h.is x hx).only (ho.mono fun _ h=>h.1) hs.lt hs.notF,h.inF⟩
theorem KsO.below (h:KsO E F w base v l) (hs:St E F w p) (hb:Below w.heap.size w w1):KsO E F w1 base v l:=h.only hs (Only.of_below hb)
theorem KsO.mono (h:KsO E F w base v l) (hF: ∀k,F k→F1 k) (hn: ∀n v,IsP E F w n v→IsP E F1 w n v):KsO E F1 w base v l:=⟨h.own,fun x hx=>hn _ _ (h.is x hx),fun g hg=>hF g (h.inF g hg)⟩
theorem KsO.grow (h:KsO E F w base v l) (ho:Only (fun _=>False) w W) (hF: ∀k,F k→F1 k) (hn: ∀n v,IsP E F w n v→IsP E F1 W n v):KsO E F1 W base v l:=
 ⟨ad0 h.own fun g _ hl=>ho.block g hl id,fun x hx=>hn _ _ (h.is x hx),fun g hg=>hF g (h.inF g hg)⟩
theorem KsO.one (hs:St E F w p) {x:Kd} (hx:KdOk E F w x) (ho:Only F w (w.alloc (.cells (aa8 x).toArray 27))): ∃F1:Nat→Prop,(∀k,F k→F1 k)∧St E F1 (w.alloc (.cells (aa8 x).toArray 27)) p∧(∀n v,IsP E F w n v→IsP E F1 (w.alloc (.cells (aa8 x).toArray 27)) n v)∧
  KsO E F1 (w.alloc (.cells (aa8 x).toArray 27)) w.heap.size (.slice (some ⟨w.heap.size,0,none⟩) 1 1) [x]:=by
 obtain⟨F1,h1,h2,_,h3,h4⟩:=hs.enter ho
 have hnew:=heap_alloc_new w (.cells (aa8 x).toArray 27)
 refine⟨F1,h1,h3,h4,⟨⟨rfl,.inr ⟨_,1,_,rfl,Nat.le_refl _,hnew,Nat.le_refl _,by decide,rfl,rfl⟩⟩,fun y hy=> ?_,fun g hg=> ?_⟩⟩
 ·simp only [List.mem_cons,List.not_mem_nil,or_false] at hy
  subst hy
  exact h4 _ _ hx
 ·have e:w.heap.size=g:=by simpa [Value.ownBlock] using hg
  exact h2 g (by omega) (by rw [World.size_alloc];omega)
theorem KsO.push (hs:St E F w p) (h:KsO E F w base v l) {x:Kd} (hx:KdOk E F w x) {o:Obj} {v':Value} (hown:w1.ownsRow base 27 5 v' (l.length+1) (l.flatMap aa8++aa8 x)) (hg:(w.alloc o).grownBy w1 v.ownBlock) (hat:v'.ownBlock=v.ownBlock∨v'.ownBlock=some (w.heap.size+1)):
  ∃F1:Nat→Prop,(∀k,F k→F1 k)∧St E F1 w1 p∧(∀n u,IsP E F w n u→IsP E F1 w1 n u)∧KsO E F1 w1 base v' (l++ [x])∧(∀k,F k→v.ownBlock≠some k→w1.heap[k]? =w.heap[k]?)∧Only (fun k=>v.ownBlock=some k) w w1:=by
 have hsz:(w.alloc o).heap.size=w.heap.size+1:=World.size_alloc _ _
 have ho:Only (fun k=>v.ownBlock=some k) w w1:=⟨hg.os,hg.tape,hg.output,Nat.le_trans (by omega) hg.size,fun k hk hn=>(hg.block k (by omega) fun e=>hn e.symm).trans (Below.heap_alloc w o k hk)⟩
 obtain⟨F1,h1,h2,_,h3,h4⟩:=hs.enter (ho.mono fun k hk=>h.inF k hk)
 refine⟨F1,h1,h3,h4,⟨?_,fun y hy=> ?_,fun g hgv=> ?_⟩,fun k hk hn=>ho.block k (hs.fo k hk).2.1 hn,ho⟩
 ·rw [List.length_append,List.flatMap_append]
  simpa using hown
 ·rcases List.mem_append.1 hy with hy|hy
  ·exact h4 _ _ (h.is y hy)
  ·simp only [List.mem_cons,List.not_mem_nil,or_false] at hy
   subst hy
   exact h4 _ _ hx
 ·rcases hat with e|e
  ·exact h1 g (h.inF g (e▸hgv))
  ·have e2:g=w.heap.size+1:=by rw [hgv] at e;injection e
   have:=(aa5 hown hgv).1
   exact h2 g (by omega) this
theorem KsO.fin (hs:St E F w p) (h:KsO E F w base v l):St E (fun k=>F k∧v.ownBlock≠some k) w p∧KsIn E (fun k=>F k∧v.ownBlock≠some k) w (l.map (·.1)) v:=by
 refine⟨hs.weak fun _ h=>h.1,?_⟩
 rcases h.own.2 with ⟨hv,hn⟩|⟨g,cap,cur,hv,hg,hc,hle,hrest⟩
 ·have:l= []:=List.length_eq_zero_iff.1 hn
  subst this hv
  exact ks0 _ _ _
 ·refine⟨_,cap,by rw [List.length_map];exact hv,by rw [List.length_map];exact hle,at3 fun j hj=>⟨g,0,rfl,?_⟩⟩
  rw [List.length_map] at hj
  rw [List.getElem_map,Nat.zero_add,Nat.zero_add,aq2]
  have hgo:v.ownBlock=some g:=by rw [hv];rfl
  have hgF:=hs.fo g (h.inF g hgo)
  obtain⟨a,cap',hv',hc',hr⟩:=h.is l[j] (List.getElem_mem hj)
  have e:a=l[j].2.1∧cap'=l[j].2.2:=by
   simp only [Value.agg.injEq] at hv'
   have:=congrArg (fun c:Array Value=>c[2]?) hv'
   simp at this
   exact⟨this.1.symm,this.2.symm⟩
  obtain⟨rfl,rfl⟩:=e
  have hlen:=ay2 l
  have hown:=h.own
  rw [hv] at hown
  have hcell:=fun i (hi:i<5)=>(hown.cellAt (j*5+i) (by omega)).trans (an4 l j i hj hi)
  exact⟨l[j].2.1,l[j].2.2,⟨hgF.2.1,hgF.2.2,fun hf=>hf.2 hgo⟩,hcell 0 (by decide),hcell 1 (by decide),hcell 2 (by decide),hcell 3 (by decide),hcell 4 (by decide),hc',ab2 (fun k hk=>⟨hk.1,hk.2.1,fun hf=>hk.2.2 hf.1⟩) (fun _ _=>rfl) hr⟩
theorem KsO.form (h:KsO E F w base v l): ∃a m c,v= .slice a m c:=aw5 h.own
theorem KsO.ne (h:KsO E F w base v l) {g:Nat} (hg:g<base):v.ownBlock≠some g:=fun e=>by have:=(aa5 h.own e).2;omega
end
section
variable {E:PE} {F F1 X:Nat→Prop} {w w0 wc W w1:World} {p q:Ps}
theorem bh1 {w:World} {g i:Nat} (u0 u1 u2 u3 u4:Value) (h:i≠g):(((((w.setCell ⟨g,0,none⟩ u0).setCell ⟨g,1,none⟩ u1).setCell ⟨g,2,none⟩ u2).setCell ⟨g,3,none⟩ u3).setCell ⟨g,4,none⟩ u4).heap[i]? =w.heap[i]? :=by
 rw [Below.heap_setCell _ _ _ _ h,Below.heap_setCell _ _ _ _ h,Below.heap_setCell _ _ _ _ h,Below.heap_setCell _ _ _ _ h,Below.heap_setCell _ _ _ _ h]
theorem bz8 {g:Nat} (ho:Only (fun j=>j=E.b) w w1) (hg:g<w.heap.size) (hne:g≠E.b):w1.heap[g]? =w.heap[g]? :=ho.block g hg hne
theorem NdIn.same {g:Nat} {n:Nd} (h:NdIn E F w g n) (ho:Only (fun j=>j=E.b) w w1) (hown: ∀k,Own w1 E.b k→Own w E.b k) (hg:g≠E.b):NdIn E F w1 g n:=by
 obtain⟨a,cap,h1,h2⟩:=h
 refine⟨a,cap,h1.same (ho.block g h1.lt hg),?_⟩
 exact h2.keep (fun k hk=>⟨Nat.lt_of_lt_of_le hk.1 ho.size,fun h=>hk.2.1 (hown k h),hk.2.2⟩) fun k hk=>ho.block k hk.1 fun e=>hk.2.1 (.inl e)
theorem ay9 {fn:Func} {r u:Tmp} (h:fn.results= #[.cell r 27,.tmp u]) (tmps:Array Value) (w:World) (g:Nat) {k:Int} {t:ByteArray} {b:Option Addr} {n cap:Nat} {f z:Int} (hp:tmps.getD r undef= .pointer (some ⟨g,0,none⟩)) (hx:ab0 w g k t b n cap f z):
  (results fn tmps).run Tryz.prog w= .ok (.tuple #[.agg (aa7 k t b n cap f z),tmps.getD u undef]) w:=by
 have hp':tmps[r]?.getD undef= .pointer (some ⟨g,0,none⟩):=by simpa using hp
 have hl:(loadVar 27 ⟨g,0,none⟩).run Tryz.prog w= .ok (.agg (aa7 k t b n cap f z)) w:=run_loadVar_row w g 27 27 _ (0,0) _ hx Tryz.underlying27 rfl (by kernel_rfl)
 simp [results,h,hp',asAddr,hl]
theorem bF9 {fn:Func} {r u:Tmp} (h:fn.results= #[.cell r 49,.tmp u]) (tmps:Array Value) (w:World) (g:Nat) {x:Tk} (hp:tmps.getD r undef= .pointer (some ⟨g,0,none⟩)) (hx:TkAt w g x):
  (results fn tmps).run Tryz.prog w= .ok (.tuple #[x.val,tmps.getD u undef]) w:=by
 have hp':tmps[r]?.getD undef= .pointer (some ⟨g,0,none⟩):=by simpa using hp
 simp [results,h,hp',asAddr,bA9 hx]
theorem P.leafn (kind:Int) (t:Tk) (w:World):Calls Tryz.prog 83 #[.int .i64 kind,.agg #[.int .i64 t.kind,.string t.text,.int .i64 t.from',.int .i64 t.till,.bool t.line]] w fun e w'=> ∃n a c,ar1 kind t=n∧e= .returned (.agg #[.int .i64 n.kind,.string n.text,.slice a n.kids.length c,.int .i64 n.from',.int .i64 n.till])∧(∀E F w,IsP E F w n (.agg #[.int .i64 n.kind,.string n.text,.slice a n.kids.length c,.int .i64 n.from',.int .i64 n.till]))∧Below w.heap.size w w':=
 (P.leaf kind t w).mono fun _ _ ⟨he,hb⟩=>⟨ar1 kind t,none,0,rfl,he,fun _ _ _=>⟨none,0,rfl,Nat.le_refl _,au7 _ _ _ _⟩,hb⟩
theorem St.drew (h:St E F w p):St E F w.drew p:=h.only (Only.refl _ _).drew
theorem PB.drew (h:PB E.b X w wc) (hs:St E F wc q):PB E.b X w wc.drew:=h.adv (F:=F) hs (Only.refl _ _).drew
theorem fin_cl {fn:Func} {tmps:Array Value} {g:Nat} {n:Nd} {a:Option Addr} {cap:Nat} {T:Res Nd} (hr:fn.results= #[]) (hk:NB wc g) (hs:St E F1 wc q) (hF: ∀k,F k→F1 k) (hg:F1 g) (hX:X g) (hp:PB E.b X w wc) (ht:T= .ok n q) (hn:IsP E F1 wc n (.agg #[.int .i64 n.kind,.string n.text,.slice a n.kids.length cap,.int .i64 n.from',.int .i64 n.till])):
  bodyPost Tryz.prog fn (Ans E F X w T fun n v w'=>v= .tuple #[]∧NdIn E F w' g n) Exit.normal { tmps:=tmps,defers:= [] } (((((wc.setCell ⟨g,0,none⟩ (.int .i64 n.kind)).setCell ⟨g,1,none⟩ (.string n.text)).setCell ⟨g,2,none⟩ (.slice a n.kids.length cap)).setCell ⟨g,3,none⟩ (.int .i64 n.from')).setCell ⟨g,4,none⟩ (.int .i64 n.till)):=by
 have ho:Only (Mine F1 X w) wc _:=Only.lay5 (u0:= .int .i64 n.kind) (u1:= .string n.text) (u2:= .slice a n.kids.length cap) (u3:= .int .i64 n.from') (u4:= .int .i64 n.till) (Only.refl _ wc) (.inl ⟨hg,.inl hX⟩)
 exact bodyPost_end (results_none hr _ _ _) rfl (Ans.ok ht ⟨rfl,a,cap,hk.lay _ _ _ _ _ _ _,(hn.only (ho.mono fun _ h=>h.1) hs.lt hs.notF).weak hF⟩ ((hs.adv ho).weak hF) (hp.adv hs ho))
theorem fin_cl0 {fn:Func} {tmps:Array Value} {g:Nat} {n:Nd} {a:Option Addr} {cap:Nat} {T:Res Nd} (hr:fn.results= #[]) (hk:ab0 wc g n.kind n.text a n.kids.length cap n.from' n.till) (hs:St E F1 wc q) (hF: ∀k,F k→F1 k) (hp:PB E.b X w wc) (ht:T= .ok n q) (hn:IsP E F1 wc n (.agg #[.int .i64 n.kind,.string n.text,.slice a n.kids.length cap,.int .i64 n.from',.int .i64 n.till])):
  bodyPost Tryz.prog fn (Ans E F X w T fun n v w'=>v= .tuple #[]∧NdIn E F w' g n) Exit.normal { tmps:=tmps,defers:= [] } wc:=
 bodyPost_end (results_none hr _ _ _) rfl (Ans.ok ht ⟨rfl,a,cap,hk,hn.weak hF⟩ (hs.weak hF) hp)
end
end
section
open Go.RowKit
attribute [local go_sem] ab3 ab4 ab5 ab6 ab7 ab8
namespace Pc
theorem kid {w:World} {S:Nat→Prop} {a:Option Addr} {ks:List Nd} (h:RowS w S ks a 0) (j:Nat) (hj:j<ks.length):
  ∃g off b cap,a=some ⟨g,off,none⟩∧S g∧w.cell? ⟨g,off+j*5,none⟩=some (.int .i64 ks[j].kind)∧w.cell? ⟨g,off+j*5+1,none⟩=some (.string ks[j].text)∧
   w.cell? ⟨g,off+j*5+2,none⟩=some (.slice b ks[j].kids.length cap)∧w.cell? ⟨g,off+j*5+3,none⟩=some (.int .i64 ks[j].from')∧w.cell? ⟨g,off+j*5+4,none⟩=some (.int .i64 ks[j].till)∧
   ks[j].kids.length≤cap∧RowS w S ks[j].kids b 0:=by
 obtain⟨g,off,ha,hn⟩:=ak4 h j hj
 rw [Nat.zero_add,aq2] at hn
 obtain⟨b,cap,hs,c0,c1,c2,c3,c4,hc,hr⟩:=hn
 exact⟨g,off,b,cap,ha,hs,c0,c1,c2,c3,c4,hc,hr⟩
theorem kid_size {n:Nd} {j:Nat} (h:j<n.kids.length):aa4 n.kids[j]<aa4 n:=by
 have:=aj5 (List.getElem_mem h)
 rw [ac6 n]
 omega
theorem headD {ks:List Nd} (h:0<ks.length):ks.headD .zero=ks[0]:=by
 cases ks with
 |nil=>cases h
 |cons x l=>rfl
theorem size_pos (n:Nd):0<aa4 n:=by rw [ac6 n];omega
theorem lay5_bel {B:Nat} {a w:World} (h:Below B a w) {q:Nat} (hq:B≤q) (u0 u1 u2 u3 u4:Value):Below B a (((((w.setCell ⟨q,0,none⟩ u0).setCell ⟨q,1,none⟩ u1).setCell ⟨q,2,none⟩ u2).setCell ⟨q,3,none⟩ u3).setCell ⟨q,4,none⟩ u4):=
 ((((h.setCell (p:=⟨q,0,none⟩) hq _).setCell (p:=⟨q,1,none⟩) hq _).setCell (p:=⟨q,2,none⟩) hq _).setCell (p:=⟨q,3,none⟩) hq _).setCell (p:=⟨q,4,none⟩) hq _
end Pc
theorem aD0 (n:Nd) (a:Option Addr) (cap:Nat) (w:World):Calls Tryz.prog 212 #[.agg #[.int .i64 n.kind,.string n.text,.slice a n.kids.length cap,.int .i64 n.from',.int .i64 n.till]] w fun e w'=>e= .returned (.bool (aJ0 n))∧Below w.heap.size w w':=by
 have hB:=(Below.alloc (Below.refl _ w) (Nat.le_refl _) (.cells #[.int .i64 n.kind,.string n.text,.slice a n.kids.length cap,.int .i64 n.from',.int .i64 n.till] 27))
 unfold aJ0
 by_cases h1:n.kind=1
 ·have e1:(n.kind==1)=true:=by rw [h1];rfl
  rw [if_pos h1]
  clear h1
  have b1:=bt n.text [101,118,97,108]
  have b2:=bt n.text [97,114,103,117,109,101,110,116,115]
  by_cases t1:n.text=⟨#[101,118,97,108]⟩
  ·have f1:(n.text.toList== [101,118,97,108])=true:=by rw [b1];exact decide_eq_true t1
   have H1:=hJ t1
   clear t1 b1 b2
   go_enter Tryz.func212,Tryz.ntmps212
   go_wp2_with fail
   go_ret
   exact⟨by simp [H1.out],hB⟩
  ·have f1:(n.text.toList== [101,118,97,108])=false:=by rw [b1];exact decide_eq_false t1
   have H1:=hJ t1
   clear t1 b1
   go_enter Tryz.func212,Tryz.ntmps212
   go_wp2_with fail
   go_ret
   exact⟨by rw [decide_eq_true H1.out,Bool.true_and,decide_not,←b2];rfl,hB⟩
 ·have e1:(n.kind==1)=false:=by rw [beq_eq_false_iff_ne];exact h1
  rw [if_neg h1]
  clear h1
  have b1:=bt n.text []
  by_cases h2:n.kind=38
  ·have e2:(n.kind==38)=true:=by rw [h2];rfl
   rw [if_pos (.inl h2)]
   clear h2
   go_enter Tryz.func212,Tryz.ntmps212
   go_wp2_with fail
   go_ret
   exact⟨by rw [←b1];rfl,hB⟩
  ·have e2:(n.kind==38)=false:=by rw [beq_eq_false_iff_ne];exact h2
   by_cases h3:n.kind=39
   ·have e3:(n.kind==39)=true:=by rw [h3];rfl
    rw [if_pos (.inr h3)]
    clear h2 h3
    go_enter Tryz.func212,Tryz.ntmps212
    go_wp2_with fail
    go_ret
    exact⟨by rw [←b1];rfl,hB⟩
   ·have e3:(n.kind==39)=false:=by rw [beq_eq_false_iff_ne];exact h3
    rw [if_neg (fun h=>h.elim h2 h3)]
    clear h2 h3
    go_enter Tryz.func212,Tryz.ntmps212
    go_wp2_with fail
    go_ret
    exact⟨rfl,hB⟩
def TgP (w0:World) (S:Nat→Prop) (p:Nat) (B:Bool) (s:Nat) (wr:World):Prop:= ∃(m:Nd) (b:Option Addr) (cap:Nat),aa4 m≤s∧aG3 s m=B∧ab0 wr p m.kind m.text b m.kids.length cap m.from' m.till∧RowS wr S m.kids b 0∧Below w0.heap.size w0 wr
theorem am3 (n:Nd) (v:Value) (w:World) (S:Nat→Prop) (hS: ∀k,S k→k<w.heap.size) (hv:IsS w S n v):Calls Tryz.prog 150 #[v] w fun e w'=>e= .returned (.bool (af1 n))∧Below w.heap.size w w':=by
 obtain⟨a,cap,rfl,hcap,hrow⟩:=hv
 obtain⟨B,hB⟩: ∃B,af1 n=B:=⟨_,rfl⟩
 rw [hB]
 unfold af1 at hB
 obtain⟨i0,hi,hz0,hz1,hz2⟩:=info_parts ak2
 have hbel:=(Below.alloc (Below.refl _ w) (Nat.le_refl _) (.cells #[.int .i64 n.kind,.string n.text,.slice a n.kids.length cap,.int .i64 n.from',.int .i64 n.till] 27))
 have HST:=hJ (show TgP w S w.heap.size B (aa4 n) (w.alloc (.cells #[.int .i64 n.kind,.string n.text,.slice a n.kids.length cap,.int .i64 n.from',.int .i64 n.till] 27)) from
  ⟨n,a,cap,Nat.le_refl _,hB,ab0.new (by simp),ab2 (fun _ h=>h) (fun k hk=>hbel.block k (hS k hk)) hrow,hbel⟩)
 clear hB hrow hbel
 go_enter Tryz.func150,Tryz.ntmps150
 go_wp2_with fail
 go_loopg [] (aa4 n) (fun s wr=>TgP w S w.heap.size B s wr)
 case atStart=>exact HST.out
 case round=>
  clear HST
  obtain⟨m,b1,cap1,hms,hbm,hbox,hrow,hbel⟩:=hrel
  obtain⟨d0,d1,d2,d3,d4,g0,g1,g2,g3,g4⟩:=ab0.facts hbox
  have hlt:=hbox.lt
  have hpos:=Pc.size_pos m
  cases gk with
  |zero=>omega
  |succ s=>
   rw [aG3] at hbm
   have stop (hno: ¬(m.kind=26∧m.kids.length=1)):aJ0 m=B:=by rw [if_neg hno] at hbm;exact hbm
   by_cases hk:m.kind=26
   ·have e1:(m.kind==26)=true:=by rw [hk];rfl
    by_cases h0:m.kids.length=1
    ·have e2:(((m.kids.length:Nat):Int)==1)=true:=by rw [h0];rfl
     rw [if_pos ⟨hk,h0⟩] at hbm
     have h00:0<m.kids.length:=by omega
     have hsz:=Pc.kid_size h00
     have hhead:=Pc.headD h00
     rw [hhead] at hbm
     obtain⟨g,off,b2,cap2,rfl,hSg,c0,c1,c2,c3,c4,hkc,hkr⟩:=Pc.kid hrow 0 h00
     generalize m.kids[0]=x at*
     rw [Nat.zero_mul] at c0 c1 c2 c3 c4
     simp only [Nat.add_zero] at c0 c1 c2 c3 c4
     have hgw:=hS g hSg
     have hgw2:g<wr.heap.size:=Nat.lt_of_lt_of_le hgw hbel.size
     have HX:=hJ hbm
     have HSZ:=hJ hsz
     have HB:=hJ hbox
     have HR:=hJ hkr
     have HL:=hJ hbel
     have HMS:=hJ hms
     clear hk h0 stop hbm hkr hbox hbel hrow hhead hsz hms
     go_wp2_with fail
     go_roundg s
     case measure=>exact Nat.lt_succ_self s
     case rel=>exact⟨x,b2,cap2,by have:=HSZ.out;have:=HMS.out;omega,HX.out,(ab0.nb HB.out).lay _ _ _ _ _ _ _,ab2 (fun _ h=>h) (fun k hk=>(Pc.lay5_bel (Below.refl _ _) (Nat.le_refl _) _ _ _ _ _).block k (hS k hk)) HR.out,Pc.lay5_bel HL.out (Nat.le_refl _) _ _ _ _ _⟩
    ·have e2:(((m.kids.length:Nat):Int)==1)=false:=by rw [beq_eq_false_iff_ne];omega
     have HX:=hJ (stop (fun h=>h0 h.2))
     have HL:=hJ hbel
     clear hk h0 stop hbm hbox hbel hrow hms
     go_wp2_with fail
     refine(aD0 m b1 cap1 _).mono ?_
     rintro e w2 ⟨rfl,hb2⟩
     go_wp2_with fail
     go_ret
     exact⟨by rw [HX.out];rfl,HL.out.trans (hb2.mono HL.out.size)⟩
   ·have e1:(m.kind==26)=false:=by rw [beq_eq_false_iff_ne];exact hk
    have HX:=hJ (stop (fun h=>hk h.1))
    have HL:=hJ hbel
    clear hk stop hbm hbox hbel hrow hms
    go_wp2_with fail
    refine(aD0 m b1 cap1 _).mono ?_
    rintro e w2 ⟨rfl,hb2⟩
    go_wp2_with fail
    go_ret
    exact⟨by rw [HX.out];rfl,HL.out.trans (hb2.mono HL.out.size)⟩
end
section
open Go.RowKit
inductive Bx where
 |c5 (v0 v1 v2 v3 v4:Value) (t:TypeId)
 |c1 (v:Value) (t:TypeId)
 |c9 (v0 v1 v2 v3 v4 v5 v6 v7 v8:Value) (t:TypeId)
 |c2 (v0 v1:Value) (t:TypeId)
 |nb
abbrev Box:=Nat × Bool × Bx
@[reducible] def Bx.tk (x:Tk):Bx:= .c5 (.int .i64 x.kind) (.string x.text) (.int .i64 x.from') (.int .i64 x.till) (.bool x.line) 49
@[reducible] def Bx.nd (n:Nd) (a:Option Addr) (c:Nat):Bx:= .c5 (.int .i64 n.kind) (.string n.text) (.slice a n.kids.length c) (.int .i64 n.from') (.int .i64 n.till) 27
@[reducible] def Bx.z:Bx:= .c5 (.int .i64 0) (.string ⟨#[]⟩) (.slice none 0 0) (.int .i64 0) (.int .i64 0) 27
@[reducible] def Bx.zt:Bx:= .c5 (.int .i64 0) (.string ⟨#[]⟩) (.int .i64 0) (.int .i64 0) (.bool false) 49
@[reducible] def Bx.p (b:Nat):Bx:= .c1 (.pointer (some ⟨b,0,none⟩)) 46
def Bx.ty:Bx→Option TypeId
 | .c5 _ _ _ _ _ t=>some t
 | .c1 _ _=>none
 | .c9 .. =>none
 | .c2 .. =>none
 | .nb=>some 27
def BxAt (w:World) (g:Nat):Bx→Prop
 | .c5 v0 v1 v2 v3 v4 t=>w.heap[g]? =some (.cells #[v0,v1,v2,v3,v4] t (0,0))
 | .c1 v t=>w.heap[g]? =some (.cells #[v] t (0,0))
 | .c9 v0 v1 v2 v3 v4 v5 v6 v7 v8 t=>w.heap[g]? =some (.cells #[v0,v1,v2,v3,v4,v5,v6,v7,v8] t (0,0))
 | .c2 v0 v1 t=>w.heap[g]? =some (.cells #[v0,v1] t (0,0))
 | .nb=>NB w g
def nbv (w:World) (g i:Nat):Value:=(w.cell? ⟨g,i,none⟩).getD undef
@[reducible] def BxF (w:World):Box→Prop
 |(g,_,.c5 v0 v1 v2 v3 v4 _)=>w.cell? ⟨g,0,none⟩=some v0∧w.cell? ⟨g,1,none⟩=some v1∧w.cell? ⟨g,2,none⟩=some v2∧w.cell? ⟨g,3,none⟩=some v3∧w.cell? ⟨g,4,none⟩=some v4∧g<w.heap.size
 |(g,_,.c1 v _)=>w.cell? ⟨g,0,none⟩=some v∧g<w.heap.size
 |(g,_,.c9 v0 v1 v2 v3 v4 v5 v6 v7 v8 _)=>w.cell? ⟨g,0,none⟩=some v0∧w.cell? ⟨g,1,none⟩=some v1∧w.cell? ⟨g,2,none⟩=some v2∧w.cell? ⟨g,3,none⟩=some v3∧w.cell? ⟨g,4,none⟩=some v4∧w.cell? ⟨g,5,none⟩=some v5∧w.cell? ⟨g,6,none⟩=some v6∧w.cell? ⟨g,7,none⟩=some v7∧w.cell? ⟨g,8,none⟩=some v8∧g<w.heap.size
 |(g,_,.c2 v0 v1 _)=>w.cell? ⟨g,0,none⟩=some v0∧w.cell? ⟨g,1,none⟩=some v1∧g<w.heap.size
 |(g,_,.nb)=>w.cell? ⟨g,0,none⟩=some (nbv w g 0)∧w.cell? ⟨g,1,none⟩=some (nbv w g 1)∧w.cell? ⟨g,2,none⟩=some (nbv w g 2)∧w.cell? ⟨g,3,none⟩=some (nbv w g 3)∧w.cell? ⟨g,4,none⟩=some (nbv w g 4)∧g<w.heap.size
@[reducible] def BxW (w:World) (g:Nat):Prop:=w.frozen? ⟨g,0,none⟩=false∧w.frozen? ⟨g,1,none⟩=false∧w.frozen? ⟨g,2,none⟩=false∧w.frozen? ⟨g,3,none⟩=false∧w.frozen? ⟨g,4,none⟩=false
def Fcs (w:World):List Box→Prop
 | []=>True
 |b::l=>BxF w b∧Fcs w l
def nth {α:Type} :List α→Nat→Option α
 | [],_=>none
 |x::_,0=>some x
 |_::l,i+1=>nth l i
def ae4 {α:Type} :List α→Nat→α→List α
 | [],_,_=> []
 |_::l,0,y=>y::l
 |x::l,i+1,y=>x::ae4 l i y
def pick {α:Type} (l:List α):List Nat→List α
 | []=> []
 |i::is=>(match nth l i with|some x=>x::pick l is|none=>pick l is)
theorem ab1 {α:Type} : ∀ {l:List α} {i:Nat} {x:α},nth l i=some x→x ∈ l
 |_::_,0,_,h=>by injection h with h;subst h;exact List.mem_cons_self
 |_::_,i+1,_,h=>List.mem_cons_of_mem _ (ab1 (i:=i) h)
 | [],0,_,h=>by cases h
theorem aP5 {α:Type} {R:α→α→Prop} (hs: ∀a b,R a b→R b a): ∀ {l:List α},l.Pairwise R→∀ {i j:Nat} {x y:α},nth l i=some x→nth l j=some y→i≠j→R x y
 | [],_,0,_,_,_,h,_,_=>by cases h
 | [],_,_+1,_,_,_,h,_,_=>by cases h
 |a::l,hp,0,0,_,_,_,_,hn=>absurd rfl hn
 |a::l,hp,0,j+1,_,_,h1,h2,_=>by
  injection h1 with h1
  subst h1
  exact(List.pairwise_cons.1 hp).1 _ (ab1 (i:=j) h2)
 |a::l,hp,i+1,0,_,_,h1,h2,_=>by
  injection h2 with h2
  subst h2
  exact hs _ _ ((List.pairwise_cons.1 hp).1 _ (ab1 (i:=i) h1))
 |a::l,hp,i+1,j+1,_,_,h1,h2,hn=>aP5 hs (List.pairwise_cons.1 hp).2 (i:=i) (j:=j) h1 h2 (by omega)
theorem as5 {α:Type} {l:List α} : ∀ {is:List Nat} {x:α},x ∈ pick l is→∃i,i ∈ is∧nth l i=some x
 |i::is,x,h=>by
  unfold pick at h
  cases hn:nth l i with
  |none=>rw [hn] at h;obtain⟨j,h1,h2⟩:=as5 h;exact⟨j,List.mem_cons_of_mem _ h1,h2⟩
  |some y=>
   rw [hn] at h
   rcases List.mem_cons.1 h with h|h
   ·exact⟨i,List.mem_cons_self,h▸hn⟩
   ·obtain⟨j,h1,h2⟩:=as5 h
    exact⟨j,List.mem_cons_of_mem _ h1,h2⟩
 | [],x,h=>by unfold pick at h;cases h
theorem aF2 {α:Type} {R:α→α→Prop} (hs: ∀a b,R a b→R b a) {l:List α} (hp:l.Pairwise R): ∀ {is:List Nat},is.Nodup→(pick l is).Pairwise R
 | [],_=>by unfold pick;exact List.Pairwise.nil
 |i::is,hd=>by
  have hd2:=List.nodup_cons.1 hd
  unfold pick
  cases hn:nth l i with
  |none=>exact aF2 hs hp hd2.2
  |some y=>
   refine List.pairwise_cons.2 ⟨fun z hz=> ?_,aF2 hs hp hd2.2⟩
   obtain⟨j,h1,h2⟩:=as5 hz
   exact aP5 hs hp hn h2 fun e=>hd2.1 (e▸h1)
theorem ah1 {α:Type} {R:α→α→Prop} (hs: ∀a b,R a b→R b a): ∀ {l:List α} {i:Nat} {x y z:α},l.Pairwise R→nth l i=some x→z ∈ ae4 l i y→z=y∨(z ∈ l∧R x z)
 |a::l,0,x,y,z,hp,h,hz=>by
  injection h with h
  subst h
  rcases List.mem_cons.1 hz with e|e
  ·exact .inl e
  ·exact .inr ⟨List.mem_cons_of_mem _ e,(List.pairwise_cons.1 hp).1 _ e⟩
 |a::l,i+1,x,y,z,hp,h,hz=>by
  rcases List.mem_cons.1 hz with e|e
  ·subst e
   exact .inr ⟨List.mem_cons_self,hs _ _ ((List.pairwise_cons.1 hp).1 _ (ab1 (i:=i) h))⟩
  ·exact(ah1 hs (List.pairwise_cons.1 hp).2 (i:=i) h e).imp id fun h=>⟨List.mem_cons_of_mem _ h.1,h.2⟩
 | [],0,_,_,_,_,h,_=>by cases h
 | [],i+1,_,_,_,_,h,_=>by cases h
abbrev BNe (a b:Box):Prop:=a.1≠b.1
theorem ag4 (a b:Box) (h:BNe a b):BNe b a:=fun e=>h e.symm
theorem ao4: ∀ {l:List Box} {i:Nat} {x:Box} {o:Bool} {c:Bx},l.Pairwise BNe→nth l i=some x→(ae4 l i (x.1,o,c)).Pairwise BNe
 |a::l,0,x,o,c,hp,h=>by
  injection h with h
  subst h
  have h2:=List.pairwise_cons.1 hp
  exact List.pairwise_cons.2 ⟨h2.1,h2.2⟩
 |a::l,i+1,x,o,c,hp,h=>by
  have h2:=List.pairwise_cons.1 hp
  refine List.pairwise_cons.2 ⟨fun z hz=> ?_,ao4 h2.2 (i:=i) h⟩
  have h':nth l i=some x:=h
  rcases ah1 ag4 h2.2 h' hz with e|⟨h3,_⟩
  ·subst e
   exact h2.1 x (ab1 h')
  ·exact h2.1 _ h3
 | [],0,_,_,_,_,h=>by cases h
 | [],i+1,_,_,_,_,h=>by cases h
theorem BxAt.same {w w':World} {g:Nat} {b:Bx} (h:BxAt w g b) (e:w'.heap[g]? =w.heap[g]?):BxAt w' g b:=by
 cases b with
 |c5=>exact e.trans h
 |c1=>exact e.trans h
 |c9=>exact e.trans h
 |c2=>exact e.trans h
 |nb=>exact NB.same h e
theorem BxAt.lt {w:World} {g:Nat} {b:Bx} (h:BxAt w g b):g<w.heap.size:=by
 cases b with
 |c5=>exact(Array.getElem?_eq_some_iff.1 h).1
 |c1=>exact(Array.getElem?_eq_some_iff.1 h).1
 |c9=>exact(Array.getElem?_eq_some_iff.1 h).1
 |c2=>exact(Array.getElem?_eq_some_iff.1 h).1
 |nb=>exact NB.lt h
theorem BxAt.f {w:World} {g:Nat} {o:Bool} {b:Bx} (h:BxAt w g b):BxF w (g,o,b):=by
 have hl:=h.lt
 cases b with
 |c5 v0 v1 v2 v3 v4 t=>
  have hc:=fun i=>cell_of_row w g i _ _ _ h
  exact⟨hc 0,hc 1,hc 2,hc 3,hc 4,hl⟩
 |c1 v t=>exact⟨cell_of_row w g 0 _ _ _ h,hl⟩
 |c9 v0 v1 v2 v3 v4 v5 v6 v7 v8 t=>
  have hc:=fun i=>cell_of_row w g i _ _ _ h
  exact⟨hc 0,hc 1,hc 2,hc 3,hc 4,hc 5,hc 6,hc 7,hc 8,hl⟩
 |c2 v0 v1 t=>
  have hc:=fun i=>cell_of_row w g i _ _ _ h
  exact⟨hc 0,hc 1,hl⟩
 |nb=>
  obtain⟨k,t,b,n,cap,f,u,h0,h1,h2,h3,h4,_⟩:=NB.fs h
  have e: ∀ {i:Nat} {v:Value},w.cell? ⟨g,i,none⟩=some v→w.cell? ⟨g,i,none⟩=some (nbv w g i):=fun {i v} e=>by unfold nbv;rw [e];rfl
  exact⟨e h0,e h1,e h2,e h3,e h4,hl⟩
theorem BxAt.wr {w:World} {g:Nat} {b:Bx} (h:BxAt w g b):BxW w g:=by
 cases b with
 |c5 v0 v1 v2 v3 v4 t=>
  have hc:=fun i=>frozen_of_row w g i _ _ h
  exact⟨hc 0,hc 1,hc 2,hc 3,hc 4⟩
 |c1 v t=>
  have hc:=fun i=>frozen_of_row w g i _ _ h
  exact⟨hc 0,hc 1,hc 2,hc 3,hc 4⟩
 |c9 v0 v1 v2 v3 v4 v5 v6 v7 v8 t=>
  have hc:=fun i=>frozen_of_row w g i _ _ h
  exact⟨hc 0,hc 1,hc 2,hc 3,hc 4⟩
 |c2 v0 v1 t=>
  have hc:=fun i=>frozen_of_row w g i _ _ h
  exact⟨hc 0,hc 1,hc 2,hc 3,hc 4⟩
 |nb=>
  obtain⟨k,t,b,n,cap,f,u,_,_,_,_,_,h0,h1,h2,h3,h4⟩:=NB.fs h
  exact⟨h0,h1,h2,h3,h4⟩
theorem row5 {w:World} {g:Nat} {t:TypeId} {u0 u1 u2 u3 u4:Value} (h:w.heap[g]? =some (.cells #[u0,u1,u2,u3,u4] t (0,0))) (v0 v1 v2 v3 v4:Value):
  (((((w.setCell ⟨g,0,none⟩ v0).setCell ⟨g,1,none⟩ v1).setCell ⟨g,2,none⟩ v2).setCell ⟨g,3,none⟩ v3).setCell ⟨g,4,none⟩ v4).heap[g]? =some (.cells #[v0,v1,v2,v3,v4] t (0,0)):=by
 have e0:=heap_setCell_same _ g 0 _ t v0 h
 have e1:=heap_setCell_same _ g 1 _ t v1 e0
 have e2:=heap_setCell_same _ g 2 _ t v2 e1
 have e3:=heap_setCell_same _ g 3 _ t v3 e2
 have e4:=heap_setCell_same _ g 4 _ t v4 e3
 exact e4.trans (congrArg (fun c=>some (Obj.cells c t (0,0))) (by simp))
theorem BxAt.set5 {w:World} {g:Nat} {b:Bx} {t:TypeId} (h:BxAt w g b) (ht:b.ty=some t) (v0 v1 v2 v3 v4:Value):BxAt (((((w.setCell ⟨g,0,none⟩ v0).setCell ⟨g,1,none⟩ v1).setCell ⟨g,2,none⟩ v2).setCell ⟨g,3,none⟩ v3).setCell ⟨g,4,none⟩ v4) g (.c5 v0 v1 v2 v3 v4 t):=by
 show(((((w.setCell ⟨g,0,none⟩ v0).setCell ⟨g,1,none⟩ v1).setCell ⟨g,2,none⟩ v2).setCell ⟨g,3,none⟩ v3).setCell ⟨g,4,none⟩ v4).heap[g]? =some (.cells #[v0,v1,v2,v3,v4] t (0,0))
 cases b with
 |c5 u0 u1 u2 u3 u4 t'=>
  have e:t'=t:=by simpa [Bx.ty] using ht
  subst e
  have h2:w.heap[g]? =some (.cells #[u0,u1,u2,u3,u4] t' (0,0)):=h
  exact row5 h2 _ _ _ _ _
 |c1=>simp [Bx.ty] at ht
 |c9=>simp [Bx.ty] at ht
 |c2=>simp [Bx.ty] at ht
 |nb=>
  have e:27=t:=by simpa [Bx.ty] using ht
  subst e
  obtain⟨k,t,b,n,cap,f,u,h⟩:=h
  have h2:w.heap[g]? =some (.cells #[.int .i64 k,.string t,.slice b n cap,.int .i64 f,.int .i64 u] 27 (0,0)):=h
  exact row5 h2 _ _ _ _ _
theorem BxAt.set1 {w:World} {g:Nat} {v:Value} {t:TypeId} (h:BxAt w g (.c1 v t)) (u:Value):BxAt (w.setCell ⟨g,0,none⟩ u) g (.c1 u t):=ac2.set h
structure Sb (E:PE) (F0 X:Nat→Prop) (w0:World) (F:Nat→Prop) (w:World) (q:Ps) (bs:List Box) (ns:List Kd) (ro:Option (Value × List Kd)):Prop where
 s:St E F w q
 p:PB E.b X w0 w
 le: ∀k,F0 k→F k
 f0: ∀k,F0 k→k<w0.heap.size
 bx: ∀b ∈ bs,F b.1∧BxAt w b.1 b.2.2∧(b.2.1=true→X b.1∨w0.heap.size≤b.1)
 nd:bs.Pairwise BNe
 n: ∀x ∈ ns,KdOk E F w x
 r: ∀v l,ro=some (v,l)→∃base,w0.heap.size≤base∧base≤w.heap.size∧KsO E F w base v l∧∀b ∈ bs,v.ownBlock≠some b.1
def Sa (E:PE) (F0 X:Nat→Prop) (w0 w:World) (q:Ps) (bs:List Box) (ns:List Kd) (ro:Option (Value × List Kd)):Prop:= ∃F,Sb E F0 X w0 F w q bs ns ro
section
variable {E:PE} {F0 F X:Nat→Prop} {w0 w w1:World} {q q1:Ps} {bs:List Box} {ns:List Kd} {ro:Option (Value × List Kd)}
theorem Sb.ni (h:Sb E F0 X w0 F w q bs ns ro) (i:Nat) {n:Nd} {a:Option Addr} {c:Nat} (hi:nth ns i=some (n,a,c)):IsP E F w n (.agg #[.int .i64 n.kind,.string n.text,.slice a n.kids.length c,.int .i64 n.from',.int .i64 n.till]):=h.n _ (ab1 hi)
theorem Sb.call (h:Sb E F0 X w0 F w q bs ns ro) (hs:St E F w1 q1) (hp:PB E.b X0 w w1):Sb E F0 X w0 F w1 q1 bs ns ro:=
 ⟨hs,h.p.then hp,h.le,h.f0,fun b hb=>⟨(h.bx b hb).1,(h.bx b hb).2.1.same (h.s.box hp (h.bx b hb).1),(h.bx b hb).2.2⟩,h.nd,fun x hx=>(h.n x hx).pb hp fun _ h=>h.elim,fun v l e=>by
  obtain⟨base,h1,h2,h3,h4⟩:=h.r v l e
  exact⟨base,h1,Nat.le_trans h2 hp.only.size,h3.pb h.s hp,h4⟩⟩
theorem Sb.keep (h:Sb E F0 X w0 F w q bs ns ro) (ho:Only (fun _=>False) w w1):Sb E F0 X w0 F w1 q bs ns ro:=
 ⟨h.s.only (ho.mono fun _ h=>h.elim),h.p.adv h.s (F:=F) (ho.mono fun _ h=>h.elim),h.le,h.f0,fun b hb=>⟨(h.bx b hb).1,(h.bx b hb).2.1.same (ho.block _ (h.bx b hb).2.1.lt id),(h.bx b hb).2.2⟩,h.nd,fun x hx=>(h.n x hx).only (ho.mono fun _ h=>h.elim) h.s.lt h.s.notF,fun v l e=>by
  obtain⟨base,h1,h2,h3,h4⟩:=h.r v l e
  exact⟨base,h1,Nat.le_trans h2 ho.size,h3.only h.s (ho.mono fun _ h=>h.elim),h4⟩⟩
theorem Sb.push (h:Sb E F0 X w0 F w q bs ns ro) {g:Nat} (hg:w.heap.size=g) {o:Obj} {c:Bx} (hc:BxAt (w.alloc o) w.heap.size c): ∃F1,Sb E F0 X w0 F1 (w.alloc o) q ((g,true,c)::bs) ns ro:=by
 subst hg
 have ho:Only (fun _=>False) w (w.alloc o):=Only.alloc (Only.refl _ _) _
 obtain⟨F1,h1,h2,_,h4,h5⟩:=h.s.enter (ho.mono fun _ h=>h.elim)
 have hz:=h.p.only.size
 refine⟨F1,h4,(h.keep ho).p,fun k hk=>h1 _ (h.le k hk),h.f0,fun b hb=> ?_,?_,fun x hx=>h5 _ _ (h.n x hx),fun v l e=> ?_⟩
 ·rcases List.mem_cons.1 hb with rfl|hb
  ·exact⟨h2 _ (Nat.le_refl _) (by rw [World.size_alloc];omega),hc,fun _=> .inr hz⟩
  ·obtain⟨a1,a2,a3⟩:=(h.keep ho).bx b hb
   exact⟨h1 _ a1,a2,a3⟩
 ·refine List.pairwise_cons.2 ⟨fun b hb=> ?_,h.nd⟩
  have:=(h.bx b hb).2.1.lt
  show w.heap.size≠b.1
  omega
 ·obtain⟨base,a1,a2,a3,a4⟩:=h.r v l e
  refine⟨base,a1,Nat.le_trans a2 ho.size,a3.grow ho h1 h5,fun b hb=> ?_⟩
  rcases List.mem_cons.1 hb with rfl|hb
  ·intro e
   have:=(aa5 a3.own e).1
   simp at this
  ·exact a4 b hb
theorem Sb.set5 (h:Sb E F0 X w0 F w q bs ns ro) (i:Nat) {g:Nat} {b:Bx} {t:TypeId} (hb:nth bs i=some (g,true,b)) (ht:b.ty=some t) (v0 v1 v2 v3 v4:Value):
  Sb E F0 X w0 F (((((w.setCell ⟨g,0,none⟩ v0).setCell ⟨g,1,none⟩ v1).setCell ⟨g,2,none⟩ v2).setCell ⟨g,3,none⟩ v3).setCell ⟨g,4,none⟩ v4) q (ae4 bs i (g,true,.c5 v0 v1 v2 v3 v4 t)) ns ro:=by
 have hbx:=h.bx _ (ab1 hb)
 have hF:F g:=hbx.1
 have hat:BxAt w g b:=hbx.2.1
 have hx:=hbx.2.2 rfl
 have hB: ∀k,k≠g→(((((w.setCell ⟨g,0,none⟩ v0).setCell ⟨g,1,none⟩ v1).setCell ⟨g,2,none⟩ v2).setCell ⟨g,3,none⟩ v3).setCell ⟨g,4,none⟩ v4).heap[k]? =w.heap[k]? :=fun k hk=>bh1 _ _ _ _ _ hk
 have ho:Only (fun k=>k=g) w (((((w.setCell ⟨g,0,none⟩ v0).setCell ⟨g,1,none⟩ v1).setCell ⟨g,2,none⟩ v2).setCell ⟨g,3,none⟩ v3).setCell ⟨g,4,none⟩ v4):=Only.lay5 (Only.refl _ _) (.inl rfl)
 have hm:Only (Mine F X w0) w (((((w.setCell ⟨g,0,none⟩ v0).setCell ⟨g,1,none⟩ v1).setCell ⟨g,2,none⟩ v2).setCell ⟨g,3,none⟩ v3).setCell ⟨g,4,none⟩ v4):=ho.mono fun k hk=>by subst hk;exact⟨hF,hx⟩
 refine⟨h.s.only (hm.mono fun _ h=>h.1),h.p.adv h.s hm,h.le,h.f0,fun z hz=> ?_,ao4 h.nd hb,fun x hx=>(h.n x hx).only (hm.mono fun _ h=>h.1) h.s.lt h.s.notF,fun v l e=> ?_⟩
 ·rcases ah1 ag4 h.nd hb hz with rfl|⟨h1,h2⟩
  ·exact⟨hF,hat.set5 ht _ _ _ _ _,fun _=>hx⟩
  ·obtain⟨a1,a2,a3⟩:=h.bx z h1
   exact⟨a1,a2.same (hB _ fun e=>h2 e.symm),a3⟩
 ·obtain⟨base,a1,a2,a3,a4⟩:=h.r v l e
  refine⟨base,a1,Nat.le_trans a2 ho.size,a3.only h.s (ho.mono fun k hk=>by rw [show k=g from hk];exact⟨hF,a4 (g,true,b) (ab1 hb)⟩),fun z hz=> ?_⟩
  rcases ah1 ag4 h.nd hb hz with rfl|⟨h1,h2⟩
  ·exact a4 (g,true,b) (ab1 hb)
  ·exact a4 z h1
theorem Sb.set1 (h:Sb E F0 X w0 F w q bs ns ro) (i:Nat) {g:Nat} {v0:Value} {t:TypeId} (hb:nth bs i=some (g,true,.c1 v0 t)) (v:Value):Sb E F0 X w0 F (w.setCell ⟨g,0,none⟩ v) q (ae4 bs i (g,true,.c1 v t)) ns ro:=by
 have hbx:=h.bx _ (ab1 hb)
 have hF:F g:=hbx.1
 have hat:BxAt w g (.c1 v0 t):=hbx.2.1
 have hx:=hbx.2.2 rfl
 have hB: ∀k,k≠g→(w.setCell ⟨g,0,none⟩ v).heap[k]? =w.heap[k]? :=fun k hk=>Below.heap_setCell _ _ _ _ hk
 have ho:Only (fun k=>k=g) w (w.setCell ⟨g,0,none⟩ v):=Only.setCell (X:=fun k=>k=g) (Only.refl _ _) (p:=⟨g,0,none⟩) (.inl rfl) v
 have hm:Only (Mine F X w0) w (w.setCell ⟨g,0,none⟩ v):=ho.mono fun k hk=>by subst hk;exact⟨hF,hx⟩
 refine⟨h.s.only (hm.mono fun _ h=>h.1),h.p.adv h.s hm,h.le,h.f0,fun z hz=> ?_,ao4 h.nd hb,fun x hx=>(h.n x hx).only (hm.mono fun _ h=>h.1) h.s.lt h.s.notF,fun v l e=> ?_⟩
 ·rcases ah1 ag4 h.nd hb hz with rfl|⟨h1,h2⟩
  ·exact⟨hF,hat.set1 _,fun _=>hx⟩
  ·obtain⟨a1,a2,a3⟩:=h.bx z h1
   exact⟨a1,a2.same (hB _ fun e=>h2 e.symm),a3⟩
 ·obtain⟨base,a1,a2,a3,a4⟩:=h.r v l e
  refine⟨base,a1,Nat.le_trans a2 ho.size,a3.only h.s (ho.mono fun k hk=>by rw [show k=g from hk];exact⟨hF,a4 (g,true,.c1 v0 t) (ab1 hb)⟩),fun z hz=> ?_⟩
  rcases ah1 ag4 h.nd hb hz with rfl|⟨h1,h2⟩
  ·exact a4 (g,true,.c1 v0 t) (ab1 hb)
  ·exact a4 z h1
theorem Sb.node (h:Sb E F0 X w0 F w q bs ns ro) {n:Nd} {a:Option Addr} {c:Nat} (hn:IsP E F w n (.agg #[.int .i64 n.kind,.string n.text,.slice a n.kids.length c,.int .i64 n.from',.int .i64 n.till])):Sb E F0 X w0 F w q bs ((n,a,c)::ns) ro:=
 ⟨h.s,h.p,h.le,h.f0,h.bx,h.nd,fun x hx=>by
  rcases List.mem_cons.1 hx with rfl|hx
  ·exact hn
  ·exact h.n x hx,h.r⟩
theorem Sb.callc (h:Sb E F0 X w0 F w q bs ns ro) (i:Nat) {g:Nat} {b c:Bx} (hb:nth bs i=some (g,true,b)) (hs:St E F w1 q1) (hp:PB E.b (fun k=>k=g) w w1) (hc:BxAt w1 g c):Sb E F0 X w0 F w1 q1 (ae4 bs i (g,true,c)) ns ro:=by
 have hbx:=h.bx _ (ab1 hb)
 have hF:F g:=hbx.1
 have hat:BxAt w g b:=hbx.2.1
 have hx:=hbx.2.2 rfl
 refine⟨hs,h.p.trans' hp fun k hk=>by subst hk;exact hx,h.le,h.f0,fun z hz=> ?_,ao4 h.nd hb,fun x hx=>(h.n x hx).pb hp fun k hk=>by subst hk;exact hF,fun v l e=> ?_⟩
 ·rcases ah1 ag4 h.nd hb hz with rfl|⟨h1,h2⟩
  ·exact⟨hF,hc,fun _=>hx⟩
  ·obtain⟨a1,a2,a3⟩:=h.bx z h1
   exact⟨a1,a2.same (h.s.fr hp a1 fun e=>h2 e.symm),a3⟩
 ·obtain⟨base,a1,a2,a3,a4⟩:=h.r v l e
  refine⟨base,a1,Nat.le_trans a2 hp.only.size,⟨ad0 a3.own fun k hk _=>h.s.fr hp (a3.inF k hk) fun e=>a4 (g,true,b) (ab1 hb) (by rw [hk];exact congrArg some e),fun x hx=>(a3.is x hx).pb hp fun k hk=>by subst hk;exact hF,a3.inF⟩,fun z hz=> ?_⟩
  rcases ah1 ag4 h.nd hb hz with rfl|⟨h1,h2⟩
  ·exact a4 (g,true,b) (ab1 hb)
  ·exact a4 z h1
theorem Sb.pick (h:Sb E F0 X w0 F w q bs ns ro) (is js:List Nat) (hd:is.Nodup):Sb E F0 X w0 F w q (pick bs is) (pick ns js) ro:=
 ⟨h.s,h.p,h.le,h.f0,fun b hb=>(as5 hb).elim fun _ h2=>h.bx b (ab1 h2.2),aF2 ag4 h.nd hd,fun b hb=>(as5 hb).elim fun _ h2=>h.n b (ab1 h2.2),fun v l e=>by
  obtain⟨base,a1,a2,a3,a4⟩:=h.r v l e
  exact⟨base,a1,a2,a3,fun b hb=>(as5 hb).elim fun _ h2=>a4 b (ab1 h2.2)⟩⟩
theorem Sb.fs (h:Sb E F0 X w0 F w q bs ns ro):Fcs w bs:=by
 have key: ∀l:List Box,(∀b ∈ l,BxAt w b.1 b.2.2)→Fcs w l:=by
  intro l
  induction l with
  |nil=>exact fun _=>trivial
  |cons b l ih=>exact fun hl=>⟨(hl b List.mem_cons_self).f,ih fun x hx=>hl x (List.mem_cons_of_mem _ hx)⟩
 exact key bs fun b hb=>(h.bx b hb).2.1
end
end
section
open Go.RowKit
section
variable {α β:Type} {p:Ps} {T:Res β}
theorem hpos {c:Prop} [Decidable c] {x y:PM β} (h:Hid ((if c then x else y) p=T)) (hc:c):Hid (x p=T):=by rw [if_pos hc] at h;exact h
theorem hneg {c:Prop} [Decidable c] {x y:PM β} (h:Hid ((if c then x else y) p=T)) (hc: ¬c):Hid (y p=T):=by rw [if_neg hc] at h;exact h
theorem hget {k:Ps→PM β} (h:Hid ((getP>>=k) p=T)):Hid (k p p=T):=h
theorem hmod {f:Ps→Ps} {k:Unit→PM β} (h:Hid ((modP f>>=k) p=T)):Hid (k () (f p)=T):=h
theorem bd9 {a:α} {g:α→PM β} (h:Hid (((Pure.pure a:PM α)>>=g) p=T)):Hid (g a p=T):=h
theorem ac9 {x:PM β} (h:Hid (x p=T)):Hid ((x>>=fun a=>pure a) p=T):=by
 rw [←h]
 show PM.bind x _ p=x p
 unfold PM.bind
 cases x p<;>rfl
theorem bk2 {γ:Type} {x:PM α} {f:α→PM γ} {g:γ→PM β} (h:Hid (((x>>=f)>>=g) p=T)):Hid ((x>>=fun a=>f a>>=g) p=T):=by
 rw [←h]
 show PM.bind x (fun a=>PM.bind (f a) g) p=PM.bind (PM.bind x f) g p
 unfold PM.bind
 cases x p<;>rfl
theorem at1 {x:PM α} {k:α→PM β} (h:Hid ((x>>=k) p=T)) (hn:Hid (T≠ .out)):(∃a q,Hid (x p= .ok a q)∧Hid (k a q=T))∨(∃c i,Hid (x p= .bad c i)∧Hid (T= .bad c i)):=PM.cases h hn
theorem bs9 {kind:Int} {text:ByteArray} {from':Int} {ks:List Nd} {k:Nd→PM β} (h:Hid ((ac7 kind text from' ks>>=k) p=T)):Hid (k (.mk kind text ks from' p.at') p=T):=h
theorem bA2 {x:PM α} {a:α} {q:Ps} (h:Hid (x p= .ok a q)):x p≠ .out:=fun e=>by rw [show x p= .ok a q from h] at e;cases e
theorem bC8 {x:PM α} {c i:Int} (h:Hid (x p= .bad c i)):x p≠ .out:=fun e=>by rw [show x p= .bad c i from h] at e;cases e
theorem Ans.badh {α:Type} {E:PE} {F X:Nat→Prop} {w w1:World} {T:Res α} {c i:Int} {A:α→Value→World→Prop} (h:Hid (T= .bad c i∧PB E.b X w w1)):Ans E F X w T A (.panicked (flt c i)) w1:=Ans.bad h.out.1 h.out.2
theorem kt {a b:Int} (h:a=b):(a==b)=true:=by rw [beq_iff_eq];exact h
theorem kf {a b:Int} (h: ¬a=b):(a==b)=false:=by rw [beq_eq_false_iff_ne];exact h
theorem nt {a b:Int} (h: ¬a=b):(a !=b)=true:=by rw [bne_iff_ne];exact h
theorem nf {a b:Int} (h:a=b):(a !=b)=false:=by rw [h,bne_self_eq_false]
theorem xt {t:ByteArray} {l:List UInt8} (h:t=⟨l.toArray⟩):(t.toList==l)=true:=by rw [bt];exact decide_eq_true h
theorem xf {t:ByteArray} {l:List UInt8} (h: ¬t=⟨l.toArray⟩):(t.toList==l)=false:=by rw [bt];exact decide_eq_false h
end
abbrev Ro:=Option (Value × List Kd)
section
variable {E:PE} {F0 F X:Nat→Prop} {w0 w w1:World} {q q1:Ps} {bs:List Box} {ns:List Kd} {ro:Ro}
theorem Sb.a (h:Sb E F0 X w0 F w q bs ns ro):Sa E F0 X w0 w q bs ns ro:=⟨F,h⟩
theorem Sa.start (h:St E F w q) (ns:List Kd) (bs:List Box) (hn: ∀x ∈ ns,KdOk E F w x) (hb: ∀b ∈ bs,F b.1∧BxAt w b.1 b.2.2) (hX: ∀b ∈ bs,b.2.1=true→X b.1) (hd:bs.Pairwise BNe):Hid (Sa E F X w w q bs ns none):=
 ⟨F,h,PB.refl _ _ _,fun _ h=>h,fun k hk=>(h.fo k hk).2.1,fun b h1=>⟨(hb b h1).1,(hb b h1).2,fun e=> .inl (hX b h1 e)⟩,hd,hn,fun _ _ e=>by cases e⟩
theorem Sa.start0 (h:St E F w q):Hid (Sa E F X w w q [] [] none):=Sa.start h [] [] (fun _ h=>by cases h) (fun _ h=>by cases h) (fun _ h=>by cases h) List.Pairwise.nil
theorem Sa.start1 (h:St E F w q) {n:Nd} {a:Option Addr} {c:Nat} (hn:IsP E F w n (.agg #[.int .i64 n.kind,.string n.text,.slice a n.kids.length c,.int .i64 n.from',.int .i64 n.till])):Hid (Sa E F X w w q [] [(n,a,c)] none):=
 Sa.start h _ [] (fun x hx=>by simp only [List.mem_cons,List.not_mem_nil,or_false] at hx;subst hx;exact hn) (fun _ h=>by cases h) (fun _ h=>by cases h) List.Pairwise.nil
theorem Sa.fs (h:Sa E F0 X w0 w q bs ns ro):Fcs w bs:=h.elim fun _ h=>h.fs
theorem Sa.fw (h:Sa E F0 X w0 w q bs ns ro) (i:Nat) {g:Nat} {o:Bool} {b:Bx} (hb:nth bs i=some (g,o,b)):BxW w g:=h.elim fun _ h=>(h.bx _ (ab1 hb)).2.1.wr
theorem Sa.lt (h:Sa E F0 X w0 w q bs ns ro):E.b<w.heap.size:=h.elim fun _ h=>h.s.lt
theorem Sa.size (h:Sa E F0 X w0 w q bs ns ro):w0.heap.size≤w.heap.size:=h.elim fun _ h=>h.p.only.size
theorem Sa.c_s (h:Sa E F0 X w0 w q bs ns ro):w.cell? ⟨E.b,0,none⟩=some (.string E.s):=h.elim fun _ h=>h.s.c_s
theorem Sa.c_at (h:Sa E F0 X w0 w q bs ns ro):w.cell? ⟨E.b,1,none⟩=some (.int .i64 q.at'):=h.elim fun _ h=>h.s.c_at
theorem Sa.c_kind (h:Sa E F0 X w0 w q bs ns ro):w.cell? ⟨E.b,2,none⟩=some (.int .i64 q.tok.kind):=h.elim fun _ h=>h.s.c_kind
theorem Sa.c_text (h:Sa E F0 X w0 w q bs ns ro):w.cell? ⟨E.b,3,none⟩=some (.string q.tok.text):=h.elim fun _ h=>h.s.c_text
theorem Sa.c_from (h:Sa E F0 X w0 w q bs ns ro):w.cell? ⟨E.b,4,none⟩=some (.int .i64 q.tok.from'):=h.elim fun _ h=>h.s.c_from
theorem Sa.c_till (h:Sa E F0 X w0 w q bs ns ro):w.cell? ⟨E.b,5,none⟩=some (.int .i64 q.tok.till):=h.elim fun _ h=>h.s.c_till
theorem Sa.c_line (h:Sa E F0 X w0 w q bs ns ro):w.cell? ⟨E.b,6,none⟩=some (.bool q.tok.line):=h.elim fun _ h=>h.s.c_line
theorem Sa.c_goal (h:Sa E F0 X w0 w q bs ns ro):w.cell? ⟨E.b,8,none⟩=some (.int .i64 q.goal):=h.elim fun _ h=>h.s.c_goal
theorem Sa.c_mod (h:Sa E F0 X w0 w q bs ns ro):w.cell? ⟨E.b,10,none⟩=some (.bool E.m):=h.elim fun _ h=>h.s.c_mod
theorem Sa.c_flags (h:Sa E F0 X w0 w q bs ns ro):w.cell? ⟨E.b,11,none⟩=some (.int .i64 q.flags):=h.elim fun _ h=>h.s.c_flags
theorem Sa.c_nest (h:Sa E F0 X w0 w q bs ns ro):w.cell? ⟨E.b,12,none⟩=some (.int .i64 q.nest):=h.elim fun _ h=>h.s.c_nest
theorem Sa.c_arrow (h:Sa E F0 X w0 w q bs ns ro):w.cell? ⟨E.b,13,none⟩=some (.int .i64 q.arrow):=h.elim fun _ h=>h.s.c_arrow
theorem Sa.frozen (h:Sa E F0 X w0 w q bs ns ro) (j:Nat):w.frozen? ⟨E.b,j,none⟩=false:=h.elim fun _ h=>h.s.frozen j
theorem Sa.keep (h:Sa E F0 X w0 w q bs ns ro) (ho:Only (fun _=>False) w w1):Sa E F0 X w0 w1 q bs ns ro:=h.elim fun _ h=>⟨_,h.keep ho⟩
theorem Sa.drew (h:Sa E F0 X w0 w q bs ns ro):Hid (Sa E F0 X w0 w.drew q bs ns ro):=h.keep (Only.refl _ _).drew
theorem Sa.drewN (h:Sa E F0 X w0 w q bs ns ro) (n:Nat):Hid (Sa E F0 X w0 (w.drewN n) q bs ns ro):=h.keep ((Only.refl _ _).drewN n)
theorem Sa.drewE (h:Sa E F0 X w0 w q bs ns ro) {n:Nat} {W:World} (e:w.drewN n=W):Hid (Sa E F0 X w0 W q bs ns ro):=e▸h.drewN n
theorem Sa.alloc (h:Sa E F0 X w0 w q bs ns ro) (o:Obj):Hid (Sa E F0 X w0 (w.alloc o) q bs ns ro):=h.keep (Only.alloc (Only.refl _ _) o)
theorem Sa.pick (h:Sa E F0 X w0 w q bs ns ro) (is js:List Nat) (hd:is.Nodup):Sa E F0 X w0 w q (pick bs is) (pick ns js) ro:=h.elim fun _ h=>⟨_,h.pick is js hd⟩
theorem Sa.p5 (h:Sa E F0 X w0 w q bs ns ro) {g:Nat} (hg:w.heap.size=g) (v0 v1 v2 v3 v4:Value) (t:TypeId):Hid (Sa E F0 X w0 (w.alloc (.cells #[v0,v1,v2,v3,v4] t)) q ((g,true,.c5 v0 v1 v2 v3 v4 t)::bs) ns ro):=h.elim fun _ h=>h.push hg (heap_alloc_new _ _)
theorem Sa.p1 (h:Sa E F0 X w0 w q bs ns ro) {g:Nat} (hg:w.heap.size=g) (v:Value) (t:TypeId):Hid (Sa E F0 X w0 (w.alloc (.cells #[v] t)) q ((g,true,.c1 v t)::bs) ns ro):=h.elim fun _ h=>h.push hg (heap_alloc_new _ _)
theorem Sa.pT (h:Sa E F0 X w0 w q bs ns ro) {g:Nat} (hg:w.heap.size=g) (x:Tk):Hid (Sa E F0 X w0 (w.alloc (.cells #[.int .i64 x.kind,.string x.text,.int .i64 x.from',.int .i64 x.till,.bool x.line] 49)) q ((g,true,.tk x)::bs) ns ro):=h.p5 hg _ _ _ _ _ _
theorem Sa.pN (h:Sa E F0 X w0 w q bs ns ro) {g:Nat} (hg:w.heap.size=g) (n:Nd) (a:Option Addr) (c:Nat):Hid (Sa E F0 X w0 (w.alloc (.cells #[.int .i64 n.kind,.string n.text,.slice a n.kids.length c,.int .i64 n.from',.int .i64 n.till] 27)) q ((g,true,.nd n a c)::bs) ns ro):=h.p5 hg _ _ _ _ _ _
theorem Sa.pZ (h:Sa E F0 X w0 w q bs ns ro) {g:Nat} (hg:w.heap.size=g):Hid (Sa E F0 X w0 (w.alloc (.cells #[.int .i64 0,.string ⟨#[]⟩,.slice none 0 0,.int .i64 0,.int .i64 0] 27)) q ((g,true,.z)::bs) ns ro):=h.p5 hg _ _ _ _ _ _
theorem Sa.pZT (h:Sa E F0 X w0 w q bs ns ro) {g:Nat} (hg:w.heap.size=g):Hid (Sa E F0 X w0 (w.alloc (.cells #[.int .i64 0,.string ⟨#[]⟩,.int .i64 0,.int .i64 0,.bool false] 49)) q ((g,true,.zt)::bs) ns ro):=h.p5 hg _ _ _ _ _ _
theorem Sa.pP (h:Sa E F0 X w0 w q bs ns ro) {g:Nat} (hg:w.heap.size=g):Hid (Sa E F0 X w0 (w.alloc (.cells #[.pointer (some ⟨E.b,0,none⟩)] 46)) q ((g,true,.p E.b)::bs) ns ro):=h.p1 hg _ _
theorem Sa.setN (h:Sa E F0 X w0 w q bs ns ro) (i j:Nat) {g:Nat} {b:Bx} {n:Nd} {a:Option Addr} {c:Nat} (hb:nth bs i=some (g,true,b)) (ht:b.ty=some 27) (_hn:nth ns j=some (n,a,c)):
  ∃W,(((((w.setCell ⟨g,0,none⟩ (.int .i64 n.kind)).setCell ⟨g,1,none⟩ (.string n.text)).setCell ⟨g,2,none⟩ (.slice a n.kids.length c)).setCell ⟨g,3,none⟩ (.int .i64 n.from')).setCell ⟨g,4,none⟩ (.int .i64 n.till))=W∧Hid (Sa E F0 X w0 W q (ae4 bs i (g,true,.nd n a c)) ns ro):=h.elim fun _ h=>⟨_,rfl,_,h.set5 i hb ht _ _ _ _ _⟩
theorem Sa.set5 (h:Sa E F0 X w0 w q bs ns ro) (i:Nat) {g:Nat} {b:Bx} {t:TypeId} (hb:nth bs i=some (g,true,b)) (ht:b.ty=some t) (v0 v1 v2 v3 v4:Value):
  ∃W,(((((w.setCell ⟨g,0,none⟩ v0).setCell ⟨g,1,none⟩ v1).setCell ⟨g,2,none⟩ v2).setCell ⟨g,3,none⟩ v3).setCell ⟨g,4,none⟩ v4)=W∧Hid (Sa E F0 X w0 W q (ae4 bs i (g,true,.c5 v0 v1 v2 v3 v4 t)) ns ro):=h.elim fun _ h=>⟨_,rfl,_,h.set5 i hb ht _ _ _ _ _⟩
theorem Sa.set1 (h:Sa E F0 X w0 w q bs ns ro) (i:Nat) {g:Nat} {v0:Value} {t:TypeId} (hb:nth bs i=some (g,true,.c1 v0 t)) (v:Value):
  ∃W,w.setCell ⟨g,0,none⟩ v=W∧Hid (Sa E F0 X w0 W q (ae4 bs i (g,true,.c1 v t)) ns ro):=h.elim fun _ h=>⟨_,rfl,_,h.set1 i hb _⟩
theorem Sa.setE (h:Sa E F0 X w0 w q bs ns ro) (hE:E.w0.heap.size≤E.b) (j:Nat) (v:Value) (q1:Ps) (hq: ∀va vc mb,(ad8 E q va vc mb).setIfInBounds j v=ad8 E q1 va vc mb) (ha:q1.ahead=q.ahead) (hc:q1.cms=q.cms) (hm:q1.commas=q.commas) (hn:q1.nest=q.nest):
  ∃W,w.setCell ⟨E.b,j,none⟩ v=W∧Hid (Sa E F0 X w0 W q1 bs ns ro):=h.elim fun _ h=>by
 obtain⟨h1,h2⟩:=h.s.set (X:=X0) hE j v q1 hq ha hc hm (hn▸h.s.nst)
 exact⟨_,rfl,_,h.call h1 h2⟩
section
variable {α β:Type} {x:PM α} {k:α→PM β} {T:Res β} {K:Ending→World→Prop} {f:FuncId} {args:Array Value}
theorem Sa.step {A:(Nat→Prop)→α→Value→World→Prop} (h:Sa E F0 X w0 w q bs ns ro) (hT:Hid ((x>>=k) q=T)) (hn:Hid (T≠ .out))
  (hc: ∀F,Sb E F0 X w0 F w q bs ns ro→x q≠ .out→Calls Tryz.prog f args w (Ans E F X0 w (x q) (A F)))
  (hbad: ∀c i w1,Hid (T= .bad c i∧PB E.b X w0 w1)→K (.panicked (flt c i)) w1)
  (hok: ∀F a q1 v w1,A F a v w1→Hid (x q= .ok a q1)→Hid (k a q1=T)→Sb E F0 X w0 F w1 q1 bs ns ro→K (.returned v) w1):Calls Tryz.prog f args w K:=by
 obtain⟨F,h⟩:=h
 refine(hc F h (PM.ne hT hn)).mono fun e w1 h1=> ?_
 rcases PM.cases hT hn with ⟨a,q1,hx,hk⟩|⟨c,i,hx,hk⟩
 ·rw [hx] at h1
  obtain⟨v,rfl,hA,hs,hp⟩:=h1
  exact hok F a q1 v w1 hA hx hk (h.call hs hp)
 ·rw [hx] at h1
  obtain⟨rfl,hp⟩:=h1
  exact hbad c i w1 ⟨hk,h.p.then hp⟩
theorem Sa.stepV {vf:α→Value} (h:Sa E F0 X w0 w q bs ns ro) (hT:Hid ((x>>=k) q=T)) (hn:Hid (T≠ .out))
  (hc: ∀F,Sb E F0 X w0 F w q bs ns ro→x q≠ .out→Calls Tryz.prog f args w (Ans E F X0 w (x q) fun a v _=>v=vf a))
  (hbad: ∀c i w1,Hid (T= .bad c i∧PB E.b X w0 w1)→K (.panicked (flt c i)) w1)
  (hok: ∀a q1 w1,Hid (k a q1=T)→Hid (Sa E F0 X w0 w1 q1 bs ns ro)→K (.returned (vf a)) w1):Calls Tryz.prog f args w K:=
 h.step (A:=fun _ a v _=>v=vf a) hT hn hc hbad fun _ a q1 v w1 e _ h1 h2=>by subst e;exact hok a q1 w1 h1 h2.a
theorem Sa.stepX {vf:α→Value} (h:Sa E F0 X w0 w q bs ns ro) (hT:Hid ((x>>=k) q=T)) (hn:Hid (T≠ .out))
  (hc: ∀F,Sb E F0 X w0 F w q bs ns ro→x q≠ .out→Calls Tryz.prog f args w (Ans E F X0 w (x q) fun a v _=>v=vf a))
  (hbad: ∀c i w1,Hid (T= .bad c i∧PB E.b X w0 w1)→K (.panicked (flt c i)) w1)
  (hok: ∀a q1 w1,Hid (x q= .ok a q1)→Hid (k a q1=T)→Hid (Sa E F0 X w0 w1 q1 bs ns ro)→K (.returned (vf a)) w1):Calls Tryz.prog f args w K:=
 h.step (A:=fun _ a v _=>v=vf a) hT hn hc hbad fun _ a q1 v w1 e h0 h1 h2=>by subst e;exact hok a q1 w1 h0 h1 h2.a
theorem Sa.stepN {x:PM Nd} {k:Nd→PM β} (h:Sa E F0 X w0 w q bs ns ro) (hT:Hid ((x>>=k) q=T)) (hn:Hid (T≠ .out))
  (hc: ∀F,Sb E F0 X w0 F w q bs ns ro→x q≠ .out→Calls Tryz.prog f args w (Ans E F X0 w (x q) fun n v w'=>IsP E F w' n v))
  (hbad: ∀c i w1,Hid (T= .bad c i∧PB E.b X w0 w1)→K (.panicked (flt c i)) w1)
  (hok: ∀n a c q1 w1,Hid (k n q1=T)→Hid (Sa E F0 X w0 w1 q1 bs ((n,a,c)::ns) ro)→K (.returned (.agg #[.int .i64 n.kind,.string n.text,.slice a n.kids.length c,.int .i64 n.from',.int .i64 n.till])) w1):Calls Tryz.prog f args w K:=
 h.step (A:=fun F n v w'=>IsP E F w' n v) hT hn hc hbad fun F n q1 v w1 e _ h1 h2=>by
  obtain⟨a,c,rfl,e⟩:=e.form
  exact hok n a c q1 w1 h1 (h2.node e).a
theorem Sa.stepL {x:PM (Nd × Bool)} {k:Nd × Bool→PM β} (h:Sa E F0 X w0 w q bs ns ro) (hT:Hid ((x>>=k) q=T)) (hn:Hid (T≠ .out))
  (hc: ∀F,Sb E F0 X w0 F w q bs ns ro→x q≠ .out→Calls Tryz.prog f args w (Ans E F X0 w (x q) fun r v w'=> ∃u,v= .tuple #[u,.bool r.2]∧IsP E F w' r.1 u))
  (hbad: ∀c i w1,Hid (T= .bad c i∧PB E.b X w0 w1)→K (.panicked (flt c i)) w1)
  (hok: ∀n b a c q1 w1,Hid (k (n,b) q1=T)→Hid (Sa E F0 X w0 w1 q1 bs ((n,a,c)::ns) ro)→K (.returned (.tuple #[.agg #[.int .i64 n.kind,.string n.text,.slice a n.kids.length c,.int .i64 n.from',.int .i64 n.till],.bool b])) w1):Calls Tryz.prog f args w K:=
 h.step (A:=fun F r v w'=> ∃u,v= .tuple #[u,.bool r.2]∧IsP E F w' r.1 u) hT hn hc hbad fun F r q1 v w1 e _ h1 h2=>by
  obtain⟨n,b⟩:=r
  obtain⟨u,rfl,e⟩:=e
  obtain⟨a,c,rfl,e⟩:=e.form
  exact hok n b a c q1 w1 h1 (h2.node e).a
theorem Sa.stepK {x:PM (List Nd)} {k:List Nd→PM β} (h:Sa E F0 X w0 w q bs ns ro) (hT:Hid ((x>>=k) q=T)) (hn:Hid (T≠ .out))
  (hc: ∀F,Sb E F0 X w0 F w q bs ns ro→x q≠ .out→Calls Tryz.prog f args w (Ans E F X0 w (x q) fun ks v w'=>KsIn E F w' ks v))
  (hbad: ∀c i w1,Hid (T= .bad c i∧PB E.b X w0 w1)→K (.panicked (flt c i)) w1)
  (hok: ∀ks a c q1 w1,Hid (k ks q1=T)→Hid (Sa E F0 X w0 w1 q1 bs ((.mk 0 ⟨#[]⟩ ks 0 0,a,c)::ns) ro)→K (.returned (.slice a ks.length c)) w1):Calls Tryz.prog f args w K:=
 h.step (A:=fun F ks v w'=>KsIn E F w' ks v) hT hn hc hbad fun F ks q1 v w1 e _ h1 h2=>by
  obtain⟨a,c,rfl,h3,h4⟩:=e
  exact hok ks a c q1 w1 h1 (h2.node (n:= .mk 0 ⟨#[]⟩ ks 0 0) ⟨a,c,rfl,h3,h4⟩).a
theorem Sa.stepQ {v:Value} (h:Sa E F0 X w0 w q bs ns ro) (hc: ∀F,Sb E F0 X w0 F w q bs ns ro→Calls Tryz.prog f args w fun e w'=>e= .returned v∧Below w.heap.size w w') (hok: ∀w1,Hid (Sa E F0 X w0 w1 q bs ns ro)→K (.returned v) w1):Calls Tryz.prog f args w K:=by
 obtain⟨F,h⟩:=h
 exact(hc F h).mono fun e w1 ⟨h1,h2⟩=>by subst h1;exact hok w1 (h.keep (Only.of_below h2)).a
theorem Sa.look {k:Tk→PM β} (h:Sa E F0 X w0 w q bs ns ro) (hE:E.Ok) (place:Int) (hT:Hid ((aE0 E.s place>>=k) q=T)) (hn:Hid (T≠ .out)) (hok: ∀t w1,Hid (k t q=T)→Hid (Sa E F0 X w0 w1 q bs ns ro)→K (.returned (.agg #[.int .i64 t.kind,.string t.text,.int .i64 t.from',.int .i64 t.till,.bool t.line])) w1):
  Calls Tryz.prog 80 #[.pointer (some ⟨E.b,0,none⟩),.int .i64 place] w K:=by
 obtain⟨F,h⟩:=h
 refine(P.look hE place h.s (PM.ne hT hn)).mono fun e w1 ⟨t,ht,he,hb⟩=> ?_
 subst he
 exact hok t w1 (ht▸PM.look hT (PM.ne hT hn)) (h.keep (Only.of_below hb)).a
theorem Sa.leaf (h:Sa E F0 X w0 w q bs ns ro) (kind:Int) (t:Tk) (hok: ∀n a c w1,Hid (ar1 kind t=n)→Hid (Sa E F0 X w0 w1 q bs ((n,a,c)::ns) ro)→K (.returned (.agg #[.int .i64 n.kind,.string n.text,.slice a n.kids.length c,.int .i64 n.from',.int .i64 n.till])) w1):
  Calls Tryz.prog 83 #[.int .i64 kind,.agg #[.int .i64 t.kind,.string t.text,.int .i64 t.from',.int .i64 t.till,.bool t.line]] w K:=by
 obtain⟨F,h⟩:=h
 refine(P.leafn kind t w).mono fun e w1 ⟨n,a,c,hn,he,hi,hb⟩=> ?_
 subst he
 exact hok n a c w1 hn ((h.keep (Only.of_below hb)).node (hi E F w1)).a
theorem Sa.gotV {vf:α→Value} {a:α} (h:Sa E F0 X w0 w q bs ns ro) (hx:Hid (x q= .ok a q1)) (hc: ∀F,Sb E F0 X w0 F w q bs ns ro→x q≠ .out→Calls Tryz.prog f args w (Ans E F X0 w (x q) fun a v _=>v=vf a))
  (hok: ∀w1,Hid (Sa E F0 X w0 w1 q1 bs ns ro)→K (.returned (vf a)) w1):Calls Tryz.prog f args w K:=by
 obtain⟨F,h⟩:=h
 refine(hc F h (bA2 hx)).mono fun e w1 h1=> ?_
 rw [show x q= .ok a q1 from hx] at h1
 obtain⟨v,rfl,hA,hs,hp⟩:=h1
 subst hA
 exact hok w1 (h.call hs hp).a
theorem Sa.gotN {x:PM Nd} {n:Nd} (h:Sa E F0 X w0 w q bs ns ro) (hx:Hid (x q= .ok n q1)) (hc: ∀F,Sb E F0 X w0 F w q bs ns ro→x q≠ .out→Calls Tryz.prog f args w (Ans E F X0 w (x q) fun n v w'=>IsP E F w' n v))
  (hok: ∀a c w1,Hid (Sa E F0 X w0 w1 q1 bs ((n,a,c)::ns) ro)→K (.returned (.agg #[.int .i64 n.kind,.string n.text,.slice a n.kids.length c,.int .i64 n.from',.int .i64 n.till])) w1):Calls Tryz.prog f args w K:=by
 obtain⟨F,h⟩:=h
 refine(hc F h (bA2 hx)).mono fun e w1 h1=> ?_
 rw [show x q= .ok n q1 from hx] at h1
 obtain⟨v,rfl,hA,hs,hp⟩:=h1
 obtain⟨a,c,rfl,hA⟩:=hA.form
 exact hok a c w1 ((h.call hs hp).node hA).a
theorem Sa.gotbad {A:(Nat→Prop)→α→Value→World→Prop} {c i:Int} (v:Value) (h:Sa E F0 X w0 w q bs ns ro) (hx:Hid (x q= .bad c i)) (hT:Hid (T= .bad c i)) (hc: ∀F,Sb E F0 X w0 F w q bs ns ro→x q≠ .out→Calls Tryz.prog f args w (Ans E F X0 w (x q) (A F)))
  (hbad: ∀w1,Hid (T= .bad c i∧PB E.b X w0 w1)→K (.panicked (flt c i)) w1) (_:Hid False→K (.returned v) w):Calls Tryz.prog f args w K:=by
 obtain⟨F,h⟩:=h
 refine(hc F h (bC8 hx)).mono fun e w1 h1=> ?_
 rw [show x q= .bad c i from hx] at h1
 obtain⟨rfl,hp⟩:=h1
 exact hbad w1 ⟨hT,h.p.then hp⟩
theorem av1 (v:Value) (h:Hid False) (_:K (.returned v) w):Calls Tryz.prog f args w K:=h.elim
end
section
variable {β:Type} {k:Nd→PM β} {T:Res β} {K:Ending→World→Prop}
theorem Sa.node (h:Sa E F0 X w0 w q bs ns ro) (kind:Int) (text:ByteArray) (from':Int) (l:List Kd) (hl: ∀x ∈ l,x ∈ ns∨x=(Nd.zero,none,0)) {row:Obj} (hr:row= .cells (l.flatMap aa8).toArray 27) {g m:Nat} (hg:w.heap.size=g) (hm:l.length=m) {ks:List Nd} (hk:l.map (·.1)=ks)
  (hT:Hid ((ac7 kind text from' ks>>=k) q=T)) (hok: ∀n a c w1,Hid (Nd.mk kind text ks from' q.at'=n)→Hid (k n q=T)→Hid (Sa E F0 X w0 w1 q bs ((n,a,c)::ns) ro)→K (.returned (.agg #[.int .i64 n.kind,.string n.text,.slice a n.kids.length c,.int .i64 n.from',.int .i64 n.till])) w1):
  Calls Tryz.prog 30 #[.pointer (some ⟨E.b,0,none⟩),.int .i64 kind,.string text,.int .i64 from',.slice (some ⟨g,0,none⟩) m m] (w.alloc row) K:=by
 obtain⟨F,h⟩:=h
 subst hr hg hm hk
 have ho:Only (fun _=>False) w (w.alloc (.cells (l.flatMap aa8).toArray 27)):=Only.alloc (Only.refl _ _) _
 have h2:=h.keep ho
 have hks:=ksN h.s l fun x hx=>(hl x hx).elim (fun hx=>h.n x hx) fun e=>by subst e;exact av9 _ _ _
 refine(P.node kind text from' _ _ h2.s hks).mono fun e w1 h1=> ?_
 obtain⟨v,rfl,hn,hs,hp⟩:=h1
 obtain⟨a,c,rfl,hn⟩:=hn.form
 exact hok _ a c w1 rfl (bs9 hT) ((h2.call hs hp).node hn).a
theorem Sa.node0 (h:Sa E F0 X w0 w q bs ns ro) (kind:Int) (text:ByteArray) (from':Int)
  (hT:Hid ((ac7 kind text from' []>>=k) q=T)) (hok: ∀n a c w1,Hid (Nd.mk kind text [] from' q.at'=n)→Hid (k n q=T)→Hid (Sa E F0 X w0 w1 q bs ((n,a,c)::ns) ro)→K (.returned (.agg #[.int .i64 n.kind,.string n.text,.slice a n.kids.length c,.int .i64 n.from',.int .i64 n.till])) w1):
  Calls Tryz.prog 30 #[.pointer (some ⟨E.b,0,none⟩),.int .i64 kind,.string text,.int .i64 from',.slice none 0 0] w K:=by
 obtain⟨F,h⟩:=h
 refine(P.node kind text from' [] _ h.s (ks0 _ _ _)).mono fun e w1 h1=> ?_
 obtain⟨v,rfl,hn,hs,hp⟩:=h1
 obtain⟨a,c,rfl,hn⟩:=hn.form
 exact hok _ a c w1 rfl (bs9 hT) ((h.call hs hp).node hn).a
theorem Sa.nodeK (h:Sa E F0 X w0 w q bs ns ro) (kind:Int) (text:ByteArray) (from':Int) (i:Nat) {ks:List Nd} {a0:Option Addr} {c0:Nat} (hi:nth ns i=some (.mk 0 ⟨#[]⟩ ks 0 0,a0,c0))
  (hT:Hid ((ac7 kind text from' ks>>=k) q=T)) (hok: ∀n a c w1,Hid (Nd.mk kind text ks from' q.at'=n)→Hid (k n q=T)→Hid (Sa E F0 X w0 w1 q bs ((n,a,c)::ns) ro)→K (.returned (.agg #[.int .i64 n.kind,.string n.text,.slice a n.kids.length c,.int .i64 n.from',.int .i64 n.till])) w1):
  Calls Tryz.prog 30 #[.pointer (some ⟨E.b,0,none⟩),.int .i64 kind,.string text,.int .i64 from',.slice a0 ks.length c0] w K:=by
 obtain⟨F,h⟩:=h
 have hks:KsIn E F w ks (.slice a0 ks.length c0):=by
  obtain⟨a',c',hv,h1,h2⟩:=h.ni i hi
  refine⟨a',c',?_,h1,h2⟩
  simp only [Value.agg.injEq] at hv
  have:=congrArg (fun c:Array Value=>c[2]?) hv
  simpa using this
 refine(P.node kind text from' _ _ h.s hks).mono fun e w1 h1=> ?_
 obtain⟨v,rfl,hn,hs,hp⟩:=h1
 obtain⟨a,c,rfl,hn⟩:=hn.form
 exact hok _ a c w1 rfl (bs9 hT) ((h.call hs hp).node hn).a
theorem Sa.nodeR {v0:Value} {l:List Kd} (h:Sa E F0 X w0 w q bs ns (some (v0,l))) (kind:Int) (text:ByteArray) (from':Int) {ks:List Nd} (hk:l.map (·.1)=ks)
  (hT:Hid ((ac7 kind text from' ks>>=k) q=T)) (hok: ∀n a c w1,Hid (Nd.mk kind text ks from' q.at'=n)→Hid (k n q=T)→Hid (Sa E F0 X w0 w1 q bs ((n,a,c)::ns) none)→K (.returned (.agg #[.int .i64 n.kind,.string n.text,.slice a n.kids.length c,.int .i64 n.from',.int .i64 n.till])) w1):
  Calls Tryz.prog 30 #[.pointer (some ⟨E.b,0,none⟩),.int .i64 kind,.string text,.int .i64 from',v0] w K:=by
 obtain⟨F,h⟩:=h
 subst hk
 obtain⟨base,hb0,hb1,hko,hd⟩:=h.r _ _ rfl
 obtain⟨hsf,hkf⟩:=hko.fin h.s
 have h2:Sb E F0 X w0 (fun k=>F k∧v0.ownBlock≠some k) w q bs ns none:=⟨hsf,h.p,fun k hk=>⟨h.le k hk,hko.ne (Nat.lt_of_lt_of_le (h.f0 k hk) hb0)⟩,h.f0,fun b hb=>⟨⟨(h.bx b hb).1,hd b hb⟩,(h.bx b hb).2⟩,h.nd,fun x hx=>(h.n x hx).weak fun _ h=>h.1,fun _ _ e=>by cases e⟩
 refine(P.node kind text from' _ _ hsf hkf).mono fun e w1 h1=> ?_
 obtain⟨v,rfl,hn,hs,hp⟩:=h1
 obtain⟨a,c,rfl,hn⟩:=hn.form
 exact hok _ a c w1 rfl (bs9 hT) ((h2.call hs hp).node hn).a
end
theorem Sa.row0 (h:Sa E F0 X w0 w q bs ns none):Hid (Sa E F0 X w0 w q bs ns (some (.slice none 0 0,[]))):=h.elim fun F h=>
 ⟨F,h.s,h.p,h.le,h.f0,h.bx,h.nd,h.n,fun v l e=>by
  injection e with e
  injection e with e1 e2
  subst e1 e2
  exact⟨w.heap.size,h.p.only.size,Nat.le_refl _,KsO.nil _ _ _ _,fun b _ e=>by cases e⟩⟩
theorem Sa.row1 (h:Sa E F0 X w0 w q bs ns none) (i:Nat) {x:Kd} (hi:nth ns i=some x):Hid (Sa E F0 X w0 (w.alloc (.cells (aa8 x).toArray 27)) q bs ns (some (.slice (some ⟨w.heap.size,0,none⟩) 1 1,[x]))):=h.elim fun F h=>by
 have ho:Only (fun _=>False) w (w.alloc (.cells (aa8 x).toArray 27)):=Only.alloc (Only.refl _ _) _
 obtain⟨F1,h1,h2,h3,h4⟩:=KsO.one h.s (h.n x (ab1 hi)) (ho.mono fun _ h=>h.elim)
 refine⟨F1,h2,(h.keep ho).p,fun k hk=>h1 _ (h.le k hk),h.f0,fun b hb=> ?_,h.nd,fun y hy=>h3 _ _ (h.n y hy),fun v l e=> ?_⟩
 ·obtain⟨a1,a2,a3⟩:=(h.keep ho).bx b hb
  exact⟨h1 _ a1,a2,a3⟩
 ·injection e with e
  injection e with e1 e2
  subst e1 e2
  refine⟨w.heap.size,h.p.only.size,ho.size,h4,fun b hb e=> ?_⟩
  have:=(h.bx b hb).2.1.lt
  have e2:w.heap.size=b.1:=by simpa [Value.ownBlock] using e
  omega
theorem Sa.rowform {v:Value} {l:List Kd} (h:Sa E F0 X w0 w q bs ns (some (v,l))): ∃a c,v= .slice a l.length c:=h.elim fun F h=>by
 obtain⟨base,_,_,hko,_⟩:=h.r _ _ rfl
 rcases hko.own.2 with ⟨hv,hn⟩|⟨g,cap,cur,hv,_⟩
 ·exact⟨none,0,by rw [hv,hn]⟩
 ·exact⟨_,_,hv⟩
theorem Sa.app {v:Value} {l:List Kd} (h:Sa E F0 X w0 w q bs ns (some (v,l))) (i:Nat) {x:Kd} (hi:nth ns i=some x):
  ∃base,w.ownsRow base 27 5 v l.length (l.flatMap aa8)∧base≤w.heap.size∧
   ∀(o:Obj) (w1:World) (v':Value),w1.ownsRow base 27 5 v' (l.length+1) (l.flatMap aa8++aa8 x)→(w.alloc o).grownBy w1 v.ownBlock→(v'.ownBlock=v.ownBlock∨v'.ownBlock=some (w.heap.size+1))→Hid (Sa E F0 X w0 w1 q bs ns (some (v',l++ [x]))):=by
 obtain⟨F,h⟩:=h
 obtain⟨base,hb0,hb1,hko,hd⟩:=h.r _ _ rfl
 refine⟨base,hko.own,hb1,fun o w1 v' hown hg hat=> ?_⟩
 obtain⟨F1,h1,h2,h3,h4,h5,h6⟩:=hko.push h.s (h.n x (ab1 hi)) hown hg hat
 refine⟨F1,h2,h.p.only' h6 h.s.lt (fun e=>h.s.notF (hko.inF _ e)) (fun k e=> .inr (Nat.le_trans hb0 (aa5 hko.own e).2)),fun k hk=>h1 _ (h.le k hk),h.f0,fun b hb=> ?_,h.nd,fun y hy=>h3 _ _ (h.n y hy),fun v2 l2 e=> ?_⟩
 ·obtain⟨a1,a2,a3⟩:=h.bx b hb
  exact⟨h1 _ a1,a2.same (h5 _ a1 (hd b hb)),a3⟩
 ·injection e with e
  injection e with e1 e2
  subst e1 e2
  refine⟨base,hb0,Nat.le_trans hb1 h6.size,h4,fun b hb e=> ?_⟩
  rcases hat with e2|e2
  ·exact hd b hb (e2▸e)
  ·have:=(h.bx b hb).2.1.lt
   rw [e] at e2
   injection e2 with e2
   omega
theorem aK2 {P:Program} {ops:Array Oper} {rest:List Oper} {o:Oper} {a:Act} {Q:Exit→Act→World→Prop} {v:Value} {l:List Kd} (hgd:o.guard=none) (s x:Operand) (t:TypeId)
  (ho:o.op= .call { callee:= .builtin .append,args:= #[s,x],argTypes:= #[t,t] }) (ht:P.underlying t=some (.slice 27)) (hz:(P.info? 27).map (fun i=>(i.zero,i.size,i.bytes))=some (some (.agg #[.int .i64 0,.string ⟨#[]⟩,.slice none 0 0,.int .i64 0,.int .i64 0]),5,64))
  (h:Sa E F0 X w0 w q bs ns (some (v,l))) (i:Nat) {y:Kd} (hi:nth ns i=some y) (hs:a.eval s=v) {g:Nat} (hg:w.heap.size=g) (hx:a.eval x= .slice (some ⟨g,0,none⟩) 1 1) {row:Obj} (hr:row= .cells (aa8 y).toArray 27) (hl:l.length≤1073741824)
  (hok: ∀r c w1,Hid (Sa E F0 X w0 w1 q bs ns (some (.slice r (l.length+1) c,l++ [y])))→wpList P ops Q rest (a.put o.dst (.slice r (l.length+1) c)) w1):wpList P ops Q (o::rest) a (w.alloc row):=by
 obtain⟨base,h1,h2,h3⟩:=h.app i hi
 obtain⟨i0,hi0,hz0,hz1,hz2⟩:=info_parts hz
 subst hg hr
 exact wpList_append_lies (w:=w.alloc _) hgd s x t ho base 27 i0 _ 5 64 ht hi0 hz0 hz1 hz2 rfl (by decide) v l.length (l.flatMap aa8) hs (h1.alloc _) ⟨w.heap.size,0,none⟩ 1 1 (aa8 y) hx rfl (World.news_of_block (heap_alloc_new _ _)) (ad9 _) (by decide) (by unfold maxLen;omega) (by omega) (by rw [World.size_alloc];omega) (w.heap.size+1) (by simp) fun g cap w1 hown hgr hat _=>hok _ _ _ (h3 _ _ _ hown hgr (hat.imp (fun e=>e.symm) fun e=>congrArg some e))
end
section
def CloS {α:Type} (E:PE) (X:Nat→Prop) (cb:List Box) (A:(Nat→Prop)→α→World→Prop) (x:PM α) (k:FuncId) (caps:Array Value):Prop:=
 ∀(F:Nat→Prop) (w:World) (p:Ps),St E F w p→(∀b ∈ cb,F b.1∧BxAt w b.1 b.2.2)→cb.Pairwise BNe→x p≠ .out→Calls Tryz.prog k caps w (Ans E F X w (x p) fun a v w'=>v= .tuple #[]∧A F a w')
def Bx.fits (b c:Bx):Prop:=b=c∨(c= .nb∧∃k t a n cap f u,b= .c5 (.int .i64 k) (.string t) (.slice a n cap) (.int .i64 f) (.int .i64 u) 27)
theorem Bx.fits.at' {b c:Bx} (h:b.fits c) {w:World} {g:Nat} (hb:BxAt w g b):BxAt w g c:=by
 rcases h with rfl|⟨rfl,k,t,a,n,cap,f,u,rfl⟩
 ·exact hb
 ·exact⟨k,t,a,n,cap,f,u,hb⟩
def CapB (bs:List Box):List Nat→List Box→Prop
 |i::is,c::cb=>(∃o b,nth bs i=some (c.1,o,b)∧b.fits c.2.2)∧CapB bs is cb
 | [],[]=>True
 |_,_=>False
theorem CapB.mem {bs:List Box} : ∀ {is:List Nat} {cb:List Box},CapB bs is cb→∀c ∈ cb,∃i ∈ is,∃o b,nth bs i=some (c.1,o,b)∧b.fits c.2.2
 |i::is,c::cb,h,d,hd=>by
  rcases List.mem_cons.1 hd with rfl|hd
  ·exact⟨i,List.mem_cons_self,h.1⟩
  ·obtain⟨j,h1,h2⟩:=CapB.mem h.2 d hd
   exact⟨j,List.mem_cons_of_mem _ h1,h2⟩
 | [],[],_,d,hd=>by cases hd
theorem CapB.ne {bs:List Box} (hp:bs.Pairwise BNe): ∀ {is:List Nat} {cb:List Box},CapB bs is cb→is.Nodup→cb.Pairwise BNe
 |i::is,c::cb,h,hd=>by
  have hd2:=List.nodup_cons.1 hd
  refine List.pairwise_cons.2 ⟨fun d hd3=> ?_,CapB.ne hp h.2 hd2.2⟩
  obtain⟨j,h1,o,b,h2,_⟩:=CapB.mem h.2 d hd3
  obtain⟨o2,b2,h4,_⟩:=h.1
  exact aP5 ag4 hp (x:=(c.1,o2,b2)) (y:=(d.1,o,b)) h4 h2 fun e=>hd2.1 (by rw [e];exact h1)
 | [],[],_,_=>List.Pairwise.nil
variable {E:PE} {F0 F X:Nat→Prop} {w0 w w1:World} {q q1:Ps} {bs:List Box} {ns:List Kd} {ro:Ro}
variable {α β:Type} {x:PM α} {k:α→PM β} {T:Res β} {K:Ending→World→Prop}
theorem Sb.clo {A:(Nat→Prop)→α→World→Prop} {Y:Nat→Prop} {cb:List Box} {kf:FuncId} {caps:Array Value} (h:Sb E F0 X w0 F w q bs ns ro) (hc:CloS E Y cb A x kf caps) (is:List Nat) (hcb:CapB bs is cb) (hd:is.Nodup):
  Clo E F Y (fun w=> ∀b ∈ cb,BxAt w b.1 b.2.2) (A F) x kf caps∧(∀b ∈ cb,BxAt w b.1 b.2.2)∧(∀w1 w2,(∀b ∈ cb,BxAt w1 b.1 b.2.2)→Only (fun j=>j=E.b) w1 w2→∀b ∈ cb,BxAt w2 b.1 b.2.2):=by
 have hF: ∀b ∈ cb,F b.1:=fun b hb=>by
  obtain⟨j,_,o,b2,h2,_⟩:=hcb.mem b hb
  exact(h.bx _ (ab1 h2)).1
 refine⟨fun w2 p hB hs hne=>hc F w2 p hs (fun b hb=>⟨hF b hb,hB b hb⟩) (hcb.ne h.nd hd) hne,fun b hb=> ?_,fun w1 w2 hB ho b hb=>(hB b hb).same (ho.block _ (hB b hb).lt fun e=>h.s.notF (e▸hF b hb))⟩
 obtain⟨j,_,o,b2,h2,h3⟩:=hcb.mem b hb
 exact h3.at' (h.bx _ (ab1 h2)).2.1
def aM2 (E:PE) (A:(Nat→Prop)→α→World→Prop):Prop:= ∀F a w1 w2,A F a w1→¬F E.b→Only (fun j=>j=E.b) w1 w2→(∀k,Own w2 E.b k→Own w1 E.b k)→A F a w2
theorem Sa.deeperG {A:(Nat→Prop)→α→World→Prop} {Y:Nat→Prop} {cb:List Box} {kf:FuncId} {caps:Array Value} (h:Sa E F0 X w0 w q bs ns ro) (hE:E.Ok) (place:Int) (hT:Hid ((ah2 place x>>=k) q=T)) (hn:Hid (T≠ .out)) (hk: ∀W,(callFunc kf caps).run Tryz.prog W= .ok (.enter kf caps) W) (hc:CloS E Y cb A x kf caps) (hA:aM2 E A) (is:List Nat) (hcb:CapB bs is cb) (hd:is.Nodup) (hY: ∀i,Y i→X i∨w0.heap.size≤i)
  (hbad: ∀c i w1,Hid (T= .bad c i∧PB E.b X w0 w1)→K (.panicked (flt c i)) w1)
  (hok: ∀F a q1 w1,Sb E F0 X w0 F w q bs ns ro→St E F w1 q1→PB E.b Y w w1→A F a w1→Hid (k a q1=T)→K (.returned (.tuple #[])) w1):
  Calls Tryz.prog 46 #[.pointer (some ⟨E.b,0,none⟩),.int .i64 place,.func (Fn.func kf) #[] caps] w K:=by
 obtain⟨F,h⟩:=h
 obtain⟨h1,h2,h3⟩:=h.clo hc is hcb hd
 refine(P.deeper hE place hk h1 h2 h3 (fun a w1 w2 ha ho hw=>hA F a w1 w2 ha h.s.notF ho hw) h.s (PM.ne hT hn)).mono fun e w1 h4=> ?_
 rcases PM.cases hT hn with ⟨a,q1,hx,hk⟩|⟨c,i,hx,hk⟩
 ·rw [hx] at h4
  obtain⟨v,rfl,⟨rfl,ha⟩,hs,hp⟩:=h4
  exact hok F a q1 w1 h hs hp ha hk
 ·rw [hx] at h4
  obtain⟨rfl,hp⟩:=h4
  exact hbad c i w1 ⟨hk,h.p.trans' hp hY⟩
theorem Sa.withG {A:(Nat→Prop)→α→World→Prop} {Y:Nat→Prop} {cb:List Box} {kf:FuncId} {caps:Array Value} (h:Sa E F0 X w0 w q bs ns ro) (hE:E.Ok) (on off:Int) (hT:Hid ((am2 on off x>>=k) q=T)) (hn:Hid (T≠ .out)) (hk: ∀W,(callFunc kf caps).run Tryz.prog W= .ok (.enter kf caps) W) (hc:CloS E Y cb A x kf caps) (hA:aM2 E A) (is:List Nat) (hcb:CapB bs is cb) (hd:is.Nodup) (hY: ∀i,Y i→X i∨w0.heap.size≤i)
  (hbad: ∀c i w1,Hid (T= .bad c i∧PB E.b X w0 w1)→K (.panicked (flt c i)) w1)
  (hok: ∀F a q1 w1,Sb E F0 X w0 F w q bs ns ro→St E F w1 q1→PB E.b Y w w1→A F a w1→Hid (k a q1=T)→K (.returned (.tuple #[])) w1):
  Calls Tryz.prog 151 #[.pointer (some ⟨E.b,0,none⟩),.int .i64 on,.int .i64 off,.func (Fn.func kf) #[] caps] w K:=by
 obtain⟨F,h⟩:=h
 obtain⟨h1,h2,h3⟩:=h.clo hc is hcb hd
 refine(P.with hE on off hk h1 h2 h3 (fun a w1 w2 ha ho hw=>hA F a w1 w2 ha h.s.notF ho hw) h.s (PM.ne hT hn)).mono fun e w1 h4=> ?_
 rcases PM.cases hT hn with ⟨a,q1,hx,hk⟩|⟨c,i,hx,hk⟩
 ·rw [hx] at h4
  obtain⟨v,rfl,⟨rfl,ha⟩,hs,hp⟩:=h4
  exact hok F a q1 w1 h hs hp ha hk
 ·rw [hx] at h4
  obtain⟨rfl,hp⟩:=h4
  exact hbad c i w1 ⟨hk,h.p.trans' hp hY⟩
end
section
variable {E:PE} {F0 F X:Nat→Prop} {w0 w w1:World} {q q1:Ps} {bs:List Box} {ns:List Kd} {ro:Ro}
variable {β:Type} {x:PM Nd} {k:Nd→PM β} {T:Res β} {K:Ending→World→Prop}
abbrev InB (E:PE) (g:Nat):(Nat→Prop)→Nd→World→Prop:=fun F n w'=>NdIn E F w' g n
theorem NdIn.steady (g:Nat):aM2 E fun F n w'=>NdIn E F w' g n∧F g:=fun _ _ _ _ h hF ho hw=>⟨h.1.same ho hw fun e=>hF (e▸h.2),h.2⟩
theorem CloS.inF {g:Nat} {cb:List Box} {kf:FuncId} {caps:Array Value} (hc:CloS E (fun j=>j=g) cb (InB E g) x kf caps) {c:Bx} {o:Bool} (hg:(g,o,c) ∈ cb):CloS E (fun j=>j=g) cb (fun F n w'=>NdIn E F w' g n∧F g) x kf caps:=fun F w p hs hb hp hne=>
 (hc F w p hs hb hp hne).mono fun e w' h=>by
  cases hx:x p with
  |ok a q=>rw [hx] at h;obtain⟨v,h1,h2,h3⟩:=h;exact⟨v,h1,⟨h2.1,h2.2,(hb _ hg).1⟩,h3⟩
  |bad c i=>rw [hx] at h;exact h
  |out=>trivial
theorem Sb.inB (h:Sb E F0 X w0 F w q bs ns ro) (i:Nat) {g:Nat} {b:Bx} (hb:nth bs i=some (g,true,b)) (hs:St E F w1 q1) (hp:PB E.b (fun j=>j=g) w w1) {n:Nd} (ha:NdIn E F w1 g n): ∃a c,Hid (Sa E F0 X w0 w1 q1 (ae4 bs i (g,true,.nd n a c)) ((n,a,c)::ns) ro):=by
 obtain⟨a,c,hbx,hn⟩:=ha
 exact⟨a,c,((h.callc i hb hs hp (c:= .nd n a c) hbx).node hn).a⟩
theorem Sa.deeper {g:Nat} {cb:List Box} {kf:FuncId} {caps:Array Value} (h:Sa E F0 X w0 w q bs ns ro) (hE:E.Ok) (place:Int) (hT:Hid ((ah2 place x>>=k) q=T)) (hn:Hid (T≠ .out)) (hk: ∀W,(callFunc kf caps).run Tryz.prog W= .ok (.enter kf caps) W) (hc:CloS E (fun j=>j=g) cb (InB E g) x kf caps) {c0:Bx} {o:Bool} (hg:(g,o,c0) ∈ cb) (is:List Nat) (hcb:CapB bs is cb) (hd:is.Nodup) (i:Nat) {b:Bx} (hb:nth bs i=some (g,true,b))
  (hbad: ∀c i w1,Hid (T= .bad c i∧PB E.b X w0 w1)→K (.panicked (flt c i)) w1)
  (hok: ∀n a c q1 w1,Hid (k n q1=T)→Hid (Sa E F0 X w0 w1 q1 (ae4 bs i (g,true,.nd n a c)) ((n,a,c)::ns) ro)→K (.returned (.tuple #[])) w1):
  Calls Tryz.prog 46 #[.pointer (some ⟨E.b,0,none⟩),.int .i64 place,.func (Fn.func kf) #[] caps] w K:=
 h.deeperG hE place hT hn hk (hc.inF hg) (NdIn.steady g) is hcb hd (fun j hj=>by subst hj;exact h.elim fun _ h=>(h.bx _ (ab1 hb)).2.2 rfl) hbad fun F n q1 w1 h hs hp ha hT=>by
  obtain⟨a,c,h2⟩:=h.inB i hb hs hp ha.1
  exact hok n a c q1 w1 hT h2
theorem Sa.with {g:Nat} {cb:List Box} {kf:FuncId} {caps:Array Value} (h:Sa E F0 X w0 w q bs ns ro) (hE:E.Ok) (on off:Int) (hT:Hid ((am2 on off x>>=k) q=T)) (hn:Hid (T≠ .out)) (hk: ∀W,(callFunc kf caps).run Tryz.prog W= .ok (.enter kf caps) W) (hc:CloS E (fun j=>j=g) cb (InB E g) x kf caps) {c0:Bx} {o:Bool} (hg:(g,o,c0) ∈ cb) (is:List Nat) (hcb:CapB bs is cb) (hd:is.Nodup) (i:Nat) {b:Bx} (hb:nth bs i=some (g,true,b))
  (hbad: ∀c i w1,Hid (T= .bad c i∧PB E.b X w0 w1)→K (.panicked (flt c i)) w1)
  (hok: ∀n a c q1 w1,Hid (k n q1=T)→Hid (Sa E F0 X w0 w1 q1 (ae4 bs i (g,true,.nd n a c)) ((n,a,c)::ns) ro)→K (.returned (.tuple #[])) w1):
  Calls Tryz.prog 151 #[.pointer (some ⟨E.b,0,none⟩),.int .i64 on,.int .i64 off,.func (Fn.func kf) #[] caps] w K:=
 h.withG hE on off hT hn hk (hc.inF hg) (NdIn.steady g) is hcb hd (fun j hj=>by subst hj;exact h.elim fun _ h=>(h.bx _ (ab1 hb)).2.2 rfl) hbad fun F n q1 w1 h hs hp ha hT=>by
  obtain⟨a,c,h2⟩:=h.inB i hb hs hp ha.1
  exact hok n a c q1 w1 hT h2
theorem Sa.gotdeeper {g:Nat} {n:Nd} {cb:List Box} {kf:FuncId} {caps:Array Value} (h:Sa E F0 X w0 w q bs ns ro) (hE:E.Ok) (place:Int) (hx:Hid (ah2 place x q= .ok n q1)) (hk: ∀W,(callFunc kf caps).run Tryz.prog W= .ok (.enter kf caps) W) (hc:CloS E (fun j=>j=g) cb (InB E g) x kf caps) {c0:Bx} {o:Bool} (hg:(g,o,c0) ∈ cb) (is:List Nat) (hcb:CapB bs is cb) (hd:is.Nodup) (i:Nat) {b:Bx} (hb:nth bs i=some (g,true,b))
  (hok: ∀a c w1,Hid (Sa E F0 X w0 w1 q1 (ae4 bs i (g,true,.nd n a c)) ((n,a,c)::ns) ro)→K (.returned (.tuple #[])) w1):
  Calls Tryz.prog 46 #[.pointer (some ⟨E.b,0,none⟩),.int .i64 place,.func (Fn.func kf) #[] caps] w K:=
 h.deeper hE place (k:=fun n=>pure n) (T:= .ok n q1) (by show PM.bind _ _ _=_;unfold PM.bind;rw [show ah2 place x q= .ok n q1 from hx];rfl) (fun e=>by cases e) hk hc hg is hcb hd i hb (fun c i w1 h=>by cases h.out.1) fun n' a c q1' w1 hT h2=>by
  have e:(Res.ok n' q1':Res Nd)= .ok n q1:=hT
  injection e with e1 e2
  subst e1 e2
  exact hok a c w1 h2
theorem Sa.gotbaddeeper {γ:Type} {T:Res γ} {c1 i1:Int} {g:Nat} {cb:List Box} {kf:FuncId} {caps:Array Value} (h:Sa E F0 X w0 w q bs ns ro) (hE:E.Ok) (place:Int) (hx:Hid (ah2 place x q= .bad c1 i1)) (hT:Hid (T= .bad c1 i1)) (hk: ∀W,(callFunc kf caps).run Tryz.prog W= .ok (.enter kf caps) W) (hc:CloS E (fun j=>j=g) cb (InB E g) x kf caps) {c0:Bx} {o:Bool} (hg:(g,o,c0) ∈ cb) (is:List Nat) (hcb:CapB bs is cb) (hd:is.Nodup) (i:Nat) {b:Bx} (hb:nth bs i=some (g,true,b))
  (hbad: ∀w1,Hid (T= .bad c1 i1∧PB E.b X w0 w1)→K (.panicked (flt c1 i1)) w1) (_:Hid False→K (.returned (.tuple #[])) w):
  Calls Tryz.prog 46 #[.pointer (some ⟨E.b,0,none⟩),.int .i64 place,.func (Fn.func kf) #[] caps] w K:=
 h.deeper hE place (k:=fun n=>pure n) (T:= .bad c1 i1) (by show PM.bind _ _ _=_;unfold PM.bind;rw [show ah2 place x q= .bad c1 i1 from hx]) (fun e=>by cases e) hk hc hg is hcb hd i hb (fun c i w1 h=>by
  have e:=h.out.1
  injection e with e1 e2
  subst e1 e2
  exact hbad w1 ⟨hT,h.out.2⟩) fun n' a c q1' w1 hT h2=>by
   have e:(Res.ok n' q1':Res Nd)= .bad c1 i1:=hT
   cases e
end
section
variable {E:PE} {F0 F X:Nat→Prop} {w0 w w1 W:World} {q q1:Ps} {bs:List Box} {ns:List Kd} {ro:Ro}
variable {fn:Func} {r u:Tmp} {tmps:Array Value} {g:Nat} {n:Nd} {a:Option Addr} {c:Nat} {t:Tk} {b:Bx}
theorem Sb.ans {α:Type} {T:Res α} {y:α} {v:Value} {A:α→Value→World→Prop} (h:Sb E F0 X w0 F w q bs ns ro) (ht:T= .ok y q) (hA:A y v w):Ans E F0 X w0 T A (.returned v) w:=Ans.ok ht hA (h.s.weak h.le) h.p
theorem Sa.ans {α:Type} {T:Res α} {y:α} {v:Value} {A:α→Value→World→Prop} (h:Sa E F0 X w0 w q bs ns ro) (ht:T= .ok y q) (hA:A y v w):Ans E F0 X w0 T A (.returned v) w:=h.elim fun _ h=>h.ans ht hA
theorem Sa.fin_nd {T:Res Nd} (h:Sa E F0 X w0 w q bs ns ro) (i j:Nat) (hr:fn.results= #[.cell r 27]) (hr2:tmps.getD r undef= .pointer (some ⟨g,0,none⟩)) (hb:nth bs i=some (g,true,b)) (ht2:b.ty=some 27) (hn:nth ns j=some (n,a,c)) (ht:T= .ok n q):
  bodyPost Tryz.prog fn (Ans E F0 X w0 T fun n v w'=>IsP E F0 w' n v) Exit.ret { tmps:=tmps,defers:= [] } (((((w.setCell ⟨g,0,none⟩ (.int .i64 n.kind)).setCell ⟨g,1,none⟩ (.string n.text)).setCell ⟨g,2,none⟩ (.slice a n.kids.length c)).setCell ⟨g,3,none⟩ (.int .i64 n.from')).setCell ⟨g,4,none⟩ (.int .i64 n.till)):=by
 obtain⟨F,h⟩:=h
 have h2:=h.set5 i hb ht2 (.int .i64 n.kind) (.string n.text) (.slice a n.kids.length c) (.int .i64 n.from') (.int .i64 n.till)
 exact bodyPost_ret (aF3 hr _ _ g hr2 ((h.bx _ (ab1 hb)).2.1.set5 ht2 _ _ _ _ _)) rfl (h2.ans ht ((h2.ni j hn).weak h2.le))
theorem Sa.fin_ndA {T:Res Nd} (h:Sa E F0 X w0 w q bs ns ro) (i j:Nat) {o:Obj} (hr:fn.results= #[.cell r 27]) (hr2:tmps.getD r undef= .pointer (some ⟨g,0,none⟩)) (hb:nth bs i=some (g,true,b)) (ht2:b.ty=some 27) (hn:nth ns j=some (n,a,c)) (ht:T= .ok n q):
  bodyPost Tryz.prog fn (Ans E F0 X w0 T fun n v w'=>IsP E F0 w' n v) Exit.ret { tmps:=tmps,defers:= [] } ((((((w.setCell ⟨g,0,none⟩ (.int .i64 n.kind)).setCell ⟨g,1,none⟩ (.string n.text)).setCell ⟨g,2,none⟩ (.slice a n.kids.length c)).setCell ⟨g,3,none⟩ (.int .i64 n.from')).setCell ⟨g,4,none⟩ (.int .i64 n.till)).alloc o):=by
 obtain⟨F,h⟩:=h
 have h2:=(h.set5 i hb ht2 (.int .i64 n.kind) (.string n.text) (.slice a n.kids.length c) (.int .i64 n.from') (.int .i64 n.till)).keep (Only.alloc (Only.refl _ _) o)
 exact bodyPost_ret (aF3 hr _ _ g hr2 (ab0.alloc ((h.bx _ (ab1 hb)).2.1.set5 ht2 _ _ _ _ _) o)) rfl (h2.ans ht ((h2.ni j hn).weak h2.le))
theorem Sa.fin_nb {T:Res (Nd × Bool)} {v:Bool} (h:Sa E F0 X w0 w q bs ns ro) (i j:Nat) (hr:fn.results= #[.cell r 27,.tmp u]) (hr2:tmps.getD r undef= .pointer (some ⟨g,0,none⟩)) (hu:tmps.getD u undef= .bool v) (hb:nth bs i=some (g,true,b)) (ht2:b.ty=some 27) (hn:nth ns j=some (n,a,c)) (ht:T= .ok (n,v) q):
  bodyPost Tryz.prog fn (Ans E F0 X w0 T fun r v w'=> ∃u,v= .tuple #[u,.bool r.2]∧IsP E F0 w' r.1 u) Exit.ret { tmps:=tmps,defers:= [] } (((((w.setCell ⟨g,0,none⟩ (.int .i64 n.kind)).setCell ⟨g,1,none⟩ (.string n.text)).setCell ⟨g,2,none⟩ (.slice a n.kids.length c)).setCell ⟨g,3,none⟩ (.int .i64 n.from')).setCell ⟨g,4,none⟩ (.int .i64 n.till)):=by
 obtain⟨F,h⟩:=h
 have h2:=h.set5 i hb ht2 (.int .i64 n.kind) (.string n.text) (.slice a n.kids.length c) (.int .i64 n.from') (.int .i64 n.till)
 exact bodyPost_ret (ay9 hr _ _ g hr2 ((h.bx _ (ab1 hb)).2.1.set5 ht2 _ _ _ _ _)) rfl (h2.ans ht ⟨_,by rw [hu];rfl,(h2.ni j hn).weak h2.le⟩)
theorem Sa.fin_ti {T:Res (Tk × Int)} {i1:Int} {W:World} (h:Sa E F0 X w0 w q bs ns ro) (i:Nat) (hr:fn.results= #[.cell r 49,.tmp u]) (hr2:tmps.getD r undef= .pointer (some ⟨g,0,none⟩)) (hu:tmps.getD u undef= .int .i64 i1) (hb:nth bs i=some (g,true,b)) (ht2:b.ty=some 49) (ht:T= .ok (t,i1) q)
  (hW:Only (fun _=>False) (((((w.setCell ⟨g,0,none⟩ (.int .i64 t.kind)).setCell ⟨g,1,none⟩ (.string t.text)).setCell ⟨g,2,none⟩ (.int .i64 t.from')).setCell ⟨g,3,none⟩ (.int .i64 t.till)).setCell ⟨g,4,none⟩ (.bool t.line)) W):
  bodyPost Tryz.prog fn (Ans E F0 X w0 T fun r v _=>v= .tuple #[.agg #[.int .i64 r.1.kind,.string r.1.text,.int .i64 r.1.from',.int .i64 r.1.till,.bool r.1.line],.int .i64 r.2]) Exit.ret { tmps:=tmps,defers:= [] } W:=by
 obtain⟨F,h⟩:=h
 have h2:=(h.set5 i hb ht2 (.int .i64 t.kind) (.string t.text) (.int .i64 t.from') (.int .i64 t.till) (.bool t.line)).keep hW
 have hx:BxAt W g (.tk t):=((h.bx _ (ab1 hb)).2.1.set5 ht2 (.int .i64 t.kind) (.string t.text) (.int .i64 t.from') (.int .i64 t.till) (.bool t.line)).same (hW.block _ ((h.bx _ (ab1 hb)).2.1.set5 ht2 _ _ _ _ _).lt id)
 exact bodyPost_ret (bF9 (x:=t) hr _ _ g hr2 hx) rfl (h2.ans ht (by rw [hu];rfl))
theorem Sa.fin_cl {T:Res Nd} (h:Sa E F0 X w0 w q bs ns ro) (i j:Nat) (hr:fn.results= #[]) (hb:nth bs i=some (g,true,b)) (ht2:b.ty=some 27) (hn:nth ns j=some (n,a,c)) (ht:T= .ok n q):
  bodyPost Tryz.prog fn (Ans E F0 X w0 T fun n v w'=>v= .tuple #[]∧NdIn E F0 w' g n) Exit.normal { tmps:=tmps,defers:= [] } (((((w.setCell ⟨g,0,none⟩ (.int .i64 n.kind)).setCell ⟨g,1,none⟩ (.string n.text)).setCell ⟨g,2,none⟩ (.slice a n.kids.length c)).setCell ⟨g,3,none⟩ (.int .i64 n.from')).setCell ⟨g,4,none⟩ (.int .i64 n.till)):=by
 obtain⟨F,h⟩:=h
 have h2:=h.set5 i hb ht2 (.int .i64 n.kind) (.string n.text) (.slice a n.kids.length c) (.int .i64 n.from') (.int .i64 n.till)
 exact bodyPost_end (results_none hr _ _ _) rfl (h2.ans ht ⟨rfl,a,c,(h.bx _ (ab1 hb)).2.1.set5 ht2 _ _ _ _ _,(h2.ni j hn).weak h2.le⟩)
theorem Sa.fin_cl0 {T:Res Nd} {o:Bool} (h:Sa E F0 X w0 w q bs ns ro) (i j:Nat) (hr:fn.results= #[]) (hb:nth bs i=some (g,o,.nd n a c)) (hn:nth ns j=some (n,a,c)) (ht:T= .ok n q):
  bodyPost Tryz.prog fn (Ans E F0 X w0 T fun n v w'=>v= .tuple #[]∧NdIn E F0 w' g n) Exit.normal { tmps:=tmps,defers:= [] } w:=by
 obtain⟨F,h⟩:=h
 exact bodyPost_end (results_none hr _ _ _) rfl (h.ans ht ⟨rfl,a,c,(h.bx _ (ab1 hb)).2.1,(h.ni j hn).weak h.le⟩)
theorem Sa.fin_u {α:Type} {T:Res α} {y:α} {A:α→Value→World→Prop} (h:Sa E F0 X w0 w q bs ns ro) (hr:fn.results= #[]) (ht:T= .ok y q) (hA:A y (.tuple #[]) w):bodyPost Tryz.prog fn (Ans E F0 X w0 T A) Exit.normal { tmps:=tmps,defers:= [] } w:=bodyPost_end (results_none hr _ _ _) rfl (h.ans ht hA)
theorem Sa.fin_ur {α:Type} {T:Res α} {y:α} {A:α→Value→World→Prop} (h:Sa E F0 X w0 w q bs ns ro) (hr:fn.results= #[]) (ht:T= .ok y q) (hA:A y (.tuple #[]) w):bodyPost Tryz.prog fn (Ans E F0 X w0 T A) Exit.ret { tmps:=tmps,defers:= [] } w:=bodyPost_ret (results_none hr _ _ _) rfl (h.ans ht hA)
theorem Sa.fin_ks {T:Res (List Nd)} {v:Value} {l:List Kd} (h:Sa E F0 X w0 w q bs ns (some (v,l))) (hr:fn.results= #[.tmp r]) (hv:tmps.getD r undef=v) (ht:T= .ok (l.map (·.1)) q):
  bodyPost Tryz.prog fn (Ans E F0 X w0 T fun ks v w'=>KsIn E F0 w' ks v) Exit.ret { tmps:=tmps,defers:= [] } w:=by
 obtain⟨F,h⟩:=h
 obtain⟨base,hb0,hb1,hko,hd⟩:=h.r _ _ rfl
 obtain⟨h1,h2⟩:=hko.fin h.s
 have hF2: ∀k,F0 k→F k∧v.ownBlock≠some k:=fun k hf=>⟨h.le k hf,hko.ne (Nat.lt_of_lt_of_le (h.f0 k hf) hb0)⟩
 obtain⟨a,c,rfl,h3,h4⟩:=h2
 exact bodyPost_ret (results_tmp hr _ _ _) rfl (Ans.ok ht (hv▸⟨a,c,rfl,h3,ab2 (fun k hk=>⟨hk.1,hk.2.1,fun h=>hk.2.2 (hF2 k h)⟩) (fun _ _=>rfl) h4⟩) (h1.weak hF2) h.p)
theorem Sa.bad {α:Type} {T:Res α} {c i:Int} (h:Sa E F0 X w0 w q bs ns ro) (ht:T= .bad c i):Hid (T= .bad c i∧PB E.b X w0 w):=h.elim fun _ h=>⟨ht,h.p⟩
theorem Sa.odd {K:Ending→World→Prop} (h:Sa E F0 X w0 w q bs ns ro) (hk:K (.panicked (flt 1001 q.tok.from')) w):Calls Tryz.prog 19 #[.pointer (some ⟨E.b,0,none⟩)] w K:=h.elim fun _ h=>(P.odd h.s).mono fun e w' ⟨h1,h2⟩=>by subst h1 h2;exact hk
end
end
end Go.Proofs.YtnobjeelihkjmaaGreatDoor
