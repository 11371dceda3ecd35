/- Steps (Vb0 Wf0 Dp). Conditions: as stated. -/
import Derived.Test.YtokfgpjclmdllaaGreatDoorPn29
set_option maxHeartbeats 1000000
set_option maxRecDepth 100000
namespace Go.Proofs.YtokfgpjclmdllaaGreatDoor
section
open Go.RowKit
attribute [local go_sem] aa8 aa9 ab0 ab1 ab2 ab3
attribute [local go_sem ↓] Go.wp_at_zero Go.wp_at_succ
section
variable {E:PE} {F0 F X:Nat→Prop} {w0 w W:World} {q:Ps} {bs:List Box} {ns:List Kd} {ro:Option (Value × List Kd)}
theorem Sa.set34 (h:Sa E F0 X w0 w q bs ns ro) (i:Nat) {g:Nat} {v0 v1 v2 v3 v4:Value} {t:TypeId} (hb:nth bs i=some (g,true,.c5 v0 v1 v2 v3 v4 t)) (u3 u4:Value):
  ∃W,(w.setCell ⟨g,3,none⟩ u3).setCell ⟨g,4,none⟩ u4=W∧Hid (Sa E F0 X w0 W q (ac9 bs i (g,true,.c5 v0 v1 v2 u3 u4 t)) ns ro):=by
 obtain⟨F,h⟩:=h
 refine⟨_,rfl,F,?_⟩
 have hat:w.heap[g]? =some (.cells #[v0,v1,v2,v3,v4] t (0,0)):=(h.bx _ (aa3 hb)).2.1
 have e0:=heap_setCell_same _ g 3 _ _ u3 hat
 have e1:=heap_setCell_same _ g 4 _ _ u4 e0
 have e2:((w.setCell ⟨g,3,none⟩ u3).setCell ⟨g,4,none⟩ u4).heap[g]? =some (.cells #[v0,v1,v2,u3,u4] t (0,0)):=by simpa using e1
 exact h.setW (b':= .c5 v0 v1 v2 u3 u4 t) i hb (Only.setCell (X:=fun k=>k=g) (Only.setCell (X:=fun k=>k=g) (Only.refl _ _) (p:=⟨g,3,none⟩) (.inl rfl) _) (p:=⟨g,4,none⟩) (.inl rfl) _) e2
end
end
section
open Go.RowKit
section
variable {E:PE} {F0 F X:Nat→Prop} {w0 w w1 W:World} {q q1:Ps} {bs bs':List Box} {ns:List Kd} {ro:Ro}
theorem Sb.perm (h:Sb E F0 X w0 F w q bs ns ro) (hp:bs'.Perm bs):Sb E F0 X w0 F w q bs' ns ro:=
 ⟨h.s,h.p,h.le,h.f0,fun b hb=>h.bx b (hp.subset hb),(hp.pairwise_iff (fun h e=>h e.symm)).2 h.nd,h.n,fun v l e=>by
  obtain⟨base,h1,h2,h3,h4⟩:=h.r v l e
  exact⟨base,h1,h2,h3,fun b hb=>h4 b (hp.subset hb)⟩⟩
theorem Sa.perm (h:Sa E F0 X w0 w q bs ns ro) (hp:bs'.Perm bs):Hid (Sa E F0 X w0 w q bs' ns ro):=h.elim fun _ h=>⟨_,h.perm hp⟩
theorem Sa.back {b:Box} (h:Sa E F0 X w0 w q (b::bs) ns ro):Hid (Sa E F0 X w0 w q (bs++ [b]) ns ro):=h.elim fun _ h=>⟨_,h.perm (List.perm_append_singleton b bs)⟩
theorem Sa.setc2 (h:Sa E F0 X w0 w q bs ns ro) (i:Nat) {g:Nat} {v0 v1 v2 v3 v4:Value} {t:TypeId} (hb:nth bs i=some (g,true,.c5 v0 v1 v2 v3 v4 t)) (u:Value):Hid (Sa E F0 X w0 (w.setCell ⟨g,2,none⟩ u) q (ac9 bs i (g,true,.c5 v0 v1 u v3 v4 t)) ns ro):=by
 obtain⟨F,h⟩:=h
 have hat:w.heap[g]? =some (.cells #[v0,v1,v2,v3,v4] t (0,0)):=(h.bx _ (aa3 hb)).2.1
 have e0:=heap_setCell_same _ g 2 _ _ u hat
 have e2:(w.setCell ⟨g,2,none⟩ u).heap[g]? =some (.cells #[v0,v1,u,v3,v4] t (0,0)):=by simpa using e0
 exact⟨F,h.setW (b':= .c5 v0 v1 u v3 v4 t) i hb (Only.setCell (X:=fun k=>k=g) (Only.refl _ _) (p:=⟨g,2,none⟩) (.inl rfl) _) e2⟩
theorem Sa.setc4 (h:Sa E F0 X w0 w q bs ns ro) (i:Nat) {g:Nat} {v0 v1 v2 v3 v4:Value} {t:TypeId} (hb:nth bs i=some (g,true,.c5 v0 v1 v2 v3 v4 t)) (u:Value):Hid (Sa E F0 X w0 (w.setCell ⟨g,4,none⟩ u) q (ac9 bs i (g,true,.c5 v0 v1 v2 v3 u t)) ns ro):=by
 obtain⟨F,h⟩:=h
 have hat:w.heap[g]? =some (.cells #[v0,v1,v2,v3,v4] t (0,0)):=(h.bx _ (aa3 hb)).2.1
 have e0:=heap_setCell_same _ g 4 _ _ u hat
 have e2:(w.setCell ⟨g,4,none⟩ u).heap[g]? =some (.cells #[v0,v1,v2,v3,u] t (0,0)):=by simpa using e0
 exact⟨F,h.setW (b':= .c5 v0 v1 v2 v3 u t) i hb (Only.setCell (X:=fun k=>k=g) (Only.refl _ _) (p:=⟨g,4,none⟩) (.inl rfl) _) e2⟩
theorem aF8 {P:Program} {ops:Array Oper} {o:Oper} {a:Act} {K:Act→World→Prop} {Q:Exit→Act→World→Prop} {G:Prop} {v:Value} {l:List Kd} (hgd:o.guard=none) (s x:Operand) (t:TypeId)
  (ho:o.op= .call { callee:= .builtin .append,args:= #[s,x],argTypes:= #[t,t] }) (ht:P.underlying t=some (.slice 26)) (hz:(P.info? 26).map (fun i=>(i.zero,i.size,i.bytes))=some (some (.agg #[.int .i64 0,.string ⟨#[]⟩,.slice none 0 0,.int .i64 0,.int .i64 0]),5,64))
  (h:Sa E F0 X w0 w q bs ns (some (v,l))) (j:Nat) {g:Nat} {ow:Bool} (hj:nth bs j=some (g,ow,.z)) (hs:a.eval s=v) (hx:a.eval x= .slice (some ⟨g,0,none⟩) 1 1) (hl:l.length≤1073741824)
  (hok: ∀r c w1,Hid (Sa E F0 X w0 w1 q bs ns (some (.slice (some ⟨r,0,none⟩) (l.length+1) c,l++ [(Nd.zero,none,0)])))→K (a.put o.dst (.slice (some ⟨r,0,none⟩) (l.length+1) c)) w1):if Region.wanted o (yielded ops a.tmps)=true then Oper.wp P o a w K Q else G:=by
 obtain⟨F,h⟩:=h
 obtain⟨base,hb0,hb1,hko,hd⟩:=h.r _ _ rfl
 obtain⟨i0,hi0,hz0,hz1,hz2⟩:=info_parts hz
 have hat:w.heap[g]? =some (.cells #[.int .i64 0,.string ⟨#[]⟩,.slice none 0 0,.int .i64 0,.int .i64 0] 26 (0,0)):=(h.bx _ (aa3 hj)).2.1
 refine step_append_lies w hgd s x t ho base 26 i0 _ 5 64 ht hi0 hz0 hz1 hz2 rfl (by decide) v l.length (l.flatMap aa7) hs hko.own ⟨g,0,none⟩ 1 1 (aa7 (Nd.zero,none,0)) hx rfl (World.news_of_block hat) (am4 _) (by decide) (by unfold maxLen;omega) (by omega) hb1 w.heap.size rfl fun r cap w1 hown hgr hat' _=>hok _ _ _ ?_
 have hat2:(Value.slice (some ⟨r,0,none⟩) (l.length+1) cap).ownBlock=v.ownBlock∨(Value.slice (some ⟨r,0,none⟩) (l.length+1) cap).ownBlock=some w.heap.size:=hat'.imp (fun e=>e.symm) fun e=>congrArg some e
 obtain⟨F1,h1,h2,h3,h4,h5,h6⟩:=KsO.push0 (x:=(Nd.zero,none,0)) h.s hko (aw9 E F w) hown hgr hat2
 refine⟨F1,h2,h.p.only' h6 h.s.lt (fun e=>h.s.notF (hko.inF _ e)) (fun k e=> .inr (Nat.le_trans hb0 (aa6 hko.own e).2)),fun k hk=>h1 _ (h.le k hk),h.f0,fun b hb=> ?_,h.nd,fun y hy=>h3 _ _ (h.n y hy),fun v2 l2 e=> ?_⟩
 ·obtain⟨a1,a2,a3⟩:=h.bx b hb
  exact⟨h1 _ a1,a2.same (h5 _ a1 (hd b hb)),a3⟩
 ·injection e with e
  injection e with e1 e2
  subst e1 e2
  refine⟨base,hb0,Nat.le_trans hb1 h6.size,h4,fun b hb e=> ?_⟩
  rcases hat2 with e2|e2
  ·exact hd b hb (e2▸e)
  ·have:=(h.bx b hb).2.1.lt
   rw [e] at e2
   injection e2 with e2
   omega
section
variable {r c:Nat} {l:List Kd}
theorem Sa.lastF (h:Sa E F0 X w0 w q bs ns (some (.slice (some ⟨r,0,none⟩) (l.length+1) c,l++ [(Nd.zero,none,0)]))):
  (w.frozen? ⟨r,l.length*5,none⟩=false∧w.frozen? ⟨r,l.length*5+1,none⟩=false∧w.frozen? ⟨r,l.length*5+2,none⟩=false∧w.frozen? ⟨r,l.length*5+3,none⟩=false∧w.frozen? ⟨r,l.length*5+4,none⟩=false)∧w.cell? ⟨r,l.length*5,none⟩=some (.int .i64 0)∧w.cell? ⟨r,l.length*5+1,none⟩=some (.string ⟨#[]⟩)∧w.cell? ⟨r,l.length*5+2,none⟩=some (.slice none 0 0)∧w.cell? ⟨r,l.length*5+3,none⟩=some (.int .i64 0)∧w.cell? ⟨r,l.length*5+4,none⟩=some (.int .i64 0)∧r<w.heap.size:=by
 obtain⟨F,h⟩:=h
 obtain⟨base,_,_,hko,_⟩:=h.r _ _ rfl
 exact hko.last
theorem Sa.lastE (h:Sa E F0 X w0 w q bs ns (some (.slice (some ⟨r,0,none⟩) (l.length+1) c,l++ [(Nd.zero,none,0)]))) (i:Nat) {n:Nd} {a:Option Addr} {cn:Nat} (hi:nth ns i=some (n,a,cn)):
  Hid (Sa E F0 X w0 (((((w.setCell ⟨r,l.length*5,none⟩ (.int .i64 n.kind)).setCell ⟨r,l.length*5+1,none⟩ (.string n.text)).setCell ⟨r,l.length*5+2,none⟩ (.slice a n.kids.length cn)).setCell ⟨r,l.length*5+3,none⟩ (.int .i64 n.from')).setCell ⟨r,l.length*5+4,none⟩ (.int .i64 n.till)) q bs ns (some (.slice (some ⟨r,0,none⟩) (l.length+1) c,l++ [(n,a,cn)]))):=by
 obtain⟨F,h⟩:=h
 obtain⟨base,hb0,hb1,hko,hd⟩:=h.r _ _ rfl
 obtain⟨h1,h2,h3⟩:=KsO.setLast h.s (x:=(n,a,cn)) hko (h.n _ (aa3 hi)) rfl
 have hb:=(aa6 hko.own (g:=r) rfl).2
 have hf: ∀k,k=r→F k:=fun _ e=>e▸h3
 exact⟨F,h.s.only (h2.mono hf),h.p.adv h.s (h2.mono fun k e=>⟨hf k e,.inr (e▸Nat.le_trans hb0 hb)⟩),h.le,h.f0,fun b hb=>⟨(h.bx b hb).1,(h.bx b hb).2.1.same (h2.block _ (h.bx b hb).2.1.lt fun e=>hd b hb (by rw [e];rfl)),(h.bx b hb).2.2⟩,h.nd,fun x hx=>(h.n x hx).only (h2.mono hf) h.s.lt h.s.notF,fun v2 l2 e=>by
  injection e with e
  injection e with e1 e2
  subst e1 e2
  exact⟨base,hb0,Nat.le_trans hb1 h2.size,h1,hd⟩⟩
end
section
variable {K:Ending→World→Prop}
theorem bk2 (h:Sa E F0 X w0 w q bs ns ro) (kind:Int) (text:ByteArray) (from':Int) {x:Nd} {a:Option Addr} {c g:Nat} (j:Nat) (hj:nth bs j=some (g,true,.nd x a c)) (i:Nat) (hi:nth ns i=some (x,a,c)) {n:Nd} (hq:Hid (Nd.mk kind text [x] from' q.at'=n)) (is:List Nat) (hd:is.Nodup) (hn:j ∉ is) (hX: ∀k,¬X k)
  (hok: ∀a c w1,Hid (Sa E F0 X w0 w1 q (pick bs is) ((n,a,c)::ns) ro)→K (.returned (.agg #[.int .i64 n.kind,.string n.text,.slice a n.kids.length c,.int .i64 n.from',.int .i64 n.till])) w1):
  Calls Tryz.prog 37 #[.pointer (some ⟨E.b,0,none⟩),.int .i64 kind,.string text,.int .i64 from',.slice (some ⟨g,0,none⟩) 1 1] w K:=by
 obtain⟨F,h⟩:=h
 have hbx:=h.bx _ (aa3 hj)
 have hat:w.heap[g]? =some (.cells (aa7 (x,a,c)).toArray 26 (0,0)):=hbx.2.1
 have hF:F g:=hbx.1
 have hg: ¬F0 g:=fun e=>by
  rcases hbx.2.2 rfl with h1|h1
  ·exact hX _ h1
  ·have:=h.f0 _ e
   omega
 have hx:IsP E F w x (.agg #[.int .i64 x.kind,.string x.text,.slice a x.kids.length c,.int .i64 x.from',.int .i64 x.till]):=h.ni i hi
 have hko:KsO E F w g (.slice (some ⟨g,0,none⟩) 1 1) [(x,a,c)]:=⟨⟨rfl,.inr ⟨_,1,_,rfl,Nat.le_refl _,hat,Nat.le_refl _,by decide,rfl,rfl⟩⟩,fun y hy=>by
  simp only [List.mem_cons,List.not_mem_nil,or_false] at hy
  subst hy
  exact hx,fun k hk=>by
  have e:g=k:=by simpa [Value.ownBlock] using hk
  exact e▸hF⟩
 obtain⟨hsf,hkf⟩:=hko.fin h.s
 have hne: ∀k,k≠g→(Value.slice (some ⟨g,0,none⟩) 1 1).ownBlock≠some k:=fun k hk e=>hk (by simpa [Value.ownBlock] using e.symm)
 have hp:=h.pick is (List.range ns.length) hd
 have h2:Sb E F0 X w0 (fun k=>F k∧(Value.slice (some ⟨g,0,none⟩) 1 1).ownBlock≠some k) w q (pick bs is) ns ro:=⟨hsf,h.p,fun k hk=>⟨h.le k hk,hne k fun e=>hg (e▸hk)⟩,h.f0,fun b hb=>by
  obtain⟨i',h1,h2⟩:=ao3 hb
  have:=aO8 af9 h.nd h2 hj (fun e=>hn (e▸h1))
  obtain⟨b1,b2,b3⟩:=h.bx b (aa3 h2)
  exact⟨⟨b1,hne _ this⟩,b2,b3⟩,hp.nd,fun y hy=>(h.n y hy).weak fun _ h=>h.1,fun v l e=>by
  obtain⟨base,a1,a2,a3,a4⟩:=h.r v l e
  exact⟨base,a1,a2,⟨a3.own,fun y hy=>(a3.is y hy).weak fun _ h=>h.1,fun k hk=>⟨a3.inF k hk,hne k fun e2=>a4 _ (aa3 hj) (by rw [hk,e2])⟩⟩,fun b hb=>(ao3 hb).elim fun _ h2=>a4 b (aa3 h2.2)⟩⟩
 refine(P.node kind text from' _ _ hsf hkf).mono fun e w1 h1=> ?_
 obtain⟨v,rfl,hn',hs,hp'⟩:=h1
 obtain⟨a',c',rfl,hn'⟩:=hn'.form
 have e:Nd.mk kind text (List.map (·.1) [((x,a,c):Kd)]) from' q.at'=n:=hq
 subst e
 exact hok a' c' w1 ((h2.call hs hp').node hn').a
end
theorem Sa.rowN {v:Value} {l:List Kd} (h:Sa E F0 X w0 w q bs ns (some (v,l))): ∃a c,v= .slice a (l.map (·.1)).length c∧Hid (Sa E F0 X w0 w q bs ((.mk 0 ⟨#[]⟩ (l.map (·.1)) 0 0,a,c)::ns) none):=by
 obtain⟨F,h⟩:=h
 obtain⟨base,hb0,hb1,hko,hd⟩:=h.r _ _ rfl
 obtain⟨hsf,hkf⟩:=hko.fin h.s
 have h2:Sb E F0 X w0 (fun k=>F k∧v.ownBlock≠some k) w q bs ns none:=⟨hsf,h.p,fun k hk=>⟨h.le k hk,hko.ne (Nat.lt_of_lt_of_le (h.f0 k hk) hb0)⟩,h.f0,fun b hb=>⟨⟨(h.bx b hb).1,hd b hb⟩,(h.bx b hb).2⟩,h.nd,fun x hx=>(h.n x hx).weak fun _ h=>h.1,fun _ _ e=>by cases e⟩
 obtain⟨a,c,hv,hn⟩:=hkf.asP
 exact⟨a,c,hv,(h2.node hn).a⟩
theorem Sa.bne (h:Sa E F0 X w0 w q bs ns ro) (i j:Nat) {a b:Box} (ha:nth bs i=some a) (hb:nth bs j=some b) (hij:i≠j):a.1≠b.1:=h.elim fun _ h=>aO8 af9 h.nd ha hb hij
def AnsA {α:Type} (E:PE) (F0 X:Nat→Prop) (w0:World) (T:Res α) (Q:α→List Box→List Kd→Ro→Prop) (e:Ending) (w':World):Prop:=match T with
 | .ok a q=>e= .returned (.tuple #[])∧∃bs ns ro,Q a bs ns ro∧Sa E F0 X w0 w' q bs ns ro
 | .bad c i=>e= .panicked (flt c i)∧PB E.b X w0 w'
 | .out=>True
theorem Sa.nest (h:Sa E F0 X w0 w q bs ns ro) (hE:E.Ok) (n:Int) (h0:0≤n) (h1:n≤4000):Hid (Sa E F0 X w0 (w.setCell ⟨E.b,12,none⟩ (.int .i64 n)) { q with nest:=n } bs ns ro):=h.elim fun F h=>by
 obtain⟨h1,h2⟩:=h.s.set (X:=X0) hE.hb 12 (.int .i64 n) { q with nest:=n } (fun _ _ _=>rfl) rfl rfl rfl ⟨h0,h1⟩
 exact⟨_,h.call h1 h2⟩
theorem Sa.nst (h:Sa E F0 X w0 w q bs ns ro):0≤q.nest∧q.nest≤4000:=h.elim fun _ h=>h.s.nst
theorem P.deeperA {α:Type} {x:PM α} {Q:α→List Box→List Kd→Ro→Prop} {k:FuncId} {caps:Array Value} (hE:E.Ok) (place:Int) (hk: ∀W,(callFunc k caps).run Tryz.prog W= .ok (.enter k caps) W)
  (hc: ∀w1 q1,Hid (Sa E F0 X w0 w1 q1 bs ns ro)→x q1≠ .out→Calls Tryz.prog k caps w1 (AnsA E F0 X w0 (x q1) Q)) (h:Sa E F0 X w0 w q bs ns ro) (hne:ae3 place x q≠ .out):
  Calls Tryz.prog 41 #[.pointer (some ⟨E.b,0,none⟩),.int .i64 place,.func (Fn.func k) #[] caps] w (AnsA E F0 X w0 (ae3 place x q) Q):=by
 obtain⟨T,hT⟩: ∃T,ae3 place x q=T:=⟨_,rfl⟩
 rw [hT] at hne⊢
 unfold ae3 at hT
 have c12:=h.c_nest
 have f12:=h.frozen 12
 have hlt:=h.lt
 obtain⟨n0,n1⟩:=h.nst
 have HA:=hJ h
 have HN:=hJ hne
 by_cases hd:4000≤q.nest
 ·rw [if_pos hd] at hT
  have HT:=hJ hT
  clear hT h hne
  go_enter Tryz.func41,Tryz.ntmps41
  go_wp2_with fail
  refine(P.fail _ _ _ _).mono ?_
  rintro e w9 ⟨rfl,rfl⟩
  have H:=HA.out.bad HT.out.symm
  go_wp2_with fail
  obtain⟨h1,h2⟩:=H.out
  subst h1
  exact⟨rfl,rfl,h2⟩
 ·rw [if_neg hd] at hT
  have HT:=hJ hT
  have HA1:=h.nest hE (q.nest+1) (by omega) (by omega)
  clear hT h hne
  go_enter Tryz.func41,Tryz.ntmps41
  go_wp2_with fail
  have hne2:x { q with nest:=q.nest+1 } ≠ .out:=by
   intro e
   have:=HT.out
   unfold PM.bind at this
   rw [e] at this
   exact HN.out this.symm
  refine(hc _ _ HA1 hne2).mono ?_
  intro e w1 h1
  have hT:=HT.out
  unfold PM.bind at hT
  cases hx:x { q with nest:=q.nest+1 } with
  |out=>exact absurd hx hne2
  |bad c i=>
   rw [hx] at h1 hT
   obtain⟨rfl,hp2⟩:=h1
   clear hx hne2 HT
   have HP:=hJ hp2
   have HT:=hJ hT
   clear hT hp2
   go_wp2_with fail
   have e:=HT.out
   subst e
   exact⟨rfl,rfl,HP.out⟩
  |ok a q2=>
   rw [hx] at h1 hT
   obtain⟨rfl,bs2,ns2,ro2,hQ,ha⟩:=h1
   clear hx hne2 HT
   simp only at hT
   by_cases hq:q2.nest≤0
   ·rw [if_pos hq] at hT
    exact absurd hT.symm HN.out
   ·rw [if_neg hq] at hT
    have HT:=hJ hT
    have HQ:=hJ hQ
    have HA2:=hJ ha
    have d12:=ha.c_nest
    have g12:=ha.frozen 12
    have hlt2:=ha.lt
    obtain⟨m0,m1⟩:=ha.nst
    clear hT ha hQ HA HA1 c12 f12 hlt
    have HA3:=HA2.out.nest hE (q2.nest - 1) (by omega) (by omega)
    go_wp2_with fail
    refine bodyPost_end (results_none rfl _ _ _) rfl ?_
    have e:=HT.out
    subst e
    exact⟨rfl,bs2,ns2,ro2,HQ.out,HA3.out⟩
end
end
section
open Go.RowKit
theorem ba5 {b c d e:Bool} (h:(b||c||d||e)=true→false=true):b=false∧c=false∧d=false∧e=false:=by
 cases b<;>cases c<;>cases d<;>cases e<;>simp_all
theorem al6 {one a b c d e:Bool} (h8:a=true→one=true) (h9:(b||c||d||e)=true→a=true) (h:one=false):a=false∧b=false∧c=false∧d=false∧e=false:=by
 cases a with
 |false=>exact⟨rfl,ba5 h9⟩
 |true=>rw [h] at h8;cases h8 rfl
theorem aH3: ∀(l:List Bool) (i:Nat),l[i]? =some false→(l.set i true).count false+1=l.count false
 | [],_,h=>by cases h
 |b::l,0,h=>by
  obtain rfl:b=false:=by simpa using h
  simp
 |b::l,i+1,h=>by
  have:=aH3 l i (by simpa using h)
  rw [List.set_cons_succ,List.count_cons,List.count_cons]
  omega
theorem aZ3: ∀(l:List Bool),l.count false=0→l=List.replicate l.length true
 | [],_=>rfl
 |b::l,h=>by
  rw [List.count_cons] at h
  cases b with
  |false=>simp at h
  |true=>rw [List.length_cons,List.replicate_succ,←aZ3 l (by simpa using h)]
theorem bm2 {ops:Array Oper} (hd:((List.range ops.size).all fun i=>((ops[i]?).map (·.after.all fun e=> !Region.binds .any e||decide (e.on<i))).getD false)=true) {listed:Array Bool} (hs:listed.size=ops.size) (h:Region.ready .any ops listed= []): ∀i,i<ops.size→listed.getD i true=true:=by
 intro i
 induction i using Nat.strongRecOn with
 |ind i ih=>
  intro hi
  rcases hb:listed.getD i true with _|_
  ·exfalso
   have hm:i ∈ Region.ready .any ops listed:=mem_ready.2 ⟨hb,ops[i],by simp [hi],fun e he hb'=>by
    have h1:=List.all_eq_true.1 hd i (List.mem_range.2 hi)
    rw [Array.getElem?_eq_getElem hi,Option.map_some,Option.getD_some] at h1
    have h2:e.on<i:=by simpa [hb'] using (Array.all_eq_true_iff_forall_mem.1 h1) e he
    have h3:=ih e.on h2 (by omega)
    rw [Array.getD_eq_getD_getElem?,Array.getElem?_eq_getElem (by omega)] at h3⊢
    exact h3⟩
   rw [h] at hm
   cases hm
  ·rfl
theorem aT1 {listed:Array Bool} {n:Nat} (hs:listed.size=n) (h: ∀i,i<n→listed.getD i true=true):listed=Array.replicate n true:=by
 refine Array.ext (by rw [hs,Array.size_replicate]) fun i h1 h2=> ?_
 have:=h i (by omega)
 rw [Array.getD_eq_getD_getElem?,Array.getElem?_eq_getElem h1] at this
 rw [Array.getElem_replicate]
 exact this
section
variable {P:Program} {ops:Array Oper} {Q:Exit→Act→World→Prop} {I:Array Bool→Act→World→Prop}
theorem bb7 (hd:((List.range ops.size).all fun i=>((ops[i]?).map (·.after.all fun e=> !Region.binds .any e||decide (e.on<i))).getD false)=true) (hfin: ∀a w,I (Array.replicate ops.size true) a w→Q .normal a w)
  (hstep: ∀listed a w i,I listed a w→i ∈ Region.ready .any ops listed→wpOp P ops Q i (I (listed.setIfInBounds i true)) a w): ∀(fuel:Nat) (listed:Array Bool) (a:Act) (w:World),listed.size=ops.size→listed.toList.count false=fuel→I listed a w→wpAny P .any ops Q fuel listed a w
 |0,listed,a,w,hs,hc,hI=>by
  have h1:=aZ3 _ hc
  have h2:listed=Array.replicate ops.size true:=by
   rw [←hs]
   refine Array.ext' ?_
   rw [Array.toList_replicate]
   simpa using h1
  subst h2
  refine⟨?_,hfin _ _ hI⟩
  refine List.eq_nil_iff_forall_not_mem.2 fun i hi=> ?_
  have h3:=(mem_ready.1 hi).1
  rw [Array.getD_eq_getD_getElem?,Array.getElem?_replicate] at h3
  split at h3<;>simp at h3
 |fuel+1,listed,a,w,hs,hc,hI=>by
  refine⟨fun hr=>hfin _ _ (aT1 hs (bm2 hd hs hr)▸hI),fun i hi=>wpOp_mono (fun a' w' h=>bb7 hd hfin hstep fuel _ a' w' (by rw [Array.size_setIfInBounds];exact hs) ?_ h) (hstep _ _ _ _ hI hi)⟩
  have h1:=(mem_ready.1 hi).1
  have h2:listed.toList[i]? =some false:=by
   rw [Array.getD_eq_getD_getElem?] at h1
   rw [Array.getElem?_toList]
   cases hg:listed[i]? with
   |none=>rw [hg] at h1;cases h1
   |some b=>rw [hg] at h1;exact congrArg some h1
  have h3:=aH3 _ _ h2
  rw [Array.toList_setIfInBounds]
  omega
theorem aA5 {id:Nat} {a:Act} {w:World} (hm:P.follows .mixedOrders=true) (hd:((List.range ops.size).all fun i=>((ops[i]?).map (·.after.all fun e=> !Region.binds .any e||decide (e.on<i))).getD false)=true) (I:Array Bool→Act→World→Prop) (h0:I (Array.replicate ops.size false) a w.drew) (hfin: ∀a w,I (Array.replicate ops.size true) a w→Q .normal a w)
  (hstep: ∀listed a w i,I listed a w→i ∈ Region.ready .any ops listed→wpOp P ops Q i (I (listed.setIfInBounds i true)) a w):(Code.region id ops true).wp P Q a w:=
 wp_region_any hm (bb7 hd hfin hstep _ _ _ _ (by rw [Array.size_replicate]) (by rw [Array.toList_replicate,List.count_replicate];simp) h0)
theorem ay6 {id:Nat} {a:Act} {w:World} (hm:P.follows .mixedOrders=true) (hd:((List.range ops.size).all fun i=>((ops[i]?).map (·.after.all fun e=> !Region.binds .any e||decide (e.on<i))).getD false)=true) (I:Array Bool→Act→World→Prop) (h0:I (Array.replicate ops.size false) a w.drew) (hfin: ∀a a' w,I (Array.replicate ops.size true) a w→a=a'→Q .normal a' w)
  (hstep: ∀listed a a' w i,I listed a w→a=a'→i ∈ Region.ready .any ops listed→wpOp P ops Q i (I (listed.setIfInBounds i true)) a' w):(Code.region id ops true).wp P Q a w:=
 aA5 hm hd I h0 (fun a w h=>hfin a a w h rfl) fun l a w i h=>hstep l a a w i h rfl
end
end
end Go.Proofs.YtokfgpjclmdllaaGreatDoor
