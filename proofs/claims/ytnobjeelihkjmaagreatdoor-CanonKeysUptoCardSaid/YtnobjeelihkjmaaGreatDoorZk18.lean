/- Steps (Qk Qn Qu). Conditions: as stated. -/
import Derived.Test.YtnobjeelihkjmaaGreatDoorZk15
import Derived.Test.YtnobjeelihkjmaaGreatDoorZk14
set_option maxHeartbeats 1000000
set_option maxRecDepth 100000
namespace Go.Proofs.YtnobjeelihkjmaaGreatDoor
section
open Go.RowKit
attribute [local go_sem] ab3 ab4 ab5 ab6 ab7 ab8
attribute [local go_sem ↓] Go.wp_at_zero Go.wp_at_succ
theorem Sa.look_ {E:PE} {F0 X:Nat→Prop} {w0 w:World} {q:Ps} {bs:List Box} {ns:List Kd} {ro:Ro} (h:Sa E F0 X w0 w q bs ns ro) {k:Int} (hk:okI k=true): ∃mb v,w.cell? ⟨E.b,14,none⟩=some (.map (some mb))∧(Instr.lookup 59 (.map (some mb)) (.int .i64 k) true).run Tryz.prog w= .ok (.tuple #[v,.bool (hasC q.commas k)]) w:=h.elim fun _ h=>h.s.look hk
theorem Sa.clen {E:PE} {F0 X:Nat→Prop} {w0 w:World} {q:Ps} {bs:List Box} {ns:List Kd} {ro:Ro} (h:Sa E F0 X w0 w q bs ns ro): ∃mb n,w.cell? ⟨E.b,14,none⟩=some (.map (some mb))∧(∀ty,(Builtin.len_ #[59] ty #[.map (some mb)]).run Tryz.prog w= .ok (.int .i64 ((n:Nat):Int)) w)∧(n=0↔q.commas= []):=h.elim fun _ h=>h.s.clen
theorem Sa.comP {E:PE} {F0 X:Nat→Prop} {w0 w:World} {q:Ps} {bs:List Box} {ns:List Kd} {ro:Ro} (h:Sa E F0 X w0 w q bs ns ro) {k u:Int} (hk:okI k=true) (hu:okI u=true) (hl:q.commas.length≤4194304): ∃mb,w.cell? ⟨E.b,14,none⟩=some (.map (some mb))∧∃w',(Instr.mapUpdate 59 (.map (some mb)) (.int .i64 k) (.int .i64 u)).run Tryz.prog w= .ok () w'∧Hid (Sa E F0 X w0 w' { q with commas:=(k,u)::q.commas } bs ns ro):=h.elim fun _ h=>by
 obtain⟨mb,h1,w',h2,h3,h4⟩:=h.s.com_put hk hu hl
 exact⟨mb,h1,w',h2,(h.call h3 h4).a⟩
theorem Sa.kid {E:PE} {F0 X:Nat→Prop} {w0 w:World} {q:Ps} {bs:List Box} {ns:List Kd} {ro:Ro} (h:Sa E F0 X w0 w q bs ns ro) (i:Nat) {n:Nd} {a:Option Addr} {c:Nat} (hi:nth ns i=some (n,a,c)) {j:Nat} (hj:j<n.kids.length):
  ∃g off b c,a=some ⟨g,off,none⟩∧g<w.heap.size∧w.cell? ⟨g,off+j*5,none⟩=some (.int .i64 n.kids[j].kind)∧w.cell? ⟨g,off+j*5+1,none⟩=some (.string n.kids[j].text)∧
   w.cell? ⟨g,off+j*5+2,none⟩=some (.slice b n.kids[j].kids.length c)∧w.cell? ⟨g,off+j*5+3,none⟩=some (.int .i64 n.kids[j].from')∧w.cell? ⟨g,off+j*5+4,none⟩=some (.int .i64 n.kids[j].till)∧
   Hid (Sa E F0 X w0 w q bs ((n.kids[j],b,c)::ns) ro):=h.elim fun _ h=>by
 obtain⟨g,off,b,c,h1,h2,h3,h4,h5,h6,h7,h8⟩:=Pc.kidP (h.ni i hi) hj
 exact⟨g,off,b,c,h1,h2,h3,h4,h5,h6,h7,(h.node h8).a⟩
theorem Sa.zero {E:PE} {F0 X:Nat→Prop} {w0 w:World} {q:Ps} {bs:List Box} {ns:List Kd} {ro:Ro} (h:Sa E F0 X w0 w q bs ns ro):Hid (Sa E F0 X w0 w q bs ((.zero,none,0)::ns) ro):=h.elim fun _ h=>(h.node (av9 _ _ _)).a
theorem S.comma {E:PE} (hE:E.Ok) {F:Nat→Prop} {w:World} {p:Ps} (n:Nd) (v:Value) (hn:IsP E F w n v) (h:St E F w p) (hne:ap8 E.s n p≠ .out):
  Calls Tryz.prog 303 #[.pointer (some ⟨E.b,0,none⟩),v] w (Ans E F X0 w (ap8 E.s n p) fun _ v _=>v= .tuple #[]):=by
 obtain⟨T,hT⟩: ∃T,ap8 E.s n p=T:=⟨_,rfl⟩
 rw [hT] at hne⊢
 unfold ap8 at hT
 have HT:=hJ hT
 have HN:=hJ hne
 obtain⟨an,cn,rfl,hn0⟩:=hn.form
 have HA:=Sa.start1 (X:=X0) h hn0
 clear h hne hT hn hn0
 by_cases hk18:n.kind=18
 ·have hk18w:=kt hk18
  replace HT:=hpos HT (by exact hk18)
  have hk18':=hJ hk18
  clear hk18
  go_enter Tryz.func303,Tryz.ntmps303
  go_wp2_with fail
  replace HA:=HA.out.pN (g:=w.heap.size) rfl n an cn
  refine HA.out.stepV HT HN (fun _ h e=>P.peek hE 1 h.s e) ?_ ?_
  ·intro _ _ _ H;go_wp2_with fail;exact⟨rfl,Ans.badh H⟩
  clear HT HA
  intro t q1 w1 HT HA
  obtain⟨zn,-⟩:=HA.out.fs
  go_wp2_with fail
  refine HA.out.stepQ (fun _ h=>P.punct t ⟨#[44]⟩ _) ?_
  clear zn HA
  intro w2 HA
  obtain⟨zn,-⟩:=HA.out.fs
  cases hc:aa2 t ⟨#[44]⟩ with
  |true=>
   replace HT:=hpos HT (by rw [hc])
   replace HT:=hget HT
   by_cases hbd:4194304<q1.commas.length∨okI n.from'=false∨okI n.till=false
   ·rw [if_pos hbd] at HT
    exact absurd HT.out.symm HN.out
   rw [if_neg hbd] at HT
   simp only [not_or,Nat.not_lt,Bool.not_eq_false] at hbd
   obtain⟨hl,hk,hu⟩:=hbd
   go_wp2_with fail
   replace HA:=HA.out.drew
   obtain⟨mb,hc14,w9,hrun,HA9⟩:=HA.out.comP hk hu hl
   have fE14:=HA.out.frozen 14
   have lE:=HA.out.lt
   go_region_law (first|(refine bq0 (by rfl) _ _ _ _ (by rfl) (by rfl) (by rfl) (by rfl) hrun ?_))
   all_goals
    go_wp2_with fail
    exact HA9.out.fin_u rfl HT.out.symm rfl
  |false=>
   replace HT:=hneg HT (by rw [hc];decide)
   go_wp2_with fail
   exact HA.out.fin_u rfl HT.out.symm rfl
 ·have hk18w:=kf hk18
  replace HT:=hneg HT (by exact hk18)
  have hk18':=hJ hk18
  clear hk18
  go_enter Tryz.func303,Tryz.ntmps303
  go_wp2_with fail
  replace HA:=HA.out.pN (g:=w.heap.size) rfl n an cn
  exact HA.out.fin_u rfl HT.out.symm rfl
theorem S.param {E:PE} {F:Nat→Prop} {w:World} {p:Ps} (n:Nd) (last:Bool) (v:Value) (hn:IsP E F w n v) (h:St E F w p) (hne:aP7 n last p≠ .out):
  Calls Tryz.prog 275 #[.pointer (some ⟨E.b,0,none⟩),v,.bool last] w (Ans E F X0 w (aP7 n last p) fun _ v _=>v= .tuple #[]):=by
 obtain⟨T,hT⟩: ∃T,aP7 n last p=T:=⟨_,rfl⟩
 rw [hT] at hne⊢
 unfold aP7 at hT
 have HT:=hJ hT
 have HN:=hJ hne
 obtain⟨an,cn,rfl,hn0⟩:=hn.form
 have HA:=Sa.start1 (X:=X0) h hn0
 clear h hne hT hn hn0
 cases hc:(okI n.from' && ((decide (n.kind=1) && af1 n)||decide (n.kind=0))) with
 |true=>
  replace HT:=hpos HT (by rw [hc])
  obtain⟨ho,hb⟩:=Bool.and_eq_true_iff.1 hc
  have HB0:=hJ hb
  clear hb hc
  go_enter Tryz.func275,Tryz.ntmps275
  go_upto_region 1 with fail
  replace HA:=HA.out.pN (g:=w.heap.size) rfl n an cn
  generalize (w.alloc (.cells #[.int .i64 n.kind,.string n.text,.slice an n.kids.length cn,.int .i64 n.from',.int .i64 n.till] 27))=w1 at*
  obtain⟨zn,-⟩:=HA.out.fs
  by_cases hk1:n.kind=1
  ·have hk1w:=kt hk1
   have hk1':=hJ hk1
   clear hk1
   go_wp2_with fail
   replace HA:=HA.out.drew
   obtain⟨mb,cv,hc14,hlk⟩:=HA.out.look_ ho
   generalize hasC p.commas n.from'=cm at hlk
   have lE:=HA.out.lt
   go_region_with fail
   all_goals
    go_wp2_with fail
    refine HA.out.stepQ (fun _ h=>am3 n _ _ _ (fun _ h=>h.1) (h.ni 0 rfl)) ?_
    clear zn hc14 hlk lE HA
    intro w2 HA
    obtain⟨zn,-⟩:=HA.out.fs
    cases ht:af1 n with
    |true=>
     go_wp2_with fail
     exact HA.out.fin_ur rfl HT.out.symm rfl
    |false=>
     exact absurd HB0.out (by rw [ht,hk1'.out];decide)
  ·have hk1w:=kf hk1
   have hk1':=hJ hk1
   clear hk1
   by_cases hk0:n.kind=0
   ·have hk0w:=kt hk0
    have hk0':=hJ hk0
    clear hk0
    go_wp2_with fail
    replace HA:=HA.out.drew
    obtain⟨mb,cv,hc14,hlk⟩:=HA.out.look_ ho
    generalize hasC p.commas n.from'=cm at hlk
    have lE:=HA.out.lt
    go_region_with fail
    all_goals
     go_wp2_with fail
     exact HA.out.fin_ur rfl HT.out.symm rfl
   ·have hk0w:=kf hk0
    exact absurd HB0.out (by rw [decide_eq_false hk1'.out,decide_eq_false hk0,Bool.false_and];decide)
 |false=>
  replace HT:=hneg HT (by rw [hc];decide)
  exact absurd HT.out.symm HN.out
theorem S.simple {E:PE} {R:(x:Fn)→PM x.Out} (hR:Env E R) {F:Nat→Prop} {w:World} {p:Ps} (t:Tk) (h:St E F w p) (hne:aF9 E.s R t p≠ .out):
  Calls Tryz.prog 133 #[.pointer (some ⟨E.b,0,none⟩),.agg #[.int .i64 t.kind,.string t.text,.int .i64 t.from',.int .i64 t.till,.bool t.line]] w (Ans E F X0 w (aF9 E.s R t p) fun n v w'=>IsP E F w' n v):=by
 obtain⟨T,hT⟩: ∃T,aF9 E.s R t p=T:=⟨_,rfl⟩
 rw [hT] at hne⊢
 unfold aF9 at hT
 have HT:=hJ hT
 have HN:=hJ hne
 have HA:=Sa.start0 (X:=X0) h
 clear h hne hT
 go_enter Tryz.func133,Tryz.ntmps133
 go_wp2_with fail
 replace HA:=HA.out.pT (g:=w.heap.size) rfl t
 replace HA:=HA.out.pZ (g:=(w.heap.size+1)) (by simp)
 refine HA.out.stepN HT HN (fun _ h e=>hR.h .expression _ _ _ h.s e) ?_ ?_
 ·intro _ _ _ H;go_wp2_with fail;exact⟨rfl,Ans.badh H⟩
 clear HT HA
 intro n an cn q1 w1 HT HA
 obtain⟨zr,zt,-⟩:=HA.out.fs
 have yr:=HA.out.fw 0 rfl
 go_wp2_with fail
 replace HA:=HA.out.pN (g:=w1.heap.size) rfl n an cn
 refine HA.out.stepV HT HN (fun _ h e=>P.semicolon hR.ok h.s e) ?_ ?_
 ·intro _ _ _ H;go_wp2_with fail;exact⟨rfl,Ans.badh H⟩
 clear zr zt yr HT HA
 intro _ q2 w2 HT HA
 obtain⟨zn,zr,zt,-⟩:=HA.out.fs
 have yr:=HA.out.fw 1 rfl
 replace HT:=ac9 HT
 go_wp2_with fail
 refine HA.out.node 57 ⟨#[]⟩ t.from' [(n,an,cn)] (by simp) rfl rfl rfl rfl HT ?_
 clear zn zr zt yr HT HA
 intro m am cm w3 _ HT HA
 obtain⟨zn,zr,zt,-⟩:=HA.out.fs
 have yr:=HA.out.fw 1 rfl
 go_wp2_with fail
 exact HA.out.fin_nd 1 0 rfl rfl rfl rfl rfl HT.out.symm
theorem S.modular {E:PE} {F:Nat→Prop} {w:World} {p:Ps} (t:Tk) (top:Bool) (h:St E F w p) (hne:aw2 t top p≠ .out):
  Calls Tryz.prog 76 #[.pointer (some ⟨E.b,0,none⟩),.agg #[.int .i64 t.kind,.string t.text,.int .i64 t.from',.int .i64 t.till,.bool t.line],.bool top] w (Ans E F X0 w (aw2 t top p) fun n v w'=>IsP E F w' n v):=by
 obtain⟨T,hT⟩: ∃T,aw2 t top p=T:=⟨_,rfl⟩
 rw [hT] at hne⊢
 unfold aw2 at hT
 have HT:=hJ hT
 have HN:=hJ hne
 have HA:=Sa.start0 (X:=X0) h
 clear h hne hT
 cases top with
 |true=>
  replace HT:=hpos HT (by rfl)
  exact absurd HT.out.symm HN.out
 |false=>
  replace HT:=hneg HT (by decide)
  go_enter Tryz.func76,Tryz.ntmps76
  go_upto_region 1 with fail
  replace HA:=HA.out.pT (g:=w.heap.size) rfl t
  replace HA:=HA.out.pZ (g:=(w.heap.size+1)) (by simp)
  generalize ((w.alloc (.cells #[.int .i64 t.kind,.string t.text,.int .i64 t.from',.int .i64 t.till,.bool t.line] 49)).alloc (.cells #[.int .i64 0,.string ⟨#[]⟩,.slice none 0 0,.int .i64 0,.int .i64 0] 27))=w1 at*
  obtain⟨zr,zt,-⟩:=HA.out.fs
  have yr:=HA.out.fw 0 rfl
  replace HA:=HA.out.zero
  go_wp2_with fail
  exact HA.out.fin_nd (n:= .zero) (a:=none) (c:=0) 0 0 rfl rfl rfl rfl rfl HT.out.symm
end
section
open Go.RowKit
attribute [local go_sem] ab3 ab4 ab5 ab6 ab7 ab8
attribute [local go_sem ↓] Go.wp_at_zero Go.wp_at_succ
section
variable {E:PE} {F F1 X:Nat→Prop} {w wc w1:World} {p q:Ps} {base:Nat} {v:Value} {l:List Kd}
theorem IsP.re {n n':Nd} {v v':Value} (h:IsP E F w n v) (e:n.kids=n'.kids) (hv: ∀a c,v=(.agg #[.int .i64 n.kind,.string n.text,.slice a n.kids.length c,.int .i64 n.from',.int .i64 n.till])→v'=(.agg #[.int .i64 n'.kind,.string n'.text,.slice a n'.kids.length c,.int .i64 n'.from',.int .i64 n'.till])):IsP E F w n' v':=by
 obtain⟨a,c,rfl,h1,h2⟩:=h
 exact⟨a,c,hv a c rfl,e▸h1,e▸h2⟩
theorem Sa.re {F0:Nat→Prop} {w0:World} {bs:List Box} {ns:List Kd} {ro:Ro} (h:Sa E F0 X w0 w q bs ns ro) (i:Nat) {n:Nd} {a:Option Addr} {c:Nat} (hi:nth ns i=some (n,a,c)) (n':Nd) (hk:n'.kids=n.kids):Hid (Sa E F0 X w0 w q bs ((n',a,c)::ns) ro):=h.elim fun _ h=>by
 refine(h.node (n:=n') ((h.ni i hi).re hk.symm fun a1 c1 e=> ?_)).a
 simp only [Value.agg.injEq] at e⊢
 have e2:=congrArg (fun c:Array Value=>c[2]?) e
 simp at e2
 obtain⟨rfl,rfl⟩:=e2
 rw [hk]
end
theorem aS5:bh8 44 0:=by
 intro t W
 refine⟨by kernel_rfl,?_⟩
 have hB:=(Below.alloc (Below.refl _ W) (Nat.le_refl _) (.cells #[.int .i64 t.kind,.string t.text,.int .i64 t.from',.int .i64 t.till,.bool t.line] 49))
 by_cases h:t.kind=0
 ·have h1:(t.kind==0)=true:=by rw [beq_iff_eq];exact h
  have H:=hJ h
  clear h
  go_enter Tryz.func44,Tryz.ntmps44
  go_wp2_with fail
  go_ret
  exact⟨by rw [endB,if_pos rfl,decide_eq_true H.out];rfl,hB⟩
 ·have h1:(t.kind==0)=false:=by rw [beq_eq_false_iff_ne];exact h
  have H:=hJ h
  clear h
  go_enter Tryz.func44,Tryz.ntmps44
  go_wp2_with fail
  go_ret
  exact⟨by rw [endB,if_pos rfl,decide_eq_false H.out];rfl,hB⟩
theorem bk0:bh8 198 1:=by
 intro t W
 refine⟨by kernel_rfl,?_⟩
 have hB:=(Below.alloc (Below.refl _ W) (Nat.le_refl _) (.cells #[.int .i64 t.kind,.string t.text,.int .i64 t.from',.int .i64 t.till,.bool t.line] 49))
 go_enter Tryz.func198,Tryz.ntmps198
 go_wp2_with fail
 refine(P.punct t ⟨#[125]⟩ _).mono ?_
 rintro e w2 ⟨rfl,hb⟩
 have HB:=hJ (hB.trans (hb.mono hB.size))
 clear hb
 go_wp2_with fail
 go_ret
 exact⟨by rw [endB,if_neg (by decide),if_pos rfl];rfl,HB.out⟩
theorem S.program {E:PE} {R:(x:Fn)→PM x.Out} (hR:Env E R) {F:Nat→Prop} {w:World} {p:Ps} (h:St E F w p) (hne:aw9 E.s E.m R p≠ .out):
  Calls Tryz.prog 22 #[.pointer (some ⟨E.b,0,none⟩)] w (Ans E F X0 w (aw9 E.s E.m R p) fun n v w'=>IsP E F w' n v):=by
 obtain⟨T,hT⟩: ∃T,aw9 E.s E.m R p=T:=⟨_,rfl⟩
 rw [hT] at hne⊢
 unfold aw9 at hT
 have HT:=hJ hT
 have HN:=hJ hne
 have HA:=Sa.start0 (X:=X0) h
 clear h hne hT
 go_enter Tryz.func22,Tryz.ntmps22
 go_upto_region 1 with fail
 replace HA:=HA.out.pZ (g:=w.heap.size) rfl
 generalize (w.alloc (.cells #[.int .i64 0,.string ⟨#[]⟩,.slice none 0 0,.int .i64 0,.int .i64 0] 27))=w1 at*
 obtain⟨zr,-⟩:=HA.out.fs
 have yr:=HA.out.fw 0 rfl
 have cEmod:=HA.out.c_mod
 have lE:=HA.out.lt
 go_wp2_with fail
 refine HA.out.stepK HT HN (fun _ h e=>hR.h (.statements true E.m 0) _ _ _ _ aS5 h.s e) ?_ ?_
 ·intro _ _ _ H;go_wp2_with fail;exact⟨rfl,Ans.badh H⟩
 clear zr yr cEmod lE HT HA
 intro ks akn ckn q2 w2 HT HA
 obtain⟨zr,-⟩:=HA.out.fs
 have yr:=HA.out.fw 0 rfl
 go_wp2_with fail
 refine HA.out.stepV HT HN (fun _ h e=>P.take hR.ok h.s e) ?_ ?_
 ·intro _ _ _ H;go_wp2_with fail;exact⟨rfl,Ans.badh H⟩
 clear zr yr HT HA
 intro _ q3 w3 HT HA
 obtain⟨zr,-⟩:=HA.out.fs
 have yr:=HA.out.fw 0 rfl
 have cEs:=HA.out.c_s
 have lE:=HA.out.lt
 replace HA:=HA.out.re 0 rfl (Nd.mk 86 ⟨#[]⟩ ks 0 E.s.size) rfl
 go_wp2_with fail
 exact HA.out.fin_nd (n:=Nd.mk 86 ⟨#[]⟩ ks 0 E.s.size) (a:=akn) (c:=ckn) 0 0 rfl rfl rfl rfl rfl HT.out.symm
theorem S.block {E:PE} {R:(x:Fn)→PM x.Out} (hR:Env E R) {F:Nat→Prop} {w:World} {p:Ps} (h:St E F w p) (hne:aM7 E.s R p≠ .out):
  Calls Tryz.prog 132 #[.pointer (some ⟨E.b,0,none⟩)] w (Ans E F X0 w (aM7 E.s R p) fun n v w'=>IsP E F w' n v):=by
 obtain⟨T,hT⟩: ∃T,aM7 E.s R p=T:=⟨_,rfl⟩
 rw [hT] at hne⊢
 unfold aM7 at hT
 have HT:=hJ hT
 have HN:=hJ hne
 have HA:=Sa.start0 (X:=X0) h
 clear h hne hT
 go_enter Tryz.func132,Tryz.ntmps132
 go_wp2_with fail
 replace HA:=HA.out.pZ (g:=w.heap.size) rfl
 refine HA.out.stepV HT HN (fun _ h e=>P.want hR.ok ⟨#[123]⟩ h.s e) ?_ ?_
 ·intro _ _ _ H;go_wp2_with fail;exact⟨rfl,Ans.badh H⟩
 clear HT HA
 intro o q1 w1 HT HA
 obtain⟨zr,-⟩:=HA.out.fs
 have yr:=HA.out.fw 0 rfl
 go_wp2_with fail
 refine HA.out.stepK HT HN (fun _ h e=>hR.h (.statements false false 1) _ _ _ _ bk0 h.s e) ?_ ?_
 ·intro _ _ _ H;go_wp2_with fail;exact⟨rfl,Ans.badh H⟩
 clear zr yr HT HA
 intro ks akn ckn q2 w2 HT HA
 obtain⟨zr,-⟩:=HA.out.fs
 have yr:=HA.out.fw 0 rfl
 go_wp2_with fail
 refine HA.out.stepV HT HN (fun _ h e=>P.take hR.ok h.s e) ?_ ?_
 ·intro _ _ _ H;go_wp2_with fail;exact⟨rfl,Ans.badh H⟩
 clear zr yr HT HA
 intro _ q3 w3 HT HA
 obtain⟨zr,-⟩:=HA.out.fs
 have yr:=HA.out.fw 0 rfl
 replace HT:=ac9 HT
 go_wp2_with fail
 refine HA.out.nodeK 58 ⟨#[]⟩ o.from' 0 rfl HT ?_
 clear zr yr HT HA
 intro m am cm w4 _ HT HA
 obtain⟨zr,-⟩:=HA.out.fs
 have yr:=HA.out.fw 0 rfl
 go_wp2_with fail
 exact HA.out.fin_nd 0 0 rfl rfl rfl rfl rfl HT.out.symm
end
section
open Go.RowKit
section
variable {E:PE} {F F1 X:Nat→Prop} {w wc w1:World} {p q:Ps} {base:Nat} {v:Value} {l:List Kd}
theorem KsO.apart (h:KsO E F w base v l) (g:Nat) (hg:w.heap.size≤g):v.ownBlock≠some g:=fun e=>by have:=(aa5 h.own e).1;omega
theorem KsIn.asP {ks:List Nd} (h:KsIn E F w ks v): ∃a c,v= .slice a ks.length c∧IsP E F w (.mk 0 ⟨#[]⟩ ks 0 0) (.agg #[.int .i64 0,.string ⟨#[]⟩,.slice a ks.length c,.int .i64 0,.int .i64 0]):=by
 obtain⟨a,c,rfl,h1,h2⟩:=h
 exact⟨a,c,rfl,a,c,rfl,h1,h2⟩
theorem IsP.ks {n:Nd} {k f u:Int} {t:ByteArray} {m:Nat} {a:Option Addr} {c:Nat} (h:IsP E F w n (.agg #[.int .i64 k,.string t,.slice a m c,.int .i64 f,.int .i64 u])):KsIn E F w n.kids (.slice a m c):=by
 obtain⟨a',c',hv,h1,h2⟩:=h
 refine⟨a',c',?_,h1,h2⟩
 simp only [Value.agg.injEq] at hv
 have:=congrArg (fun c:Array Value=>c[2]?) hv
 simpa using this
theorem KsIn.weak {ks:List Nd} (h:KsIn E F1 w ks v) (hF: ∀k,F k→F1 k):KsIn E F w ks v:=by
 obtain⟨a,c,rfl,h1,h2⟩:=h
 exact⟨a,c,rfl,h1,ab2 (fun k hk=>⟨hk.1,hk.2.1,fun h=>hk.2.2 (hF k h)⟩) (fun _ _=>rfl) h2⟩
end
attribute [local go_sem] ab3 ab4 ab5 ab6 ab7 ab8
section
variable {E:PE} {F F1 X:Nat→Prop} {w wc w1 W:World} {p q:Ps} {base:Nat} {v:Value} {l:List Kd}
theorem KsO.push0 (hs:St E F w p) (h:KsO E F w base v l) {x:Kd} (hx:KdOk E F w x) {v':Value} (hown:w1.ownsRow base 27 5 v' (l.length+1) (l.flatMap aa8++aa8 x)) (hg:w.grownBy w1 v.ownBlock) (hat:v'.ownBlock=v.ownBlock∨v'.ownBlock=some w.heap.size):
  ∃F1:Nat→Prop,(∀k,F k→F1 k)∧St E F1 w1 p∧(∀n u,IsP E F w n u→IsP E F1 w1 n u)∧KsO E F1 w1 base v' (l++ [x])∧(∀k,F k→v.ownBlock≠some k→w1.heap[k]? =w.heap[k]?)∧Only (fun k=>v.ownBlock=some k) w w1:=by
 have ho:Only (fun k=>v.ownBlock=some k) w w1:=⟨hg.os,hg.tape,hg.output,hg.size,fun k hk hn=>hg.block k hk fun e=>hn e.symm⟩
 obtain⟨F1,h1,h2,_,h3,h4⟩:=hs.enter (ho.mono fun k hk=>h.inF k hk)
 refine⟨F1,h1,h3,h4,⟨?_,fun y hy=> ?_,fun g hgv=> ?_⟩,fun k hk hn=>ho.block k (hs.fo k hk).2.1 hn,ho⟩
 ·rw [List.length_append,List.flatMap_append]
  simpa using hown
 ·rcases List.mem_append.1 hy with hy|hy
  ·exact h4 _ _ (h.is y hy)
  ·simp only [List.mem_cons,List.not_mem_nil,or_false] at hy
   subst hy
   exact h4 _ _ hx
 ·rcases hat with e|e
  ·exact h1 g (h.inF g (e▸hgv))
  ·have e2:g=w.heap.size:=by rw [hgv] at e;injection e
   have:=(aa5 hown hgv).1
   exact h2 g (by omega) (by omega)
theorem KsO.len (h:KsO E F w base v l): ∃a c,v= .slice a l.length c:=by
 rcases h.own.2 with ⟨hv,h0⟩|⟨g,cap,cur,hv,_⟩
 ·exact⟨none,0,by rw [hv,h0]⟩
 ·exact⟨_,cap,hv⟩
end
def KbR (E:PE) (gp gk base:Nat) (kids:List Nd) (F:Nat→Prop) (w:World):Prop:=
 ∃(l:List Kd) (v:Value),l.map (·.1)=kids∧F gp∧PrAt w gp E.b∧F gk∧ac2 w gk v 25∧KsO E F w base v l∧gk<base∧gp<base∧base≤w.heap.size
def AnsC {α:Type} (E:PE) (F X:Nat→Prop) (w:World) (T:Res α) (A:α→(Nat→Prop)→World→Prop) (e:Ending) (w':World):Prop:=match T with
 | .ok b q=> ∃F'':Nat→Prop,(∀j,F j→F'' j)∧e= .returned (.tuple #[])∧A b F'' w'∧St E F'' w' q∧PB E.b X w w'
 | .bad c i=>e= .panicked (flt c i)∧PB E.b X w w'
 | .out=>True
theorem AnsC.bad {α:Type} {E:PE} {F X:Nat→Prop} {w w1:World} {T:Res α} {A:α→(Nat→Prop)→World→Prop} {c i:Int} (ht:T= .bad c i) (hp:PB E.b X w w1):AnsC E F X w T A (.panicked (flt c i)) w1:=by
 subst ht
 exact⟨rfl,hp⟩
theorem AnsC.ok {α:Type} {E:PE} {F X:Nat→Prop} {w w1:World} {T:Res α} {A:α→(Nat→Prop)→World→Prop} {b:α} {q:Ps} {F2:Nat→Prop} (ht:T= .ok b q) (hF: ∀j,F j→F2 j) (hA:A b F2 w1) (hs:St E F2 w1 q) (hp:PB E.b X w w1):AnsC E F X w T A (.returned (.tuple #[])) w1:=by
 subst ht
 exact⟨F2,hF,rfl,hA,hs,hp⟩
theorem KsO.lastc {E:PE} {F:Nat→Prop} {w:World} {base:Nat} {v:Value} {l:List Kd} {x:Kd} (h:KsO E F w base v (l++ [x])):
  ∃g cap,v= .slice (some ⟨g,0,none⟩) (l.length+1) cap∧w.cell? ⟨g,l.length*5,none⟩=some (.int .i64 x.1.kind)∧w.cell? ⟨g,l.length*5+1,none⟩=some (.string x.1.text)∧w.cell? ⟨g,l.length*5+2,none⟩=some (.slice x.2.1 x.1.kids.length x.2.2)∧w.cell? ⟨g,l.length*5+3,none⟩=some (.int .i64 x.1.from')∧w.cell? ⟨g,l.length*5+4,none⟩=some (.int .i64 x.1.till)∧g<w.heap.size:=by
 have h0:=h.own
 rw [List.length_append,List.length_singleton] at h0
 rcases h0.2 with ⟨hv,hn⟩|⟨g,cap,cur,rfl,hb,hc,_⟩
 ·omega
 ·have hcell:=fun i (hi:i<5)=>(h0.cellAt (l.length*5+i) (by omega)).trans (an4 (l++ [x]) l.length i (by simp) hi)
  have e:(l++ [x])[l.length]'(by simp)=x:=by simp
  simp only [e] at hcell
  exact⟨g,cap,rfl,hcell 0 (by decide),hcell 1 (by decide),hcell 2 (by decide),hcell 3 (by decide),hcell 4 (by decide),(Array.getElem?_eq_some_iff.1 hc).1⟩
theorem bp9 {P:Program} {ops:Array Oper} {o:Oper} {a:Act} {K:Act→World→Prop} {Q:Exit→Act→World→Prop} {G:Prop} {w:World} (h:False) (v:Value) (_:K (a.put o.dst v) w):if Region.wanted o (yielded ops a.tmps)=true then Oper.wp P o a w K Q else G:=h.elim
structure ApS (E:PE) (F X:Nat→Prop) (w:World) (base gp gk:Nat) (vk vr:Value) (l:List Kd) (q:Ps) (W:World):Prop where
 s:St E F W q
 p:PB E.b X w W
 mp:F gp
 bp:PrAt W gp E.b
 mgk:F gk
 bk:ac2 W gk vk 25
 k:KsO E F W base vr l
 lgk:gk<base
 lgp:gp<base
 x:X gk
 r: ∀j,base≤j→X j
 bs:base≤W.heap.size
theorem PrAt.ne_row {w:World} {g b i:Nat} {v:Value} (h:PrAt w g b) (k:ac2 w i v 25):g≠i:=by
 rintro rfl
 unfold PrAt ac2 at h
 unfold ac2 at k
 rw [h] at k
 simp at k
namespace ApS
variable {E:PE} {F X:Nat→Prop} {w W:World} {base gp gk:Nat} {vk vr:Value} {l:List Kd} {q:Ps}
theorem same (h:ApS E F X w base gp gk vk vr l q W) {W':World} (ho:Only (fun _=>False) W W'): ∃F1:Nat→Prop,(∀k,F k→F1 k)∧(∀k,W.heap.size≤k→k<W'.heap.size→F1 k)∧(∀n u,IsP E F W n u→IsP E F1 W' n u)∧ApS E F1 X w base gp gk vk vr l q W':=by
 obtain⟨F1,h1,h2,_,h3,h4⟩:=h.s.enter (ho.mono fun _ h=>h.elim)
 exact⟨F1,h1,h2,h4,⟨h3,h.p.adv h.s (ho.mono fun _ h=>h.elim),h1 _ h.mp,h.bp.same (ho.block _ h.bp.lt id),h1 _ h.mgk,h.bk.same (ho.block _ h.bk.lt id),h.k.grow ho h1 h4,h.lgk,h.lgp,h.x,h.r,Nat.le_trans h.bs ho.size⟩⟩
theorem setk (h:ApS E F X w base gp gk vk vr l q W) (v:Value):ApS E F X w base gp gk v vr l q (W.setCell ⟨gk,0,none⟩ v):=by
 have ho:Only (fun k=>k=gk) W (W.setCell ⟨gk,0,none⟩ v):=Only.setCell (X:=fun k=>k=gk) (Only.refl _ _) (p:=⟨gk,0,none⟩) (.inl rfl) v
 have hf: ∀k,k=gk→F k:=fun _ e=>e▸h.mgk
 have hne: ∀k,k=gk→vr.ownBlock≠some k:=fun _ e=>e▸h.k.ne h.lgk
 have hm: ∀k,k=gk→Mine F X w k:=fun _ e=>e▸⟨h.mgk,.inl h.x⟩
 exact⟨h.s.only (ho.mono hf),h.p.adv h.s (ho.mono hm),h.mp,h.bp.same (ho.block _ h.bp.lt (h.bp.ne_row h.bk)),h.mgk,h.bk.set,h.k.only h.s (ho.mono fun k e=>⟨hf k e,hne k e⟩),h.lgk,h.lgp,h.x,h.r,Nat.le_trans h.bs ho.size⟩
theorem setk_is (h:ApS E F X w base gp gk vk vr l q W) (v:Value) {n:Nd} {u:Value} (hn:IsP E F W n u):IsP E F (W.setCell ⟨gk,0,none⟩ v) n u:=
 hn.only ((Only.setCell (X:=fun k=>k=gk) (Only.refl _ _) (p:=⟨gk,0,none⟩) (.inl rfl) v).mono fun _ e=>e▸h.mgk) h.s.lt h.s.notF
theorem call (h:ApS E F X w base gp gk vk vr l q W) {W':World} {q':Ps} (hs:St E F W' q') (hp:PB E.b X0 W W'):ApS E F X w base gp gk vk vr l q' W':=
 ⟨hs,h.p.then hp,h.mp,h.bp.same (h.s.box hp h.mp),h.mgk,h.bk.same (h.s.box hp h.mgk),h.k.pb h.s hp,h.lgk,h.lgp,h.x,h.r,Nat.le_trans h.bs hp.only.size⟩
theorem push (h:ApS E F X w base gp gk vk vr l q W) {o:Obj} {v':Value} {W':World} (hown:W'.ownsRow base 27 5 v' (l.length+1) (l.flatMap aa8++aa8 (Nd.zero,none,0))) (hg:(W.alloc o).grownBy W' vr.ownBlock) (hat:v'.ownBlock=vr.ownBlock∨v'.ownBlock=some (W.heap.size+1)):
  ∃F1:Nat→Prop,(∀k,F k→F1 k)∧(∀n u,IsP E F W n u→IsP E F1 W' n u)∧ApS E F1 X w base gp gk vk v' (l++ [(Nd.zero,none,0)]) q W':=by
 obtain⟨F1,h1,h2,h3,h4,h5,h6⟩:=KsO.push (x:=(Nd.zero,none,0)) h.s h.k (av9 E F W) hown hg hat
 exact⟨F1,h1,h3,⟨h2,h.p.only' h6 h.s.lt (fun e=>h.s.notF (h.k.inF _ e)) (fun j e=> .inl (h.r j (aa5 h.k.own e).2)),h1 _ h.mp,h.bp.same (h5 _ h.mp (h.k.ne h.lgp)),h1 _ h.mgk,h.bk.same (h5 _ h.mgk (h.k.ne h.lgk)),h4,h.lgk,h.lgp,h.x,h.r,Nat.le_trans h.bs h6.size⟩⟩
theorem push0 (h:ApS E F X w base gp gk vk vr l q W) {v':Value} {W':World} (hown:W'.ownsRow base 27 5 v' (l.length+1) (l.flatMap aa8++aa8 (Nd.zero,none,0))) (hg:W.grownBy W' vr.ownBlock) (hat:v'.ownBlock=vr.ownBlock∨v'.ownBlock=some W.heap.size):
  ∃F1:Nat→Prop,(∀k,F k→F1 k)∧(∀n u,IsP E F W n u→IsP E F1 W' n u)∧ApS E F1 X w base gp gk vk v' (l++ [(Nd.zero,none,0)]) q W':=by
 obtain⟨F1,h1,h2,h3,h4,h5,h6⟩:=KsO.push0 (x:=(Nd.zero,none,0)) h.s h.k (av9 E F W) hown hg hat
 exact⟨F1,h1,h3,⟨h2,h.p.only' h6 h.s.lt (fun e=>h.s.notF (h.k.inF _ e)) (fun j e=> .inl (h.r j (aa5 h.k.own e).2)),h1 _ h.mp,h.bp.same (h5 _ h.mp (h.k.ne h.lgp)),h1 _ h.mgk,h.bk.same (h5 _ h.mgk (h.k.ne h.lgk)),h4,h.lgk,h.lgp,h.x,h.r,Nat.le_trans h.bs h6.size⟩⟩
theorem last {g cap:Nat} (h:ApS E F X w base gp gk vk (.slice (some ⟨g,0,none⟩) (l.length+1) cap) (l++ [(Nd.zero,none,0)]) q W) {n:Nd} {a:Option Addr} {c:Nat} (hn:IsP E F W n (.agg #[.int .i64 n.kind,.string n.text,.slice a n.kids.length c,.int .i64 n.from',.int .i64 n.till])):
  ApS E F X w base gp gk vk (.slice (some ⟨g,0,none⟩) (l.length+1) cap) (l++ [(n,a,c)]) q (((((W.setCell ⟨g,l.length*5,none⟩ (.int .i64 n.kind)).setCell ⟨g,l.length*5+1,none⟩ (.string n.text)).setCell ⟨g,l.length*5+2,none⟩ (.slice a n.kids.length c)).setCell ⟨g,l.length*5+3,none⟩ (.int .i64 n.from')).setCell ⟨g,l.length*5+4,none⟩ (.int .i64 n.till)):=by
 obtain⟨h1,h2,h3⟩:=KsO.setLast h.s (x:=(n,a,c)) h.k hn rfl
 have hb:=(aa5 h.k.own (g:=g) rfl).2
 have hf: ∀k,k=g→F k:=fun _ e=>e▸h3
 have e1:gp≠g:=by have:=h.lgp;omega
 have e2:gk≠g:=by have:=h.lgk;omega
 exact⟨h.s.only (h2.mono hf),h.p.adv h.s (h2.mono fun k e=>⟨hf k e,.inl (e▸h.r g hb)⟩),h.mp,h.bp.same (h2.block _ h.bp.lt e1),h.mgk,h.bk.same (h2.block _ h.bk.lt e2),h1,h.lgk,h.lgp,h.x,h.r,Nat.le_trans h.bs h2.size⟩
theorem go {P:Program} {k:FuncId} {args:Array Value} {K:Ending→World→Prop} (h:ApS E F X w base gp gk vk vr l q W) {W':World} (ho:Only (fun _=>False) W W')
  (hk: ∀F1:Nat→Prop,(∀k,F k→F1 k)→(∀k,W.heap.size≤k→k<W'.heap.size→F1 k)→(∀n u,IsP E F W n u→IsP E F1 W' n u)→ApS E F1 X w base gp gk vk vr l q W'→Calls P k args W' K):Calls P k args W' K:=by
 obtain⟨F1,h1,h2,h3,h4⟩:=h.same ho
 exact hk F1 h1 h2 h3 h4
end ApS
end
end Go.Proofs.YtnobjeelihkjmaaGreatDoor
