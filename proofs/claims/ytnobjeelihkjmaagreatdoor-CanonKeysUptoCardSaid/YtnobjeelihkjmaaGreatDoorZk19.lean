/- Steps (Qt). Conditions: as stated. -/
import Derived.Test.YtnobjeelihkjmaaGreatDoorZk14
import Derived.Test.YtnobjeelihkjmaaGreatDoorZk18
set_option maxHeartbeats 1000000
set_option maxRecDepth 100000
namespace Go.Proofs.YtnobjeelihkjmaaGreatDoor
section
open Go.RowKit
attribute [local go_sem] ab3 ab4 ab5 ab6 ab7 ab8
attribute [local go_sem ↓] Go.wp_at_zero Go.wp_at_succ
theorem bF8 {fn:Func} {r u z:Tmp} (h:fn.results= #[.cell r 27,.tmp u,.tmp z]) (tmps:Array Value) (w:World) (g:Nat) {k:Int} {t:ByteArray} {b:Option Addr} {n cap:Nat} {f y:Int} (hp:tmps.getD r undef= .pointer (some ⟨g,0,none⟩)) (hx:ab0 w g k t b n cap f y):
  (results fn tmps).run Tryz.prog w= .ok (.tuple #[.agg (aa7 k t b n cap f y),tmps.getD u undef,tmps.getD z undef]) w:=by
 have hp':tmps[r]?.getD undef= .pointer (some ⟨g,0,none⟩):=by simpa using hp
 have hl:(loadVar 27 ⟨g,0,none⟩).run Tryz.prog w= .ok (.agg (aa7 k t b n cap f y)) w:=run_loadVar_row w g 27 27 _ (0,0) _ hx Tryz.underlying27 rfl (by kernel_rfl)
 simp [results,h,hp',asAddr,hl]
theorem aR4 (n:Nd) (a:Option Addr) (cap:Nat) (w:World) (S:Nat→Prop) (hS: ∀k,S k→k<w.heap.size) (hr:RowS w S n.kids a 0) (ht:af1 n=true) (hc:n.kids.length≤cap):
  Calls Tryz.prog 215 #[.agg #[.int .i64 n.kind,.string n.text,.slice a n.kids.length cap,.int .i64 n.from',.int .i64 n.till]] w fun e w'=>e= .returned (.tuple #[.agg #[.int .i64 n.kind,.string n.text,.slice a n.kids.length cap,.int .i64 n.from',.int .i64 n.till],.nilIface])∧Below w.heap.size w w':=by
 have hB:Below w.heap.size w (((w.alloc (.cells #[.int .i64 n.kind,.string n.text,.slice a n.kids.length cap,.int .i64 n.from',.int .i64 n.till] 213)).alloc (.cells #[.int .i64 0,.string ⟨#[]⟩,.slice none 0 0,.int .i64 0,.int .i64 0] 27)).alloc (.cells #[.int .i64 n.kind,.string n.text,.slice a n.kids.length cap,.int .i64 n.from',.int .i64 n.till] 27)):=(Below.alloc (Below.alloc (Below.alloc (Below.refl _ w) (Nat.le_refl _) _) (by rw [World.size_alloc];omega) _) (by rw [World.size_alloc,World.size_alloc];omega) _)
 have hR:NB (((w.alloc (.cells #[.int .i64 n.kind,.string n.text,.slice a n.kids.length cap,.int .i64 n.from',.int .i64 n.till] 213)).alloc (.cells #[.int .i64 0,.string ⟨#[]⟩,.slice none 0 0,.int .i64 0,.int .i64 0] 27)).alloc (.cells #[.int .i64 n.kind,.string n.text,.slice a n.kids.length cap,.int .i64 n.from',.int .i64 n.till] 27)) (w.heap.size+1):=(ab0.nb (ab0.new (by simp):ab0 ((w.alloc (.cells #[.int .i64 n.kind,.string n.text,.slice a n.kids.length cap,.int .i64 n.from',.int .i64 n.till] 213)).alloc (.cells #[.int .i64 0,.string ⟨#[]⟩,.slice none 0 0,.int .i64 0,.int .i64 0] 27)) (w.heap.size+1) 0 ⟨#[]⟩ none 0 0 0 0)).alloc _
 have hN:ab0 (((w.alloc (.cells #[.int .i64 n.kind,.string n.text,.slice a n.kids.length cap,.int .i64 n.from',.int .i64 n.till] 213)).alloc (.cells #[.int .i64 0,.string ⟨#[]⟩,.slice none 0 0,.int .i64 0,.int .i64 0] 27)).alloc (.cells #[.int .i64 n.kind,.string n.text,.slice a n.kids.length cap,.int .i64 n.from',.int .i64 n.till] 27)) (w.heap.size+1+1) n.kind n.text a n.kids.length cap n.from' n.till:=ab0.new (by simp)
 have HC:=hJ (am3 n (.agg #[.int .i64 n.kind,.string n.text,.slice a n.kids.length cap,.int .i64 n.from',.int .i64 n.till]) (((w.alloc (.cells #[.int .i64 n.kind,.string n.text,.slice a n.kids.length cap,.int .i64 n.from',.int .i64 n.till] 213)).alloc (.cells #[.int .i64 0,.string ⟨#[]⟩,.slice none 0 0,.int .i64 0,.int .i64 0] 27)).alloc (.cells #[.int .i64 n.kind,.string n.text,.slice a n.kids.length cap,.int .i64 n.from',.int .i64 n.till] 27)) S (fun k hk=>Nat.lt_of_lt_of_le (hS k hk) hB.size) ⟨a,cap,rfl,hc,ab2 (fun _ h=>h) (fun k hk=>hB.block k (hS k hk)) hr⟩)
 rw [ht] at HC
 clear hr ht hS
 go_enter Tryz.func215,Tryz.ntmps215
 go_wp2_with fail
 refine HC.out.mono ?_
 rintro e w2 ⟨rfl,hb⟩
 replace hR:=hR.same (hb.block _ hR.lt)
 replace hN:=hN.same (hb.block _ hN.lt)
 replace hB:=hB.trans (hb.mono hB.size)
 clear hb HC
 have HR:=hJ hR
 have HN:=hJ hN
 have HB:=hJ hB
 obtain⟨_,_,_,_,_,_,_,_,_,_,_,_,y0,y1,y2,y3,y4⟩:=hR.fs
 obtain⟨z0,z1,z2,z3,z4,_⟩:=hN.facts
 clear hR hN hB
 go_wp2_with fail
 refine bodyPost_ret (ay9 rfl _ _ (w.heap.size+1) rfl (HR.out.lay n.kind n.text a n.kids.length cap n.from' n.till)) rfl ?_
 exact⟨rfl,Pc.lay5_bel HB.out (Nat.le_succ _) _ _ _ _ _⟩
end
end Go.Proofs.YtnobjeelihkjmaaGreatDoor
