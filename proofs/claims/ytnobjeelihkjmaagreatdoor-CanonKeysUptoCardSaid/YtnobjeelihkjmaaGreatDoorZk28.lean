/- Steps (Va). Conditions: as stated. -/
import Derived.Test.YtnobjeelihkjmaaGreatDoorZk20
namespace Go.Proofs.YtnobjeelihkjmaaGreatDoor
section
open Go.RowKit
attribute [local go_sem] ab3 ab4 ab5 ab6 ab7 ab8
attribute [local go_sem ↓] Go.wp_at_zero Go.wp_at_succ
section
variable {E:PE} {F0 F X:Nat→Prop} {w0 w W:World} {q:Ps} {bs:List Box} {ns:List Kd} {ro:Option (Value × List Kd)}
theorem Sb.setW (h:Sb E F0 X w0 F w q bs ns ro) (i:Nat) {g:Nat} {b b':Bx} (hb:nth bs i=some (g,true,b)) (ho:Only (fun k=>k=g) w W) (hat:BxAt W g b'):Sb E F0 X w0 F W q (ae4 bs i (g,true,b')) ns ro:=by
 have hbx:=h.bx _ (ab1 hb)
 have hF:F g:=hbx.1
 have hx:=hbx.2.2 rfl
 have hm:Only (Mine F X w0) w W:=ho.mono fun k hk=>by subst hk;exact⟨hF,hx⟩
 refine⟨h.s.only (hm.mono fun _ h=>h.1),h.p.adv h.s hm,h.le,h.f0,fun z hz=> ?_,ao4 h.nd hb,fun x hx=>(h.n x hx).only (hm.mono fun _ h=>h.1) h.s.lt h.s.notF,fun v l e=> ?_⟩
 ·rcases ah1 ag4 h.nd hb hz with rfl|⟨h1,h2⟩
  ·exact⟨hF,hat,fun _=>hx⟩
  ·obtain⟨a1,a2,a3⟩:=h.bx z h1
   exact⟨a1,a2.same (ho.block _ a2.lt fun e=>h2 e.symm),a3⟩
 ·obtain⟨base,a1,a2,a3,a4⟩:=h.r v l e
  refine⟨base,a1,Nat.le_trans a2 ho.size,a3.only h.s (ho.mono fun k hk=>by rw [show k=g from hk];exact⟨hF,a4 (g,true,b) (ab1 hb)⟩),fun z hz=> ?_⟩
  rcases ah1 ag4 h.nd hb hz with rfl|⟨h1,h2⟩
  ·exact a4 (g,true,b) (ab1 hb)
  ·exact a4 z h1
end
end
end Go.Proofs.YtnobjeelihkjmaaGreatDoor
