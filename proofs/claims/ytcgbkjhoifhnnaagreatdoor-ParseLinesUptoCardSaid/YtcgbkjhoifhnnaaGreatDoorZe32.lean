/- Steps (Vb0 Wf0). Conditions: as stated. -/
import Derived.Test.YtcgbkjhoifhnnaaGreatDoorZe29
namespace Go.Proofs.YtcgbkjhoifhnnaaGreatDoor
section
open Go.RowKit
attribute [local go_sem] ab4 ab5 ab6 ab7 ab8 ab9
attribute [local go_sem ↓] Go.wp_at_zero Go.wp_at_succ
end
section
open Go.RowKit
section
variable {E:PE} {F0 F X:Nat→Prop} {w0 w w1 W:World} {q q1:Ps} {bs bs':List Box} {ns:List Kd} {ro:Ro}
theorem Sa.setc2 (h:Sa E F0 X w0 w q bs ns ro) (i:Nat) {g:Nat} {v0 v1 v2 v3 v4:Value} {t:TypeId} (hb:nth bs i=some (g,true,.c5 v0 v1 v2 v3 v4 t)) (u:Value):Hid (Sa E F0 X w0 (w.setCell ⟨g,2,none⟩ u) q (ac8 bs i (g,true,.c5 v0 v1 u v3 v4 t)) ns ro):=by
 obtain⟨F,h⟩:=h
 have hat:w.heap[g]? =some (.cells #[v0,v1,v2,v3,v4] t (0,0)):=(h.bx _ (aa4 hb)).2.1
 have e0:=heap_setCell_same _ g 2 _ _ u hat
 have e2:(w.setCell ⟨g,2,none⟩ u).heap[g]? =some (.cells #[v0,v1,u,v3,v4] t (0,0)):=by simpa using e0
 exact⟨F,h.setW (b':= .c5 v0 v1 u v3 v4 t) i hb (Only.setCell (X:=fun k=>k=g) (Only.refl _ _) (p:=⟨g,2,none⟩) (.inl rfl) _) e2⟩
theorem Sa.setc4 (h:Sa E F0 X w0 w q bs ns ro) (i:Nat) {g:Nat} {v0 v1 v2 v3 v4:Value} {t:TypeId} (hb:nth bs i=some (g,true,.c5 v0 v1 v2 v3 v4 t)) (u:Value):Hid (Sa E F0 X w0 (w.setCell ⟨g,4,none⟩ u) q (ac8 bs i (g,true,.c5 v0 v1 v2 v3 u t)) ns ro):=by
 obtain⟨F,h⟩:=h
 have hat:w.heap[g]? =some (.cells #[v0,v1,v2,v3,v4] t (0,0)):=(h.bx _ (aa4 hb)).2.1
 have e0:=heap_setCell_same _ g 4 _ _ u hat
 have e2:(w.setCell ⟨g,4,none⟩ u).heap[g]? =some (.cells #[v0,v1,v2,v3,u] t (0,0)):=by simpa using e0
 exact⟨F,h.setW (b':= .c5 v0 v1 v2 v3 u t) i hb (Only.setCell (X:=fun k=>k=g) (Only.refl _ _) (p:=⟨g,4,none⟩) (.inl rfl) _) e2⟩
theorem Sa.bne (h:Sa E F0 X w0 w q bs ns ro) (i j:Nat) {a b:Box} (ha:nth bs i=some a) (hb:nth bs j=some b) (hij:i≠j):a.1≠b.1:=h.elim fun _ h=>aZ3 ah3 h.nd ha hb hij
theorem Sa.nest (h:Sa E F0 X w0 w q bs ns ro) (hE:E.Ok) (n:Int) (h0:0≤n) (h1:n≤4000):Hid (Sa E F0 X w0 (w.setCell ⟨E.b,12,none⟩ (.int .i64 n)) { q with nest:=n } bs ns ro):=h.elim fun F h=>by
 obtain⟨h1,h2⟩:=h.s.set (X:=X0) hE.hb 12 (.int .i64 n) { q with nest:=n } (fun _ _ _=>rfl) rfl rfl rfl ⟨h0,h1⟩
 exact⟨_,h.call h1 h2⟩
theorem Sa.nst (h:Sa E F0 X w0 w q bs ns ro):0≤q.nest∧q.nest≤4000:=h.elim fun _ h=>h.s.nst
end
end
end Go.Proofs.YtcgbkjhoifhnnaaGreatDoor
