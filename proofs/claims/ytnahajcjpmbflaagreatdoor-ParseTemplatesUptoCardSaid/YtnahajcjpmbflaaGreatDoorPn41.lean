/- Steps (Asm). Conditions: as stated. -/
import Derived.Test.YtnahajcjpmbflaaGreatDoorPn05
import Derived.StillTailTactics
namespace Go.Proofs.YtnahajcjpmbflaaGreatDoor
section
open Go.RowKit
structure NSt2 (w0:World) (p q L B:Nat) (a:Nd) (b:Option Addr) (cap:Nat) (c:Nd) (d:Option Addr) (cap2:Nat) (wr:World):Prop where
 box:NdBox wr p a.kind a.text b a.kids.length cap a.from' a.till
 box2:NdBox wr q c.kind c.text d c.kids.length cap2 c.from' c.till
 row:RowP wr L B a.kids b 0
 row2:RowP wr L B c.kids d 0
 bel:Below w0.heap.size w0 wr
 hB:B≤w0.heap.size
theorem NSt2.new {w:World} {L B:Nat} {a:Nd} {b:Option Addr} {cap:Nat} {c:Nd} {d:Option Addr} {cap2:Nat} (hr:RowP w L B a.kids b 0) (hr2:RowP w L B c.kids d 0) (hB:B≤w.heap.size):
  NSt2 w w.heap.size (w.heap.size+1) L B a b cap c d cap2 ((w.alloc (.cells #[.int .i64 a.kind,.string a.text,.slice b a.kids.length cap,.int .i64 a.from',.int .i64 a.till] 31)).alloc (.cells #[.int .i64 c.kind,.string c.text,.slice d c.kids.length cap2,.int .i64 c.from',.int .i64 c.till] 31)):=by
 have h1:=Below.alloc (Below.refl _ w) (Nat.le_refl _) (.cells #[.int .i64 a.kind,.string a.text,.slice b a.kids.length cap,.int .i64 a.from',.int .i64 a.till] 31)
 have h2:=bel_alloc h1 (.cells #[.int .i64 c.kind,.string c.text,.slice d c.kids.length cap2,.int .i64 c.from',.int .i64 c.till] 31)
 have b2:=heap_alloc_new (w.alloc (.cells #[.int .i64 a.kind,.string a.text,.slice b a.kids.length cap,.int .i64 a.from',.int .i64 a.till] 31)) (.cells #[.int .i64 c.kind,.string c.text,.slice d c.kids.length cap2,.int .i64 c.from',.int .i64 c.till] 31)
 rw [World.size_alloc] at b2
 refine⟨?_,b2,RowP_bel hr (h2.mono hB),RowP_bel hr2 (h2.mono hB),h2,hB⟩
 exact(Below.heap_alloc _ _ _ (by rw [World.size_alloc];omega)).trans (heap_alloc_new _ _)
end
end Go.Proofs.YtnahajcjpmbflaaGreatDoor
