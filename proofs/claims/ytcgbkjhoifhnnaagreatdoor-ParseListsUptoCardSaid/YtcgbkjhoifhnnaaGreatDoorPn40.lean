/- Steps (Dec). Conditions: as stated. -/
import Derived.Test.YtcgbkjhoifhnnaaGreatDoorPn07
import Derived.Laws.AppendOwnNone
set_option maxHeartbeats 1000000
set_option maxRecDepth 100000
namespace Go.Proofs.YtcgbkjhoifhnnaaGreatDoor
section
open Go.RowKit
def dc2 (y:Nat):List UInt8:=if y=0 then [] else if y<10 then [UInt8.ofNat (48+y)] else [UInt8.ofNat (48+y / 10),UInt8.ofNat (48+y % 10)]
def dcl (i:Nat):List UInt8:=if i=0 then [48] else dc2 i
theorem aK1: ∀i:Fin 100,(dcl i.val).length≤2∧dcl i.val≠ []∧∀c ∈ dcl i.val,48≤c.toNat∧c.toNat≤57:=by decide+kernel
theorem bi6:(Tryz.prog.info? 5).map (fun i=>(i.zero,i.size,i.bytes))=some (some (.int .u8 0),1,1):=by kernel_rfl
theorem be6 {w:World} {B:Nat} {v:Value} {l:List UInt8} (h:w.ownsRow B 5 1 v l.length (Lib.byteCells l)):(convert 44 9 v).run Tryz.prog w= .ok (.string ⟨l.toArray⟩) w:=by
 have hb:=h
 rcases h.2 with ⟨rfl,h0⟩|⟨g,cap,cur,rfl,_⟩
 ·rw [List.length_eq_zero_iff.1 h0]
  exact run_convert_bytes_nil w 44 5 (by kernel_rfl) (by kernel_rfl) 0 0 9 (by kernel_rfl)
 ·refine run_convert_bytes_back w 44 9 5 ⟨g,0,none⟩ cap l (by kernel_rfl) (by kernel_rfl) (by kernel_rfl) fun j hj=> ?_
  refine hb.cells (g:=g) rfl j _ ?_
  simp [Lib.byteCells,List.getElem?_eq_getElem hj]
theorem bb6 (l:List UInt8): ∀u ∈ Lib.byteCells l,u.oneCell'=true:=by
 intro u hu
 simp only [Lib.byteCells,List.mem_map] at hu
 obtain⟨b,_,rfl⟩:=hu
 rfl
def DRel (n y:Nat) (l:List UInt8):Prop:=(l= []∧y=n)∨(l≠ []∧dc2 y++l=dcl n)
theorem bJ1 (y:Nat):(UInt8.ofNat (48+y % 10)).toNat=48+y % 10:=by
 rw [UInt8.toNat_ofNat']
 omega
theorem aN6 {n y:Nat} {l:List UInt8} (h:DRel n y l) (hy:0<y∨l= []) (hn:y<100):DRel n (y / 10) (UInt8.ofNat (48+y % 10)::l):=by
 refine .inr ⟨by simp,?_⟩
 have h1:0<y→dc2 (y / 10)++UInt8.ofNat (48+y % 10)::l=dc2 y++l:=by
  intro h0
  by_cases h10:y<10
  ·rw [Nat.div_eq_of_lt h10,Nat.mod_eq_of_lt h10]
   unfold dc2
   rw [if_pos rfl,if_neg (by omega),if_pos h10]
   rfl
  ·have e1: ¬y / 10=0:=by omega
   have e2:y / 10<10:=by omega
   unfold dc2
   rw [if_neg e1,if_pos e2,if_neg (by omega),if_neg h10]
   rfl
 rcases h with ⟨rfl,rfl⟩|⟨h2,h3⟩
 ·by_cases h0:0<y
  ·rw [h1 h0,List.append_nil]
   unfold dcl
   rw [if_neg (by omega)]
  ·have:y=0:=by omega
   subst this
   rfl
 ·rw [h1 (hy.resolve_right h2)]
  exact h3
theorem bh5 {n:Nat} {l:List UInt8} (h:DRel n 0 l) (hl:l≠ []):l=dcl n:=by
 rcases h with ⟨h1,_⟩|⟨_,h2⟩
 ·exact absurd h1 hl
 ·exact h2
theorem bq0 {n y:Nat} {l:List UInt8} (h:DRel n y l) (hn:n<100):l.length≤2:=by
 rcases h with ⟨rfl,_⟩|⟨_,h2⟩
 ·simp
 ·have h3:=(aK1 ⟨n,hn⟩).1
  simp only at h3
  rw [←h2,List.length_append] at h3
  omega
def be7 (n:Nat) (w wr:World) (y:Nat) (out:Value):Prop:=
 ∃l:List UInt8,DRel n y l∧wr.ownsRow w.heap.size 5 1 out l.length (Lib.byteCells l)∧Below w.heap.size w wr∧(l= []→out= .slice none 0 0)
theorem aN5 (y:Nat):Value.int .u8 (48+(y:Int) % 10)=Value.int .u8 ((UInt8.ofNat (48+y % 10)).toNat:Int):=by
 rw [bJ1]
 congr 1
def bk0:Value→Nat
 | .slice none _ _=>1
 |_=>0
theorem bt2 {w:World} {base size n:Nat} {e:TypeId} {v:Value} {xs:List Value} (h:w.ownsRow base e size v n xs) (hn:0<n):bk0 v=0:=by
 rcases h.2 with ⟨_,h0⟩|⟨g,cap,cur,rfl,_⟩
 ·omega
 ·rfl
theorem aN3 {x y:Nat} {w wr:World} {l:List UInt8} (h:DRel x y l) (hl:l= []) (hb:Below w.heap.size w wr) (hn:y<100):
  be7 x w (wr.alloc (.cells #[.int .u8 (48+(y:Int) % 10)] 5)) (y / 10) (.slice (some ⟨wr.heap.size,0,none⟩) 1 1):=by
 refine⟨_,aN6 h (.inr hl) hn,?_,Below.alloc hb hb.size _,fun e=>by cases e⟩
 subst hl
 have:=World.ownsRow_lit (base:=w.heap.size) (e:=5) (size:=1) wr #[.int .u8 (48+(y:Int) % 10)] 1 hb.size (by decide) rfl
 rw [aN5] at this⊢
 exact this
theorem bp6 {x y:Nat} {w wr w1:World} {l:List UInt8} {v:Value} (h:DRel x y l) (hy:0<y∨l= []) (hn:y<100) (hb:Below w.heap.size w wr)
  (ho:w1.ownsRow wr.heap.size 5 1 v (1+l.length) ([.int .u8 (48+(y:Int) % 10)]++Lib.byteCells l)) (hg:(wr.alloc (.cells #[.int .u8 (48+(y:Int) % 10)] 5)).grownBy w1 (some wr.heap.size)):
  be7 x w w1 (y / 10) v:=by
 refine⟨_,aN6 h hy hn,?_,?_,fun e=>by cases e⟩
 ·have:=bx4 ho hb.size
  rw [aN5] at this
  rw [List.length_cons,Nat.add_comm]
  exact this
 ·refine(hb.alloc hb.size _).grown hg ?_ ?_
  ·rw [World.size_alloc];have:=hb.size;omega
  ·intro k hk
   cases hk
   exact hb.size
theorem bb9 (x:Nat) (hx:x<100) (w:World):Calls Tryz.prog 7 #[.int .i64 (x:Int)] w fun e w'=>e= .returned (.string ⟨(dcl x).toArray⟩)∧Below w.heap.size w w':=by
 obtain⟨i0,hi,hz0,hz1,hz2⟩:=info_parts bi6
 go_enter Tryz.func7,Tryz.ntmps7
 go_wp2
 go_loopw [3,4] (fun n out wr=> ∃y:Nat,y≤x∧n= .int .u64 y∧be7 x w wr y out) (fun n out _=>(intOf n).toNat*2+bk0 out)
 case atStart=>exact⟨x,Nat.le_refl _,by go_num,[],.inl ⟨rfl,rfl⟩,World.ownsRow_nil _ _ _ _,Below.refl _ _,fun _=>rfl⟩
 case round=>
  obtain⟨y,hy,rfl,l,hd,hown,hbel,hnil⟩:=hrel
  have HD:=hJ hd
  have hlen:l.length≤2:=bq0 hd (by omega)
  clear hd
  rcases hown.2 with ⟨rfl,h0⟩|⟨g,cap,cur,rfl,hgb,hgc,hnc,hcm,hcs,htk⟩
  ·have h0:l= []:=List.length_eq_zero_iff.1 h0
   have H0:=hJ h0
   clear h0 hown
   by_cases hy0:y=0
   ·subst hy0
    go_wp2_with fail
    go_roundw
    case rel=>exact⟨0,by omega,rfl,aN3 HD.out H0.out hbel (by decide)⟩
    case measure=>show _<_;simp [intOf,bk0]
   ·have hpos:0<y:=by omega
    go_wp2_with fail
    go_roundw
    case rel=>exact⟨y / 10,by omega,by go_num,aN3 HD.out H0.out hbel (by omega)⟩
    case measure=>simp [intOf,bk0];omega
  ·clear hgc hnc hcm hcs htk
   by_cases hy0:y=0
   ·subst hy0
    have hl:l≠ []:=fun e=>by have:=hnil e;cases this
    have hpos:0<l.length:=List.length_pos_iff.2 hl
    have hstr:=be6 hown
    have HT:=hJ (bh5 HD.out hl)
    clear hnil hl HD
    go_wp2_with fail
    go_ret
    exact⟨by rw [←HT.out];rfl,hbel⟩
   ·clear hnil
    have hpos:0<y:=by omega
    go_wp2_with (at_builtin;(refine wpList_append_own_at _ rfl _ _ 44 rfl wr.heap.size 5 i0 (.int .u8 0) 1 1 (by kernel_rfl) hi hz0 hz1 hz2 rfl (by decide) _ 1 [.int .u8 (48+(y:Int) % 10)] rfl (World.ownsRow_lit wr #[.int .u8 (48+(y:Int) % 10)] 1 (Nat.le_refl _) (by decide) rfl) ⟨g,0,none⟩ l.length cap (Lib.byteCells l) rfl (by simp [Lib.byteCells]) ((hown.alloc _).cells rfl) (bb6 l) (by unfold maxLen;omega) (by omega) (by rw [World.size_alloc];omega) ?_))
    intro v' w1 hown' hgrow _ _
    have HR:=hJ (bp6 HD.out (.inl hpos) (by omega) hbel hown' hgrow)
    have HN:=hJ (bt2 hown' (by omega))
    clear hown hown' hgrow hbel
    go_wp2_with fail
    go_roundw
    case rel=>exact⟨y / 10,by omega,by go_num,HR.out⟩
    case measure=>rw [HN.out];simp [intOf,bk0];omega
end
end Go.Proofs.YtcgbkjhoifhnnaaGreatDoor
