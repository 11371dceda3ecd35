/- Parts: Plain: what Expr reads of news and arguments. | Plain: what Expr reads of news and arguments, part A. | Plain: what Expr reads of news and arguments, part B. | Plain: what Expr reads of news and arguments, part C. | Plain: what Expr reads of news and arguments, part D. | Plain: what Expr reads of news and arguments, whole. -/
import Derived.Test.YtfnjjgmhjbhclaaGreatDoorPn08
namespace Go.Proofs.YtfnjjgmhjbhclaaGreatDoor
section
def nwN : Nat → List UInt8
 | 0 => [97]
 | i + 1 => [110, 101, 119, 32] ++ nwN i
def nwM (k : Nat) : Nat → List UInt8
 | 0 => nwN k
 | j + 1 => nwM k j ++ [40, 41]
def newT (k m : Nat) : ByteArray := ⟨(nwM k m).toArray⟩
def nwX (m i : Nat) : Nd := if i < m then .mk 36 ⟨#[]⟩ [] 0 0 else .zero
def nwW (m : Nat) : Nat → Nd
 | 0 => .mk 1 ⟨#[97]⟩ [] 0 0
 | i + 1 => .mk 37 ⟨#[]⟩ [nwW m i, nwX m i] 0 0
def nwC (k m : Nat) : Nat → Nd
 | 0 => nwW m k
 | j + 1 => if k ≤ j then .mk 35 ⟨#[]⟩ [nwC k m j, .mk 36 ⟨#[]⟩ [] 0 0] 0 0 else nwC k m j
def nwOk (k m : Nat) : Bool := match exprQ (newT k m) false 120 with
 | .ok n _ => decide (ndSize n ≤ 8000) && sameNd (bareNd n) (nwC k m m)
 | _ => false
end
section
set_option maxRecDepth 100000 in
theorem nw0 : ∀ m : Fin 16, nwOk 0 m.val = true := by decide +kernel
set_option maxRecDepth 100000 in
theorem nw1 : ∀ m : Fin 16, nwOk 1 m.val = true := by decide +kernel
set_option maxRecDepth 100000 in
theorem nw2 : ∀ m : Fin 16, nwOk 2 m.val = true := by decide +kernel
set_option maxRecDepth 100000 in
theorem nw3 : ∀ m : Fin 16, nwOk 3 m.val = true := by decide +kernel
set_option maxRecDepth 100000 in
theorem nw4 : ∀ m : Fin 16, nwOk 4 m.val = true := by decide +kernel
set_option maxRecDepth 100000 in
theorem nw5 : ∀ m : Fin 16, nwOk 5 m.val = true := by decide +kernel
set_option maxRecDepth 100000 in
theorem nw6 : ∀ m : Fin 16, nwOk 6 m.val = true := by decide +kernel
end
section
set_option maxRecDepth 100000 in
theorem nw7 : ∀ m : Fin 16, nwOk 7 m.val = true := by decide +kernel
set_option maxRecDepth 100000 in
theorem nw8 : ∀ m : Fin 16, nwOk 8 m.val = true := by decide +kernel
set_option maxRecDepth 100000 in
theorem nw9 : ∀ m : Fin 16, nwOk 9 m.val = true := by decide +kernel
set_option maxRecDepth 100000 in
theorem nw10 : ∀ m : Fin 16, nwOk 10 m.val = true := by decide +kernel
end
section
set_option maxRecDepth 100000 in
theorem nw11 : ∀ m : Fin 16, nwOk 11 m.val = true := by decide +kernel
set_option maxRecDepth 100000 in
theorem nw12 : ∀ m : Fin 16, nwOk 12 m.val = true := by decide +kernel
set_option maxRecDepth 100000 in
theorem nw13 : ∀ m : Fin 16, nwOk 13 m.val = true := by decide +kernel
end
section
set_option maxRecDepth 100000 in
theorem nw14 : ∀ m : Fin 16, nwOk 14 m.val = true := by decide +kernel
set_option maxRecDepth 100000 in
theorem nw15 : ∀ m : Fin 16, nwOk 15 m.val = true := by decide +kernel
end
section
theorem nw_all (k m : Nat) (hk : k < 16) (hm : m < 16) : nwOk k m = true := by
 have h : k = 0 ∨ k = 1 ∨ k = 2 ∨ k = 3 ∨ k = 4 ∨ k = 5 ∨ k = 6 ∨ k = 7 ∨ k = 8 ∨ k = 9 ∨ k = 10 ∨ k = 11 ∨ k = 12 ∨ k = 13 ∨ k = 14 ∨ k = 15 := by omega
 rcases h with rfl | rfl | rfl | rfl | rfl | rfl | rfl | rfl | rfl | rfl | rfl | rfl | rfl | rfl | rfl | rfl
 ·exact nw0 ⟨m, hm⟩
 ·exact nw1 ⟨m, hm⟩
 ·exact nw2 ⟨m, hm⟩
 ·exact nw3 ⟨m, hm⟩
 ·exact nw4 ⟨m, hm⟩
 ·exact nw5 ⟨m, hm⟩
 ·exact nw6 ⟨m, hm⟩
 ·exact nw7 ⟨m, hm⟩
 ·exact nw8 ⟨m, hm⟩
 ·exact nw9 ⟨m, hm⟩
 ·exact nw10 ⟨m, hm⟩
 ·exact nw11 ⟨m, hm⟩
 ·exact nw12 ⟨m, hm⟩
 ·exact nw13 ⟨m, hm⟩
 ·exact nw14 ⟨m, hm⟩
 ·exact nw15 ⟨m, hm⟩
end
end Go.Proofs.YtfnjjgmhjbhclaaGreatDoor
