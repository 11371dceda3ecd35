/- What the bound on what a law reads gives. No condition. -/
import Derived.Test.YteejjkfmmhegmaaGreatDoorRows
namespace Go.Proofs.YteejjkfmmhegmaaGreatDoor

theorem one_le {H : Type} (d : DataW H) : 1 ≤ Rows.uptoBulk d := by
  cases d with
  | lit l => cases l <;> simp [Rows.uptoBulk]
  | _ => simp [Rows.uptoBulk]
theorem upto_mem {H : Type} {d : DataW H} {l : List (DataW H)} (hk : Rows.uptoSmall H l = true) (h : d ∈ l) : Rows.uptoBulk d ≤ 1048576 := by
  have hk' : Rows.uptoBulkAll l ≤ 1048576 := by simpa [Rows.uptoSmall] using hk
  refine Nat.le_trans ?_ hk'
  clear hk hk'
  induction l with
  | nil => cases h
  | cons x r ih =>
    simp only [Rows.uptoBulkAll]
    rcases List.mem_cons.1 h with e | e
    · subst e; omega
    · have := ih e; omega
theorem upto_string20 {H : Type} {s : ByteArray} {l : List (DataW H)} (hk : Rows.uptoSmall H l = true) (h : DataW.lit (H := H) (.string s.data.toList) ∈ l) : s.size ≤ 1048576 := by
  have := upto_mem hk h
  simp [Rows.uptoBulk] at this
  omega
theorem upto_string {H : Type} {s : ByteArray} {l : List (DataW H)} (hk : Rows.uptoSmall H l = true) (h : DataW.lit (H := H) (.string s.data.toList) ∈ l) : s.size ≤ 16777216 := by
  have := upto_mem hk h
  simp [Rows.uptoBulk] at this
  omega
end Go.Proofs.YteejjkfmmhegmaaGreatDoor
