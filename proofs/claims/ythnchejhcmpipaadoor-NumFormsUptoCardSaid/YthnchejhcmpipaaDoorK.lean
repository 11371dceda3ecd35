/- Plain facts of what scan gives: its pieces are digits and _; the base is 16 just for 0x, 0o, 0b. No program in sight. -/
import Derived.Test.YthnchejhcmpipaaDoorE
import Derived.Test.YthnchejhcmpipaaDoorJ
namespace Go.Proofs.YthnchejhcmpipaaDoor

/-- a digit of the base, or _ . -/
def okB (b : Nat) (c : UInt8) : Prop := isD b c = true ∨ c = 95
theorem runN_all (b : Nat) : ∀ (p : Bool) (l : List UInt8), ∀ c ∈ l.take (runN b p l), okB b c
  | _, [], c, h => by simp [runN] at h
  | p, d :: l, c, h => by
    rw [runN] at h
    split at h
    · rename_i hd
      rw [List.take_succ_cons] at h
      rcases List.mem_cons.1 h with rfl | h
      · exact .inl hd
      · exact runN_all b true l c h
    · split at h
      · rename_i hu
        rw [List.take_succ_cons] at h
        rcases List.mem_cons.1 h with rfl | h
        · exact .inr hu.1
        · exact runN_all b false l c h
      · simp at h
theorem runB_all (b : Nat) (s : ByteArray) : ∀ c ∈ (runB b s).1.data.toList, okB b c := by
  intro c hc
  unfold runB at hc
  simp only [extract_take] at hc
  exact runN_all b false _ c hc
theorem isD_10 {c : UInt8} (h : isD 0 c = true) : 48 ≤ c.toNat ∧ c.toNat ≤ 57 := by
  unfold isD at h
  split at h
  · omega
  · split at h
    · omega
    · split at h
      · omega
      · simp at h
theorem isD_ascii {b : Nat} {c : UInt8} (h : isD b c = true) : c.toNat < 128 := by
  unfold isD at h
  split at h
  · omega
  · split at h
    · omega
    · split at h
      · omega
      · have h := of_decide_eq_true h
        have g : ∀ n : Fin 256, (n.val ||| 32) ≤ 102 → n.val < 128 := by decide +kernel
        exact g ⟨c.toNat, c.toNat_lt⟩ h.2.2.1
theorem okB_ascii {b : Nat} {c : UInt8} (h : okB b c) : c.toNat < 128 := by
  rcases h with h | rfl
  · exact isD_ascii h
  · decide
/-- what holds of a literal that scan gives. -/
structure LitOk (s : ByteArray) (x : Lit) : Prop where
  base : x.base = (if isOth s = true then 16 else 10)
  whole : ∃ b, (∀ c ∈ x.whole.data.toList, okB b c) ∧ (isOth s = false → b = 0)
  part : ∀ c ∈ x.part.data.toList, okB 0 c
  power : ∀ c ∈ x.power.data.toList, okB 0 c
  sizes : x.whole.size ≤ s.size ∧ x.part.size ≤ s.size ∧ x.power.size ≤ s.size
theorem emp_all (b : Nat) : ∀ c ∈ emp.data.toList, okB b c := fun c h => by cases h
theorem wholeO_all (s : ByteArray) : ∀ c ∈ (wholeO s).1.data.toList, okB 0 c := by
  unfold wholeO
  split
  · intro c hc
    have : c = 48 := by simpa using hc
    subst this
    exact .inl (by decide)
  · exact runB_all 0 s
theorem wholeO_len (s : ByteArray) : (wholeO s).1.size ≤ s.size := by
  unfold wholeO
  split
  · rename_i h
    exact hasPrefix_pos h
  · exact (runB_size 0 s).2
theorem partO_all (s : ByteArray) : ∀ c ∈ (partO s).2.1.data.toList, okB 0 c := by
  unfold partO
  split
  · exact runB_all 0 _
  · exact emp_all 0
theorem partO_len (s : ByteArray) : (partO s).2.1.size ≤ s.size := by
  unfold partO
  split
  · have := (runB_size 0 (s.extract 1 s.size)).2
    rw [ByteArray.size_extract] at this
    simp only
    omega
  · exact Nat.zero_le _
theorem powO_all {m : Bool} {d : ByteArray} {q} (h : powO m d = some q) : (∀ c ∈ q.2.1.data.toList, okB 0 c) ∧ q.2.1.size ≤ d.size := by
  unfold powO at h
  split at h
  · cases h
  · cases h
    exact ⟨runB_all 0 d, (runB_size 0 d).2⟩
theorem expL_ok (x : Lit) (s : ByteArray) (hp : ∀ c ∈ x.power.data.toList, okB 0 c) (hz : x.power.size ≤ s.size) :
    (expL x s).1.base = x.base ∧ (expL x s).1.whole = x.whole ∧ (expL x s).1.part = x.part ∧ (∀ c ∈ (expL x s).1.power.data.toList, okB 0 c) ∧ (expL x s).1.power.size ≤ s.size := by
  unfold expL
  cases h : expO s with
  | none => exact ⟨rfl, rfl, rfl, hp, hz⟩
  | some q =>
    obtain ⟨m, p, r⟩ := q
    unfold expO at h
    split at h
    · split at h
      · have h1 := powO_all h
        have h2 := signO_size (s.extract 1 s.size)
        rw [ByteArray.size_extract] at h2
        exact ⟨rfl, rfl, rfl, h1.1, by have := h1.2; simp only at this ⊢; omega⟩
      · cases h
    · cases h
theorem bigL_ok (x : Lit) (s : ByteArray) : (bigL x s).1.base = x.base ∧ (bigL x s).1.whole = x.whole ∧ (bigL x s).1.part = x.part ∧ (bigL x s).1.power = x.power := by
  unfold bigL
  split <;> exact ⟨rfl, rfl, rfl, rfl⟩
theorem scan_ok (s : ByteArray) : LitOk s (scanB s).1 := by
  unfold scanB
  cases ho : isOth s with
  | true =>
    rw [if_pos rfl]
    have hz := (runB_size (s.data.toList[1]!.toNat ||| 32) (s.extract 2 s.size)).2
    rw [ByteArray.size_extract] at hz
    exact ⟨by rw [ho]; rfl, ⟨_, runB_all _ _, fun h => by rw [ho] at h; cases h⟩, emp_all 0, emp_all 0, by simp only [scanOth]; omega, Nat.zero_le _, Nat.zero_le _⟩
  | false =>
    rw [if_neg (by decide)]
    have hw := wholeO_all s
    have hwl := wholeO_len s
    have hws := wholeO_size s
    have hp := partO_all (wholeO s).2
    have hpl := partO_len (wholeO s).2
    have hps := partO_size (wholeO s).2
    unfold scanDec
    simp only
    split
    · exact ⟨by rw [ho]; rfl, ⟨0, hw, fun _ => rfl⟩, hp, emp_all 0, hwl, Nat.le_trans hpl hws, Nat.zero_le _⟩
    · obtain ⟨e1, e2, e3, e4, e5⟩ := expL_ok (lit10 (wholeO s).1 (partO (wholeO s).2).1 (partO (wholeO s).2).2.1) (partO (wholeO s).2).2.2 (emp_all 0) (Nat.zero_le _)
      obtain ⟨g1, g2, g3, g4⟩ := bigL_ok (expL (lit10 (wholeO s).1 (partO (wholeO s).2).1 (partO (wholeO s).2).2.1) (partO (wholeO s).2).2.2).1 (expL (lit10 (wholeO s).1 (partO (wholeO s).2).1 (partO (wholeO s).2).2.1) (partO (wholeO s).2).2.2).2
      refine ⟨by rw [g1, e1, ho]; rfl, ⟨0, by rw [g2, e2]; exact hw, fun _ => rfl⟩, by rw [g3, e3]; exact hp, by rw [g4]; exact e4, by rw [g2, e2]; exact hwl, by rw [g3, e3]; exact Nat.le_trans hpl hws, by rw [g4]; omega⟩
end Go.Proofs.YthnchejhcmpipaaDoor
