/- Plain: of signs side by side the longest one is taken. -/
import Derived.Test.YtdkkfbakggbaeaaDoorEq
namespace Go.Proofs.YtdkkfbakggbaeaaDoor
open Go.RowKit

/-- the law's signs, in its order. -/
def sgAll : List (List UInt8) := [[123], [125], [40], [41], [91], [93], [46], [46, 46, 46], [59], [44], [60], [62], [60, 61], [62, 61], [61, 61], [33, 61], [61, 61, 61], [33, 61, 61], [43], [45], [42], [37], [42, 42], [43, 43], [45, 45], [60, 60], [62, 62], [62, 62, 62], [38], [124], [94], [33], [126], [38, 38], [124, 124], [63, 63], [63], [63, 46], [58], [61], [43, 61], [45, 61], [42, 61], [37, 61], [42, 42, 61], [60, 60, 61], [62, 62, 61], [62, 62, 62, 61], [38, 61], [124, 61], [94, 61], [38, 38, 61], [124, 124, 61], [63, 63, 61], [61, 62], [47], [47, 61]]
/-- a byte of a sign. -/
def sgC (c : UInt8) : Bool := c == 33 || c == 37 || c == 38 || c == 40 || c == 41 || c == 42 || c == 43 || c == 44 || c == 45 || c == 46 || c == 47 || c == 58 || c == 59 || c == 60 || c == 61 || c == 62 || c == 63 || c == 91 || c == 93 || c == 94 || c == 123 || c == 124 || c == 125 || c == 126
theorem sgAll_chars : ∀ a ∈ sgAll, a ≠ [] ∧ a.length ≤ 4 ∧ ∀ c ∈ a, sgC c = true := by decide +kernel
theorem sgAll_row : ∀ a ∈ sgAll, a.head? ≠ some 47 → a ∈ pctRow := by decide +kernel
theorem sgAll_div : ∀ a ∈ sgAll, a.head? = some 47 → a.length ≤ 1 ∨ a = [47, 61] := by decide +kernel
theorem row_sgAll : ∀ a ∈ pctRow, a ∈ sgAll := by decide +kernel
theorem row_falls : pctRow.Pairwise (fun a b => b.length ≤ a.length) := by decide +kernel
theorem sg_low : ∀ c : Fin 256, sgC (UInt8.ofNat c.val) = true → 33 ≤ c.val ∧ c.val < 127 ∧ c.val ≠ 96 ∧ c.val ≠ 35 ∧ ¬ (48 ≤ c.val ∧ c.val ≤ 57) ∧ c.val ≠ 39 ∧ c.val ≠ 34 ∧ startC ((c.val : Nat) : Int) = false := by decide +kernel
theorem sg_byte {c : UInt8} (h : sgC c = true) : 33 ≤ c.toNat ∧ c.toNat < 127 ∧ c ≠ 96 ∧ c ≠ 35 ∧ ¬ (48 ≤ c.toNat ∧ c.toNat ≤ 57) ∧ c ≠ 39 ∧ c ≠ 34 ∧ startC ((c.toNat : Nat) : Int) = false := by
  obtain ⟨h1, h2, h3, h4, h5, h6, h7, h8⟩ := sg_low ⟨c.toNat, c.toNat_lt⟩ (by simpa using h)
  simp only at h1 h2 h3 h4 h5 h6 h7 h8
  exact ⟨h1, h2, fun e => h3 (by rw [e]; rfl), fun e => h4 (by rw [e]; rfl), h5, fun e => h6 (by rw [e]; rfl), fun e => h7 (by rw [e]; rfl), h8⟩
/-- the longest that begins the text, under way. -/
def mx (l : List UInt8) : List (List UInt8) → Nat → Nat
  | [], k => k
  | a :: row, k => mx l row (if (Lib.hasPrefix l a && decide (k < a.length)) = true then a.length else k)
theorem mx_ge (l : List UInt8) : ∀ (row : List (List UInt8)) (k : Nat), k ≤ mx l row k ∧ ∀ a ∈ row, Lib.hasPrefix l a = true → a.length ≤ mx l row k
  | [], k => ⟨Nat.le_refl _, fun _ h => by cases h⟩
  | a :: row, k => by
    obtain ⟨h1, h2⟩ := mx_ge l row (if (Lib.hasPrefix l a && decide (k < a.length)) = true then a.length else k)
    rw [mx]
    have h3 : k ≤ (if (Lib.hasPrefix l a && decide (k < a.length)) = true then a.length else k) := by
      split
      · rename_i h
        rw [Bool.and_eq_true] at h
        exact Nat.le_of_lt (of_decide_eq_true h.2)
      · exact Nat.le_refl _
    refine ⟨Nat.le_trans h3 h1, fun b hb hp => ?_⟩
    rcases List.mem_cons.1 hb with rfl | hb
    · refine Nat.le_trans ?_ h1
      split
      · exact Nat.le_refl _
      · rename_i h
        rw [hp, Bool.true_and] at h
        have := of_decide_eq_false (Bool.eq_false_iff.2 h)
        omega
    · exact h2 b hb hp
theorem mx_at (l : List UInt8) : ∀ (row : List (List UInt8)) (k : Nat), mx l row k = k ∨ ∃ a ∈ row, Lib.hasPrefix l a = true ∧ a.length = mx l row k
  | [], k => .inl rfl
  | a :: row, k => by
    rw [mx]
    rcases mx_at l row (if (Lib.hasPrefix l a && decide (k < a.length)) = true then a.length else k) with h | ⟨b, hb, h1, h2⟩
    · rw [h]
      split
      · rename_i h3
        rw [Bool.and_eq_true] at h3
        exact .inr ⟨a, .head _, h3.1, rfl⟩
      · exact .inl rfl
    · exact .inr ⟨b, .tail _ hb, h1, h2⟩
theorem mx_append (l : List UInt8) : ∀ (r1 r2 : List (List UInt8)) (k : Nat), mx l (r1 ++ r2) k = mx l r2 (mx l r1 k)
  | [], _, _ => rfl
  | a :: r1, r2, k => by rw [List.cons_append, mx, mx, mx_append l r1 r2]
theorem mx_le (l : List UInt8) (row : List (List UInt8)) (k : Nat) (h : k ≤ l.length) : mx l row k ≤ l.length := by
  rcases mx_at l row k with e | ⟨a, _, h1, h2⟩
  · omega
  · have := prefix_len h1
    omega
theorem mx_step (l : List UInt8) (row : List (List UInt8)) (i : Nat) (h : i < row.length) : mx l (row.take (i + 1)) 0 = if (Lib.hasPrefix l row[i] && decide (mx l (row.take i) 0 < row[i].length)) = true then row[i].length else mx l (row.take i) 0 := by
  rw [List.take_succ_eq_append_getElem h, mx_append]
  rfl
theorem prefix_take {l a : List UInt8} (h : Lib.hasPrefix l a = true) : l.take a.length = a := by
  have := List.isPrefixOf_iff_prefix.1 (show a.isPrefixOf l = true from h)
  exact (List.prefix_iff_eq_take.1 this).symm
theorem find_first {p : List UInt8 → Bool} {w : List UInt8} : ∀ {row : List (List UInt8)}, row.Pairwise (fun a b => b.length ≤ a.length) → row.find? p = some w → ∀ a ∈ row, p a = true → a.length ≤ w.length
  | [], _, h, _, _, _ => by cases h
  | x :: row, hp, h, a, ha, hpa => by
    rw [List.find?_cons] at h
    rw [List.pairwise_cons] at hp
    cases hx : p x with
    | true =>
      rw [hx] at h
      cases h
      rcases List.mem_cons.1 ha with rfl | ha
      · exact Nat.le_refl _
      · exact hp.1 a ha
    | false =>
      rw [hx] at h
      rcases List.mem_cons.1 ha with rfl | ha
      · rw [hx] at hpa; cases hpa
      · exact find_first hp.2 h a ha hpa
/-- the longest sign is the punctuator. -/
theorem pct_mx {l : List UInt8} (hl : ∀ c ∈ l, sgC c = true) (hx : ∃ a ∈ sgAll, Lib.hasPrefix l a = true) : pct 1 l = mx l sgAll 0 ∧ pct 1 l ≠ 0 := by
  obtain ⟨hge0, hge⟩ := mx_ge l sgAll 0
  have hdig : ∀ k, digAt (l.drop k) = false := by
    intro k
    cases hd : l.drop k with
    | nil => rfl
    | cons c r =>
      have hc : c ∈ l := List.mem_of_mem_drop (by rw [hd]; exact .head _)
      obtain ⟨_, _, _, _, h5, _⟩ := sg_byte (hl c hc)
      exact decide_eq_false h5
  have hpi : ∀ w, pctIs l w = Lib.hasPrefix l w := fun w => by unfold pctIs; rw [hdig]; simp
  obtain ⟨x, hxm, hxp⟩ := hx
  have hx0 := List.length_pos_iff.2 (sgAll_chars x hxm).1
  have hpos : 0 < mx l sgAll 0 := by have := hge x hxm hxp; omega
  obtain ⟨b, hb, hb1, hb2⟩ : ∃ a ∈ sgAll, Lib.hasPrefix l a = true ∧ a.length = mx l sgAll 0 := (mx_at l sgAll 0).resolve_left (by omega)
  have key : ∀ n, (∃ a ∈ sgAll, Lib.hasPrefix l a = true ∧ a.length = n) → (∀ a ∈ sgAll, Lib.hasPrefix l a = true → a.length ≤ n) → n = mx l sgAll 0 := by
    rintro n ⟨a, ha, h1, h2⟩ h3
    have h4 := hge a ha h1
    have h5 := h3 b hb hb1
    omega
  have hhead : ∀ a ∈ sgAll, Lib.hasPrefix l a = true → ∀ c r, l = c :: r → a.head? = some c := by
    intro a ha hp c r e
    obtain ⟨h1, _, _⟩ := sgAll_chars a ha
    cases a with
    | nil => exact absurd rfl h1
    | cons d u =>
      rw [e] at hp
      have h2 : (d == c && Lib.hasPrefix r u) = true := hp
      rw [Bool.and_eq_true] at h2
      rw [eq_of_beq h2.1]
      rfl
  have e : pct 1 l = mx l sgAll 0 := by
    refine key _ ?_ ?_
    all_goals
      unfold pct
      by_cases h1 : Lib.hasPrefix l [47, 61] = true
      · rw [if_pos ⟨rfl, h1⟩]
        first
        | exact ⟨[47, 61], by decide +kernel, h1, rfl⟩
        | (intro a ha hp
           cases hc : l with
           | nil => rw [hc] at h1; cases h1
           | cons c r =>
             rw [hc] at h1
             have h2 : ((47 : UInt8) == c && Lib.hasPrefix r [61]) = true := h1
             rw [Bool.and_eq_true] at h2
             have h3 := hhead a ha hp c r hc
             rw [← eq_of_beq h2.1] at h3
             rcases sgAll_div a ha h3 with h4 | h4
             · omega
             · rw [h4]; decide)
      · rw [if_neg (fun h => h1 h.2)]
        by_cases h2 : Lib.hasPrefix l [47] = true
        · rw [if_pos ⟨rfl, h2⟩]
          first
          | exact ⟨[47], by decide +kernel, h2, rfl⟩
          | (intro a ha hp
             cases hc : l with
             | nil => rw [hc] at h2; cases h2
             | cons c r =>
               rw [hc] at h2
               have h3 : ((47 : UInt8) == c && true) = true := h2
               rw [Bool.and_true] at h3
               have h4 := hhead a ha hp c r hc
               rw [← eq_of_beq h3] at h4
               rcases sgAll_div a ha h4 with h5 | h5
               · exact h5
               · rw [h5] at hp; exact absurd hp h1)
        · rw [if_neg (fun h => h2 h.2)]
          have hrow : ∀ a ∈ sgAll, Lib.hasPrefix l a = true → a ∈ pctRow := by
            intro a ha hp
            refine sgAll_row a ha (fun h47 => ?_)
            cases a with
            | nil => cases h47
            | cons d u =>
              cases h47
              cases hc : l with
              | nil => rw [hc] at hp; cases hp
              | cons c r =>
                rw [hc] at hp h2
                have h3 : ((47 : UInt8) == c && Lib.hasPrefix r u) = true := hp
                rw [Bool.and_eq_true] at h3
                apply h2
                show ((47 : UInt8) == c && true) = true
                rw [h3.1]
                rfl
          cases hf : pctRow.find? (pctIs l) with
          | none =>
            have := List.find?_eq_none.1 hf x (hrow x hxm hxp)
            rw [hpi] at this
            exact absurd hxp this
          | some w =>
            have hw1 := List.find?_some hf
            rw [hpi] at hw1
            have hw2 := List.mem_of_find?_eq_some hf
            first
            | exact ⟨w, row_sgAll w hw2, hw1, rfl⟩
            | exact fun a ha hp => find_first row_falls hf a (hrow a ha hp) (by rw [hpi]; exact hp)
  exact ⟨e, by omega⟩
/-- the whole law in plain. -/
theorem puncts_nxt {S : ByteArray} (hl : ∀ c ∈ S.data.toList, sgC c = true) (hx : ∃ a ∈ sgAll, Lib.hasPrefix S.data.toList a = true) (h1 : Lib.hasPrefix S.data.toList [47, 47] = false) (h2 : Lib.hasPrefix S.data.toList [47, 42] = false) :
    nxt S 0 1 = .fine 5 0 (mx S.data.toList sgAll 0) false [] := by
  obtain ⟨e, hne⟩ := pct_mx hl hx
  cases hS : S.data.toList with
  | nil =>
    obtain ⟨a, ha, hp⟩ := hx
    rw [hS] at hp
    have h5 := prefix_len hp
    have h6 := List.length_pos_iff.2 (sgAll_chars a ha).1
    rw [List.length_nil] at h5
    omega
  | cons c r =>
    have hc := sg_byte (hl c (by rw [hS]; exact .head _))
    obtain ⟨c1, c2, c3, c4, c5, c6, c7, c8⟩ := hc
    have hdig : ∀ k, digAt ((c :: r).drop k) = false := by
      intro k
      cases hd : (c :: r).drop k with
      | nil => rfl
      | cons d u =>
        have hm : d ∈ S.data.toList := by rw [hS]; exact List.mem_of_mem_drop (i := k) (by rw [hd]; exact .head _)
        obtain ⟨_, _, _, _, h5, _⟩ := sg_byte (hl d hm)
        exact decide_eq_false h5
    have hg : isGap S.data.toList = false := by rw [hS]; exact low_gap c r c1 c2
    have hk : cmKind 0 S.data.toList = 0 := by
      unfold cmKind
      rw [h1, h2, hS, pre_head c4]
      simp
    have hp : tokT 1 S.data.toList = .fine 5 (mx S.data.toList sgAll 0) := by
      unfold tokT
      rw [if_neg (by omega), if_neg (by omega), if_neg (by omega)]
      unfold plainT
      generalize mx S.data.toList sgAll 0 = m at *
      rw [hS] at e hne ⊢
      rw [if_neg (by simp), pre_head c3, pre_head c4, pre_head c6, pre_head c7, if_neg (by decide), if_neg (by decide), if_neg, if_neg (by decide), if_neg (by rintro ⟨h, _⟩; exact absurd h (by decide)), if_neg, if_pos hne, e]
      · intro h
        have := name_pos (l := c :: r) h
        rw [nx_ascii c r (by omega), c8] at this
        cases this.2
      · rintro (h | ⟨_, h⟩)
        · have := hdig 0
          rw [List.drop_zero, h] at this
          cases this
        · rw [hdig 1] at h; cases h
    rw [nxt_zero S 1 (.inl rfl) hg hk, hp, ← hS]
end Go.Proofs.YtdkkfbakggbaeaaDoor
