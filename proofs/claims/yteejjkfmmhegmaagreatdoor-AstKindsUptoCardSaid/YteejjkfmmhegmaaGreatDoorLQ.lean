/- Plain: a token is a piece of the text; it lies behind what stands ahead; read again at its own place it is the same. -/
import Derived.Test.YteejjkfmmhegmaaGreatDoorLT
namespace Go.Proofs.YteejjkfmmhegmaaGreatDoor
open Go.RowKit

def TpO.In (o : TpO) (m : Nat) : Prop := match o with
  | .fine n _ => n ≤ m
  | .bad off _ => off ≤ m
theorem TpO.In.shift {o : TpO} {k m : Nat} (h : o.In (m - k)) (hk : k ≤ m) : (o.shift k).In m := by
  cases o <;> simp only [TpO.In, TpO.shift] at h ⊢ <;> omega
theorem tplF_in : ∀ (f : Nat) (l : List UInt8), (tplF f l).In l.length
  | 0, _ => Nat.zero_le _
  | f + 1, l => by
    rw [tplF]
    split
    · rename_i h; exact prefix_len h
    · split
      · rename_i h; exact prefix_len h
      · split
        · exact esc_le l
        · split
          · exact esc_le l
          · obtain ⟨m, h3, h4, h5, h6⟩ := nx_pos (l := l.drop (esc l)) (by omega)
            have := esc_le l
            rw [List.length_drop] at h4
            refine TpO.In.shift ?_ (by rw [h3, Int.toNat_natCast]; omega)
            have h := tplF_in f (l.drop (esc l + (nx (l.drop (esc l))).2.toNat))
            rw [List.length_drop] at h
            exact h
theorem tpl_in (l : List UInt8) : (tpl l).In l.length := tplF_in _ _
theorem rgxF_in : ∀ (f : Nat) (first cls : Bool) (l : List UInt8), (rgxF f first cls l).In l.length
  | 0, _, _, _ => Nat.zero_le _
  | f + 1, first, cls, l => by
    rw [rgxF]
    have hlen : l ≠ [] → 1 ≤ l.length := fun h => List.length_pos_iff.2 h
    split
    · exact Nat.zero_le _
    · rename_i hbad
      have hne : l ≠ [] := fun h => hbad (.inl (by rw [h]; rfl))
      have h1 := hlen hne
      split
      · have h2 := partLen_le false (l.drop 1).length (l.drop 1)
        have h3 : (l.drop 1).length = l.length - 1 := List.length_drop
        show 1 + partsL false (l.drop 1) ≤ l.length
        unfold partsL
        omega
      · split
        · exact h1
        · have he : escC (nx l).1 ≤ l.length := by unfold escC; split <;> omega
          split
          · exact he
          · obtain ⟨m, h3, h4, h5, h6⟩ := nx_pos (l := l.drop (escC (nx l).1)) (by omega)
            rw [List.length_drop] at h4
            refine TpO.In.shift ?_ (by rw [h3, Int.toNat_natCast]; omega)
            have h := rgxF_in f false (clsN (nx l).1 cls) (l.drop (escC (nx l).1 + (nx (l.drop (escC (nx l).1))).2.toNat))
            rw [List.length_drop] at h
            exact h
theorem rgx_in (first cls : Bool) (l : List UInt8) : (rgx first cls l).In l.length := rgxF_in _ _ _ _
theorem attF_in (q : UInt8) : ∀ (f : Nat) (l : List UInt8), (attF q f l).In l.length
  | 0, _ => Nat.zero_le _
  | f + 1, l => by
    rw [attF]
    split
    · rename_i h; exact prefix_len h
    · split
      · exact Nat.zero_le _
      · split
        · exact Nat.zero_le _
        · obtain ⟨m, h3, h4, h5, h6⟩ := nx_pos (l := l) (by omega)
          refine TpO.In.shift ?_ (by rw [h3, Int.toNat_natCast]; omega)
          have h := attF_in q f (l.drop (nx l).2.toNat)
          rw [List.length_drop] at h
          exact h
theorem att_in (q : UInt8) (l : List UInt8) : (att q l).In l.length := attF_in _ _ _
theorem chF_le : ∀ (f : Nat) (l : List UInt8), (chF f l).2 ≤ l.length
  | 0, _ => Nat.zero_le _
  | _ + 1, [] => Nat.zero_le _
  | f + 1, c :: l => by
    rw [chF]
    split
    · exact Nat.zero_le _
    · split
      · exact Nat.zero_le _
      · rename_i hn
        obtain ⟨n, e, e2, e3⟩ := nx_cons_pos hn
        have h := chF_le f ((c :: l).drop (nx (c :: l)).2.toNat)
        rw [List.length_drop, e, Int.toNat_natCast] at h
        simp only [up]
        rw [e, Int.toNat_natCast]
        simp only [List.length_cons] at h ⊢
        omega
theorem ch_le (l : List UInt8) : (ch l).2 ≤ l.length := chF_le _ _
theorem txtL_len (l : List UInt8) : txtL l ≤ l.length := by
  cases l with
  | nil => exact Nat.le_refl _
  | cons q l =>
    rw [txtL]
    simp only [List.length_cons]
    split
    · rename_i h; omega
    · omega
def TkO.In (o : TkO) (m : Nat) : Prop := match o with
  | .fine kind n => n ≤ m ∧ (kind = 0 → n = 0 ∧ m = 0)
  | .bad off _ => off ≤ m
theorem aft_in {l : List UInt8} {kind : Int} {n : Nat} (h : n ≤ l.length) (hk : kind ≠ 0) : (aft l kind n).In l.length := by
  unfold aft
  split
  · exact h
  · exact ⟨h, fun e => absurd e hk⟩
theorem tpTk_in {l : List UInt8} {o : TpO} {kh kt : Int} (hl : l ≠ []) (h : o.In (l.drop 1).length) (h1 : kh ≠ 0) (h2 : kt ≠ 0) : (tpTk kh kt o).In l.length := by
  have hp := List.length_pos_iff.2 hl
  rw [List.length_drop] at h
  cases o with
  | fine n b =>
    simp only [TpO.In] at h
    refine ⟨by omega, ?_⟩
    split
    · exact fun e => absurd e h1
    · exact fun e => absurd e h2
  | bad off code =>
    simp only [TpO.In] at h
    simp only [tpTk, TkO.In]
    split <;> omega
theorem rgTk_in {l : List UInt8} {o : TpO} (hl : l ≠ []) (h : o.In (l.drop 1).length) : (rgTk l o).In l.length := by
  have hp := List.length_pos_iff.2 hl
  rw [List.length_drop] at h
  cases o with
  | fine n b =>
    simp only [TpO.In] at h
    exact aft_in (by omega) (by decide)
  | bad off code =>
    simp only [TpO.In] at h
    simp only [rgTk, TkO.In]
    split <;> omega
theorem nameL_len (dash : Bool) (l : List UInt8) : nameL dash l ≤ l.length := by
  unfold nameL
  split
  · exact partLen_le _ _ _
  · exact Nat.zero_le _
theorem numL_len (l : List UInt8) : numL l ≤ l.length := by
  unfold numL
  split
  · exact Nat.zero_le _
  · exact longL_le _
theorem pct_len (goal : Int) (l : List UInt8) : pct goal l ≤ l.length := by
  unfold pct
  split
  · rename_i h; exact prefix_len h.2
  · split
    · rename_i h; exact prefix_len h.2
    · split
      · rename_i w h
        have := List.find?_some h
        unfold pctIs at this
        rw [Bool.and_eq_true] at this
        exact prefix_len this.1
      · exact Nat.zero_le _
theorem txt_in (l : List UInt8) : (txt l).In l.length := by
  have h1 := txtL_len l
  have h2 := strC_le (l.take (txtL l))
  rw [List.length_take] at h2
  unfold txt
  split
  · exact ⟨h1, fun e => absurd e (by decide)⟩
  · split
    · show _ ≤ _; omega
    · show _ ≤ _; omega
theorem odd_in (l : List UInt8) : (odd l).In l.length := Nat.zero_le _
theorem pre_ne {l : List UInt8} {a : UInt8} {t : List UInt8} (h : Lib.hasPrefix l (a :: t) = true) : l ≠ [] := by
  rintro rfl
  have := prefix_len h
  simp at this
theorem plainT_in (goal : Int) (l : List UInt8) : (plainT goal l).In l.length := by
  unfold plainT
  split
  · rename_i h; subst h; exact ⟨Nat.le_refl _, fun _ => ⟨rfl, rfl⟩⟩
  · rename_i hne
    split
    · exact tpTk_in hne (tpl_in _) (by decide) (by decide)
    · split
      · unfold priv
        have hp := List.length_pos_iff.2 hne
        split
        · exact hp
        · split
          · exact Nat.zero_le _
          · refine aft_in ?_ (by decide)
            have := nameL_len false (l.drop 1)
            rw [List.length_drop] at this
            omega
      · split
        · unfold numT
          split
          · exact Nat.zero_le _
          · exact aft_in (numL_len l) (by decide)
        · split
          · exact txt_in l
          · split
            · exact rgTk_in hne (rgx_in _ _ _)
            · split
              · exact aft_in (nameL_len _ _) (by decide)
              · split
                · exact ⟨pct_len _ _, fun e => absurd e (by decide)⟩
                · exact odd_in l
theorem tagT_in (l : List UInt8) : (tagT l).In l.length := by
  cases l with
  | nil => exact ⟨Nat.le_refl _, fun _ => ⟨rfl, rfl⟩⟩
  | cons c l =>
    rw [tagT]
    split
    · have h := att_in c l
      split
      · rename_i n b e
        rw [e] at h
        simp only [TpO.In] at h
        refine ⟨?_, fun e => absurd e (by decide)⟩
        simp only [List.length_cons]
        omega
      · rename_i off code e
        rw [e] at h
        simp only [TpO.In] at h
        simp only [TkO.In, List.length_cons]
        split <;> omega
    · split
      · exact ⟨by simp, fun e => absurd e (by decide)⟩
      · split
        · exact aft_in (nameL_len _ _) (by decide)
        · exact odd_in _
theorem childT_in (l : List UInt8) : (childT l).In l.length := by
  have h := ch_le l
  unfold childT
  split
  · exact h
  · split
    · exact ⟨h, fun e => absurd e (by decide)⟩
    · split
      · rename_i h; subst h; exact ⟨Nat.le_refl _, fun _ => ⟨rfl, rfl⟩⟩
      · rename_i hne
        split
        · exact ⟨List.length_pos_iff.2 hne, fun e => absurd e (by decide)⟩
        · exact odd_in l
theorem tailT_in {l : List UInt8} (hl : l ≠ []) : (tailT l).In l.length := tpTk_in hl (tpl_in _) (by decide) (by decide)
theorem cmt_in : ∀ (blk : Bool) (f : Nat) (l : List UInt8) (off : Nat) (code : Int), l.length < f → cmtF blk f l = .bad off code → off ≤ l.length
  | _, 0, _, _, _, h, _ => by omega
  | blk, f + 1, l, off, code, hf, h => by
    rw [cmtF] at h
    split at h
    · cases h
    · split at h
      · split at h
        · cases h; exact Nat.zero_le _
        · cases h
      · split at h
        · cases h; exact Nat.zero_le _
        · split at h
          · cases h
          · rename_i h0 hn _
            obtain ⟨m, h3, h4, h5, h6⟩ := nx_pos (l := l) (by omega)
            cases hc : cmtF blk f (l.drop (nx l).2.toNat) with
            | fine a c => rw [hc] at h; cases h
            | bad a c =>
              rw [hc] at h
              cases h
              have := cmt_in blk f _ _ _ (by rw [List.length_drop]; omega) hc
              rw [List.length_drop] at this
              omega
/-- comments met one behind the other, from a place on, up to a place. -/
def CmsIn (s : ByteArray) : Nat → Nat → List Cm → Prop
  | p, q, [] => p ≤ q
  | p, q, c :: cs => ∃ f t : Nat, c.from' = (f : Int) ∧ c.till = (t : Int) ∧ p ≤ f ∧ f < t ∧ c.text = s.extract f t ∧ CmsIn s t q cs
theorem CmsIn.le {s : ByteArray} {q : Nat} : ∀ (cs : List Cm) {p : Nat}, CmsIn s p q cs → p ≤ q
  | [], _, h => h
  | c :: cs, p, h => by
    obtain ⟨f, t, _, _, h1, h2, _, h3⟩ := h
    have := CmsIn.le cs h3
    omega
theorem CmsIn.mono {s : ByteArray} {p p' q : Nat} {cs : List Cm} (h : CmsIn s p' q cs) (hp : p ≤ p') : CmsIn s p q cs := by
  cases cs with
  | nil => exact Nat.le_trans hp h
  | cons c cs =>
    obtain ⟨f, t, h1, h2, h3, h4, h5, h6⟩ := h
    exact ⟨f, t, h1, h2, by omega, h4, h5, h6⟩
/-- what between gives. -/
def BtIn (s : ByteArray) (p : Nat) : BtO → Prop
  | .fine q _ cs => CmsIn s p q cs ∧ q ≤ s.size ∧ isGap (s.data.toList.drop q) = false ∧ cmKind q (s.data.toList.drop q) = 0
  | .bad place _ => 0 ≤ place ∧ place ≤ s.size
theorem BtIn.mono {s : ByteArray} {p p' : Nat} {o : BtO} (h : BtIn s p' o) (hp : p ≤ p') : BtIn s p o := by
  cases o with
  | fine q line cs => exact ⟨h.1.mono hp, h.2⟩
  | bad place code => exact h
theorem btwF_in (s : ByteArray) : ∀ (f p : Nat) (line : Bool), p ≤ s.size → s.size - p < f → BtIn s p (btwF s f p line)
  | 0, _, _, _, h => by omega
  | f + 1, p, line, hp, hf => by
    rw [btwF]
    cases hg : isGap (s.data.toList.drop p) with
    | true =>
      rw [if_pos rfl]
      obtain ⟨n, h3, h4, h5, h6⟩ := isGap_pos hg
      rw [List.length_drop, ofl] at h5
      rw [h3, Int.toNat_natCast]
      exact (btwF_in s f (p + n) _ (by omega) (by omega)).mono (by omega)
    | false =>
      rw [if_neg (by decide)]
      by_cases hk : cmKind p (s.data.toList.drop p) = 0
      · rw [if_pos hk]
        exact ⟨Nat.le_refl _, hp, hg, hk⟩
      · rw [if_neg hk]
        have hl := cmKind_len hk
        rw [List.length_drop, ofl] at hl
        cases hc : cmt (decide (cmKind p (s.data.toList.drop p) = 2)) (s.data.toList.drop (p + 2)) with
        | fine n ln =>
          have h1 := cmt_le hc
          rw [List.length_drop, ofl] at h1
          have h2 := btwF_in s f (p + 2 + n) (line || ln) (by omega) (by omega)
          simp only
          cases hb : btwF s f (p + 2 + n) (line || ln) with
          | fine q l2 cs =>
            rw [hb] at h2
            exact ⟨⟨p, p + 2 + n, rfl, rfl, Nat.le_refl _, by omega, rfl, h2.1⟩, h2.2⟩
          | bad place code =>
            rw [hb] at h2
            exact h2
        | bad off code =>
          have h1 := cmt_in _ _ _ off code (Nat.lt_succ_self _) hc
          rw [List.length_drop, ofl] at h1
          simp only [BtIn, badPlace]
          split <;> omega
theorem btw_in (s : ByteArray) (p : Nat) (line : Bool) (hp : p ≤ s.size) : BtIn s p (btw s p line) := btwF_in s _ p line hp (by omega)
theorem btw_stay {s : ByteArray} {q : Nat} (hq : q ≤ s.size) (line : Bool) (h1 : isGap (s.data.toList.drop q) = false) (h2 : cmKind q (s.data.toList.drop q) = 0) : btw s q line = .fine q line [] := by
  rw [btw_step s q line hq, h1, if_neg (by decide), if_pos h2]
theorem tokT_in {goal : Int} {l : List UInt8} (h : goal = 3 → l ≠ []) : (tokT goal l).In l.length := by
  unfold tokT
  split
  · rename_i h3; exact tailT_in (h h3)
  · split
    · exact childT_in l
    · split
      · exact tagT_in l
      · exact plainT_in goal l
/-- what Next gives. -/
def NxIn (s : ByteArray) (p : Nat) (goal : Int) : NxO → Prop
  | .fine kind q n _ cs => CmsIn s p q cs ∧ q + n ≤ s.size ∧ (kind = 0 → q = s.size) ∧ nxt s q goal = .fine kind q n false []
  | .bad place _ => 0 ≤ place ∧ place ≤ s.size
theorem nxt_in (s : ByteArray) (p : Nat) (goal : Int) (hp : p ≤ s.size) : NxIn s p goal (nxt s p goal) := by
  unfold nxt
  by_cases hbad : goal < 1 ∨ 5 < goal ∨ (goal = 3 ∧ ¬ Lib.hasPrefix (s.data.toList.drop p) [125] = true)
  · rw [if_pos hbad]
    exact ⟨Int.le_refl _, by omega⟩
  · rw [if_neg hbad]
    by_cases h34 : goal = 3 ∨ goal = 4
    · rw [if_pos h34]
      simp only
      have hin : (tokT goal (s.data.toList.drop p)).In (s.data.toList.drop p).length := tokT_in (fun h3 => pre_ne (Decidable.byContradiction fun h => hbad (.inr (.inr ⟨h3, h⟩))))
      rw [List.length_drop, ofl] at hin
      cases ht : tokT goal (s.data.toList.drop p) with
      | fine kind n =>
        rw [ht] at hin
        simp only [TkO.In] at hin
        refine ⟨Nat.le_refl _, by omega, fun e => by have := hin.2 e; omega, ?_⟩
        unfold nxt
        rw [if_neg hbad, if_pos h34]
        simp only [ht]
      | bad off code =>
        rw [ht] at hin
        simp only [TkO.In] at hin
        exact ⟨by omega, by omega⟩
    · rw [if_neg h34]
      have hb := btw_in s p false hp
      cases hbt : btw s p false with
      | bad place code =>
        rw [hbt] at hb
        exact hb
      | fine q line cs =>
        rw [hbt] at hb
        obtain ⟨hb1, hb2, hb3, hb4⟩ := hb
        simp only
        have hin : (tokT goal (s.data.toList.drop q)).In (s.data.toList.drop q).length := tokT_in (fun h3 => absurd (.inl h3) h34)
        rw [List.length_drop, ofl] at hin
        cases ht : tokT goal (s.data.toList.drop q) with
        | fine kind n =>
          rw [ht] at hin
          simp only [TkO.In] at hin
          refine ⟨hb1, by omega, fun e => by have := hin.2 e; omega, ?_⟩
          unfold nxt
          rw [if_neg (fun h => hbad (by rcases h with h | h | h; exact .inl h; exact .inr (.inl h); exact absurd (.inl h.1) h34)), if_neg h34, btw_stay hb2 false hb3 hb4]
          simp only [ht]
        | bad off code =>
          rw [ht] at hin
          simp only [TkO.In] at hin
          exact ⟨by omega, by omega⟩
end Go.Proofs.YteejjkfmmhegmaaGreatDoor
