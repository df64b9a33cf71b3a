/- The best worths as one table: how they stand to each other when the piece or the blanks change. -/
import Derived.Test.YtochbhndeboodaaPlainH
namespace Go.Proofs.Ytochbhndeboodaa
set_option linter.unusedVariables false
set_option linter.unusedSimpArgs false
open Go.RowKit Go.Proofs.YtochbhndeboodaaW.PrintWords
open Go.Proofs.Ytochbhndeboodaa.PCarveMore (S52 S56 k52 k56)

def OkL (L : List S52) : Prop := ∀ k, k < L.length → okB (blankAt L k)

theorem bestV_zero {L : List S52} (hL : OkL L) {w h : Nat} (hw : w ≤ 48) (hh : h ≤ 48) (h0 : w = 0 ∨ h = 0) : bestV L w h = 0 := (full_fillP hL hw hh).2 w h h0
theorem bestV_tab {L : List S52} (hL : OkL L) {i j w h : Nat} (hw : w ≤ 48) (hh : h ≤ 48) (i1 : 1 ≤ i) (i2 : i ≤ w) (j1 : 1 ≤ j) (j2 : j ≤ h) : bestV L i j = (fillP L w h).T i j := by
  have h1 := (full_fillP hL (w := i) (h := j) (by omega) (by omega)).1
  have h2 := (full_fillP hL hw hh).1
  have u := upper_lower h1.upper (h2.lower.mono i2 j2) i j i1 (Nat.le_refl _) j1 (Nat.le_refl _)
  have l := upper_lower (h2.upper.mono i2 j2) h1.lower i j i1 (Nat.le_refl _) j1 (Nat.le_refl _)
  unfold bestV
  omega
theorem bestV_lower {L : List S52} (hL : OkL L) : Lower L (bestV L) 48 48 := by
  have H := (full_fillP hL (w := 48) (h := 48) (Nat.le_refl _) (Nat.le_refl _)).1.lower
  have E : ∀ {i j}, 1 ≤ i → i ≤ 48 → 1 ≤ j → j ≤ 48 → bestV L i j = (fillP L 48 48).T i j := fun a b c d => bestV_tab hL (Nat.le_refl _) (Nat.le_refl _) a b c d
  refine ⟨fun i j a b c d => ?_, fun i j a b c d k hf => ?_, fun i j a b c d x h1 h2 => ?_, fun i j a b c d y h1 h2 => ?_⟩
  · rw [E a b c d]; exact H.nonneg i j a b c d
  · rw [E a b c d]; exact H.blank i j a b c d k hf
  · rw [E a b c d, E h1 (by omega) c d, E (by omega) (by omega) c d]; exact H.across i j a b c d x h1 h2
  · rw [E a b c d, E a b h1 (by omega), E a b (by omega) (by omega)]; exact H.along i j a b c d y h1 h2
theorem bestV_upper {L : List S52} (hL : OkL L) : Upper L (bestV L) 48 48 := by
  have H := (full_fillP hL (w := 48) (h := 48) (Nat.le_refl _) (Nat.le_refl _)).1.upper
  have E : ∀ {i j}, 1 ≤ i → i ≤ 48 → 1 ≤ j → j ≤ 48 → bestV L i j = (fillP L 48 48).T i j := fun a b c d => bestV_tab hL (Nat.le_refl _) (Nat.le_refl _) a b c d
  intro i j a b c d
  rw [E a b c d]
  rcases H i j a b c d with q | ⟨k, q, r⟩ | ⟨x, h1, h2, r⟩ | ⟨y, h1, h2, r⟩
  · exact .inl q
  · exact .inr (.inl ⟨k, q, r⟩)
  · exact .inr (.inr (.inl ⟨x, h1, h2, by rw [E h1 (by omega) c d, E (by omega) (by omega) c d]; exact r⟩))
  · exact .inr (.inr (.inr ⟨y, h1, h2, by rw [E a b h1 (by omega), E a b (by omega) (by omega)]; exact r⟩))
theorem bestV_nonneg {L : List S52} (hL : OkL L) {i j : Nat} (hi : i ≤ 48) (hj : j ≤ 48) : 0 ≤ bestV L i j := by
  by_cases h : 1 ≤ i ∧ 1 ≤ j
  · exact (bestV_lower hL).nonneg i j h.1 hi h.2 hj
  · rw [bestV_zero hL hi hj (by omega)]; exact Int.le_refl _
theorem bestV_eq {L : List S52} (hL : OkL L) {V : Nat → Nat → Int} {w h : Nat} (hw : w ≤ 48) (hh : h ≤ 48) (hl : Lower L V w h) (hu : Upper L V w h) {i j : Nat} (i1 : 1 ≤ i) (i2 : i ≤ w) (j1 : 1 ≤ j) (j2 : j ≤ h) : bestV L i j = V i j := by
  have a := upper_lower hu ((bestV_lower hL).mono hw hh) i j i1 i2 j1 j2
  have b := upper_lower ((bestV_upper hL).mono hw hh) hl i j i1 i2 j1 j2
  omega

/-! ### a wider or higher piece -/
theorem bestV_wider {L : List S52} (hL : OkL L) (i j : Nat) (hj : j ≤ 48) : ∀ d, i + d ≤ 48 → bestV L i j ≤ bestV L (i + d) j
  | 0, _ => Int.le_refl _
  | d + 1, h => by
    refine Int.le_trans (bestV_wider hL i j hj d (by omega)) ?_
    by_cases c : 1 ≤ i + d ∧ 1 ≤ j
    · have h1 := (bestV_lower hL).across (i + (d + 1)) j (by omega) h c.2 hj (i + d) c.1 (by omega)
      rw [show i + (d + 1) - (i + d) = 1 by omega] at h1
      have h2 := bestV_nonneg hL (i := 1) (j := j) (by omega) hj
      omega
    · rw [bestV_zero hL (w := i + d) (by omega) hj (by omega)]
      exact bestV_nonneg hL h hj
theorem bestV_higher {L : List S52} (hL : OkL L) (i j : Nat) (hi : i ≤ 48) : ∀ d, j + d ≤ 48 → bestV L i j ≤ bestV L i (j + d)
  | 0, _ => Int.le_refl _
  | d + 1, h => by
    refine Int.le_trans (bestV_higher hL i j hi d (by omega)) ?_
    by_cases c : 1 ≤ i ∧ 1 ≤ j + d
    · have h1 := (bestV_lower hL).along i (j + (d + 1)) c.1 hi (by omega) h (j + d) c.2 (by omega)
      rw [show j + (d + 1) - (j + d) = 1 by omega] at h1
      have h2 := bestV_nonneg hL (i := i) (j := 1) hi (by omega)
      omega
    · rw [bestV_zero hL (h := j + d) hi (by omega) (by omega)]
      exact bestV_nonneg hL hi h
theorem bestV_larger {L : List S52} (hL : OkL L) {i j i' j' : Nat} (h1 : i ≤ i') (h2 : j ≤ j') (hi : i' ≤ 48) (hj : j' ≤ 48) : bestV L i j ≤ bestV L i' j' := by
  have a := bestV_wider hL i j (by omega) (i' - i) (by omega)
  have b := bestV_higher hL i' j hi (j' - j) (by omega)
  rw [show i + (i' - i) = i' by omega] at a
  rw [show j + (j' - j) = j' by omega] at b
  exact Int.le_trans a b

/-! ### other blanks -/
theorem bestV_blanks {L L' : List S52} (hL : OkL L) (hL' : OkL L') {w h : Nat} (hw : w ≤ 48) (hh : h ≤ 48) (H : ∀ k i j, 1 ≤ i → i ≤ w → 1 ≤ j → j ≤ h → Fit L k i j → ∃ k', Fit L' k' i j ∧ (blankAt L k).f2 ≤ (blankAt L' k').f2) {i j : Nat} (hi : i ≤ w) (hj : j ≤ h) : bestV L i j ≤ bestV L' i j := by
  by_cases c : 1 ≤ i ∧ 1 ≤ j
  · have l := (bestV_lower hL').mono hw hh
    exact upper_le ((bestV_upper hL).mono hw hh) l.nonneg (fun i j a b c d k hf => by
      obtain ⟨k', hf', hv⟩ := H k i j a b c d hf
      exact Int.le_trans hv (l.blank i j a b c d k' hf')) l.across l.along i j c.1 hi c.2 hj
  · rw [bestV_zero hL (by omega) (by omega) (by omega)]
    exact bestV_nonneg hL' (by omega) (by omega)
theorem bestV_turned {L L' : List S52} (hL : OkL L) (hL' : OkL L') (H : ∀ k i j, Fit L k i j → ∃ k', Fit L' k' j i ∧ (blankAt L k).f2 ≤ (blankAt L' k').f2) {i j : Nat} (hi : i ≤ 48) (hj : j ≤ 48) : bestV L i j ≤ bestV L' j i := by
  by_cases c : 1 ≤ i ∧ 1 ≤ j
  · have l := bestV_lower hL'
    exact upper_le (V' := fun i j => bestV L' j i) (bestV_upper hL) (fun i j a b c d => l.nonneg j i c d a b) (fun i j a b c d k hf => by
      obtain ⟨k', hf', hv⟩ := H k i j hf
      exact Int.le_trans hv (l.blank j i c d a b k' hf')) (fun i j a b c d => l.along j i c d a b) (fun i j a b c d => l.across j i c d a b) i j c.1 hi c.2 hj
  · rw [bestV_zero hL (by omega) (by omega) (by omega)]
    exact bestV_nonneg hL' (by omega) (by omega)

def flip (b : S52) : S52 := ⟨b.f1, b.f0, b.f2⟩
def turnL (L : List S52) : List S52 := (L.map flip).reverse
theorem turnL_length (L : List S52) : (turnL L).length = L.length := by simp [turnL]
theorem turnL_at (L : List S52) {k : Nat} (hk : k < L.length) : blankAt (turnL L) k = flip (blankAt L (L.length - 1 - k)) := by
  unfold turnL blankAt
  rw [List.getD_eq_getElem?_getD, List.getElem?_reverse (by simpa using hk), List.getElem?_map, List.length_map, List.getElem?_eq_getElem (by omega), List.getD_eq_getElem?_getD, List.getElem?_eq_getElem (by omega)]
  rfl
theorem turnL_turnL (L : List S52) : turnL (turnL L) = L := by
  unfold turnL
  rw [List.map_reverse, List.reverse_reverse, List.map_map]
  conv => rhs; rw [← List.map_id L]
  rfl
theorem turnL_ok {L : List S52} (hL : OkL L) : OkL (turnL L) := fun k hk => by
  rw [turnL_length] at hk
  rw [turnL_at L hk]
  have := hL (L.length - 1 - k) (by omega)
  exact ⟨this.2.1, this.1, this.2.2⟩
theorem turnL_fit {L : List S52} {k i j : Nat} (h : Fit L k i j) : ∃ k', Fit (turnL L) k' j i ∧ (blankAt L k).f2 ≤ (blankAt (turnL L) k').f2 := by
  have hk := h.1
  have e := turnL_at L (k := L.length - 1 - k) (by omega)
  rw [show L.length - 1 - (L.length - 1 - k) = k by omega] at e
  exact ⟨L.length - 1 - k, ⟨by rw [turnL_length]; omega, by rw [e]; exact h.2.2, by rw [e]; exact h.2.1⟩, by rw [e]; exact Int.le_refl _⟩
theorem bestV_turn {L : List S52} (hL : OkL L) {i j : Nat} (hi : i ≤ 48) (hj : j ≤ 48) : bestV (turnL L) j i = bestV L i j := by
  have a := bestV_turned hL (turnL_ok hL) (fun _ _ _ => turnL_fit) hi hj
  have b := bestV_turned (turnL_ok hL) (L' := L) hL (fun k i j h => by
    have := turnL_fit h
    rwa [turnL_turnL] at this) hj hi
  omega

end Go.Proofs.Ytochbhndeboodaa
