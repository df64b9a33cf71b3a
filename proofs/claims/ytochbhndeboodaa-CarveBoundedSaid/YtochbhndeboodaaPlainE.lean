/- What the printed function bounds answers. -/
import Derived.Test.YtochbhndeboodaaPlainD
namespace Go.Proofs.Ytochbhndeboodaa
set_option linter.unusedVariables false
set_option linter.unusedSimpArgs false
open Go.RowKit Go.Proofs.YtochbhndeboodaaW.PrintWords
open Go.Proofs.Ytochbhndeboodaa.PCarveMore

theorem within_f (n lo hi : Int) : carve_within.f n lo hi = some (inB n lo hi) := by
  unfold carve_within.f inB
  split
  · rename_i h
    congr 1
    simp only [decide_eq_decide]
    omega
  · rename_i h
    congr 1
    rw [decide_eq_false (by omega)]

section
variable {w h : Nat} {b : List (List Int)} {L : List S52} (hL : L.length ≤ 16) (hw : w ≤ 48) (hh : h ≤ 48)
include hL hw hh

theorem bounds_l2 (hS : Shape w h b) (hR : Ranged w h b) (X Y : Int) :
    ∀ (d k i : Nat), w + 1 - i ≤ d → d * 60 + 300 < k → Tells (carve_task_bounds.l2 k b ((w + 1 : Nat) : Int) i X Y L) (∀ i', i ≤ i' → i' ≤ w → ∀ j, j ≤ h → Enough L b i' j) := by
  intro d
  induction d with
  | zero =>
    intro k i hd hk
    obtain ⟨k, rfl⟩ : ∃ m, k = m + 1 := ⟨k - 1, by omega⟩
    simp only [carve_task_bounds.l2]
    rw [if_neg (by omega)]
    exact .yes (fun i' h1 h2 => by omega)
  | succ d ih =>
    intro k i hd hk
    by_cases hlt : i ≤ w
    · obtain ⟨k, rfl⟩ : ∃ m, k = m + 1 := ⟨k - 1, by omega⟩
      have hl := hS.2 i hlt
      have e2 : Aside0 (wrap64 ((i : Int) + 1) = ((i + 1 : Nat) : Int)) := ⟨by unfold wrap64; omega⟩
      have last : ∀ k y, h < y → d * 60 + 301 < k → Tells (carve_task_bounds.l3 k b i ((w + 1 : Nat) : Int) i ((h + 1 : Nat) : Int) y X Y L) ((∀ j, y ≤ j → j ≤ h → Enough L b i j) ∧ ∀ i', i + 1 ≤ i' → i' ≤ w → ∀ j, j ≤ h → Enough L b i' j) := by
        intro k y hy hk
        obtain ⟨k, rfl⟩ : ∃ m, k = m + 1 := ⟨k - 1, by omega⟩
        simp only [carve_task_bounds.l3]
        rw [if_neg (by omega), e2.out]
        exact (ih k (i + 1) (by omega) (by omega)).congr ⟨fun q => ⟨fun j h2 h3 => by omega, q⟩, fun q => q.2⟩
      have inner : ∀ (e k y : Nat), h + 1 - y ≤ e → d * 60 + 301 + e < k → Tells (carve_task_bounds.l3 k b i ((w + 1 : Nat) : Int) i ((h + 1 : Nat) : Int) y X Y L) ((∀ j, y ≤ j → j ≤ h → Enough L b i j) ∧ ∀ i', i + 1 ≤ i' → i' ≤ w → ∀ j, j ≤ h → Enough L b i' j) := by
        intro e
        induction e with
        | zero =>
          intro k y he hk
          exact last k y (by omega) (by omega)
        | succ e ihe =>
          intro k y he hk
          by_cases hy : y ≤ h
          · obtain ⟨k, rfl⟩ : ∃ m, k = m + 1 := ⟨k - 1, by omega⟩
            have e3 : Aside0 (wrap64 ((y : Int) + 1) = ((y + 1 : Nat) : Int)) := ⟨by unfold wrap64; omega⟩
            simp only [carve_task_bounds.l3]
            rw [if_pos (by omega), e3.out]
            rcases enough_tells hL hw hh hS hR hlt hy X Y k (by omega) with ⟨h1, h2⟩ | ⟨h1, h2⟩
            · rw [h1]
              simp only [Option.bind_some, if_true]
              exact (ihe k (y + 1) (by omega) (by omega)).congr ⟨fun q => ⟨fun j h3 h4 => by
                rcases Nat.lt_or_ge y j with h5 | h5
                · exact q.1 j h5 h4
                · obtain rfl : j = y := by omega
                  exact h2, q.2⟩, fun q => ⟨fun j h3 h4 => q.1 j (by omega) h4, q.2⟩⟩
            · rw [h1]
              simp only [Option.bind_some]
              rw [if_neg (by decide)]
              exact .no (fun q => h2 (q.1 y (Nat.le_refl _) hy))
          · exact last k y (by omega) (by omega)
      simp only [carve_task_bounds.l2]
      rw [if_pos (by omega), if_pos (by omega), if_pos (by have := hS.1; omega), rd_len, hl]
      exact (inner (h + 1) k 0 (by omega) (by omega)).congr ⟨fun q i' h1 h2 j h3 => by
        rcases Nat.lt_or_ge i i' with h5 | h5
        · exact q.2 i' h5 h2 j h3
        · obtain rfl : i' = i := by omega
          exact q.1 j (Nat.zero_le _) h3, fun q => ⟨fun j _ h2 => q i (Nat.le_refl _) hlt j h2, fun i' h1 h2 => q i' (by omega) h2⟩⟩
    · obtain ⟨k, rfl⟩ : ∃ m, k = m + 1 := ⟨k - 1, by omega⟩
      simp only [carve_task_bounds.l2]
      rw [if_neg (by omega)]
      exact .yes (fun i' h1 h2 => by omega)

def okRow (h : Nat) (b : List (List Int)) (i : Nat) : Prop := (b.getD i []).length = h + 1 ∧ ∀ j, j ≤ h → 0 ≤ at2 b i j ∧ at2 b i j ≤ 1099511627776

theorem bounds_l0 (hb : b.length = w + 1) (X : Int) :
    ∀ (d k i : Nat), w + 1 - i ≤ d → d * 60 + 5000 < k → (∀ i', i' < i → i' ≤ w → okRow h b i') → Tells (carve_task_bounds.l0 k b b ((w + 1 : Nat) : Int) i X (h : Int) L) ((∀ i', i ≤ i' → i' ≤ w → okRow h b i') ∧ ∀ i' j, i' ≤ w → j ≤ h → Enough L b i' j) := by
  intro d
  have end0 : ∀ k i, w < i → 5000 < k → (∀ i', i' < i → i' ≤ w → okRow h b i') → Tells (carve_task_bounds.l0 k b b ((w + 1 : Nat) : Int) i X (h : Int) L) ((∀ i', i ≤ i' → i' ≤ w → okRow h b i') ∧ ∀ i' j, i' ≤ w → j ≤ h → Enough L b i' j) := by
    intro k i hi hk hok
    obtain ⟨k, rfl⟩ : ∃ m, k = m + 1 := ⟨k - 1, by omega⟩
    have hS : Shape w h b := ⟨hb, fun i' h1 => (hok i' (by omega) h1).1⟩
    have hR : Ranged w h b := fun i' j h1 h2 => (hok i' (by omega) h1).2 j h2
    simp only [carve_task_bounds.l0]
    rw [if_neg (by omega), hb]
    have := bounds_l2 hL hw hh hS hR X (h : Int) 50 k 0 (by omega) (by omega)
    exact this.congr ⟨fun q => ⟨fun i' h1 h2 => by omega, fun i' j h1 h2 => q i' (Nat.zero_le _) h1 j h2⟩, fun q i' _ h2 j h3 => q.2 i' j h2 h3⟩
  induction d with
  | zero =>
    intro k i hd hk hok
    exact end0 k i (by omega) (by omega) hok
  | succ d ih =>
    intro k i hd hk hok
    by_cases hlt : i ≤ w
    · obtain ⟨k, rfl⟩ : ∃ m, k = m + 1 := ⟨k - 1, by omega⟩
      have e1 : Aside0 (wrap64 ((h : Int) + 1) = ((h + 1 : Nat) : Int)) := ⟨by unfold wrap64; omega⟩
      have e2 : Aside0 (wrap64 ((i : Int) + 1) = ((i + 1 : Nat) : Int)) := ⟨by unfold wrap64; omega⟩
      simp only [carve_task_bounds.l0]
      rw [if_pos (by omega), if_pos (by omega), if_pos (by omega), rd_len, e1.out]
      by_cases hl : (b.getD i []).length = h + 1
      · rw [if_pos (by omega), hl]
        have last : ∀ k y, h < y → d * 60 + 5001 < k → (∀ j, j < y → j ≤ h → 0 ≤ at2 b i j ∧ at2 b i j ≤ 1099511627776) → Tells (carve_task_bounds.l1 k b b ((w + 1 : Nat) : Int) i (rd_L4 b i) ((h + 1 : Nat) : Int) y X (h : Int) L) ((∀ j, y ≤ j → j ≤ h → 0 ≤ at2 b i j ∧ at2 b i j ≤ 1099511627776) ∧ (∀ i', i + 1 ≤ i' → i' ≤ w → okRow h b i') ∧ ∀ i' j, i' ≤ w → j ≤ h → Enough L b i' j) := by
          intro k y hy hk hr
          obtain ⟨k, rfl⟩ : ∃ m, k = m + 1 := ⟨k - 1, by omega⟩
          simp only [carve_task_bounds.l1]
          rw [if_neg (by omega), e2.out]
          refine (ih k (i + 1) (by omega) (by omega) (fun i' h1 h2 => ?_)).congr ⟨fun q => ⟨fun j h2 h3 => by omega, q⟩, fun q => q.2⟩
          rcases Nat.lt_or_ge i' i with h5 | h5
          · exact hok i' h5 h2
          · obtain rfl : i' = i := by omega
            exact ⟨hl, fun j hj => hr j (by omega) hj⟩
        have inner : ∀ (e k y : Nat), h + 1 - y ≤ e → d * 60 + 5001 + e < k → (∀ j, j < y → j ≤ h → 0 ≤ at2 b i j ∧ at2 b i j ≤ 1099511627776) → Tells (carve_task_bounds.l1 k b b ((w + 1 : Nat) : Int) i (rd_L4 b i) ((h + 1 : Nat) : Int) y X (h : Int) L) ((∀ j, y ≤ j → j ≤ h → 0 ≤ at2 b i j ∧ at2 b i j ≤ 1099511627776) ∧ (∀ i', i + 1 ≤ i' → i' ≤ w → okRow h b i') ∧ ∀ i' j, i' ≤ w → j ≤ h → Enough L b i' j) := by
          intro e
          induction e with
          | zero =>
            intro k y he hk hr
            exact last k y (by omega) (by omega) hr
          | succ e ihe =>
            intro k y he hk hr
            by_cases hy : y ≤ h
            · obtain ⟨k, rfl⟩ : ∃ m, k = m + 1 := ⟨k - 1, by omega⟩
              have e3 : Aside0 (wrap64 ((y : Int) + 1) = ((y + 1 : Nat) : Int)) := ⟨by unfold wrap64; omega⟩
              simp only [carve_task_bounds.l1]
              rw [if_pos (by omega), if_pos (by omega), if_pos (by rw [rd_len, hl]; omega), rd_at2, within_f, e3.out]
              simp only [Option.bind_some]
              by_cases hin : inB (at2 b i y) 0 1099511627776 = true
              · rw [if_pos hin]
                have hin2 := inB_iff.1 hin
                have step : ∀ j, j < y + 1 → j ≤ h → 0 ≤ at2 b i j ∧ at2 b i j ≤ 1099511627776 := fun j h3 h4 => by
                  rcases Nat.lt_or_ge j y with h5 | h5
                  · exact hr j h5 h4
                  · obtain rfl : j = y := by omega
                    exact hin2
                exact (ihe k (y + 1) (by omega) (by omega) step).congr ⟨fun q => ⟨fun j h3 h4 => by
                  rcases Nat.lt_or_ge y j with h5 | h5
                  · exact q.1 j h5 h4
                  · obtain rfl : j = y := by omega
                    exact hin2, q.2⟩, fun q => ⟨fun j h3 h4 => q.1 j (by omega) h4, q.2⟩⟩
              · rw [if_neg hin]
                exact .no (fun q => hin (inB_iff.2 (q.1 y (Nat.le_refl _) hy)))
            · exact last k y (by omega) (by omega) hr
        exact (inner (h + 1) k 0 (by omega) (by omega) (fun j hj => by omega)).congr ⟨fun q => ⟨fun i' h1 h2 => by
          rcases Nat.lt_or_ge i i' with h5 | h5
          · exact q.2.1 i' h5 h2
          · obtain rfl : i' = i := by omega
            exact ⟨hl, fun j hj => q.1 j (Nat.zero_le _) hj⟩, q.2.2⟩, fun q => ⟨fun j _ h2 => (q.1 i (Nat.le_refl _) hlt).2 j h2, fun i' h1 h2 => q.1 i' (by omega) h2, q.2⟩⟩
      · rw [if_neg (by omega)]
        exact .no (fun q => hl (q.1 i (Nat.le_refl _) hlt).1)
    · exact end0 k i (by omega) (by omega) hok

theorem bounds_tells : ∃ r, carve_task_bounds.f 9000 (w : Int) (h : Int) L b = some r ∧ (r = true ↔ IsBound w h L b) := by
  unfold carve_task_bounds.f
  have e1 : Aside0 (wrap64 ((w : Int) + 1) = ((w + 1 : Nat) : Int)) := ⟨by unfold wrap64; omega⟩
  rw [e1.out]
  by_cases hb : b.length = w + 1
  · rw [if_pos (by omega), hb]
    have := (bounds_l0 hL hw hh hb (w : Int) 50 9000 0 (by omega) (by omega) (fun i' h1 => by omega)).congr (Q := IsBound w h L b) ⟨fun q => ⟨⟨hb, fun i hi => (q.1 i (Nat.zero_le _) hi).1⟩, fun i j hi hj => (q.1 i (Nat.zero_le _) hi).2 j hj, q.2⟩, fun q => ⟨fun i _ hi => ⟨q.1.2 i hi, fun j hj => q.2.1 i j hi hj⟩, q.2.2⟩⟩
    rcases this with ⟨h1, h2⟩ | ⟨h1, h2⟩
    · exact ⟨true, h1, fun _ => h2, fun _ => rfl⟩
    · exact ⟨false, h1, (fun h => nomatch h), (fun h => absurd h h2)⟩
  · rw [if_neg (by omega)]
    exact ⟨false, rfl, (fun h => nomatch h), (fun h => absurd h.1.1 hb)⟩
end

end Go.Proofs.Ytochbhndeboodaa
