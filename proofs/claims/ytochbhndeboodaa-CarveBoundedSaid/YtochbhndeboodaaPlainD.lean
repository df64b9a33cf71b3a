/- What the printed loops of enough and bounds answer: whether a table is a bound. -/
import Derived.Test.YtochbhndeboodaaPlainC
import Derived.Test.YtochbhndeboodaaPCarveMorex2
import Derived.Test.YtochbhndeboodaaPCarveMorex3
namespace Go.Proofs.Ytochbhndeboodaa
set_option linter.unusedVariables false
set_option linter.unusedSimpArgs false
open Go.RowKit Go.Proofs.YtochbhndeboodaaW.PrintWords
open Go.Proofs.Ytochbhndeboodaa.PCarveMore

def at2 (b : List (List Int)) (i j : Nat) : Int := (b.getD i []).getD j 0
def Enough (L : List S52) (b : List (List Int)) (i j : Nat) : Prop :=
  (∀ k, k < L.length → (blankAt L k).f0 ≤ i → (blankAt L k).f1 ≤ j → (blankAt L k).f2 ≤ at2 b i j) ∧
  (∀ x, 1 ≤ x → x < i → at2 b x j + at2 b (i - x) j ≤ at2 b i j) ∧
  (∀ y, 1 ≤ y → y < j → at2 b i y + at2 b i (j - y) ≤ at2 b i j)
def Shape (w h : Nat) (b : List (List Int)) : Prop := b.length = w + 1 ∧ ∀ i, i ≤ w → (b.getD i []).length = h + 1
def Ranged (w h : Nat) (b : List (List Int)) : Prop := ∀ i j, i ≤ w → j ≤ h → 0 ≤ at2 b i j ∧ at2 b i j ≤ 1099511627776
def IsBound (w h : Nat) (L : List S52) (b : List (List Int)) : Prop := Shape w h b ∧ Ranged w h b ∧ ∀ i j, i ≤ w → j ≤ h → Enough L b i j

/-- o tells whether P. -/
def Tells (o : Option Bool) (P : Prop) : Prop := (o = some true ∧ P) ∨ (o = some false ∧ ¬ P)
theorem Tells.yes {P : Prop} (h : P) : Tells (some true) P := .inl ⟨rfl, h⟩
theorem Tells.no {P : Prop} (h : ¬ P) : Tells (some false) P := .inr ⟨rfl, h⟩
theorem Tells.congr {o : Option Bool} {P Q : Prop} (h : Tells o P) (e : P ↔ Q) : Tells o Q := h.imp (fun x => ⟨x.1, e.1 x.2⟩) (fun x => ⟨x.1, fun q => x.2 (e.2 q)⟩)

theorem rd_at2 (b : List (List Int)) (i j : Nat) : rd (rd_L4 b (i : Int)) (j : Int) = at2 b i j := by simp [rd, rd_L4, at2]
theorem rd_len (b : List (List Int)) (i : Nat) : (rd_L4 b (i : Int)).length = (b.getD i []).length := by simp [rd_L4]
theorem rd_T52_at' (L : List S52) (k : Nat) : rd_T52 L (k : Int) = blankAt L k := by simp [rd_T52, blankAt, z52]

theorem enough_l2 {w h : Nat} {b : List (List Int)} (hw : w ≤ 48) (hh : h ≤ 48) (hS : Shape w h b) (hR : Ranged w h b) {i j : Nat} (hi : i ≤ w) (hj : j ≤ h) (n : Int) :
    ∀ (d k y : Nat), 1 ≤ y → j - y ≤ d → d < k → Tells (carve_task_enough.l2 k b i j n y) (∀ y', y ≤ y' → y' < j → at2 b i y' + at2 b i (j - y') ≤ n) := by
  intro d
  induction d with
  | zero =>
    intro k y hy hd hk
    obtain ⟨k, rfl⟩ : ∃ m, k = m + 1 := ⟨k - 1, by omega⟩
    simp only [carve_task_enough.l2]
    rw [if_neg (by omega)]
    exact .yes (fun y' h1 h2 => by omega)
  | succ d ih =>
    intro k y hy hd hk
    obtain ⟨k, rfl⟩ : ∃ m, k = m + 1 := ⟨k - 1, by omega⟩
    by_cases hlt : y < j
    · have hl := hS.2 i hi
      have e1 : Aside0 (wrap64 ((j : Int) - (y : Int)) = ((j - y : Nat) : Int)) := ⟨by unfold wrap64; omega⟩
      have e2 : Aside0 (wrap64 ((y : Int) + 1) = ((y + 1 : Nat) : Int)) := ⟨by unfold wrap64; omega⟩
      have r1 := hR i y hi (by omega)
      have r2 := hR i (j - y) hi (by omega)
      have e3 : Aside0 (wrap64 (at2 b i y + at2 b i (j - y)) = at2 b i y + at2 b i (j - y)) := ⟨by unfold wrap64; omega⟩
      simp only [carve_task_enough.l2]
      rw [if_pos (by omega), if_pos (by omega), if_pos (by have := hS.1; omega), if_pos (by omega), if_pos (by rw [rd_len, hl]; omega), e1.out, if_pos (by omega), if_pos (by rw [rd_len, hl]; omega), rd_at2, rd_at2, e3.out, e2.out]
      by_cases hn : n < at2 b i y + at2 b i (j - y)
      · rw [if_pos hn]
        exact .no (fun q => by have := q y (Nat.le_refl _) hlt; omega)
      · rw [if_neg hn]
        refine (ih k (y + 1) (by omega) (by omega) (by omega)).congr ⟨fun q y' h1 h2 => ?_, fun q y' h1 h2 => q y' (by omega) h2⟩
        rcases Nat.lt_or_ge y y' with h3 | h3
        · exact q y' h3 h2
        · obtain rfl : y' = y := by omega
          omega
    · simp only [carve_task_enough.l2]
      rw [if_neg (by omega)]
      exact .yes (fun y' h1 h2 => by omega)

theorem enough_l1 {w h : Nat} {b : List (List Int)} (hw : w ≤ 48) (hh : h ≤ 48) (hS : Shape w h b) (hR : Ranged w h b) {i j : Nat} (hi : i ≤ w) (hj : j ≤ h) (n : Int) :
    ∀ (d k x : Nat), 1 ≤ x → i - x ≤ d → d + 60 < k → Tells (carve_task_enough.l1 k b i j n x) ((∀ x', x ≤ x' → x' < i → at2 b x' j + at2 b (i - x') j ≤ n) ∧ (∀ y', 1 ≤ y' → y' < j → at2 b i y' + at2 b i (j - y') ≤ n)) := by
  intro d
  have last : ∀ k x, i ≤ x → 60 < k → Tells (carve_task_enough.l1 k b i j n x) ((∀ x', x ≤ x' → x' < i → at2 b x' j + at2 b (i - x') j ≤ n) ∧ (∀ y', 1 ≤ y' → y' < j → at2 b i y' + at2 b i (j - y') ≤ n)) := by
    intro k x hx hk
    obtain ⟨k, rfl⟩ : ∃ m, k = m + 1 := ⟨k - 1, by omega⟩
    simp only [carve_task_enough.l1]
    rw [if_neg (by omega)]
    exact (enough_l2 hw hh hS hR hi hj n 50 k 1 (Nat.le_refl _) (by omega) (by omega)).congr ⟨fun q => ⟨fun x' h1 h2 => by omega, q⟩, fun q => q.2⟩
  induction d with
  | zero =>
    intro k x hx hd hk
    exact last k x (by omega) (by omega)
  | succ d ih =>
    intro k x hx hd hk
    by_cases hlt : x < i
    · obtain ⟨k, rfl⟩ : ∃ m, k = m + 1 := ⟨k - 1, by omega⟩
      have hl := hS.2 x (by omega)
      have hl2 := hS.2 (i - x) (by omega)
      have e1 : Aside0 (wrap64 ((i : Int) - (x : Int)) = ((i - x : Nat) : Int)) := ⟨by unfold wrap64; omega⟩
      have e2 : Aside0 (wrap64 ((x : Int) + 1) = ((x + 1 : Nat) : Int)) := ⟨by unfold wrap64; omega⟩
      have r1 := hR x j (by omega) hj
      have r2 := hR (i - x) j (by omega) hj
      have e3 : Aside0 (wrap64 (at2 b x j + at2 b (i - x) j) = at2 b x j + at2 b (i - x) j) := ⟨by unfold wrap64; omega⟩
      simp only [carve_task_enough.l1]
      rw [if_pos (by omega), if_pos (by omega), if_pos (by have := hS.1; omega), if_pos (by omega), if_pos (by rw [rd_len, hl]; omega), e1.out, if_pos (by omega), if_pos (by have := hS.1; omega), if_pos (by rw [rd_len, hl2]; omega), rd_at2, rd_at2, e3.out, e2.out]
      by_cases hn : n < at2 b x j + at2 b (i - x) j
      · rw [if_pos hn]
        exact .no (fun q => by have := q.1 x (Nat.le_refl _) hlt; omega)
      · rw [if_neg hn]
        refine (ih k (x + 1) (by omega) (by omega) (by omega)).congr ⟨fun q => ⟨fun y' h1 h2 => ?_, q.2⟩, fun q => ⟨fun y' h1 h2 => q.1 y' (by omega) h2, q.2⟩⟩
        rcases Nat.lt_or_ge x y' with h3 | h3
        · exact q.1 y' h3 h2
        · obtain rfl : y' = x := by omega
          omega
    · exact last k x (by omega) (by omega)

theorem enough_l0 {w h : Nat} {b : List (List Int)} {L : List S52} (hL : L.length ≤ 16) (hw : w ≤ 48) (hh : h ≤ 48) (hS : Shape w h b) (hR : Ranged w h b) {i j : Nat} (hi : i ≤ w) (hj : j ≤ h) (n : Int) :
    ∀ (d k m : Nat), L.length - m ≤ d → d + 120 < k → Tells (carve_task_enough.l0 k b i j n L (L.length : Int) m) ((∀ k, m ≤ k → k < L.length → (blankAt L k).f0 ≤ i → (blankAt L k).f1 ≤ j → (blankAt L k).f2 ≤ n) ∧ (∀ x', 1 ≤ x' → x' < i → at2 b x' j + at2 b (i - x') j ≤ n) ∧ (∀ y', 1 ≤ y' → y' < j → at2 b i y' + at2 b i (j - y') ≤ n)) := by
  intro d
  have last : ∀ k m, L.length ≤ m → 120 < k → Tells (carve_task_enough.l0 k b i j n L (L.length : Int) m) ((∀ k, m ≤ k → k < L.length → (blankAt L k).f0 ≤ i → (blankAt L k).f1 ≤ j → (blankAt L k).f2 ≤ n) ∧ (∀ x', 1 ≤ x' → x' < i → at2 b x' j + at2 b (i - x') j ≤ n) ∧ (∀ y', 1 ≤ y' → y' < j → at2 b i y' + at2 b i (j - y') ≤ n)) := by
    intro k m hm hk
    obtain ⟨k, rfl⟩ : ∃ m, k = m + 1 := ⟨k - 1, by omega⟩
    simp only [carve_task_enough.l0]
    rw [if_neg (by omega)]
    exact (enough_l1 hw hh hS hR hi hj n 50 k 1 (Nat.le_refl _) (by omega) (by omega)).congr ⟨fun q => ⟨fun x' h1 h2 => by omega, q⟩, fun q => q.2⟩
  induction d with
  | zero =>
    intro k m hd hk
    exact last k m (by omega) (by omega)
  | succ d ih =>
    intro k m hd hk
    by_cases hlt : m < L.length
    · obtain ⟨k, rfl⟩ : ∃ m, k = m + 1 := ⟨k - 1, by omega⟩
      have e2 : Aside0 (wrap64 ((m : Int) + 1) = ((m + 1 : Nat) : Int)) := ⟨by unfold wrap64; omega⟩
      simp only [carve_task_enough.l0]
      rw [if_pos (by omega), if_pos (by omega), if_pos (by omega), rd_T52_at', e2.out]
      have next := fun (hm : (blankAt L m).f0 ≤ i → (blankAt L m).f1 ≤ j → (blankAt L m).f2 ≤ n) =>
        (ih k (m + 1) (by omega) (by omega)).congr (Q := (∀ k, m ≤ k → k < L.length → (blankAt L k).f0 ≤ i → (blankAt L k).f1 ≤ j → (blankAt L k).f2 ≤ n) ∧ (∀ x', 1 ≤ x' → x' < i → at2 b x' j + at2 b (i - x') j ≤ n) ∧ (∀ y', 1 ≤ y' → y' < j → at2 b i y' + at2 b i (j - y') ≤ n)) ⟨fun q => ⟨fun k' h1 h2 h3 h4 => by
          rcases Nat.lt_or_ge m k' with h5 | h5
          · exact q.1 k' h5 h2 h3 h4
          · obtain rfl : k' = m := by omega
            exact hm h3 h4, q.2⟩, fun q => ⟨fun k' h1 h2 h3 h4 => q.1 k' (by omega) h2 h3 h4, q.2⟩⟩
      by_cases h0 : (blankAt L m).f0 ≤ i
      · rw [if_pos h0]
        by_cases h1 : (blankAt L m).f1 ≤ j
        · rw [if_pos h1]
          by_cases hn : n < (blankAt L m).f2
          · rw [if_pos hn]
            exact .no (fun q => by have := q.1 m (Nat.le_refl _) hlt h0 h1; omega)
          · rw [if_neg hn]
            exact next (fun _ _ => by omega)
        · rw [if_neg h1]
          exact next (fun _ h => absurd h h1)
      · rw [if_neg h0]
        exact next (fun h => absurd h h0)
    · exact last k m (by omega) (by omega)

theorem enough_tells {w h : Nat} {b : List (List Int)} {L : List S52} (hL : L.length ≤ 16) (hw : w ≤ 48) (hh : h ≤ 48) (hS : Shape w h b) (hR : Ranged w h b) {i j : Nat} (hi : i ≤ w) (hj : j ≤ h) (x y : Int) (k : Nat) (hk : 140 < k) :
    Tells (carve_task_enough.f k x y L b i j) (Enough L b i j) := by
  unfold carve_task_enough.f
  have hl := hS.2 i hi
  rw [if_pos (by omega), if_pos (by have := hS.1; omega), if_pos (by omega), if_pos (by rw [rd_len, hl]; omega), rd_at2]
  have := enough_l0 hL hw hh hS hR hi hj (at2 b i j) 16 k 0 (by omega) (by omega)
  exact this.congr ⟨fun q => ⟨fun k hk => q.1 k (Nat.zero_le _) hk, q.2⟩, fun q => ⟨fun k _ hk => q.1 k hk, q.2⟩⟩

end Go.Proofs.Ytochbhndeboodaa
