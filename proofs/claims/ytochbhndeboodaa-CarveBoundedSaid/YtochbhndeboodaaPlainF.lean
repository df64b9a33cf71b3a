/- The filled table: each cell is worth the best of its ways, and its step is one of them. -/
import Derived.Test.YtochbhndeboodaaPlainC
namespace Go.Proofs.Ytochbhndeboodaa
set_option linter.unusedVariables false
set_option linter.unusedSimpArgs false
open Go.RowKit Go.Proofs.YtochbhndeboodaaW.PrintWords
open Go.Proofs.Ytochbhndeboodaa.PCarveMore (S52 S56 k52 k56)

theorem up_ind {σ : Type} {f : Nat → σ → σ} (P : Nat → σ → Prop) : ∀ (N : Nat) (s : σ), P 0 s → (∀ n s, n < N → P n s → P (n + 1) (f n s)) → P N (up f N s)
  | 0, _, h, _ => h
  | N + 1, s, h, hf => hf N _ (by omega) (up_ind P N s h (fun n s hn => hf n s (by omega)))

def Fit (L : List S52) (k i j : Nat) : Prop := k < L.length ∧ (blankAt L k).f0 ≤ i ∧ (blankAt L k).f1 ≤ j

/-- The step of a cell is a way to its worth. -/
def Way (L : List S52) (t : Tab) (i j : Nat) : Prop :=
  (t.S i j = (0, 0) ∧ t.T i j = 0) ∨
  (∃ k : Nat, t.S i j = (1, (k : Int)) ∧ Fit L k i j ∧ t.T i j = (blankAt L k).f2) ∨
  (∃ x : Nat, t.S i j = (2, (x : Int)) ∧ 1 ≤ x ∧ x < i ∧ t.T i j = t.T x j + t.T (i - x) j) ∨
  (∃ y : Nat, t.S i j = (3, (y : Int)) ∧ 1 ≤ y ∧ y < j ∧ t.T i j = t.T i y + t.T i (j - y))

def Roomy (t : Tab) (i j : Nat) : Prop := 0 ≤ t.T i j ∧ t.T i j ≤ ((i * j : Nat) : Int) * 1048576

structure CellOK (L : List S52) (t : Tab) (i j : Nat) : Prop where
  roomy : Roomy t i j
  way : Way L t i j
  blank : ∀ k, Fit L k i j → (blankAt L k).f2 ≤ t.T i j
  across : ∀ x, 1 ≤ x → x < i → t.T x j + t.T (i - x) j ≤ t.T i j
  along : ∀ y, 1 ≤ y → y < j → t.T i y + t.T i (j - y) ≤ t.T i j

/-- Nothing else has turned. -/
def Off (t t' : Tab) (i j : Nat) : Prop := ∀ x y, ¬ (x = i ∧ y = j) → t'.T x y = t.T x y ∧ t'.S x y = t.S x y

theorem Off.refl (t : Tab) (i j : Nat) : Off t t i j := fun _ _ _ => ⟨rfl, rfl⟩
theorem Off.imp {t t' : Tab} {i j : Nat} (h : Off t t' i j) (v : Int) (s : Int × Int) : Off t (t'.imp i j v s) i j := by
  intro x y hxy
  unfold Tab.imp
  split
  · simp only [hxy, if_false]
    exact h x y hxy
  · exact h x y hxy

theorem imp_T (t : Tab) (i j : Nat) (v : Int) (s : Int × Int) : (t.imp i j v s).T i j = if t.T i j < v then v else t.T i j := by
  unfold Tab.imp
  split <;> simp
theorem imp_S (t : Tab) (i j : Nat) (v : Int) (s : Int × Int) : (t.imp i j v s).S i j = if t.T i j < v then s else t.S i j := by
  unfold Tab.imp
  split <;> simp

theorem area_split1 {x i : Nat} (j : Nat) (h : x ≤ i) : x * j + (i - x) * j = i * j := by rw [← Nat.add_mul]; congr 1; omega
theorem area_split2 {y j : Nat} (i : Nat) (h : y ≤ j) : i * y + i * (j - y) = i * j := by rw [← Nat.mul_add]; congr 1; omega

theorem Way.step {L : List S52} {t : Tab} {i j : Nat} (h : Way L t i j) (v : Int) (s : Int × Int) (hoff : Off t (t.imp i j v s) i j)
    (hn : t.T i j < v → Way L (t.imp i j v s) i j) : Way L (t.imp i j v s) i j := by
  by_cases hlt : t.T i j < v
  · exact hn hlt
  · have e : t.imp i j v s = t := by unfold Tab.imp; rw [if_neg hlt]
    rw [e]
    exact h

theorem cell_ok {L : List S52} (hL : ∀ k, k < L.length → okB (blankAt L k)) {t : Tab} {i j : Nat} (hi : 1 ≤ i) (hj : 1 ≤ j) (hi48 : i ≤ 48) (hj48 : j ≤ 48) (h0 : t.T i j = 0) (h1 : t.S i j = (0, 0))
    (hA : ∀ x, 1 ≤ x → x < i → Roomy t x j) (hH : ∀ y, 1 ≤ y → y < j → Roomy t i y) :
    Off t (cellP L i j t) i j ∧ CellOK L (cellP L i j t) i j := by
  unfold cellP
  have hij : 1 ≤ i * j := Nat.mul_le_mul hi hj
  have hij2 : i * j ≤ 48 * 48 := Nat.mul_le_mul hi48 hj48
  -- the blanks
  have sB := up_ind (f := stepB L i j) (fun n t' => Off t t' i j ∧ Roomy t' i j ∧ Way L t' i j ∧ (∀ k, k < n → Fit L k i j → (blankAt L k).f2 ≤ t'.T i j)) L.length t
    ⟨Off.refl _ _ _, ⟨by omega, by omega⟩, .inl ⟨h1, h0⟩, fun k hk => by omega⟩
    (fun n s hn ⟨p1, p2, p3, p4⟩ => by
      unfold stepB
      split
      · rename_i hf
        obtain ⟨_, _, b2⟩ := hL n hn
        obtain ⟨b20, b21⟩ := inB_iff.1 b2
        refine ⟨p1.imp _ _, ?_, ?_, fun k hk hfit => ?_⟩
        · unfold Roomy at *
          rw [imp_T]
          split <;> omega
        · refine p3.step _ _ ((Off.refl _ _ _).imp _ _) (fun hlt => .inr (.inl ⟨n, ?_, ⟨hn, hf.1, hf.2⟩, ?_⟩))
          · rw [imp_S, if_pos hlt]
          · rw [imp_T, if_pos hlt]
        · rw [imp_T]
          rcases Nat.lt_or_ge k n with h5 | h5
          · have := p4 k h5 hfit
            split <;> omega
          · obtain rfl : k = n := by omega
            split <;> omega
      · rename_i hf
        exact ⟨p1, p2, p3, fun k hk hfit => by
          rcases Nat.lt_or_ge k n with h5 | h5
          · exact p4 k h5 hfit
          · obtain rfl : k = n := by omega
            exact absurd hfit.2 hf⟩)
  obtain ⟨p1, p2, p3, p4⟩ := sB
  have p4' : ∀ k, Fit L k i j → (blankAt L k).f2 ≤ (up (stepB L i j) L.length t).T i j := fun k hf => p4 k hf.1 hf
  generalize up (stepB L i j) L.length t = tB at p1 p2 p3 p4' ⊢
  -- the cuts across
  have sA := up_ind (f := stepA i j) (fun n t' => Off t t' i j ∧ Roomy t' i j ∧ Way L t' i j ∧ (∀ k, Fit L k i j → (blankAt L k).f2 ≤ t'.T i j) ∧ (∀ x, 1 ≤ x → x ≤ n → t.T x j + t.T (i - x) j ≤ t'.T i j)) (i - 1) tB
    ⟨p1, p2, p3, p4', fun x h1 h2 => by omega⟩
    (fun n s hn ⟨q1, q2, q3, q4, q5⟩ => by
      have r1 := hA (n + 1) (by omega) (by omega)
      have r2 := hA (i - (n + 1)) (by omega) (by omega)
      have ea := area_split1 j (show n + 1 ≤ i by omega)
      have e1 := (q1 (n + 1) j (by omega)).1
      have e2 := (q1 (i - (n + 1)) j (by omega)).1
      unfold Roomy at r1 r2
      unfold stepA
      rw [e1, e2]
      have ew : Aside0 (wrap64 (t.T (n + 1) j + t.T (i - (n + 1)) j) = t.T (n + 1) j + t.T (i - (n + 1)) j) := ⟨by unfold wrap64; omega⟩
      rw [ew.out]
      refine ⟨q1.imp _ _, ?_, ?_, fun k hf => ?_, fun x h1 h2 => ?_⟩
      · unfold Roomy at *
        rw [imp_T]
        split <;> omega
      · refine q3.step _ _ ((Off.refl _ _ _).imp _ _) (fun hlt => .inr (.inr (.inl ⟨n + 1, ?_, by omega, by omega, ?_⟩)))
        · rw [imp_S, if_pos hlt]
        · rw [imp_T, if_pos hlt, (((Off.refl s i j).imp _ _) (n + 1) j (by omega)).1, (((Off.refl s i j).imp _ _) (i - (n + 1)) j (by omega)).1, e1, e2]
      · have := q4 k hf
        rw [imp_T]
        split <;> omega
      · rw [imp_T]
        rcases Nat.lt_or_ge n x with h5 | h5
        · obtain rfl : x = n + 1 := by omega
          split <;> omega
        · have := q5 x h1 h5
          split <;> omega)
  obtain ⟨q1, q2, q3, q4, q5⟩ := sA
  generalize up (stepA i j) (i - 1) tB = tA at q1 q2 q3 q4 q5 ⊢
  -- the cuts along
  have sH := up_ind (f := stepH i j) (fun n t' => Off t t' i j ∧ Roomy t' i j ∧ Way L t' i j ∧ (∀ k, Fit L k i j → (blankAt L k).f2 ≤ t'.T i j) ∧ (∀ x, 1 ≤ x → x < i → t.T x j + t.T (i - x) j ≤ t'.T i j) ∧ (∀ y, 1 ≤ y → y ≤ n → t.T i y + t.T i (j - y) ≤ t'.T i j)) (j - 1) tA
    ⟨q1, q2, q3, q4, fun x h1 h2 => q5 x h1 (by omega), fun y h1 h2 => by omega⟩
    (fun n s hn ⟨u1, u2, u3, u4, u5, u6⟩ => by
      have r1 := hH (n + 1) (by omega) (by omega)
      have r2 := hH (j - (n + 1)) (by omega) (by omega)
      have ea := area_split2 i (show n + 1 ≤ j by omega)
      have e1 := (u1 i (n + 1) (by omega)).1
      have e2 := (u1 i (j - (n + 1)) (by omega)).1
      unfold Roomy at r1 r2
      unfold stepH
      rw [e1, e2]
      have ew : Aside0 (wrap64 (t.T i (n + 1) + t.T i (j - (n + 1))) = t.T i (n + 1) + t.T i (j - (n + 1))) := ⟨by unfold wrap64; omega⟩
      rw [ew.out]
      refine ⟨u1.imp _ _, ?_, ?_, fun k hf => ?_, fun x h1 h2 => ?_, fun x h1 h2 => ?_⟩
      · unfold Roomy at *
        rw [imp_T]
        split <;> omega
      · refine u3.step _ _ ((Off.refl _ _ _).imp _ _) (fun hlt => .inr (.inr (.inr ⟨n + 1, ?_, by omega, by omega, ?_⟩)))
        · rw [imp_S, if_pos hlt]
        · rw [imp_T, if_pos hlt, (((Off.refl s i j).imp _ _) i (n + 1) (by omega)).1, (((Off.refl s i j).imp _ _) i (j - (n + 1)) (by omega)).1, e1, e2]
      · have := u4 k hf
        rw [imp_T]
        split <;> omega
      · have := u5 x h1 h2
        rw [imp_T]
        split <;> omega
      · rw [imp_T]
        rcases Nat.lt_or_ge n x with h5 | h5
        · obtain rfl : x = n + 1 := by omega
          split <;> omega
        · have := u6 x h1 h5
          split <;> omega)
  obtain ⟨u1, u2, u3, u4, u5, u6⟩ := sH
  refine ⟨u1, u2, u3, u4, fun x h1 h2 => ?_, fun y h1 h2 => ?_⟩
  · rw [(u1 x j (by omega)).1, (u1 (i - x) j (by omega)).1]
    exact u5 x h1 h2
  · rw [(u1 i y (by omega)).1, (u1 i (j - y) (by omega)).1]
    exact u6 y h1 (by omega)

end Go.Proofs.Ytochbhndeboodaa
