/- What is read of the best plan; the one small task that every statement looks at. -/
import Derived.Test.YtochbhndeboodaaPlainG
namespace Go.Proofs.Ytochbhndeboodaa
set_option linter.unusedVariables false
set_option linter.unusedSimpArgs false
open Go.RowKit Go.Proofs.YtochbhndeboodaaW.PrintWords
open Go.Proofs.Ytochbhndeboodaa.PCarveMore (S52 S56 k52 k56)

/-- A plan's worth and area, if it is right. -/
def readP (L : List S52) (w h : Int) (p : List S56) : Option (Int × Int) :=
  if p.length ≤ 8192 then
    match parseP L p.length w h p with
    | some (v, a, []) => some (v, a)
    | _ => none
  else none

/-- The best worth of a piece. -/
def bestV (L : List S52) (w h : Nat) : Int := (fillP L w h).T w h
def bestPlan (L : List S52) (w h : Nat) : List S56 := planP (fillP L w h) (w + h) w h

theorem plan_read {L : List S52} (hL : ∀ k, k < L.length → okB (blankAt L k)) {w h : Nat} (hw1 : 1 ≤ w) (hw : w ≤ 48) (hh1 : 1 ≤ h) (hh : h ≤ 48) : ∃ a, readP L w h (bestPlan L w h) = some (bestV L w h, a) := by
  obtain ⟨hF, _⟩ := full_fillP hL hw hh
  have hl := planP_len' (cuts_fillP L w h) hw hh (w + h) w h hw1 (Nat.le_refl _) hh1 (Nat.le_refl _)
  obtain ⟨a, e⟩ := plan_parse hF (w + h) w h (Nat.le_refl _) hw1 (Nat.le_refl _) hh1 (Nat.le_refl _) (planP (fillP L w h) (w + h) w h).length [] (Nat.le_refl _)
  rw [List.append_nil] at e
  refine ⟨a, ?_⟩
  unfold readP bestPlan bestV
  rw [if_pos (by omega), e]

/-- The task that every statement looks at. -/
def L1 : List S52 := [⟨2, 1, 3⟩]
theorem L1_ok : ∀ k, k < L1.length → okB (blankAt L1 k) := by
  intro k hk
  have hk : k < 1 := hk
  obtain rfl : k = 0 := by omega
  exact ⟨rfl, rfl, rfl⟩
theorem L1_task : isTask 5 2 L1 := ⟨rfl, rfl, by decide, L1_ok⟩

theorem L1_worth : bestV L1 5 2 = 12 := by
  obtain ⟨hF, _⟩ := full_fillP L1_ok (w := 5) (h := 2) (by decide) (by decide)
  have hlo := hF.lower
  have h21 := hlo.blank 2 1 (by decide) (by decide) (by decide) (by decide) 0 ⟨by decide, by decide, by decide⟩
  have h11 := hlo.nonneg 1 1 (by decide) (by decide) (by decide) (by decide)
  have h41 := hlo.across 4 1 (by decide) (by decide) (by decide) (by decide) 2 (by decide) (by decide)
  have h51 := hlo.across 5 1 (by decide) (by decide) (by decide) (by decide) 4 (by decide) (by decide)
  have h52 := hlo.along 5 2 (by decide) (by decide) (by decide) (by decide) 1 (by decide) (by decide)
  have hb : (blankAt L1 0).f2 = 3 := rfl
  have hup := upper_le hF.upper (V' := fun i j => 3 * (((i / 2) * j : Nat) : Int)) (fun i j _ _ _ _ => by omega)
    (fun i j hi _ hj _ k hf => by
      obtain ⟨h0, h1, h2⟩ := hf
      have h0 : k < 1 := h0
      obtain rfl : k = 0 := by omega
      have h1 : (2 : Int) ≤ i := h1
      have : 1 * 1 ≤ (i / 2) * j := Nat.mul_le_mul (by omega) hj
      show (3 : Int) ≤ _
      omega)
    (fun i j _ _ _ _ x h1 h2 => by
      have : (x / 2) * j + ((i - x) / 2) * j ≤ (i / 2) * j := by rw [← Nat.add_mul]; exact Nat.mul_le_mul_right _ (by omega)
      show (3 : Int) * _ + 3 * _ ≤ 3 * _
      omega)
    (fun i j _ _ _ _ y h1 h2 => by
      have : (i / 2) * y + (i / 2) * (j - y) = (i / 2) * j := area_split2 _ (by omega)
      show (3 : Int) * _ + 3 * _ ≤ 3 * _
      omega) 5 2 (by decide) (by decide) (by decide) (by decide)
  have hup : (fillP L1 5 2).T 5 2 ≤ 12 := hup
  have h51 : (fillP L1 5 2).T 4 1 + (fillP L1 5 2).T 1 1 ≤ (fillP L1 5 2).T 5 1 := h51
  have h41 : (fillP L1 5 2).T 2 1 + (fillP L1 5 2).T 2 1 ≤ (fillP L1 5 2).T 4 1 := h41
  have h52 : (fillP L1 5 2).T 5 1 + (fillP L1 5 2).T 5 1 ≤ (fillP L1 5 2).T 5 2 := h52
  unfold bestV
  omega

theorem L1_area : ∀ (n : Nat) (w h : Int) (l : List S56) (v a : Int) (r : List S56), parseP L1 n w h l = some (v, a, r) → 3 * a = 2 * v := by
  intro n
  induction n with
  | zero => intro w h l v a r e; simp [parseP] at e
  | succ n ih =>
    intro w h l v a r e
    match l, e with
    | [], e => simp [parseP] at e
    | s :: l, e =>
      have two : ∀ w1 h1 w2 h2, twoP (parseP L1 n w1 h1 l) (fun r1 => parseP L1 n w2 h2 r1) = some (v, a, r) → 3 * a = 2 * v := by
        intro w1 h1 w2 h2 e
        unfold twoP at e
        cases e1 : parseP L1 n w1 h1 l with
        | none => simp [e1] at e
        | some x =>
          obtain ⟨v1, a1, r1⟩ := x
          simp only [e1] at e
          cases e2 : parseP L1 n w2 h2 r1 with
          | none => simp [e2] at e
          | some y =>
            obtain ⟨v2, a2, r2⟩ := y
            simp only [e2, Option.some.injEq, Prod.mk.injEq] at e
            obtain ⟨rfl, rfl, rfl⟩ := e
            have x1 := ih _ _ _ _ _ _ e1
            have x2 := ih _ _ _ _ _ _ e2
            omega
      unfold parseP at e
      split at e
      · split at e
        · simp only [Option.some.injEq, Prod.mk.injEq] at e
          omega
        · cases e
      · split at e
        · rename_i hk
          obtain ⟨k0, k1⟩ := inB_iff.1 hk.2
          have k1 : s.f1 ≤ 1 - 1 := k1
          have h0 : s.f1.toNat = 0 := by omega
          rw [h0] at e
          split at e
          · simp only [Option.some.injEq, Prod.mk.injEq] at e
            obtain ⟨rfl, rfl, _⟩ := e
            rfl
          · cases e
        · split at e
          · exact two _ _ _ _ e
          · split at e
            · exact two _ _ _ _ e
            · cases e

theorem readP_L1 {p : List S56} {v a : Int} (h : readP L1 5 2 p = some (v, a)) : 3 * a = 2 * v := by
  unfold readP at h
  split at h
  · split at h
    · rename_i e
      simp only [Option.some.injEq, Prod.mk.injEq] at h
      obtain ⟨rfl, rfl⟩ := h
      exact L1_area _ _ _ _ _ _ _ e
    · cases h
  · cases h

theorem L1_read : readP L1 5 2 (bestPlan L1 5 2) = some (12, 8) := by
  obtain ⟨a, h⟩ := plan_read L1_ok (w := 5) (h := 2) (by decide) (by decide) (by decide) (by decide)
  rw [L1_worth] at h
  have h2 : readP L1 5 2 (bestPlan L1 5 2) = some (12, a) := h
  have := readP_L1 h2
  rw [h2]
  congr 2
  omega

end Go.Proofs.Ytochbhndeboodaa
