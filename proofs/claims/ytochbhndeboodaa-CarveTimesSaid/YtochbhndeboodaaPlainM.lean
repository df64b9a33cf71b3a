/- The best worth when all values, or all sides, are multiplied by one factor. -/
import Derived.Test.YtochbhndeboodaaPlainL
namespace Go.Proofs.Ytochbhndeboodaa
set_option linter.unusedVariables false
set_option linter.unusedSimpArgs false
open Go.Proofs.Ytochbhndeboodaa.PCarveMore (S52 S56 k52 k56)

def richB (K : Nat) (b : S52) : S52 := ⟨b.f0, b.f1, (K : Int) * b.f2⟩
def largeB (K : Nat) (b : S52) : S52 := ⟨(K : Int) * b.f0, (K : Int) * b.f1, b.f2⟩
def richL (K : Nat) (L : List S52) : List S52 := L.map (richB K)
def largeL (K : Nat) (L : List S52) : List S52 := L.map (largeB K)
/-- No value and no side grows past its limit. -/
def Fine (K : Nat) (b : S52) : Prop := b.f2 * K ≤ 1048576 ∧ b.f0 * K ≤ 48 ∧ b.f1 * K ≤ 48

theorem blankAt_mapped {L : List S52} (f : S52 → S52) {k : Nat} (hk : k < L.length) : blankAt (L.map f) k = f (blankAt L k) := by
  unfold blankAt
  rw [List.getD_eq_getElem?_getD, List.getElem?_map, List.getElem?_eq_getElem hk, List.getD_eq_getElem?_getD, List.getElem?_eq_getElem hk]
  rfl
theorem rich_ok {K : Nat} {L : List S52} (hL : OkL L) (hF : ∀ k, k < L.length → Fine K (blankAt L k)) : OkL (richL K L) := fun k hk => by
  have hk' : k < L.length := by simpa [richL] using hk
  rw [richL, blankAt_mapped _ hk']
  obtain ⟨a, b, c⟩ := hL k hk'
  have f := (hF k hk').1
  rw [Int.mul_comm] at f
  have c' := inB_iff.1 c
  exact ⟨a, b, inB_iff.2 ⟨Int.mul_nonneg (by omega) c'.1, f⟩⟩
theorem large_ok {K : Nat} (hK : 1 ≤ K) {L : List S52} (hL : OkL L) (hF : ∀ k, k < L.length → Fine K (blankAt L k)) : OkL (largeL K L) := fun k hk => by
  have hk' : k < L.length := by simpa [largeL] using hk
  rw [largeL, blankAt_mapped _ hk']
  obtain ⟨a, b, c⟩ := hL k hk'
  obtain ⟨_, f, g⟩ := hF k hk'
  rw [Int.mul_comm] at f g
  have a' := inB_iff.1 a
  have b' := inB_iff.1 b
  have h1 : (1 : Int) * 1 ≤ (K : Int) * (blankAt L k).f0 := Int.mul_le_mul (by omega) a'.1 (by omega) (by omega)
  have h2 : (1 : Int) * 1 ≤ (K : Int) * (blankAt L k).f1 := Int.mul_le_mul (by omega) b'.1 (by omega) (by omega)
  exact ⟨inB_iff.2 ⟨show (1 : Int) ≤ (K : Int) * (blankAt L k).f0 by omega, f⟩, inB_iff.2 ⟨show (1 : Int) ≤ (K : Int) * (blankAt L k).f1 by omega, g⟩, c⟩

theorem bestV_rich {K : Nat} {L : List S52} (hL : OkL L) (hF : ∀ k, k < L.length → Fine K (blankAt L k)) {i j : Nat} (i1 : 1 ≤ i) (hi : i ≤ 48) (j1 : 1 ≤ j) (hj : j ≤ 48) : bestV (richL K L) i j = (K : Int) * bestV L i j := by
  have hl := bestV_lower hL
  have hK : (0 : Int) ≤ K := by omega
  refine bestV_eq (V := fun i j => (K : Int) * bestV L i j) (rich_ok hL hF) (Nat.le_refl _) (Nat.le_refl _) ?_ ?_ i1 hi j1 hj
  · refine ⟨fun i j a b c d => Int.mul_nonneg hK (hl.nonneg i j a b c d), fun i j a b c d k hf => ?_, fun i j a b c d x h1 h2 => ?_, fun i j a b c d y h1 h2 => ?_⟩
    · have hk' : k < L.length := by simpa [richL] using hf.1
      unfold Fit at hf
      rw [richL, blankAt_mapped _ hk'] at hf ⊢
      exact Int.mul_le_mul_of_nonneg_left (hl.blank i j a b c d k ⟨hk', hf.2⟩) hK
    · rw [← Int.mul_add]
      exact Int.mul_le_mul_of_nonneg_left (hl.across i j a b c d x h1 h2) hK
    · rw [← Int.mul_add]
      exact Int.mul_le_mul_of_nonneg_left (hl.along i j a b c d y h1 h2) hK
  · intro i j a b c d
    rcases bestV_upper hL i j a b c d with q | ⟨k, q, r⟩ | ⟨x, h1, h2, r⟩ | ⟨y, h1, h2, r⟩
    · exact .inl (by simp only [q, Int.mul_zero])
    · refine .inr (.inl ⟨k, ⟨by simpa [richL] using q.1, ?_⟩, ?_⟩)
      · rw [richL, blankAt_mapped _ q.1]; exact q.2
      · rw [richL, blankAt_mapped _ q.1]
        simp only [r, richB]
    · exact .inr (.inr (.inl ⟨x, h1, h2, by simp only [r, Int.mul_add]⟩))
    · exact .inr (.inr (.inr ⟨y, h1, h2, by simp only [r, Int.mul_add]⟩))

theorem bestV_large {K : Nat} (hK : K = 1 ∨ K = 2 ∨ K = 3) {L : List S52} (hL : OkL L) (hF : ∀ k, k < L.length → Fine K (blankAt L k)) {w h : Nat} (w1 : 1 ≤ w) (hw : w ≤ 16) (h1 : 1 ≤ h) (hh : h ≤ 16) : bestV (largeL K L) (K * w) (K * h) = bestV L w h := by
  have hK1 : 1 ≤ K := by omega
  have hK3 : K ≤ 3 := by omega
  have hLL := large_ok hK1 hL hF
  have hl := bestV_lower hL
  have hll := bestV_lower hLL
  have hm : ∀ x, x ≤ 16 → K * x ≤ 48 := fun x hx => by have := Nat.mul_le_mul hK3 hx; omega
  have hp : ∀ x, 1 ≤ x → 1 ≤ K * x := fun x hx => by have := Nat.mul_le_mul hK1 hx; omega
  have A : bestV L w h ≤ bestV (largeL K L) (K * w) (K * h) := by
    refine upper_le (V' := fun i j => bestV (largeL K L) (K * i) (K * j)) ((bestV_upper hL).mono (w' := 16) (h' := 16) (by omega) (by omega)) (fun i j a b c d => hll.nonneg _ _ (hp i a) (hm i b) (hp j c) (hm j d)) (fun i j a b c d k hf => ?_) (fun i j a b c d x h1 h2 => ?_) (fun i j a b c d y h1 h2 => ?_) w h w1 hw h1 hh
    · have e := blankAt_mapped (largeB K) hf.1
      have := hll.blank (K * i) (K * j) (hp i a) (hm i b) (hp j c) (hm j d) k ⟨by simpa [largeL] using hf.1, by
        rw [largeL, e, Int.natCast_mul]; exact Int.mul_le_mul_of_nonneg_left hf.2.1 (by omega), by
        rw [largeL, e, Int.natCast_mul]; exact Int.mul_le_mul_of_nonneg_left hf.2.2 (by omega)⟩
      rw [largeL, e] at this
      exact this
    · have := hll.across (K * i) (K * j) (hp i a) (hm i b) (hp j c) (hm j d) (K * x) (hp x h1) (Nat.mul_lt_mul_of_pos_left h2 hK1)
      rwa [← Nat.mul_sub] at this
    · have := hll.along (K * i) (K * j) (hp i a) (hm i b) (hp j c) (hm j d) (K * y) (hp y h1) (Nat.mul_lt_mul_of_pos_left h2 hK1)
      rwa [← Nat.mul_sub] at this
  have B : bestV (largeL K L) (K * w) (K * h) ≤ bestV L (K * w / K) (K * h / K) := by
    have hd : ∀ x, x / K ≤ x := fun x => Nat.div_le_self x K
    refine upper_le (V' := fun i j => bestV L (i / K) (j / K)) (bestV_upper hLL) (fun i j a b c d => bestV_nonneg hL (by have := hd i; omega) (by have := hd j; omega)) (fun i j a b c d k hf => ?_) (fun i j a b c d x h1 h2 => ?_) (fun i j a b c d y h1 h2 => ?_) (K * w) (K * h) (hp w w1) (hm w hw) (hp h h1) (hm h hh)
    · have hk' : k < L.length := by simpa [largeL] using hf.1
      unfold Fit at hf
      rw [largeL, blankAt_mapped _ hk'] at hf ⊢
      obtain ⟨_, f0, f1⟩ := hf
      obtain ⟨o0, o1, _⟩ := hL k hk'
      have o0' := inB_iff.1 o0
      have o1' := inB_iff.1 o1
      have q0 : (blankAt L k).f0 ≤ ((i / K : Nat) : Int) := by
        have f0' : (K : Int) * (blankAt L k).f0 ≤ i := f0
        rcases hK with rfl | rfl | rfl <;> omega
      have q1 : (blankAt L k).f1 ≤ ((j / K : Nat) : Int) := by
        have f1' : (K : Int) * (blankAt L k).f1 ≤ j := f1
        rcases hK with rfl | rfl | rfl <;> omega
      exact hl.blank (i / K) (j / K) (by omega) (by have := hd i; omega) (by omega) (by have := hd j; omega) k ⟨hk', q0, q1⟩
    · have hs : x / K + (i - x) / K ≤ i / K := by rcases hK with rfl | rfl | rfl <;> omega
      have dj := hd j
      have di := hd i
      show bestV L (x / K) (j / K) + bestV L ((i - x) / K) (j / K) ≤ bestV L (i / K) (j / K)
      generalize x / K = u at *
      generalize (i - x) / K = v at *
      generalize i / K = t at *
      generalize j / K = s at *
      by_cases c0 : 1 ≤ u ∧ 1 ≤ v ∧ 1 ≤ s
      · have h3 := hl.across (u + v) s (by omega) (by omega) c0.2.2 (by omega) u c0.1 (by omega)
        rw [show u + v - u = v by omega] at h3
        exact Int.le_trans h3 (bestV_larger hL hs (Nat.le_refl _) (by omega) (by omega))
      · by_cases z : u = 0 ∨ s = 0
        · rw [bestV_zero hL (w := u) (by omega) (by omega) z, Int.zero_add]
          exact bestV_larger hL (by omega) (Nat.le_refl _) (by omega) (by omega)
        · rw [bestV_zero hL (w := v) (by omega) (by omega) (by omega), Int.add_zero]
          exact bestV_larger hL (by omega) (Nat.le_refl _) (by omega) (by omega)
    · have hs : y / K + (j - y) / K ≤ j / K := by rcases hK with rfl | rfl | rfl <;> omega
      have dj := hd j
      have di := hd i
      show bestV L (i / K) (y / K) + bestV L (i / K) ((j - y) / K) ≤ bestV L (i / K) (j / K)
      generalize y / K = u at *
      generalize (j - y) / K = v at *
      generalize j / K = t at *
      generalize i / K = s at *
      by_cases c0 : 1 ≤ u ∧ 1 ≤ v ∧ 1 ≤ s
      · have h3 := hl.along s (u + v) c0.2.2 (by omega) (by omega) (by omega) u c0.1 (by omega)
        rw [show u + v - u = v by omega] at h3
        exact Int.le_trans h3 (bestV_larger hL (Nat.le_refl _) hs (by omega) (by omega))
      · by_cases z : s = 0 ∨ u = 0
        · rw [bestV_zero hL (h := u) (by omega) (by omega) z, Int.zero_add]
          exact bestV_larger hL (Nat.le_refl _) (by omega) (by omega) (by omega)
        · rw [bestV_zero hL (h := v) (by omega) (by omega) (by omega), Int.add_zero]
          exact bestV_larger hL (Nat.le_refl _) (by omega) (by omega) (by omega)
  rw [Nat.mul_div_cancel_left _ hK1, Nat.mul_div_cancel_left _ hK1] at B
  omega

end Go.Proofs.Ytochbhndeboodaa
