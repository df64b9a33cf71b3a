/- What the steps of a plan make, added up; a plan composed of a cut and two plans. -/
import Derived.Test.YtochbhndeboodaaPlainJ
namespace Go.Proofs.Ytochbhndeboodaa
set_option linter.unusedVariables false
set_option linter.unusedSimpArgs false
open Go.RowKit Go.Proofs.YtochbhndeboodaaW.PrintWords
open Go.Proofs.Ytochbhndeboodaa.PCarveMore (S52 S56 k52 k56)

/-- What a step makes: worth and area. -/
def stepV (L : List S52) (s : S56) : Int := if s.f0 = 1 then (blankAt L s.f1.toNat).f2 else 0
def stepA' (L : List S52) (s : S56) : Int := if s.f0 = 1 then (blankAt L s.f1.toNat).f0 * (blankAt L s.f1.toNat).f1 else 0
def sumV (L : List S52) : List S56 → Int
  | [] => 0
  | s :: l => stepV L s + sumV L l
def sumA (L : List S52) : List S56 → Int
  | [] => 0
  | s :: l => stepA' L s + sumA L l
theorem sumV_append (L : List S52) (a b : List S56) : sumV L (a ++ b) = sumV L a + sumV L b := by
  induction a with
  | nil => simp [sumV]
  | cons s l ih => simp [sumV, ih]; omega
theorem sumA_append (L : List S52) (a b : List S56) : sumA L (a ++ b) = sumA L a + sumA L b := by
  induction a with
  | nil => simp [sumA]
  | cons s l ih => simp [sumA, ih]; omega
/-- Each blank that is made is one of the task's. -/
def Makes (L : List S52) (l : List S56) : Prop := ∀ s, s ∈ l → s.f0 = 1 → 0 ≤ s.f1 ∧ s.f1 < L.length

theorem parse_sums (L : List S52) : ∀ (n : Nat) (w h : Int) (l : List S56) (v a : Int) (r : List S56), parseP L n w h l = some (v, a, r) → ∃ u, l = u ++ r ∧ v = sumV L u ∧ a = sumA L u ∧ Makes L u := by
  intro n
  induction n with
  | zero => intro w h l v a r e; simp [parseP] at e
  | succ n ih =>
    intro w h l v a r e
    match l, e with
    | [], e => simp [parseP] at e
    | s :: l, e =>
      have two : ∀ (w1 h1 w2 h2 : Int), s.f0 ≠ 1 → twoP (parseP L n w1 h1 l) (fun r1 => parseP L n w2 h2 r1) = some (v, a, r) → ∃ u, s :: l = u ++ r ∧ v = sumV L u ∧ a = sumA L u ∧ Makes L u := by
        intro w1 h1 w2 h2 hs e
        unfold twoP at e
        cases e1 : parseP L n w1 h1 l with
        | none => simp [e1] at e
        | some x =>
          obtain ⟨v1, a1, r1⟩ := x
          simp only [e1] at e
          cases e2 : parseP L n w2 h2 r1 with
          | none => simp [e2] at e
          | some y =>
            obtain ⟨v2, a2, r2⟩ := y
            simp only [e2, Option.some.injEq, Prod.mk.injEq] at e
            obtain ⟨rfl, rfl, rfl⟩ := e
            obtain ⟨u1, p1, p2, p3, p4⟩ := ih _ _ _ _ _ _ e1
            obtain ⟨u2, q1, q2, q3, q4⟩ := ih _ _ _ _ _ _ e2
            refine ⟨s :: (u1 ++ u2), by rw [p1, q1]; simp, ?_, ?_, fun t ht h1 => ?_⟩
            · simp [sumV, sumV_append, stepV, hs, p2, q2]
            · simp [sumA, sumA_append, stepA', hs, p3, q3]
            · rcases List.mem_cons.1 ht with rfl | ht
              · exact absurd h1 hs
              · exact (List.mem_append.1 ht).elim (fun h => p4 t h h1) (fun h => q4 t h h1)
      unfold parseP at e
      split at e
      · rename_i k0
        split at e
        · simp only [Option.some.injEq, Prod.mk.injEq] at e
          obtain ⟨rfl, rfl, rfl⟩ := e
          exact ⟨[s], rfl, by simp [sumV, stepV, k0], by simp [sumA, stepA', k0], fun t ht h1 => by
            obtain rfl := List.mem_singleton.1 ht
            omega⟩
        · cases e
      · split at e
        · rename_i hk
          obtain ⟨k0, k1⟩ := inB_iff.1 hk.2
          split at e
          · simp only [Option.some.injEq, Prod.mk.injEq] at e
            obtain ⟨rfl, rfl, rfl⟩ := e
            exact ⟨[s], rfl, by simp [sumV, stepV, hk.1], by simp [sumA, stepA', hk.1], fun t ht h1 => by
              obtain rfl := List.mem_singleton.1 ht
              omega⟩
          · cases e
        · split at e
          · rename_i hk
            exact two _ _ _ _ (by have := hk.1; omega) e
          · split at e
            · rename_i hk
              exact two _ _ _ _ (by have := hk.1; omega) e
            · cases e

theorem read_sums {L : List S52} {w h : Int} {p : List S56} {v a : Int} (e : readP L w h p = some (v, a)) : v = sumV L p ∧ a = sumA L p ∧ Makes L p ∧ p.length ≤ 8192 := by
  unfold readP at e
  split at e
  · rename_i hl
    split at e
    · rename_i v' a' hp
      simp only [Option.some.injEq, Prod.mk.injEq] at e
      obtain ⟨rfl, rfl⟩ := e
      obtain ⟨u, h1, h2, h3, h4⟩ := parse_sums L _ _ _ _ _ _ _ hp
      rw [List.append_nil] at h1
      subst h1
      exact ⟨h2, h3, h4, hl⟩
    · cases e
  · cases e
theorem read_area {L : List S52} (hL : OkL L) {w h : Int} (hw : 1 ≤ w) (hh : 1 ≤ h) {p : List S56} {v a : Int} (e : readP L w h p = some (v, a)) : 0 ≤ v ∧ v ≤ w * h * 1048576 ∧ 0 ≤ a ∧ a ≤ w * h := by
  unfold readP at e
  split at e
  · split at e
    · rename_i v' a' hp
      simp only [Option.some.injEq, Prod.mk.injEq] at e
      obtain ⟨rfl, rfl⟩ := e
      exact parseP_area L hL _ _ _ _ _ _ _ hw hh hp
    · cases e
  · cases e

theorem sums_nonneg {L : List S52} (hL : OkL L) : ∀ {l : List S56}, Makes L l → 0 ≤ sumV L l ∧ 0 ≤ sumA L l
  | [], _ => ⟨Int.le_refl _, Int.le_refl _⟩
  | s :: l, h => by
    have ih := sums_nonneg hL (l := l) (fun t ht => h t (List.mem_cons_of_mem _ ht))
    have hs : 0 ≤ stepV L s ∧ 0 ≤ stepA' L s := by
      unfold stepV stepA'
      split
      · rename_i h1
        have hk := h s (List.mem_cons_self ..) h1
        obtain ⟨b0, b1, b2⟩ := hL s.f1.toNat (by omega)
        exact ⟨(inB_iff.1 b2).1, Int.mul_nonneg (by have := (inB_iff.1 b0).1; omega) (by have := (inB_iff.1 b1).1; omega)⟩
      · exact ⟨Int.le_refl _, Int.le_refl _⟩
    simp only [sumV, sumA]
    omega
theorem sums_drop {L : List S52} (hL : OkL L) {l : List S56} (h : Makes L l) (k : Nat) : sumV L (l.drop k) ≤ sumV L l ∧ sumA L (l.drop k) ≤ sumA L l := by
  have h1 := sums_nonneg hL (l := l.take k) (fun s hs => h s (List.mem_of_mem_take hs))
  have e1 := sumV_append L (l.take k) (l.drop k)
  have e2 := sumA_append L (l.take k) (l.drop k)
  rw [List.take_append_drop] at e1 e2
  omega
def stepAt (l : List S56) (k : Nat) : S56 := PCarveMore.rd_T56 l (k : Int)
theorem drop_step {l : List S56} {k : Nat} (hk : k < l.length) : l.drop k = stepAt l k :: l.drop (k + 1) := by
  rw [List.drop_eq_getElem_cons hk]
  simp [stepAt, PCarveMore.rd_T56, List.getD_eq_getElem?_getD, List.getElem?_eq_getElem hk]
theorem stepAt_mem {l : List S56} {k : Nat} (hk : k < l.length) : stepAt l k ∈ l := by
  have : stepAt l k = l[k] := by simp [stepAt, PCarveMore.rd_T56, List.getD_eq_getElem?_getD, List.getElem?_eq_getElem hk]
  rw [this]
  exact List.getElem_mem hk
theorem makes_drop {L : List S52} {l : List S56} (h : Makes L l) (k : Nat) : Makes L (l.drop k) := fun s hs => h s (List.mem_of_mem_drop hs)

/-- A cut across, the plan of the left part, the plan of the right part. -/
theorem read_parts {L : List S52} (hL : OkL L) {w h x : Nat} (hw : w ≤ 48) (hh1 : 1 ≤ h) (hh : h ≤ 48) (hx1 : 1 ≤ x) (hx : x < w) :
    ∃ a, readP L w h ((⟨2, x⟩ : S56) :: (bestPlan L x h ++ bestPlan L (w - x) h)) = some (bestV L x h + bestV L (w - x) h, a) := by
  obtain ⟨hF, _⟩ := full_fillP hL (w := x) (h := h) (by omega) hh
  obtain ⟨hG, _⟩ := full_fillP hL (w := w - x) (h := h) (by omega) hh
  have l1 := planP_len (cuts_fillP L x h) (x + h) x h hx1 (Nat.le_refl _) hh1 (Nat.le_refl _)
  have l2 := planP_len (cuts_fillP L (w - x) h) (w - x + h) (w - x) h (by omega) (Nat.le_refl _) hh1 (Nat.le_refl _)
  have n1 : (bestPlan L x h).length = (planP (fillP L x h) (x + h) x h).length := rfl
  have n2 : (bestPlan L (w - x) h).length = (planP (fillP L (w - x) h) (w - x + h) (w - x) h).length := rfl
  obtain ⟨a1, e1⟩ := plan_parse hF (x + h) x h (Nat.le_refl _) hx1 (Nat.le_refl _) hh1 (Nat.le_refl _) (bestPlan L x h ++ bestPlan L (w - x) h).length (bestPlan L (w - x) h) (by rw [List.length_append, n1]; omega)
  obtain ⟨a2, e2⟩ := plan_parse hG (w - x + h) (w - x) h (Nat.le_refl _) (by omega) (Nat.le_refl _) hh1 (Nat.le_refl _) (bestPlan L x h ++ bestPlan L (w - x) h).length [] (by rw [List.length_append, n2]; omega)
  rw [List.append_nil] at e2
  have hb : x * h + (w - x) * h = w * h := by rw [← Nat.add_mul]; congr 1; omega
  have hm : w * h ≤ 48 * 48 := Nat.mul_le_mul hw hh
  refine ⟨a1 + a2, ?_⟩
  unfold readP
  rw [if_pos ?_, List.length_cons, parseP_across (by rfl) (inB_iff.2 (by dsimp only; omega))]
  · dsimp only
    have e1' : parseP L (bestPlan L x h ++ bestPlan L (w - x) h).length (x : Int) h (bestPlan L x h ++ bestPlan L (w - x) h) = some (bestV L x h, a1, bestPlan L (w - x) h) := e1
    have e2' : parseP L (bestPlan L x h ++ bestPlan L (w - x) h).length (((w - x : Nat) : Int)) h (bestPlan L (w - x) h) = some (bestV L (w - x) h, a2, []) := e2
    rw [twoP_some e1', show (w : Int) - (x : Int) = ((w - x : Nat) : Int) by omega, e2']
  · rw [List.length_cons, List.length_append, n1, n2]
    omega

end Go.Proofs.Ytochbhndeboodaa
