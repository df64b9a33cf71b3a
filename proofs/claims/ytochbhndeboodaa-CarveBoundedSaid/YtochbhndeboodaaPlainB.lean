/- Plain facts of the filled table: its cuts cut. -/
import Derived.Test.YtochbhndeboodaaPlainA
namespace Go.Proofs.Ytochbhndeboodaa
set_option linter.unusedVariables false
set_option linter.unusedSimpArgs false
open Go.RowKit Go.Proofs.YtochbhndeboodaaW.PrintWords
open Go.Proofs.Ytochbhndeboodaa.PCarveMore (S52 S56 k52 k56)

theorem up_inv {σ : Type} {f : Nat → σ → σ} (P : σ → Prop) : ∀ (N : Nat) (s : σ), (∀ n s, n < N → P s → P (f n s)) → P s → P (up f N s)
  | 0, _, _, h => h
  | N + 1, s, hf, h => hf N _ (by omega) (up_inv P N s (fun n s hn => hf n s (by omega)) h)

def CutsAll (t : Tab) : Prop := ∀ i j, ((t.S i j).1 = 2 → 1 ≤ (t.S i j).2 ∧ (t.S i j).2 < i) ∧ ((t.S i j).1 = 3 → 1 ≤ (t.S i j).2 ∧ (t.S i j).2 < j)

theorem CutsAll.imp {t : Tab} (h : CutsAll t) (i j : Nat) (v : Int) (s : Int × Int) (h2 : s.1 = 2 → 1 ≤ s.2 ∧ s.2 < i) (h3 : s.1 = 3 → 1 ≤ s.2 ∧ s.2 < j) : CutsAll (t.imp i j v s) := by
  unfold Tab.imp
  split
  · intro x y
    dsimp only
    split
    · rename_i e
      obtain ⟨rfl, rfl⟩ := e
      exact ⟨h2, h3⟩
    · exact h x y
  · exact h

theorem cutsAll_fillP (L : List S52) (w h : Nat) : CutsAll (fillP L w h) := by
  unfold fillP
  refine up_inv CutsAll _ _ (fun i t _ ht => ?_) (fun i j => ⟨fun e => by simp [tab0] at e, fun e => by simp [tab0] at e⟩)
  unfold rowP
  refine up_inv CutsAll _ _ (fun j t _ ht => ?_) ht
  unfold cellP
  refine up_inv CutsAll _ _ (fun m t hm ht => ?_) (up_inv CutsAll _ _ (fun l t hl ht => ?_) (up_inv CutsAll _ _ (fun k t _ ht => ?_) ht))
  · exact ht.imp _ _ _ _ (fun e => by simp at e) (fun _ => ⟨by simp; omega, by simp; omega⟩)
  · exact ht.imp _ _ _ _ (fun _ => ⟨by simp; omega, by simp; omega⟩) (fun e => by simp at e)
  · unfold stepB
    split
    · exact ht.imp _ _ _ _ (fun e => by simp at e) (fun e => by simp at e)
    · exact ht

theorem cuts_fillP (L : List S52) (w h : Nat) : Cuts (fillP L w h) w h := fun i j _ _ _ _ => cutsAll_fillP L w h i j

/-- The first rows of a table, as Best returns them. -/
def rowsOf (t : Tab) (h n : Nat) : List (List Int) := (List.range n).map fun i => (List.range (h + 1)).map fun j => t.T i j
theorem rowsOf_succ (t : Tab) (h n : Nat) : rowsOf t h (n + 1) = rowsOf t h n ++ [(List.range (h + 1)).map fun j => t.T n j] := by
  simp [rowsOf, List.range_succ]
theorem rowsOf_length (t : Tab) (h n : Nat) : (rowsOf t h n).length = n := by simp [rowsOf]

end Go.Proofs.Ytochbhndeboodaa
