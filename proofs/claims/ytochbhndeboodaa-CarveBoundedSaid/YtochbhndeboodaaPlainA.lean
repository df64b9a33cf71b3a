/- The table of the best plans as plain functions: what one step, one cell, one row and the whole filling make of it. -/
import Derived.Test.YtochbhndeboodaaPCarveMorex0
namespace Go.Proofs.Ytochbhndeboodaa
set_option linter.unusedVariables false
set_option linter.unusedSimpArgs false
open Go.RowKit Go.Proofs.YtochbhndeboodaaW.PrintWords
open Go.Proofs.Ytochbhndeboodaa.PCarveMore (S52 S56 k52 k56)

/-- n steps from 0 on. -/
def up {σ : Type} (f : Nat → σ → σ) : Nat → σ → σ
  | 0, s => s
  | n + 1, s => f n (up f n s)

/-- Worths and first steps of all pieces. -/
structure Tab where
  T : Nat → Nat → Int
  S : Nat → Nat → Int × Int

def Tab.imp (t : Tab) (i j : Nat) (v : Int) (s : Int × Int) : Tab :=
  if t.T i j < v then ⟨fun x y => if x = i ∧ y = j then v else t.T x y, fun x y => if x = i ∧ y = j then s else t.S x y⟩ else t

def blankAt (L : List S52) (k : Nat) : S52 := L.getD k ⟨0, 0, 0⟩

def stepB (L : List S52) (i j k : Nat) (t : Tab) : Tab :=
  if (blankAt L k).f0 ≤ i ∧ (blankAt L k).f1 ≤ j then t.imp i j (blankAt L k).f2 (1, k) else t
def stepA (i j l : Nat) (t : Tab) : Tab := t.imp i j (wrap64 (t.T (l + 1) j + t.T (i - (l + 1)) j)) (2, ((l + 1 : Nat) : Int))
def stepH (i j l : Nat) (t : Tab) : Tab := t.imp i j (wrap64 (t.T i (l + 1) + t.T i (j - (l + 1)))) (3, ((l + 1 : Nat) : Int))
def cellP (L : List S52) (i j : Nat) (t : Tab) : Tab := up (stepH i j) (j - 1) (up (stepA i j) (i - 1) (up (stepB L i j) L.length t))
def rowP (L : List S52) (h i : Nat) (t : Tab) : Tab := up (fun j t => cellP L i (j + 1) t) h t
def tab0 : Tab := ⟨fun _ _ => 0, fun _ _ => (0, 0)⟩
def fillP (L : List S52) (w h : Nat) : Tab := up (fun i t => rowP L h (i + 1) t) w tab0

/-- The plan of a piece, read off the table; n bounds the depth. -/
def planP (t : Tab) : Nat → Nat → Nat → List S56
  | 0, _, _ => []
  | n + 1, i, j =>
    if (t.S i j).1 = 2 then ⟨(t.S i j).1, (t.S i j).2⟩ :: (planP t n (t.S i j).2.toNat j ++ planP t n (i - (t.S i j).2.toNat) j)
    else if (t.S i j).1 = 3 then ⟨(t.S i j).1, (t.S i j).2⟩ :: (planP t n i (t.S i j).2.toNat ++ planP t n i (j - (t.S i j).2.toNat))
    else [⟨(t.S i j).1, (t.S i j).2⟩]

/-- Each cut of the table cuts. -/
def Cuts (t : Tab) (w h : Nat) : Prop := ∀ i j, 1 ≤ i → i ≤ w → 1 ≤ j → j ≤ h →
  ((t.S i j).1 = 2 → 1 ≤ (t.S i j).2 ∧ (t.S i j).2 < i) ∧ ((t.S i j).1 = 3 → 1 ≤ (t.S i j).2 ∧ (t.S i j).2 < j)

theorem planP_len {t : Tab} {w h : Nat} (hC : Cuts t w h) : ∀ (n i j : Nat), 1 ≤ i → i ≤ w → 1 ≤ j → j ≤ h → (planP t n i j).length + 1 ≤ 2 * (i * j) := by
  intro n
  induction n with
  | zero =>
    intro i j hi _ hj _
    have := Nat.mul_le_mul hi hj
    simp [planP]
    omega
  | succ n ih =>
    intro i j hi hiw hj hjh
    have hp := Nat.mul_le_mul hi hj
    obtain ⟨h2, h3⟩ := hC i j hi hiw hj hjh
    unfold planP
    split
    · rename_i hk
      obtain ⟨a1, a2⟩ := h2 hk
      have x := ih (t.S i j).2.toNat j (by omega) (by omega) hj hjh
      have y := ih (i - (t.S i j).2.toNat) j (by omega) (by omega) hj hjh
      have z : (t.S i j).2.toNat * j + (i - (t.S i j).2.toNat) * j = i * j := by rw [← Nat.add_mul]; congr 1; omega
      simp only [List.length_cons, List.length_append]
      omega
    · split
      · rename_i hk
        obtain ⟨a1, a2⟩ := h3 hk
        have x := ih i (t.S i j).2.toNat hi hiw (by omega) (by omega)
        have y := ih i (j - (t.S i j).2.toNat) hi hiw (by omega) (by omega)
        have z : i * (t.S i j).2.toNat + i * (j - (t.S i j).2.toNat) = i * j := by rw [← Nat.mul_add]; congr 1; omega
        simp only [List.length_cons, List.length_append]
        omega
      · simp only [List.length_singleton]
        omega

theorem planP_len' {t : Tab} {w h : Nat} (hC : Cuts t w h) (hw : w ≤ 48) (hh : h ≤ 48) (n i j : Nat) (hi : 1 ≤ i) (hiw : i ≤ w) (hj : 1 ≤ j) (hjh : j ≤ h) : (planP t n i j).length ≤ 4607 := by
  have h1 := planP_len hC n i j hi hiw hj hjh
  have h2 : i * j ≤ 48 * 48 := Nat.mul_le_mul (by omega) (by omega)
  omega

end Go.Proofs.Ytochbhndeboodaa
