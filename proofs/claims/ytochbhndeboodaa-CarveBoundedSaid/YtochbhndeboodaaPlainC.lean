/- How a plan is read, as a plain function: its worth, the area of its blanks, and what is left of it. -/
import Derived.Test.YtochbhndeboodaaPlainB
namespace Go.Proofs.Ytochbhndeboodaa
set_option linter.unusedVariables false
set_option linter.unusedSimpArgs false
open Go.RowKit Go.Proofs.YtochbhndeboodaaW.PrintWords
open Go.Proofs.Ytochbhndeboodaa.PCarveMore (S52 S56 k52 k56)

def inB (n lo hi : Int) : Bool := decide (lo ≤ n ∧ n ≤ hi)
theorem inB_iff {n lo hi : Int} : inB n lo hi = true ↔ lo ≤ n ∧ n ≤ hi := by simp [inB]

def okB (b : S52) : Prop := inB b.f0 1 48 = true ∧ inB b.f1 1 48 = true ∧ inB b.f2 0 1048576 = true
def isTask (a0 a1 : Int) (L : List S52) : Prop := inB a0 1 48 = true ∧ inB a1 1 48 = true ∧ L.length ≤ 16 ∧ ∀ k, k < L.length → okB (blankAt L k)

/-- Two parts, one behind the other. -/
def twoP (x : Option (Int × Int × List S56)) (f : List S56 → Option (Int × Int × List S56)) : Option (Int × Int × List S56) :=
  match x with
  | none => none
  | some (v, a, r) =>
    match f r with
    | none => none
    | some (v', a', r') => some (v + v', a + a', r')

def parseP (L : List S52) : Nat → Int → Int → List S56 → Option (Int × Int × List S56)
  | 0, _, _, _ => none
  | _ + 1, _, _, [] => none
  | n + 1, w, h, s :: r =>
    if s.f0 = 0 then (if s.f1 = 0 then some (0, 0, r) else none)
    else if s.f0 = 1 ∧ inB s.f1 0 ((L.length : Int) - 1) = true then
      (if (blankAt L s.f1.toNat).f0 ≤ w ∧ (blankAt L s.f1.toNat).f1 ≤ h then some ((blankAt L s.f1.toNat).f2, (blankAt L s.f1.toNat).f0 * (blankAt L s.f1.toNat).f1, r) else none)
    else if s.f0 = 2 ∧ inB s.f1 1 (w - 1) = true then twoP (parseP L n s.f1 h r) (fun r1 => parseP L n (w - s.f1) h r1)
    else if s.f0 = 3 ∧ inB s.f1 1 (h - 1) = true then twoP (parseP L n w s.f1 r) (fun r1 => parseP L n w (h - s.f1) r1)
    else none

/-- What the head of the plan makes of the rest. -/
theorem parseP_waste {L : List S52} {n : Nat} {w h : Int} {st : S56} {r : List S56} (k0 : st.f0 = 0) : parseP L (n + 1) w h (st :: r) = if st.f1 = 0 then some (0, 0, r) else none := by rw [parseP, if_pos k0]
theorem parseP_make {L : List S52} {n : Nat} {w h : Int} {st : S56} {r : List S56} (k1 : st.f0 = 1) (hin : inB st.f1 0 ((L.length : Int) - 1) = true) : parseP L (n + 1) w h (st :: r) = if (blankAt L st.f1.toNat).f0 ≤ w ∧ (blankAt L st.f1.toNat).f1 ≤ h then some ((blankAt L st.f1.toNat).f2, (blankAt L st.f1.toNat).f0 * (blankAt L st.f1.toNat).f1, r) else none := by
  rw [parseP, if_neg (by omega), if_pos ⟨k1, hin⟩]
theorem parseP_across {L : List S52} {n : Nat} {w h : Int} {st : S56} {r : List S56} (k1 : st.f0 = 2) (hin : inB st.f1 1 (w - 1) = true) : parseP L (n + 1) w h (st :: r) = twoP (parseP L n st.f1 h r) (fun r1 => parseP L n (w - st.f1) h r1) := by
  rw [parseP, if_neg (by omega), if_neg (by omega), if_pos ⟨k1, hin⟩]
theorem parseP_along {L : List S52} {n : Nat} {w h : Int} {st : S56} {r : List S56} (k1 : st.f0 = 3) (hin : inB st.f1 1 (h - 1) = true) : parseP L (n + 1) w h (st :: r) = twoP (parseP L n w st.f1 r) (fun r1 => parseP L n w (h - st.f1) r1) := by
  rw [parseP, if_neg (by omega), if_neg (by omega), if_neg (by omega), if_pos ⟨k1, hin⟩]
theorem parseP_bad {L : List S52} {n : Nat} {w h : Int} {st : S56} {r : List S56} (k0 : ¬ st.f0 = 0) (b1 : ¬ (st.f0 = 1 ∧ inB st.f1 0 ((L.length : Int) - 1) = true)) (b2 : ¬ (st.f0 = 2 ∧ inB st.f1 1 (w - 1) = true)) (b3 : ¬ (st.f0 = 3 ∧ inB st.f1 1 (h - 1) = true)) : parseP L (n + 1) w h (st :: r) = none := by
  rw [parseP, if_neg k0, if_neg b1, if_neg b2, if_neg b3]
theorem twoP_none {x : Option (Int × Int × List S56)} {f : List S56 → Option (Int × Int × List S56)} (h : x = none) : twoP x f = none := by subst h; rfl
theorem twoP_some {x : Option (Int × Int × List S56)} {f : List S56 → Option (Int × Int × List S56)} {v a : Int} {r : List S56} (h : x = some (v, a, r)) : twoP x f = match f r with | none => none | some (v', a', r') => some (v + v', a + a', r') := by subst h; rfl
/-- What is left is an end of the plan. -/
theorem parseP_drop (L : List S52) : ∀ (n : Nat) (w h : Int) (l : List S56) (v a : Int) (r : List S56), parseP L n w h l = some (v, a, r) → ∃ m, 1 ≤ m ∧ m ≤ l.length ∧ r = l.drop m := by
  intro n
  induction n with
  | zero => intro w h l v a r e; simp [parseP] at e
  | succ n ih =>
    intro w h l v a r e
    match l, e with
    | [], e => simp [parseP] at e
    | s :: l, e =>
      have two : ∀ w1 h1 w2 h2, twoP (parseP L n w1 h1 l) (fun r1 => parseP L n w2 h2 r1) = some (v, a, r) → ∃ m, 1 ≤ m ∧ m ≤ (s :: l).length ∧ r = (s :: l).drop m := by
        intro w1 h1 w2 h2 e
        unfold twoP at e
        cases e1 : parseP L n w1 h1 l with
        | none => simp [e1] at e
        | some x =>
          obtain ⟨v1, a1, r1⟩ := x
          simp only [e1] at e
          cases e2 : parseP L n w2 h2 r1 with
          | none => simp [e2] at e
          | some y =>
            obtain ⟨v2, a2, r2⟩ := y
            simp only [e2, Option.some.injEq, Prod.mk.injEq] at e
            obtain ⟨_, _, rfl⟩ := e
            obtain ⟨m1, h1', h2', rfl⟩ := ih _ _ _ _ _ _ e1
            obtain ⟨m2, h3', h4', rfl⟩ := ih _ _ _ _ _ _ e2
            simp only [List.length_drop] at h4'
            exact ⟨m1 + m2 + 1, by omega, by simp; omega, by simp [List.drop_drop]⟩
      unfold parseP at e
      split at e
      · split at e
        · simp only [Option.some.injEq, Prod.mk.injEq] at e
          exact ⟨1, by omega, by simp, by simp [e.2.2]⟩
        · cases e
      · split at e
        · split at e
          · simp only [Option.some.injEq, Prod.mk.injEq] at e
            exact ⟨1, by omega, by simp, by simp [e.2.2]⟩
          · cases e
        · split at e
          · exact two _ _ _ _ e
          · split at e
            · exact two _ _ _ _ e
            · cases e

theorem area_le {a b w h : Int} (ha : 0 ≤ a) (hb : 0 ≤ b) (hw : a ≤ w) (hh : b ≤ h) : 0 ≤ a * b ∧ a * b ≤ w * h :=
  ⟨Int.mul_nonneg ha hb, Int.le_trans (Int.mul_le_mul_of_nonneg_right hw hb) (Int.mul_le_mul_of_nonneg_left hh (by omega))⟩

/-- What is made lies in the piece; its worth is bounded by its area. -/
theorem parseP_area (L : List S52) (hL : ∀ k, k < L.length → okB (blankAt L k)) : ∀ (n : Nat) (w h : Int) (l : List S56) (v a : Int) (r : List S56), 1 ≤ w → 1 ≤ h → parseP L n w h l = some (v, a, r) → 0 ≤ v ∧ v ≤ w * h * 1048576 ∧ 0 ≤ a ∧ a ≤ w * h := by
  intro n
  induction n with
  | zero => intro w h l v a r _ _ e; simp [parseP] at e
  | succ n ih =>
    intro w h l v a r hw hh e
    have hwh : 1 ≤ w * h := by
      have := (area_le (a := 1) (b := 1) (by omega) (by omega) hw hh).2
      omega
    match l, e with
    | [], e => simp [parseP] at e
    | s :: l, e =>
      have two : ∀ w1 h1 w2 h2, 1 ≤ w1 → 1 ≤ h1 → 1 ≤ w2 → 1 ≤ h2 → w1 * h1 + w2 * h2 = w * h → twoP (parseP L n w1 h1 l) (fun r1 => parseP L n w2 h2 r1) = some (v, a, r) → 0 ≤ v ∧ v ≤ w * h * 1048576 ∧ 0 ≤ a ∧ a ≤ w * h := by
        intro w1 h1 w2 h2 p1 p2 p3 p4 hs e
        unfold twoP at e
        cases e1 : parseP L n w1 h1 l with
        | none => simp [e1] at e
        | some x =>
          obtain ⟨v1, a1, r1⟩ := x
          simp only [e1] at e
          cases e2 : parseP L n w2 h2 r1 with
          | none => simp [e2] at e
          | some y =>
            obtain ⟨v2, a2, r2⟩ := y
            simp only [e2, Option.some.injEq, Prod.mk.injEq] at e
            obtain ⟨rfl, rfl, rfl⟩ := e
            have x1 := ih _ _ _ _ _ _ p1 p2 e1
            have x2 := ih _ _ _ _ _ _ p3 p4 e2
            rw [← hs]
            omega
      unfold parseP at e
      split at e
      · split at e
        · simp only [Option.some.injEq, Prod.mk.injEq] at e
          omega
        · cases e
      · split at e
        · rename_i hk
          obtain ⟨k0, k1⟩ := inB_iff.1 hk.2
          split at e
          · rename_i hf
            simp only [Option.some.injEq, Prod.mk.injEq] at e
            obtain ⟨rfl, rfl, _⟩ := e
            obtain ⟨b0, b1, b2⟩ := hL s.f1.toNat (by omega)
            obtain ⟨b00, b01⟩ := inB_iff.1 b0
            obtain ⟨b10, b11⟩ := inB_iff.1 b1
            obtain ⟨b20, b21⟩ := inB_iff.1 b2
            have := area_le (by omega) (by omega) hf.1 hf.2
            omega
          · cases e
        · split at e
          · rename_i hk
            obtain ⟨k0, k1⟩ := inB_iff.1 hk.2
            exact two _ _ _ _ (by omega) hh (by omega) hh (by rw [← Int.add_mul]; congr 1; omega) e
          · split at e
            · rename_i hk
              obtain ⟨k0, k1⟩ := inB_iff.1 hk.2
              exact two _ _ _ _ hw (by omega) hw (by omega) (by rw [← Int.mul_add]; congr 1; omega) e
            · cases e

end Go.Proofs.Ytochbhndeboodaa
