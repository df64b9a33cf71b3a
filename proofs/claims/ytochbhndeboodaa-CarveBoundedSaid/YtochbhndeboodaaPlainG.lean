/- The best worths: what bounds them from below and from above; the plan that is read off the table has the worth of the table. -/
import Derived.Test.YtochbhndeboodaaPlainE
import Derived.Test.YtochbhndeboodaaPlainF
namespace Go.Proofs.Ytochbhndeboodaa
set_option linter.unusedVariables false
set_option linter.unusedSimpArgs false
open Go.RowKit Go.Proofs.YtochbhndeboodaaW.PrintWords
open Go.Proofs.Ytochbhndeboodaa.PCarveMore (S52 S56 k52 k56)

/-- V is no less than any way. -/
structure Lower (L : List S52) (V : Nat → Nat → Int) (w h : Nat) : Prop where
  nonneg : ∀ i j, 1 ≤ i → i ≤ w → 1 ≤ j → j ≤ h → 0 ≤ V i j
  blank : ∀ i j, 1 ≤ i → i ≤ w → 1 ≤ j → j ≤ h → ∀ k, Fit L k i j → (blankAt L k).f2 ≤ V i j
  across : ∀ i j, 1 ≤ i → i ≤ w → 1 ≤ j → j ≤ h → ∀ x, 1 ≤ x → x < i → V x j + V (i - x) j ≤ V i j
  along : ∀ i j, 1 ≤ i → i ≤ w → 1 ≤ j → j ≤ h → ∀ y, 1 ≤ y → y < j → V i y + V i (j - y) ≤ V i j

/-- V is the worth of a way. -/
def Upper (L : List S52) (V : Nat → Nat → Int) (w h : Nat) : Prop := ∀ i j, 1 ≤ i → i ≤ w → 1 ≤ j → j ≤ h →
  V i j = 0 ∨ (∃ k, Fit L k i j ∧ V i j = (blankAt L k).f2) ∨ (∃ x, 1 ≤ x ∧ x < i ∧ V i j = V x j + V (i - x) j) ∨ (∃ y, 1 ≤ y ∧ y < j ∧ V i j = V i y + V i (j - y))

theorem Lower.mono {L : List S52} {V : Nat → Nat → Int} {w h w' h' : Nat} (H : Lower L V w h) (hw : w' ≤ w) (hh : h' ≤ h) : Lower L V w' h' :=
  ⟨fun i j a b c d => H.nonneg i j a (by omega) c (by omega), fun i j a b c d => H.blank i j a (by omega) c (by omega), fun i j a b c d => H.across i j a (by omega) c (by omega), fun i j a b c d => H.along i j a (by omega) c (by omega)⟩
theorem Upper.mono {L : List S52} {V : Nat → Nat → Int} {w h w' h' : Nat} (H : Upper L V w h) (hw : w' ≤ w) (hh : h' ≤ h) : Upper L V w' h' :=
  fun i j a b c d => H i j a (by omega) c (by omega)

theorem upper_le {L : List S52} {V V' : Nat → Nat → Int} {w h : Nat} (hU : Upper L V w h)
    (h0 : ∀ i j, 1 ≤ i → i ≤ w → 1 ≤ j → j ≤ h → 0 ≤ V' i j) (hb : ∀ i j, 1 ≤ i → i ≤ w → 1 ≤ j → j ≤ h → ∀ k, Fit L k i j → (blankAt L k).f2 ≤ V' i j)
    (hx : ∀ i j, 1 ≤ i → i ≤ w → 1 ≤ j → j ≤ h → ∀ x, 1 ≤ x → x < i → V' x j + V' (i - x) j ≤ V' i j)
    (hy : ∀ i j, 1 ≤ i → i ≤ w → 1 ≤ j → j ≤ h → ∀ y, 1 ≤ y → y < j → V' i y + V' i (j - y) ≤ V' i j) :
    ∀ i j, 1 ≤ i → i ≤ w → 1 ≤ j → j ≤ h → V i j ≤ V' i j := by
  have key : ∀ n i j, i + j ≤ n → 1 ≤ i → i ≤ w → 1 ≤ j → j ≤ h → V i j ≤ V' i j := by
    intro n
    induction n with
    | zero => intro i j hn; omega
    | succ n ih =>
      intro i j hn a b c d
      rcases hU i j a b c d with e | ⟨k, hf, e⟩ | ⟨x, h1, h2, e⟩ | ⟨y, h1, h2, e⟩
      · rw [e]; exact h0 i j a b c d
      · rw [e]; exact hb i j a b c d k hf
      · have := ih x j (by omega) h1 (by omega) c d
        have := ih (i - x) j (by omega) (by omega) (by omega) c d
        have := hx i j a b c d x h1 h2
        omega
      · have := ih i y (by omega) a b h1 (by omega)
        have := ih i (j - y) (by omega) a b (by omega) (by omega)
        have := hy i j a b c d y h1 h2
        omega
  intro i j
  exact key (i + j) i j (Nat.le_refl _)

theorem upper_lower {L : List S52} {V V' : Nat → Nat → Int} {w h : Nat} (hU : Upper L V w h) (hl : Lower L V' w h) : ∀ i j, 1 ≤ i → i ≤ w → 1 ≤ j → j ≤ h → V i j ≤ V' i j :=
  upper_le hU hl.nonneg hl.blank hl.across hl.along

/-! ### the filled table -/
theorem CellOK.off {L : List S52} {t t' : Tab} {x y a b : Nat} (h : CellOK L t x y) (ho : Off t t' a b) (hlt : x < a ∨ (x = a ∧ y < b)) : CellOK L t' x y := by
  have e0 := ho x y (by omega)
  have ex : ∀ x', x' ≤ x → (t'.T x' y = t.T x' y) := fun x' hx' => (ho x' y (by omega)).1
  have ey : ∀ y', y' ≤ y → (t'.T x y' = t.T x y') := fun y' hy' => (ho x y' (by omega)).1
  refine ⟨?_, ?_, fun k hf => ?_, fun x' h1 h2 => ?_, fun y' h1 h2 => ?_⟩
  · have := h.roomy
    unfold Roomy at *
    rw [e0.1]; exact this
  · rcases h.way with ⟨p, q⟩ | ⟨k, p, q, r⟩ | ⟨k, p, q, r, s⟩ | ⟨k, p, q, r, s⟩
    · exact .inl ⟨by rw [e0.2]; exact p, by rw [e0.1]; exact q⟩
    · exact .inr (.inl ⟨k, by rw [e0.2]; exact p, q, by rw [e0.1]; exact r⟩)
    · exact .inr (.inr (.inl ⟨k, by rw [e0.2]; exact p, q, r, by rw [e0.1, ex k (by omega), ex (x - k) (by omega)]; exact s⟩))
    · exact .inr (.inr (.inr ⟨k, by rw [e0.2]; exact p, q, r, by rw [e0.1, ey k (by omega), ey (y - k) (by omega)]; exact s⟩))
  · rw [e0.1]; exact h.blank k hf
  · rw [e0.1, ex x' (by omega), ex (x - x') (by omega)]; exact h.across x' h1 h2
  · rw [e0.1, ey y' (by omega), ey (y - y') (by omega)]; exact h.along y' h1 h2

def Full (L : List S52) (t : Tab) (w h : Nat) : Prop := ∀ i j, 1 ≤ i → i ≤ w → 1 ≤ j → j ≤ h → CellOK L t i j

theorem full_fillP {L : List S52} (hL : ∀ k, k < L.length → okB (blankAt L k)) {w h : Nat} (hw : w ≤ 48) (hh : h ≤ 48) :
    Full L (fillP L w h) w h ∧ ∀ i j, i = 0 ∨ j = 0 → (fillP L w h).T i j = 0 := by
  have main := up_ind (f := fun i t => rowP L h (i + 1) t) (fun n t => Full L t n h ∧ ∀ i j, (i = 0 ∨ j = 0 ∨ n < i) → t.T i j = 0 ∧ t.S i j = (0, 0)) w tab0
    ⟨fun i j a b => by omega, fun i j _ => ⟨rfl, rfl⟩⟩
    (fun n t hn ⟨hF, hZ⟩ => by
      unfold rowP
      have row := up_ind (f := fun j t => cellP L (n + 1) (j + 1) t) (fun m t' => Full L t' n h ∧ (∀ j, 1 ≤ j → j ≤ m → CellOK L t' (n + 1) j) ∧ ∀ i j, (i = 0 ∨ j = 0 ∨ n + 1 < i ∨ (i = n + 1 ∧ m < j)) → t'.T i j = 0 ∧ t'.S i j = (0, 0)) h t
        ⟨hF, fun j a b => by omega, fun i j hc => hZ i j (by omega)⟩
        (fun m s hm ⟨g1, g2, g3⟩ => by
          obtain ⟨z1, z2⟩ := g3 (n + 1) (m + 1) (by omega)
          obtain ⟨o, c⟩ := cell_ok hL (t := s) (i := n + 1) (j := m + 1) (by omega) (by omega) (by omega) (by omega) z1 z2 (fun x a b => (g1 x (m + 1) a (by omega) (by omega) (by omega)).roomy) (fun y a b => (g2 y a (by omega)).roomy)
          refine ⟨fun i j a b c d => (g1 i j a b c d).off o (by omega), fun j a b => ?_, fun i j hc => ?_⟩
          · rcases Nat.lt_or_ge j (m + 1) with h5 | h5
            · exact (g2 j a (by omega)).off o (by omega)
            · obtain rfl : j = m + 1 := by omega
              exact c
          · have e := o i j (by omega)
            rw [e.1, e.2]
            exact g3 i j (by omega))
      obtain ⟨g1, g2, g3⟩ := row
      refine ⟨fun i j a b c d => ?_, fun i j hc => g3 i j (by omega)⟩
      rcases Nat.lt_or_ge i (n + 1) with h5 | h5
      · exact g1 i j a (by omega) c d
      · obtain rfl : i = n + 1 := by omega
        exact g2 j c d)
  exact ⟨main.1, fun i j hc => (main.2 i j (by omega)).1⟩

theorem Full.lower {L : List S52} {t : Tab} {w h : Nat} (H : Full L t w h) : Lower L t.T w h :=
  ⟨fun i j a b c d => (H i j a b c d).roomy.1, fun i j a b c d => (H i j a b c d).blank, fun i j a b c d => (H i j a b c d).across, fun i j a b c d => (H i j a b c d).along⟩
theorem Full.upper {L : List S52} {t : Tab} {w h : Nat} (H : Full L t w h) : Upper L t.T w h := fun i j a b c d => by
  rcases (H i j a b c d).way with ⟨_, q⟩ | ⟨k, _, q, r⟩ | ⟨k, _, q, r, s⟩ | ⟨k, _, q, r, s⟩
  · exact .inl q
  · exact .inr (.inl ⟨k, q, r⟩)
  · exact .inr (.inr (.inl ⟨k, q, r, s⟩))
  · exact .inr (.inr (.inr ⟨k, q, r, s⟩))

/-- The plan read off the table reads as the table says. -/
theorem plan_parse {L : List S52} {t : Tab} {w h : Nat} (H : Full L t w h) : ∀ (n i j : Nat), i + j ≤ n → 1 ≤ i → i ≤ w → 1 ≤ j → j ≤ h → ∀ (m : Nat) (rest : List S56), (planP t n i j).length ≤ m → ∃ a, parseP L m i j (planP t n i j ++ rest) = some (t.T i j, a, rest) := by
  intro n
  induction n with
  | zero => intro i j hn; omega
  | succ n ih =>
    intro i j hn a b c d m rest hm
    rcases (H i j a b c d).way with ⟨p, q⟩ | ⟨k, p, q, r⟩ | ⟨k, p, q, r, s⟩ | ⟨k, p, q, r, s⟩
    · have e : planP t (n + 1) i j = [⟨0, 0⟩] := by rw [planP, if_neg (by rw [p]; simp), if_neg (by rw [p]; simp), p]
      rw [e] at hm ⊢
      obtain ⟨m, rfl⟩ : ∃ x, m = x + 1 := ⟨m - 1, by simp at hm; omega⟩
      exact ⟨0, by simp [parseP, q]⟩
    · have e : planP t (n + 1) i j = [⟨1, (k : Int)⟩] := by rw [planP, if_neg (by rw [p]; simp), if_neg (by rw [p]; simp), p]
      rw [e] at hm ⊢
      obtain ⟨m, rfl⟩ : ∃ x, m = x + 1 := ⟨m - 1, by simp at hm; omega⟩
      have hin : inB (k : Int) 0 ((L.length : Int) - 1) = true := inB_iff.2 (by have := q.1; omega)
      refine ⟨(blankAt L k).f0 * (blankAt L k).f1, ?_⟩
      rw [List.cons_append, List.nil_append, parseP_make rfl hin, Int.toNat_natCast, if_pos ⟨q.2.1, q.2.2⟩, r]
    · have e : planP t (n + 1) i j = ⟨2, (k : Int)⟩ :: (planP t n k j ++ planP t n (i - k) j) := by rw [planP, if_pos (by rw [p]), p, Int.toNat_natCast]
      rw [e] at hm ⊢
      simp only [List.length_cons, List.length_append] at hm
      obtain ⟨m, rfl⟩ : ∃ x, m = x + 1 := ⟨m - 1, by omega⟩
      obtain ⟨a1, h1⟩ := ih k j (by omega) q (by omega) c d m (planP t n (i - k) j ++ rest) (by omega)
      obtain ⟨a2, h2⟩ := ih (i - k) j (by omega) (by omega) (by omega) c d m rest (by omega)
      refine ⟨a1 + a2, ?_⟩
      rw [List.cons_append, List.append_assoc, parseP_across rfl (show inB (k : Int) 1 ((i : Int) - 1) = true from inB_iff.2 (by omega))]
      dsimp only
      rw [twoP_some h1, show ((i : Int) - (k : Int)) = ((i - k : Nat) : Int) by omega, h2, s]
    · have e : planP t (n + 1) i j = ⟨3, (k : Int)⟩ :: (planP t n i k ++ planP t n i (j - k)) := by rw [planP, if_neg (by rw [p]; simp), if_pos (by rw [p]), p, Int.toNat_natCast]
      rw [e] at hm ⊢
      simp only [List.length_cons, List.length_append] at hm
      obtain ⟨m, rfl⟩ : ∃ x, m = x + 1 := ⟨m - 1, by omega⟩
      obtain ⟨a1, h1⟩ := ih i k (by omega) a b q (by omega) m (planP t n i (j - k) ++ rest) (by omega)
      obtain ⟨a2, h2⟩ := ih i (j - k) (by omega) a b (by omega) (by omega) m rest (by omega)
      refine ⟨a1 + a2, ?_⟩
      rw [List.cons_append, List.append_assoc, parseP_along rfl (show inB (k : Int) 1 ((j : Int) - 1) = true from inB_iff.2 (by omega))]
      dsimp only
      rw [twoP_some h1, show ((j : Int) - (k : Int)) = ((j - k : Nat) : Int) by omega, h2, s]

/-- No plan is worth more than what bounds the ways from above. -/
theorem plan_le {L : List S52} {V : Nat → Nat → Int} {w h : Nat} (H : Lower L V w h) : ∀ (n i j : Nat) (l : List S56) (v a : Int) (r : List S56), 1 ≤ i → i ≤ w → 1 ≤ j → j ≤ h → parseP L n i j l = some (v, a, r) → v ≤ V i j := by
  intro n
  induction n with
  | zero => intro i j l v a r _ _ _ _ e; simp [parseP] at e
  | succ n ih =>
    intro i j l v a r hi hiw hj hjh e
    match l, e with
    | [], e => simp [parseP] at e
    | s :: l, e =>
      have two : ∀ (w1 h1 w2 h2 : Nat), 1 ≤ w1 → w1 ≤ w → 1 ≤ h1 → h1 ≤ h → 1 ≤ w2 → w2 ≤ w → 1 ≤ h2 → h2 ≤ h → V w1 h1 + V w2 h2 ≤ V i j → twoP (parseP L n w1 h1 l) (fun r1 => parseP L n w2 h2 r1) = some (v, a, r) → v ≤ V i j := by
        intro w1 h1 w2 h2 p1 p2 p3 p4 p5 p6 p7 p8 hs e
        unfold twoP at e
        cases e1 : parseP L n w1 h1 l with
        | none => simp [e1] at e
        | some x =>
          obtain ⟨v1, a1, r1⟩ := x
          simp only [e1] at e
          cases e2 : parseP L n w2 h2 r1 with
          | none => simp [e2] at e
          | some y =>
            obtain ⟨v2, a2, r2⟩ := y
            simp only [e2, Option.some.injEq, Prod.mk.injEq] at e
            obtain ⟨rfl, rfl, rfl⟩ := e
            have x1 := ih _ _ _ _ _ _ p1 p2 p3 p4 e1
            have x2 := ih _ _ _ _ _ _ p5 p6 p7 p8 e2
            omega
      unfold parseP at e
      split at e
      · split at e
        · simp only [Option.some.injEq, Prod.mk.injEq] at e
          have := H.nonneg i j hi hiw hj hjh
          omega
        · cases e
      · split at e
        · rename_i hk
          obtain ⟨k0, k1⟩ := inB_iff.1 hk.2
          split at e
          · rename_i hf
            simp only [Option.some.injEq, Prod.mk.injEq] at e
            obtain ⟨rfl, rfl, _⟩ := e
            exact H.blank i j hi hiw hj hjh s.f1.toNat ⟨by omega, hf.1, hf.2⟩
          · cases e
        · split at e
          · rename_i hk
            obtain ⟨k0, k1⟩ := inB_iff.1 hk.2
            obtain ⟨x, hx⟩ : ∃ x : Nat, s.f1 = x := ⟨s.f1.toNat, by omega⟩
            rw [hx, show ((i : Int) - (x : Int)) = ((i - x : Nat) : Int) by omega] at e
            exact two x j (i - x) j (by omega) (by omega) hj hjh (by omega) (by omega) hj hjh (H.across i j hi hiw hj hjh x (by omega) (by omega)) e
          · split at e
            · rename_i hk
              obtain ⟨k0, k1⟩ := inB_iff.1 hk.2
              obtain ⟨x, hx⟩ : ∃ x : Nat, s.f1 = x := ⟨s.f1.toNat, by omega⟩
              rw [hx, show ((j : Int) - (x : Int)) = ((j - x : Nat) : Int) by omega] at e
              exact two i x i (j - x) hi hiw (by omega) (by omega) hi hiw (by omega) (by omega) (H.along i j hi hiw hj hjh x (by omega) (by omega)) e
            · cases e

/-- A bound bounds the ways. -/
theorem IsBound.lower {L : List S52} {w h : Nat} {b : List (List Int)} (H : IsBound w h L b) : Lower L (at2 b) w h :=
  ⟨fun i j _ b _ d => (H.2.1 i j b d).1, fun i j _ b _ d k hf => (H.2.2 i j b d).1 k hf.1 hf.2.1 hf.2.2, fun i j _ b _ d => (H.2.2 i j b d).2.1, fun i j _ b _ d => (H.2.2 i j b d).2.2⟩

theorem at2_rowsOf (t : Tab) (w h i j : Nat) (hi : i ≤ w) (hj : j ≤ h) : at2 (rowsOf t h (w + 1)) i j = t.T i j := by
  have h1 : i < w + 1 := by omega
  have h2 : j < h + 1 := by omega
  simp [at2, rowsOf, List.getD_eq_getElem?_getD, List.getElem?_map, List.getElem?_range h1, List.getElem?_range h2]
theorem len_rowsOf (t : Tab) (w h i : Nat) (hi : i ≤ w) : ((rowsOf t h (w + 1)).getD i []).length = h + 1 := by
  have h1 : i < w + 1 := by omega
  simp [rowsOf, List.getD_eq_getElem?_getD, List.getElem?_map, List.getElem?_range h1]

/-- The rows of the filled table are a bound. -/
theorem bound_rowsOf {L : List S52} (hL : ∀ k, k < L.length → okB (blankAt L k)) {w h : Nat} (hw : w ≤ 48) (hh : h ≤ 48) : IsBound w h L (rowsOf (fillP L w h) h (w + 1)) := by
  obtain ⟨hF, hZ⟩ := full_fillP hL hw hh
  have hzero : ∀ i j, ¬ (1 ≤ i ∧ 1 ≤ j) → (fillP L w h).T i j = 0 := fun i j hc => hZ i j (by omega)
  refine ⟨⟨rowsOf_length _ _ _, fun i hi => len_rowsOf _ _ _ _ hi⟩, fun i j hi hj => ?_, fun i j hi hj => ⟨fun k hk h0 h1 => ?_, fun x h1 h2 => ?_, fun y h1 h2 => ?_⟩⟩
  · rw [at2_rowsOf _ _ _ _ _ hi hj]
    by_cases hc : 1 ≤ i ∧ 1 ≤ j
    · obtain ⟨r1, r2⟩ := (hF i j hc.1 hi hc.2 hj).roomy
      have : i * j ≤ 48 * 48 := Nat.mul_le_mul (by omega) (by omega)
      omega
    · rw [hzero i j hc]
      omega
  · rw [at2_rowsOf _ _ _ _ _ hi hj]
    obtain ⟨b0, b1, _⟩ := hL k hk
    have := (inB_iff.1 b0).1
    have := (inB_iff.1 b1).1
    exact (hF i j (by omega) hi (by omega) hj).blank k ⟨hk, h0, h1⟩
  · rw [at2_rowsOf _ _ _ _ _ hi hj, at2_rowsOf _ _ _ _ _ (by omega) hj, at2_rowsOf _ _ _ _ _ (by omega) hj]
    by_cases hc : 1 ≤ j
    · exact (hF i j (by omega) hi hc hj).across x h1 h2
    · rw [hzero _ _ (by omega), hzero _ _ (by omega), hzero _ _ (by omega)]
      omega
  · rw [at2_rowsOf _ _ _ _ _ hi hj, at2_rowsOf _ _ _ _ _ hi (by omega), at2_rowsOf _ _ _ _ _ hi (by omega)]
    by_cases hc : 1 ≤ i
    · exact (hF i j hc hi (by omega) hj).along y h1 h2
    · rw [hzero _ _ (by omega), hzero _ _ (by omega), hzero _ _ (by omega)]
      omega

end Go.Proofs.Ytochbhndeboodaa
