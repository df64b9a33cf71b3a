/- The plain laws of ref.Task and of mod, and what tame makes of a number and of a list. -/
import Derived.Test.YtochbhndeboodaaPCarveMorex4
import Derived.Test.YtochbhndeboodaaPlainD
namespace Go.Proofs.Ytochbhndeboodaa
set_option linter.unusedVariables false
set_option linter.unusedSimpArgs false
open Go.RowKit Go.Proofs.YtochbhndeboodaaW.PrintWords
open Go.Proofs.Ytochbhndeboodaa.PCarveMore

theorem le_mono {α : Type} {f : Nat → Option α} (h : ∀ k, LeO (f k) (f (k + 1))) {k : Nat} {r : α} (hk : f k = some r) : ∀ d, f (k + d) = some r
  | 0 => hk
  | d + 1 => h (k + d) r (le_mono h hk d)

theorem side_eq (n : Int) : silversideref02_side.f n = some (inB n 1 48) := by
  unfold silversideref02_side.f inB
  by_cases h : n ≥ 1
  · rw [if_pos h]; simp [show (1 : Int) ≤ n from h]
  · rw [if_neg h]; simp; omega

theorem task_l (L : List S52) (hl : L.length ≤ 16) (e : Nat) : ∀ n j : Nat, n + j = L.length → (∀ k, k < j → okB (blankAt L k)) → Tells (silversideref02_Task.l0 (n + e + 1) L (j : Int)) (∀ k, k < L.length → okB (blankAt L k))
  | 0, j, hj, ho => by
    rw [silversideref02_Task.l0, if_neg (by omega)]
    exact .yes fun k hk => ho k (by omega)
  | n + 1, j, hj, ho => by
    have hjl : j < L.length := by omega
    rw [silversideref02_Task.l0, if_pos (by omega), if_pos (by omega), rd_T52_at', side_eq, side_eq, Option.bind_some, Option.bind_some]
    by_cases k1 : inB (blankAt L j).f0 1 48 = true
    · rw [if_pos k1]
      by_cases k2 : inB (blankAt L j).f1 1 48 = true
      · rw [if_pos k2]
        by_cases k3 : (blankAt L j).f2 < 0
        · rw [if_pos k3]
          exact .no fun h => by have := (inB_iff.1 (h j hjl).2.2).1; omega
        · rw [if_neg k3]
          by_cases k4 : (blankAt L j).f2 > 1048576
          · rw [if_pos k4]
            exact .no fun h => by have := (inB_iff.1 (h j hjl).2.2).2; omega
          · rw [if_neg k4, show wrap64 ((j : Int) + 1) = ((j + 1 : Nat) : Int) by unfold wrap64; omega, show n + 1 + e = n + e + 1 by omega]
            exact task_l L hl e n (j + 1) (by omega) fun k hk => (Nat.lt_succ_iff_lt_or_eq.1 hk).elim (ho k) (fun e => e ▸ ⟨k1, k2, inB_iff.2 ⟨by omega, by omega⟩⟩)
      · rw [if_neg k2]
        exact .no fun h => k2 (h j hjl).2.1
    · rw [if_neg k1]
      exact .no fun h => k1 (h j hjl).1

theorem task_tells (k : Nat) (hk : 20 ≤ k) (a b : Int) (L : List S52) : Tells (silversideref02_Task.f k a b L) (isTask a b L) := by
  obtain ⟨m, rfl⟩ : ∃ m, k = m + 1 := ⟨k - 1, by omega⟩
  unfold silversideref02_Task.f
  rw [side_eq, side_eq, Option.bind_some, Option.bind_some]
  by_cases h1 : inB a 1 48 = true
  · rw [if_pos h1]
    by_cases h2 : inB b 1 48 = true
    · rw [if_pos h2, silversideref02_Task.j0]
      by_cases h3 : L.length ≤ 16
      · rw [decide_eq_false (by omega), if_neg (by simp)]
        obtain ⟨e, rfl⟩ : ∃ e, m = L.length + e + 1 := ⟨m - L.length - 1, by omega⟩
        exact (task_l L h3 e L.length 0 (by omega) (fun k hk => by omega)).congr ⟨fun q => ⟨h1, h2, h3, q⟩, fun q => q.2.2.2⟩
      · rw [decide_eq_true (by omega), if_pos rfl]
        exact .no fun h => h3 h.2.2.1
    · rw [if_neg h2, silversideref02_Task.j0, if_pos rfl]
      exact .no fun h => h2 h.2.1
  · rw [if_neg h1, silversideref02_Task.j0, if_pos rfl]
    exact .no fun h => h1 h.1

instance (b : S52) : Decidable (okB b) := by unfold okB; infer_instance

def modI (x n : Int) : Int := IntKind.u64.wrap x % n
theorem modI_in (x : Int) {n : Int} (h : 0 < n) : 0 ≤ modI x n ∧ modI x n < n := ⟨Int.emod_nonneg _ (by omega), Int.emod_lt_of_pos _ h⟩
theorem u64_in (x : Int) : 0 ≤ IntKind.u64.wrap x ∧ IntKind.u64.wrap x < 18446744073709551616 := by
  simp [IntKind.wrap, IntKind.signed, IntKind.bits]
  omega
theorem mod_eq (x : Int) {n : Int} (h : 0 < n) (h2 : n ≤ 1000000) : silversidelaw02_mod.f x n = some (modI x n) := by
  have hn : IntKind.u64.wrap n = n := by
    simp [IntKind.wrap, IntKind.signed, IntKind.bits]
    omega
  unfold silversidelaw02_mod.f
  rw [hn, if_neg (by omega), Int.tmod_eq_emod_of_nonneg (u64_in x).1]
  have := modI_in x h
  unfold modI at *
  congr 1
  unfold wrap64
  omega

def tN (m x : Int) : Int := if x < 1 ∨ m < x then 1 + modI x m else x
def tB (b : S52) : S52 := if okB b then b else ⟨1 + modI b.f0 9, 1 + modI b.f1 9, modI b.f2 50⟩
def tL (L : List S52) : List S52 := (L.take 16).map tB
theorem tN_in (x : Int) {m : Int} (h : 0 < m) : 1 ≤ tN m x ∧ tN m x ≤ m := by
  have := modI_in x h
  unfold tN
  split <;> omega
theorem tN_same {x m : Int} (h1 : 1 ≤ x) (h2 : x ≤ m) : tN m x = x := by unfold tN; rw [if_neg (by omega)]
theorem tB_ok (b : S52) : okB (tB b) := by
  unfold tB
  split
  · assumption
  · have h0 := modI_in b.f0 (n := 9) (by omega)
    have h1 := modI_in b.f1 (n := 9) (by omega)
    have h2 := modI_in b.f2 (n := 50) (by omega)
    exact ⟨inB_iff.2 (by dsimp only; omega), inB_iff.2 (by dsimp only; omega), inB_iff.2 (by dsimp only; omega)⟩
theorem tL_length (L : List S52) : (tL L).length = min 16 L.length := by simp [tL]
theorem tL_le (L : List S52) : (tL L).length ≤ 16 := by rw [tL_length]; omega
theorem blankAt_map (f : S52 → S52) (L : List S52) (k : Nat) (hk : k < L.length) : blankAt (L.map f) k = f (blankAt L k) := by
  simp [blankAt, List.getD_eq_getElem?_getD, List.getElem?_map, List.getElem?_eq_getElem hk]
theorem all_ok {L : List S52} : (∀ k, k < L.length → okB (blankAt L k)) ↔ ∀ b, b ∈ L → okB b := by
  constructor
  · intro h b hb
    obtain ⟨k, hk, rfl⟩ := List.getElem_of_mem hb
    have := h k hk
    simpa [blankAt, List.getD_eq_getElem?_getD, List.getElem?_eq_getElem hk] using this
  · intro h k hk
    have := h L[k] (List.getElem_mem hk)
    simpa [blankAt, List.getD_eq_getElem?_getD, List.getElem?_eq_getElem hk] using this
theorem tL_ok (L : List S52) : ∀ k, k < (tL L).length → okB (blankAt (tL L) k) := all_ok.2 fun b hb => by
  obtain ⟨c, _, rfl⟩ := List.mem_map.1 hb
  exact tB_ok c
theorem tL_same {L : List S52} (hl : L.length ≤ 16) (h : ∀ k, k < L.length → okB (blankAt L k)) : tL L = L := by
  unfold tL
  rw [List.take_of_length_le hl]
  conv => rhs; rw [← List.map_id L]
  refine List.map_congr_left fun b hb => ?_
  unfold tB
  rw [if_pos (all_ok.1 h b hb)]
  rfl

theorem one_task (b : S52) : isTask 1 1 [b] ↔ okB b :=
  ⟨fun h => h.2.2.2 0 (by simp), fun h => ⟨rfl, rfl, by simp, fun k hk => by
    obtain rfl : k = 0 := by simpa using hk
    exact h⟩⟩

end Go.Proofs.Ytochbhndeboodaa
