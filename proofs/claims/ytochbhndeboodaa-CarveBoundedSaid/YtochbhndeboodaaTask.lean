/- The walk of newTask: a task, or ErrArg. -/
import Derived.Test.YtochbhndeboodaaTbl
import Derived.Test.YtochbhndeboodaaPlainC
import Derived.WalkSpells
namespace Go.Proofs.Ytochbhndeboodaa
set_option linter.unusedVariables false
set_option linter.unusedSimpArgs false
open Go.RowKit Go.Proofs.YtochbhndeboodaaW.PrintWords Go.Proofs.YtochbhndeboodaaW.PrintLast Go.Proofs.YtochbhndeboodaaW.PrintMore
open Go.Proofs.Ytochbhndeboodaa.PCarveMore (S52 S56 k52 k56)

theorem within_any (n lo hi : Int) (w : World) : Calls Try.prog 36 #[.int .i64 n, .int .i64 lo, .int .i64 hi] w fun e w' => e = .returned (.bool (inB n lo hi)) ∧ w = w' := by
  by_cases h : lo ≤ n
  · go_enter Try.func36, Try.ntmps36
    go_wp2
    go_ret
    exact ⟨by simp [inB, h], rfl⟩
  · go_enter Try.func36, Try.ntmps36
    go_wp2
    go_ret
    have h := h
    exact ⟨by rw [inB, decide_eq_false (fun x => Int.not_lt.2 x.1 h)]; rfl, rfl⟩

def NTPost (a0 a1 : Int) (v : Value) (L : List S52) (w : World) (e : Ending) (w' : World) : Prop :=
  ((isTask a0 a1 L ∧ e = .returned (.tuple #[.agg #[.int .i64 a0, .int .i64 a1, v], .int .i64 0])) ∨
    (¬ isTask a0 a1 L ∧ e = .returned (.tuple #[.agg #[.int .i64 0, .int .i64 0, .slice none 0 0], .int .i64 2]))) ∧ Below w.heap.size w w'

theorem nt_bad {a0 a1 : Int} {v : Value} {L : List S52} {w w' : World} (h : ¬ isTask a0 a1 L) (hb : Below w.heap.size w w') : NTPost a0 a1 v L w (.returned (.tuple #[.agg #[.int .i64 0, .int .i64 0, .slice none 0 0], .int .i64 2])) w' := ⟨.inr ⟨h, rfl⟩, hb⟩
theorem nt_ok {a0 a1 : Int} {v : Value} {L : List S52} {w w' : World} (h : isTask a0 a1 L) (hb : Below w.heap.size w w') : NTPost a0 a1 v L w (.returned (.tuple #[.agg #[.int .i64 a0, .int .i64 a1, v], .int .i64 0])) w' := ⟨.inl ⟨h, rfl⟩, hb⟩

set_option maxHeartbeats 2000000 in
set_option maxRecDepth 100000 in
theorem newTask_any (a0 a1 : Int) (A : Option Addr) (c : Nat) (L : List S52) (w : World) (hr : Kd.C k52 w A L.length L) :
    Calls Try.prog 29 #[.int .i64 a0, .int .i64 a1, .slice A L.length c] w (NTPost a0 a1 (.slice A L.length c) L w) := by
  have HR := Aside0.mk hr
  have hL : L.length ≤ 9223372036854775807 := Kd.C_max hr
  clear hr
  have hu59 := Try.underlying59
  have hu52 := Try.underlying52
  by_cases h1 : inB a0 1 48 = true
  · by_cases h2 : inB a1 1 48 = true
    · by_cases h3 : L.length ≤ 16
      · have h3i : ¬ (16 < (L.length : Int)) := by omega
        have d3 : decide (16 < (L.length : Int)) = false := decide_eq_false h3i
        go_enter Try.func29, Try.ntmps29
        go_wp2_with (first | (go_at_call 36; (with_reducible refine (within_any _ _ _ _).mono ?_); rintro e w' ⟨rfl, rfl⟩))
        go_loopg [26] (L.length + 1) (fun q v26 W => ∃ k : Nat, q + k = L.length + 1 ∧ k ≤ L.length ∧ v26 = .int .i64 k ∧ Aside0 (∀ j, j < k → okB (blankAt L j)) ∧ Aside0 (Below w.heap.size w W) ∧ Aside0 (W.heap[w.heap.size]? = some (.cells #[.int .i64 0, .int .i64 0, .slice none 0 0] 59 (0, 0))))
        case atStart => exact ⟨0, by omega, by omega, rfl, ⟨fun j hj => by omega⟩, ⟨below_alloc (Below.refl _ _) _⟩, ⟨heap_alloc_new w _⟩⟩
        case round =>
          obtain ⟨k, hq, hk, rfl, HO, HB, HX⟩ := hrel
          by_cases hlt : k < L.length
          · obtain ⟨ad, rfl, hc0, hc1, hc2⟩ := blank_cells HR.out HB.out k hlt
            have hx0 := (blk_cell HX.out 0).trans rfl
            have hx1 := (blk_cell HX.out 1).trans rfl
            have hx2 := (blk_cell HX.out 2).trans rfl
            have hf0 := blk_frozen HX.out 0
            have hf1 := blk_frozen HX.out 1
            have hf2 := blk_frozen HX.out 2
            have hgl := blk_lt HX.out
            by_cases k1 : inB (blankAt L k).f0 1 48 = true
            · by_cases k2 : inB (blankAt L k).f1 1 48 = true
              · by_cases k3 : inB (blankAt L k).f2 0 1048576 = true
                · go_wp2_with (first | (go_at_call 36; (with_reducible refine (within_any _ _ _ _).mono ?_); rintro e w' ⟨rfl, rfl⟩))
                  go_roundg (L.length - k)
                  case measure => omega
                  case rel => exact ⟨k + 1, by omega, by omega, by go_num, ⟨fun j hj => (Nat.lt_succ_iff_lt_or_eq.1 hj).elim (fun h => HO.out j h) (fun h => h ▸ ⟨k1, k2, k3⟩)⟩, ⟨below_alloc HB.out _⟩, ⟨(Below.heap_alloc _ _ _ (blk_lt HX.out)).trans HX.out⟩⟩
                · have k3f : inB (blankAt L k).f2 0 1048576 = false := by simpa using k3
                  have K := Aside0.mk k3
                  clear k3
                  go_wp2_with (first | (go_at_call 36; (with_reducible refine (within_any _ _ _ _).mono ?_); rintro e w' ⟨rfl, rfl⟩))
                  refine bodyPost_ret (v := .tuple #[.agg #[.int .i64 0, .int .i64 0, .slice none 0 0], .int .i64 2]) (by simp [results, Try.results29, go_sem, hx0, hx1, hx2, hgl]) rfl (nt_bad (fun h => K.out (h.2.2.2 k hlt).2.2) ?_)
                  first
                    | exact (((below_alloc HB.out _).setCell (Nat.le_refl _) _).setCell (Nat.le_refl _) _).setCell (Nat.le_refl _) _
                    | exact below_alloc (((HB.out.setCell (Nat.le_refl _) _).setCell (Nat.le_refl _) _).setCell (Nat.le_refl _) _) _
              · have k2f : inB (blankAt L k).f1 1 48 = false := by simpa using k2
                have K := Aside0.mk k2
                clear k2
                go_wp2_with (first | (go_at_call 36; (with_reducible refine (within_any _ _ _ _).mono ?_); rintro e w' ⟨rfl, rfl⟩))
                refine bodyPost_ret (v := .tuple #[.agg #[.int .i64 0, .int .i64 0, .slice none 0 0], .int .i64 2]) (by simp [results, Try.results29, go_sem, hx0, hx1, hx2, hgl]) rfl (nt_bad (fun h => K.out (h.2.2.2 k hlt).2.1) ?_)
                first
                  | exact (((below_alloc HB.out _).setCell (Nat.le_refl _) _).setCell (Nat.le_refl _) _).setCell (Nat.le_refl _) _
                  | exact below_alloc (((HB.out.setCell (Nat.le_refl _) _).setCell (Nat.le_refl _) _).setCell (Nat.le_refl _) _) _
            · have k1f : inB (blankAt L k).f0 1 48 = false := by simpa using k1
              have K := Aside0.mk k1
              clear k1
              go_wp2_with (first | (go_at_call 36; (with_reducible refine (within_any _ _ _ _).mono ?_); rintro e w' ⟨rfl, rfl⟩))
              refine bodyPost_ret (v := .tuple #[.agg #[.int .i64 0, .int .i64 0, .slice none 0 0], .int .i64 2]) (by simp [results, Try.results29, go_sem, hx0, hx1, hx2, hgl]) rfl (nt_bad (fun h => K.out (h.2.2.2 k hlt).1) ?_)
              first
                | exact (((below_alloc HB.out _).setCell (Nat.le_refl _) _).setCell (Nat.le_refl _) _).setCell (Nat.le_refl _) _
                | exact below_alloc (((HB.out.setCell (Nat.le_refl _) _).setCell (Nat.le_refl _) _).setCell (Nat.le_refl _) _) _
          · have hx0 := (blk_cell HX.out 0).trans rfl
            have hx1 := (blk_cell HX.out 1).trans rfl
            have hx2 := (blk_cell HX.out 2).trans rfl
            have hf0 := blk_frozen HX.out 0
            have hf1 := blk_frozen HX.out 1
            have hf2 := blk_frozen HX.out 2
            have hkl : k = L.length := by omega
            subst hkl
            have HT := Aside0.mk (show isTask a0 a1 L from ⟨h1, h2, h3, HO.out⟩)
            go_wp2
            refine bodyPost_ret (v := .tuple #[.agg #[.int .i64 a0, .int .i64 a1, .slice A L.length c], .int .i64 0]) (by simp [results, Try.results29, go_sem, hx0, hx1, hx2]) rfl (nt_ok HT.out ?_)
            exact ((HB.out.setCell (Nat.le_refl _) _).setCell (Nat.le_refl _) _).setCell (Nat.le_refl _) _
      · have h3i : (16 < (L.length : Int)) := by omega
        have d3 : decide (16 < (L.length : Int)) = true := decide_eq_true h3i
        have K := Aside0.mk h3
        clear h3
        go_enter Try.func29, Try.ntmps29
        go_wp2_with (first | (go_at_call 36; (with_reducible refine (within_any _ _ _ _).mono ?_); rintro e w' ⟨rfl, rfl⟩))
        refine bodyPost_ret (v := .tuple #[.agg #[.int .i64 0, .int .i64 0, .slice none 0 0], .int .i64 2]) (by simp [results, Try.results29, go_sem]) rfl (nt_bad (fun h => K.out h.2.2.1) (below_alloc (Below.refl _ _) _))
    · have h2f : inB a1 1 48 = false := by simpa using h2
      go_enter Try.func29, Try.ntmps29
      go_wp2_with (first | (go_at_call 36; (with_reducible refine (within_any _ _ _ _).mono ?_); rintro e w' ⟨rfl, rfl⟩))
      refine bodyPost_ret (v := .tuple #[.agg #[.int .i64 0, .int .i64 0, .slice none 0 0], .int .i64 2]) (by simp [results, Try.results29, go_sem]) rfl (nt_bad (fun h => h2 h.2.1) (below_alloc (Below.refl _ _) _))
  · have h1f : inB a0 1 48 = false := by simpa using h1
    go_enter Try.func29, Try.ntmps29
    go_wp2_with (first | (go_at_call 36; (with_reducible refine (within_any _ _ _ _).mono ?_); rintro e w' ⟨rfl, rfl⟩))
    refine bodyPost_ret (v := .tuple #[.agg #[.int .i64 0, .int .i64 0, .slice none 0 0], .int .i64 2]) (by simp [results, Try.results29, go_sem]) rfl (nt_bad (fun h => h1 h.1) (below_alloc (Below.refl _ _) _))

end Go.Proofs.Ytochbhndeboodaa
