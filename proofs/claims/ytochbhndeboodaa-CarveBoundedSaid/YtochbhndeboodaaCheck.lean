/- The walk of Check: OK for a bound, ErrBound for any other table, ErrArg where there is no task. -/
import Derived.Test.YtochbhndeboodaaTask
import Derived.Test.YtochbhndeboodaaPlainE
namespace Go.Proofs.Ytochbhndeboodaa
set_option linter.unusedVariables false
set_option linter.unusedSimpArgs false
open Go.RowKit Go.Proofs.YtochbhndeboodaaW.PrintWords Go.Proofs.YtochbhndeboodaaW.PrintLast Go.Proofs.YtochbhndeboodaaW.PrintMore
open Go.Proofs.Ytochbhndeboodaa.PCarveMore (S52 S56 k52 k56)

def CKPost (L : List S52) (a0 a1 : Int) (b : List (List Int)) (w : World) (e : Ending) (w' : World) : Prop :=
  Below w.heap.size w w' ∧ ((¬ isTask a0 a1 L ∧ e = .returned (.int .i64 2)) ∨ (isTask a0 a1 L ∧ IsBound a0.toNat a1.toNat L b ∧ e = .returned (.int .i64 0)) ∨ (isTask a0 a1 L ∧ ¬ IsBound a0.toNat a1.toNat L b ∧ e = .returned (.int .i64 21)))

theorem bounds_any {a0 a1 : Int} {L : List S52} {b : List (List Int)} {A Ab : Option Addr} {c cb : Nat} {w : World} (hr : Kd.C k52 w A L.length L) (hc : L.length ≤ c) (hb : Kd.C (Kd.slice 3 (Kd.int .i64)) w Ab b.length b) (hcb : b.length ≤ cb) (ht : isTask a0 a1 L) :
    Calls Try.prog 34 #[.agg #[.int .i64 a0, .int .i64 a1, .slice A L.length c], .slice Ab b.length cb] w fun e w' => ∃ r, e = .returned (.bool r) ∧ (r = true ↔ IsBound a0.toNat a1.toNat L b) ∧ Below w.heap.size w w' := by
  obtain ⟨w1, w48⟩ := inB_iff.1 ht.1
  obtain ⟨h1, h48⟩ := inB_iff.1 ht.2.1
  obtain ⟨r, hf, hiff⟩ := bounds_tells (w := a0.toNat) (h := a1.toNat) (b := b) (L := L) ht.2.2.1 (by omega) (by omega)
  rw [Int.toNat_of_nonneg (by omega), Int.toNat_of_nonneg (by omega)] at hf
  refine (PCarveMore.carve_task_bounds.calls 9000 a0 a1 A c L Ab cb b r w hr hc hb hcb hf).mono ?_
  rintro e w' ⟨rfl, hb⟩
  exact ⟨r, rfl, hiff, hb⟩

set_option maxHeartbeats 1000000 in
set_option maxRecDepth 100000 in
theorem check_any (a0 a1 : Int) (L : List S52) (b : List (List Int)) (A Ab : Option Addr) (c cb : Nat) (w : World) (hr : Kd.C k52 w A L.length L) (hc : L.length ≤ c) (hb : Kd.C (Kd.slice 3 (Kd.int .i64)) w Ab b.length b) (hcb : b.length ≤ cb) :
    Calls Try.prog 18 #[.int .i64 a0, .int .i64 a1, .slice A L.length c, .slice Ab b.length cb] w (CKPost L a0 a1 b w) := by
  have HR := Aside0.mk hr
  have HBB := Aside0.mk hb
  have HC := Aside0.mk hc
  have HCB := Aside0.mk hcb
  clear hr hb hc hcb
  have hu59 := Try.underlying59
  by_cases ht : isTask a0 a1 L
  · have HT := Aside0.mk ht
    clear ht
    go_enter Try.func18, Try.ntmps18
    go_wp2_with (first
      | (go_at_call 29
         (with_reducible refine (newTask_any _ _ _ _ _ _ HR.out).mono ?_)
         rintro e wa ⟨hres, hb⟩
         obtain rfl := (hres.resolve_right (fun h => h.1 HT.out)).2
         clear hres
         have HB := Aside0.mk hb
         clear hb)
      | (go_at_call 34
         (with_reducible refine (bounds_any (Kd.C_alloc (Kd.C_below HR.out HB.out) _) HC.out (Kd.C_alloc (Kd.C_below HBB.out HB.out) _) HCB.out HT.out).mono ?_)
         rintro e wb ⟨r, rfl, hiff, hb⟩
         have HI := Aside0.mk hiff
         have HB2 := Aside0.mk (below_then (below_alloc HB.out _) (by have := HB.out.size; simp; omega) hb)
         clear hiff hb
         cases r))
    · go_ret
      exact ⟨HB2.out, .inr (.inr ⟨HT.out, by have := HI.out; simpa using this, rfl⟩)⟩
    · go_ret
      exact ⟨HB2.out, .inr (.inl ⟨HT.out, by have := HI.out; simpa using this, rfl⟩)⟩
  · have HT := Aside0.mk ht
    clear ht
    go_enter Try.func18, Try.ntmps18
    go_wp2_with (first
      | (go_at_call 29
         (with_reducible refine (newTask_any _ _ _ _ _ _ HR.out).mono ?_)
         rintro e wa ⟨hres, hb⟩
         obtain rfl := (hres.resolve_left (fun h => HT.out h.1)).2
         clear hres
         have HB := Aside0.mk hb
         clear hb))
    go_ret
    exact ⟨below_alloc HB.out _, .inl ⟨HT.out, rfl⟩⟩

end Go.Proofs.Ytochbhndeboodaa
