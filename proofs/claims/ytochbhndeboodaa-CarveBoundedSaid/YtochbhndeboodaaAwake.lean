/- The walks of awake and best: the small task that every statement looks at; what the best plan of a task is worth. -/
import Derived.Test.YtochbhndeboodaaBest
import Derived.Test.YtochbhndeboodaaRead
import Derived.Test.YtochbhndeboodaaCheck
import Derived.StillTailTactics
namespace Go.Proofs.Ytochbhndeboodaa
set_option linter.unusedVariables false
set_option linter.unusedSimpArgs false
open Go.RowKit Go.Proofs.YtochbhndeboodaaW.PrintWords Go.Proofs.YtochbhndeboodaaW.PrintLast Go.Proofs.YtochbhndeboodaaW.PrintMore
open Go.Proofs.Ytochbhndeboodaa.PCarveMore (S52 S56 k52 k56)

/-- The best plan and the bound, as they are read. -/
def BestRd (L : List S52) (Wd Ht : Nat) (w : World) (e : Ending) (w' : World) : Prop :=
  ∃ Ap cp Ab cb, e = .returned (.tuple #[.slice Ap (bestPlan L Wd Ht).length cp, .slice Ab (rowsOf (fillP L Wd Ht) Ht (Wd + 1)).length cb, .int .i64 0]) ∧
    Kd.C k56 w' Ap (bestPlan L Wd Ht).length (bestPlan L Wd Ht) ∧ Kd.C (Kd.slice 3 (Kd.int .i64)) w' Ab (rowsOf (fillP L Wd Ht) Ht (Wd + 1)).length (rowsOf (fillP L Wd Ht) Ht (Wd + 1)) ∧
    (rowsOf (fillP L Wd Ht) Ht (Wd + 1)).length ≤ cb ∧ Below w.heap.size w w'

theorem BestOk.rd {L : List S52} {Wd Ht : Nat} {w w' : World} {e : Ending} (h : BestOk L Wd Ht w e w') : BestRd L Wd Ht w e w' := by
  obtain ⟨pv, bv, rfl, hp, hb, hB⟩ := h
  obtain ⟨Ap, cp, rfl, _, hp3⟩ := Kd.R_reads hp
  obtain ⟨Ab, cb, rfl, hb2, hb3⟩ := Kd.S_reads hb
  exact ⟨Ap, cp, Ab, cb, rfl, hp3, hb3, hb2, hB⟩

theorem best_rd {a0 a1 : Int} {Wd Ht : Nat} {A : Option Addr} {c : Nat} {L : List S52} {w : World} (hr : Kd.C k52 w A L.length L) (hc : L.length ≤ c) (ht : isTask a0 a1 L) (h0 : a0 = Wd) (h1 : a1 = Ht) :
    Calls Try.prog 14 #[.int .i64 a0, .int .i64 a1, .slice A L.length c] w (BestRd L Wd Ht w) :=
  (best_ok a0 a1 Wd Ht A c L w hr hc ht h0 h1).mono fun _ _ h => h.rd

theorem worth_is {a0 a1 : Int} {L : List S52} {p : List S56} {A Ap : Option Addr} {c cp : Nat} {w : World} {v a : Int} (hr : Kd.C k52 w A L.length L) (hp : Kd.C k56 w Ap p.length p) (ht : isTask a0 a1 L) (hv : readP L a0 a1 p = some (v, a)) :
    Calls Try.prog 16 #[.int .i64 a0, .int .i64 a1, .slice A L.length c, .slice Ap p.length cp] w fun e w' => e = .returned (.tuple #[.int .i64 v, .int .i64 0]) ∧ Below w.heap.size w w' := by
  refine (worth_any a0 a1 L p A Ap c cp w hr hp).mono ?_
  rintro e w' ⟨hb, ⟨h1, _⟩ | ⟨_, h2, _⟩ | ⟨v', a', _, h2, rfl⟩⟩
  · exact absurd ht h1
  · rw [hv] at h2; cases h2
  · rw [hv] at h2
    obtain ⟨rfl, rfl⟩ : v = v' ∧ a = a' := by simpa using h2
    exact ⟨rfl, hb⟩
theorem rest_is {a0 a1 : Int} {L : List S52} {p : List S56} {A Ap : Option Addr} {c cp : Nat} {w : World} {v a : Int} (hr : Kd.C k52 w A L.length L) (hp : Kd.C k56 w Ap p.length p) (ht : isTask a0 a1 L) (hv : readP L a0 a1 p = some (v, a)) :
    Calls Try.prog 17 #[.int .i64 a0, .int .i64 a1, .slice A L.length c, .slice Ap p.length cp] w fun e w' => e = .returned (.tuple #[.int .i64 (a0 * a1 - a), .int .i64 0]) ∧ Below w.heap.size w w' := by
  refine (rest_any a0 a1 L p A Ap c cp w hr hp).mono ?_
  rintro e w' ⟨hb, ⟨h1, _⟩ | ⟨_, h2, _⟩ | ⟨v', a', _, h2, rfl⟩⟩
  · exact absurd ht h1
  · rw [hv] at h2; cases h2
  · rw [hv] at h2
    obtain ⟨rfl, rfl⟩ : v = v' ∧ a = a' := by simpa using h2
    exact ⟨rfl, hb⟩
theorem check_is {a0 a1 : Int} {L : List S52} {b : List (List Int)} {A Ab : Option Addr} {c cb : Nat} {w : World} (hr : Kd.C k52 w A L.length L) (hc : L.length ≤ c) (hb : Kd.C (Kd.slice 3 (Kd.int .i64)) w Ab b.length b) (hcb : b.length ≤ cb) (ht : isTask a0 a1 L) (hB : IsBound a0.toNat a1.toNat L b) :
    Calls Try.prog 18 #[.int .i64 a0, .int .i64 a1, .slice A L.length c, .slice Ab b.length cb] w fun e w' => e = .returned (.int .i64 0) ∧ Below w.heap.size w w' := by
  refine (check_any a0 a1 L b A Ab c cb w hr hc hb hcb).mono ?_
  rintro e w' ⟨hb, ⟨h1, _⟩ | ⟨_, _, rfl⟩ | ⟨_, h2, _⟩⟩
  · exact absurd ht h1
  · exact ⟨rfl, hb⟩
  · exact absurd hB h2

theorem L1_cells (w : World) : Kd.C k52 (w.alloc (.cells #[.int .i64 2, .int .i64 1, .int .i64 3] 52)) (some ⟨w.heap.size, 0, none⟩) L1.length L1 := by
  refine ⟨rfl, by decide, fun _ => ⟨_, rfl, fun j p hj => ?_⟩⟩
  have hn := heap_alloc_new w (.cells #[.int .i64 2, .int .i64 1, .int .i64 3] 52)
  match j, hj with
  | 0, hj =>
    obtain rfl : (⟨2, 1, 3⟩ : S52) = p := by simpa [L1] using hj
    refine ⟨_, rfl, PCarveMore.k52_mk _ _, fun i u hu => ?_⟩
    rw [add_plain]
    match i, hu with
    | 0, hu => rw [← hu]; exact blk_cell hn 0
    | 1, hu => rw [← hu]; exact blk_cell hn 1
    | 2, hu => rw [← hu]; exact blk_cell hn 2

set_option maxHeartbeats 2000000 in
set_option maxRecDepth 100000 in
theorem awake_any (w : World) : Calls Try.prog 19 #[] w fun e w' => e = .returned (.bool true) ∧ Below w.heap.size w w' := by
  have HC := Aside0.mk (L1_cells w)
  have hu52 := Try.underlying52
  have hu22 := Try.underlying22
  go_enter Try.func19, Try.ntmps19
  go_wp2_with (first
    | (go_at_call 14
       go_must (refine (best_rd (a0 := 5) (a1 := 2) (Wd := 5) (Ht := 2) (L := L1) HC.out (Nat.le_refl _) L1_task rfl rfl).mono ?_)
       rintro e wa ⟨Ap, cp, Ab, cb, rfl, hp, hb, hcb, hB⟩
       have HP := Aside0.mk hp
       have HBd := Aside0.mk hb
       have HCB := Aside0.mk hcb
       have HB := Aside0.mk hB
       have HCa := Aside0.mk (Kd.C_below HC.out hB)
       clear hp hb hcb hB)
    | (go_at_call 16
       go_must (refine (worth_is (a0 := 5) (a1 := 2) HCa.out HP.out L1_task L1_read).mono ?_)
       rintro e wb ⟨rfl, hB⟩
       have HB2 := Aside0.mk hB
       have HCb := Aside0.mk (Kd.C_below HCa.out hB)
       have HPb := Aside0.mk (Kd.C_below HP.out hB)
       clear hB)
    | (go_at_call 17
       go_must (refine (rest_is (a0 := 5) (a1 := 2) HCb.out HPb.out L1_task L1_read).mono ?_)
       rintro e wc ⟨rfl, hB⟩
       have HB3 := Aside0.mk hB
       have HCc := Aside0.mk (Kd.C_below HCb.out hB)
       have HBc := Aside0.mk (Kd.C_below (Kd.C_below HBd.out HB2.out) hB)
       clear hB)
    | (go_at_call 18
       go_must (refine (check_is (a0 := 5) (a1 := 2) HCc.out (Nat.le_refl _) HBc.out HCB.out L1_task (bound_rowsOf L1_ok (by decide) (by decide))).mono ?_)
       rintro e wd ⟨rfl, hB⟩
       have HB4 := Aside0.mk hB
       clear hB))
  go_ret
  refine ⟨by simp [go_sem], ?_⟩
  have h1 := below_then (below_alloc (Below.refl w.heap.size w) _) (by simp) HB.out
  have h2 := below_then h1 h1.size HB2.out
  have h3 := below_then h2 h2.size HB3.out
  exact below_then h3 h3.size HB4.out

end Go.Proofs.Ytochbhndeboodaa
