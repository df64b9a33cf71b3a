/- The walk of CarveBounds. -/
import Derived.Test.YtochbhndeboodaaAwake
import Derived.Test.YtochbhndeboodaaPlainI
import Derived.Test.YtochbhndeboodaaBound
import Derived.Test.YtochbhndeboodaaTable
import Derived.Test.YtochbhndeboodaaSteps
namespace Go.Proofs.Ytochbhndeboodaa
set_option linter.unusedVariables false
set_option linter.unusedSimpArgs false
open Go.RowKit Go.Proofs.YtochbhndeboodaaW.PrintWords Go.Proofs.YtochbhndeboodaaW.PrintLast Go.Proofs.YtochbhndeboodaaW.PrintMore
open Go.Proofs.Ytochbhndeboodaa.PCarveMore (S52 S56 k52 k56)

theorem task_is {a0 a1 : Int} {L : List S52} {A : Option Addr} {c : Nat} {w : World} (hr : Kd.C k52 w A L.length L) (hc : L.length ≤ c) :
    Calls Try.prog 15 #[.int .i64 a0, .int .i64 a1, .slice A L.length c] w fun e w' => ∃ r, e = .returned (.bool r) ∧ (r = true ↔ isTask a0 a1 L) ∧ Below w.heap.size w w' := by
  rcases task_tells 20 (Nat.le_refl _) a0 a1 L with ⟨h, ht⟩ | ⟨h, ht⟩
  · exact (PCarveMore.silversideref02_Task.calls 20 a0 a1 A c L true w hr hc h).mono fun e w' he => ⟨true, he.1, ⟨fun _ => ht, fun _ => rfl⟩, he.2.below⟩
  · exact (PCarveMore.silversideref02_Task.calls 20 a0 a1 A c L false w hr hc h).mono fun e w' he => ⟨false, he.1, ⟨(fun h => nomatch h), fun h => absurd h ht⟩, he.2.below⟩
theorem below_kept {w a b : World} (h : Below w.heap.size w a) (hb : Below a.heap.size a b) : Below w.heap.size w b := below_then h h.size hb

theorem bound_is {a0 a1 : Int} {L : List S52} {b : List (List Int)} {A Ab : Option Addr} {c cb : Nat} {w : World} (hr : Kd.C k52 w A L.length L) (hb : Kd.C (Kd.slice 3 (Kd.int .i64)) w Ab b.length b) (ht : isTask a0 a1 L) :
    Calls Try.prog 21 #[.int .i64 a0, .int .i64 a1, .slice A L.length c, .slice Ab b.length cb] w (BoundPost (IsBound a0.toNat a1.toNat L b) w) := by
  obtain ⟨w1, w48⟩ := inB_iff.1 ht.1
  obtain ⟨h1, h48⟩ := inB_iff.1 ht.2.1
  have h := refBound_any (x := a0.toNat) (y := a1.toNat) (c := c) (cb := cb) hr hb ht.2.2.1 ht.2.2.2 (by omega) (by omega) (by omega) (by omega)
  rwa [Int.toNat_of_nonneg (by omega), Int.toNat_of_nonneg (by omega)] at h

set_option maxHeartbeats 1000000 in
set_option maxRecDepth 100000 in
theorem bounds_law (x y : Int) (A Ab : Option Addr) (c cb : Nat) (L : List S52) (b : List (List Int)) (w : World) (hr : Kd.C k52 w A L.length L) (hc : L.length ≤ c) (hp : Kd.C (Kd.slice 3 (Kd.int .i64)) w Ab b.length b) (hcp : b.length ≤ cb) :
    Calls Try.prog 5 #[.agg #[.int .i64 x, .int .i64 y, .slice A L.length c], .slice Ab b.length cb] w fun e w' => e = .returned (.bool true) ∧ Below w.heap.size w w' := by
  have HR := Aside0.mk hr
  have HC := Aside0.mk hc
  have HP := Aside0.mk hp
  have HCP := Aside0.mk hcp
  clear hr hc hp hcp
  have hu24 := Try.underlying24
  have hu52 := Try.underlying52
  have hu22 := Try.underlying22
  go_enter Try.func5, Try.ntmps5
  go_wp2_with (first
    | (go_at_call 13
       go_must (refine (blanks_all (Kd.C_alloc HR.out _) HC.out).mono ?_)
       rintro e wa ⟨va, rfl, hva, hB⟩
       have HB1 := Aside0.mk (below_then (below_alloc (Below.refl w.heap.size w) _) (by simp) hB)
       have hX := (hB.block w.heap.size (by simp)).trans (heap_alloc_new w (.cells #[.int .i64 x, .int .i64 y, .slice A L.length c] 24))
       have HX := Aside0.mk hX
       have q0 := (blk_cell hX 0).trans rfl
       have q1 := (blk_cell hX 1).trans rfl
       have hlx := blk_lt hX
       have HVA := Aside0.mk hva
       clear hB hX hva)
    | (go_at_call 24
       go_must (refine (table_any (Kd.C_below HP.out HB1.out) HCP.out).mono ?_)
       rintro e wb ⟨vb, rfl, hvb, hB⟩
       have HB2 := Aside0.mk (below_kept HB1.out hB)
       have hX := (hB.block w.heap.size hlx).trans HX.out
       have HXb := Aside0.mk hX
       have q0' := (blk_cell hX 0).trans rfl
       have q1' := (blk_cell hX 1).trans rfl
       have hlx' := blk_lt hX
       obtain ⟨Ao, co, rfl, hco, hCo⟩ := Kd.R_reads HVA.out
       obtain ⟨Aq, cq, rfl, hcq, hCq⟩ := Kd.S_reads hvb
       have HCO := Aside0.mk (Kd.C_below hCo hB)
       have HCQ := Aside0.mk hCq
       have HLO := Aside0.mk hco
       have HLQ := Aside0.mk hcq
       clear hB hX hvb hco hcq hCo hCq HVA
       generalize L.take 17 = O at *
       generalize cutT b 50 = P at *
       clear q0 q1 hlx HX))
  by_cases ht : isTask x y O
  · by_cases hbd : IsBound x.toNat y.toNat O P
    · have HC18 := Aside0.mk (show ∀ W, Below wb.heap.size wb W → Calls Try.prog 18 #[.int .i64 x, .int .i64 y, .slice Ao O.length co, .slice Aq P.length cq] W fun e w' => e = .returned (.int .i64 0) ∧ Below W.heap.size W w' from fun W hW => by
        refine (check_any x y O P Ao Aq co cq W (Kd.C_below HCO.out hW) HLO.out (Kd.C_below HCQ.out hW) HLQ.out).mono ?_
        rintro e w' ⟨hb, ⟨h1, rfl⟩ | ⟨h1, h2, rfl⟩ | ⟨h1, h2, rfl⟩⟩
        · exact absurd ht h1
        · exact ⟨rfl, hb⟩
        · exact absurd hbd h2)
      have HC15 := Aside0.mk (show ∀ W, Below wb.heap.size wb W → Calls Try.prog 15 #[.int .i64 x, .int .i64 y, .slice Ao O.length co] W fun e w' => e = .returned (.bool true) ∧ Below W.heap.size W w' from fun W hW => by
        refine (task_is (Kd.C_below HCO.out hW) HLO.out).mono ?_
        rintro e w' ⟨r, rfl, hr, hb⟩
        cases r
        · exact absurd (hr.2 ht) (by simp)
        · exact ⟨rfl, hb⟩)
      have HC21 := Aside0.mk (show ∀ W, Below wb.heap.size wb W → Calls Try.prog 21 #[.int .i64 x, .int .i64 y, .slice Ao O.length co, .slice Aq P.length cq] W fun e w' => e = .returned (.bool true) ∧ Below W.heap.size W w' from fun W hW => by
        refine (bound_is (Kd.C_below HCO.out hW) (Kd.C_below HCQ.out hW) ht).mono ?_
        rintro e w' ⟨r, rfl, hr, hb⟩
        cases r
        · exact absurd (hr.2 hbd) (by simp)
        · exact ⟨rfl, hb⟩)
      clear ht hbd
      go_wp2_with (first
        | (go_at_call 18
           (with_reducible refine (HC18.out _ (Below.refl _ _)).mono ?_)
           rintro e wc ⟨rfl, hB⟩
           have HBc := Aside0.mk (below_kept (Below.refl _ _) hB)
           have hX := (HBc.out.block w.heap.size hlx').trans HXb.out
           have zwc0 := (blk_cell hX 0).trans rfl
           have zwc1 := (blk_cell hX 1).trans rfl
           have lwc := blk_lt hX
           clear hB hX)
        | (go_at_call 15
           (with_reducible refine (HC15.out _ HBc.out).mono ?_)
           rintro e we ⟨rfl, hB⟩
           have HBe := Aside0.mk (below_kept HBc.out hB)
           have hX := (HBe.out.block w.heap.size hlx').trans HXb.out
           have zwe0 := (blk_cell hX 0).trans rfl
           have zwe1 := (blk_cell hX 1).trans rfl
           have lwe := blk_lt hX
           clear hB hX)
        | (go_at_call 21
           (with_reducible refine (HC21.out _ HBe.out).mono ?_)
           rintro e wf ⟨rfl, hB⟩
           have HBf := Aside0.mk (below_kept HBe.out hB)
           have hX := (HBf.out.block w.heap.size hlx').trans HXb.out
           have zwf0 := (blk_cell hX 0).trans rfl
           have zwf1 := (blk_cell hX 1).trans rfl
           have lwf := blk_lt hX
           clear hB hX)
        | (go_at_call 19
           (with_reducible refine (awake_any _).mono ?_)
           rintro e w4 ⟨rfl, b4⟩))
      go_ret
      exact ⟨by simp [go_sem], below_kept (below_kept HB2.out HBf.out) b4⟩
    · have HC18 := Aside0.mk (show ∀ W, Below wb.heap.size wb W → Calls Try.prog 18 #[.int .i64 x, .int .i64 y, .slice Ao O.length co, .slice Aq P.length cq] W fun e w' => e = .returned (.int .i64 21) ∧ Below W.heap.size W w' from fun W hW => by
        refine (check_any x y O P Ao Aq co cq W (Kd.C_below HCO.out hW) HLO.out (Kd.C_below HCQ.out hW) HLQ.out).mono ?_
        rintro e w' ⟨hb, ⟨h1, rfl⟩ | ⟨h1, h2, rfl⟩ | ⟨h1, h2, rfl⟩⟩
        · exact absurd ht h1
        · exact absurd h2 hbd
        · exact ⟨rfl, hb⟩)
      have HC15 := Aside0.mk (show ∀ W, Below wb.heap.size wb W → Calls Try.prog 15 #[.int .i64 x, .int .i64 y, .slice Ao O.length co] W fun e w' => e = .returned (.bool true) ∧ Below W.heap.size W w' from fun W hW => by
        refine (task_is (Kd.C_below HCO.out hW) HLO.out).mono ?_
        rintro e w' ⟨r, rfl, hr, hb⟩
        cases r
        · exact absurd (hr.2 ht) (by simp)
        · exact ⟨rfl, hb⟩)
      have HC21 := Aside0.mk (show ∀ W, Below wb.heap.size wb W → Calls Try.prog 21 #[.int .i64 x, .int .i64 y, .slice Ao O.length co, .slice Aq P.length cq] W fun e w' => e = .returned (.bool false) ∧ Below W.heap.size W w' from fun W hW => by
        refine (bound_is (Kd.C_below HCO.out hW) (Kd.C_below HCQ.out hW) ht).mono ?_
        rintro e w' ⟨r, rfl, hr, hb⟩
        cases r
        · exact ⟨rfl, hb⟩
        · exact absurd (hr.1 rfl) hbd)
      clear ht hbd
      go_wp2_with (first
        | (go_at_call 18
           (with_reducible refine (HC18.out _ (Below.refl _ _)).mono ?_)
           rintro e wc ⟨rfl, hB⟩
           have HBc := Aside0.mk (below_kept (Below.refl _ _) hB)
           have hX := (HBc.out.block w.heap.size hlx').trans HXb.out
           have zwc0 := (blk_cell hX 0).trans rfl
           have zwc1 := (blk_cell hX 1).trans rfl
           have lwc := blk_lt hX
           clear hB hX)
        | (go_at_call 15
           (with_reducible refine (HC15.out _ HBc.out).mono ?_)
           rintro e we ⟨rfl, hB⟩
           have HBe := Aside0.mk (below_kept HBc.out hB)
           have hX := (HBe.out.block w.heap.size hlx').trans HXb.out
           have zwe0 := (blk_cell hX 0).trans rfl
           have zwe1 := (blk_cell hX 1).trans rfl
           have lwe := blk_lt hX
           clear hB hX)
        | (go_at_call 21
           (with_reducible refine (HC21.out _ HBe.out).mono ?_)
           rintro e wf ⟨rfl, hB⟩
           have HBf := Aside0.mk (below_kept HBe.out hB)
           have hX := (HBf.out.block w.heap.size hlx').trans HXb.out
           have zwf0 := (blk_cell hX 0).trans rfl
           have zwf1 := (blk_cell hX 1).trans rfl
           have lwf := blk_lt hX
           clear hB hX)
        | (go_at_call 19
           (with_reducible refine (awake_any _).mono ?_)
           rintro e w4 ⟨rfl, b4⟩))
      go_ret
      exact ⟨by simp [go_sem], below_kept (below_kept HB2.out HBf.out) b4⟩
  · have HC18 := Aside0.mk (show ∀ W, Below wb.heap.size wb W → Calls Try.prog 18 #[.int .i64 x, .int .i64 y, .slice Ao O.length co, .slice Aq P.length cq] W fun e w' => e = .returned (.int .i64 2) ∧ Below W.heap.size W w' from fun W hW => by
      refine (check_any x y O P Ao Aq co cq W (Kd.C_below HCO.out hW) HLO.out (Kd.C_below HCQ.out hW) HLQ.out).mono ?_
      rintro e w' ⟨hb, ⟨h1, rfl⟩ | ⟨h1, h2, rfl⟩ | ⟨h1, h2, rfl⟩⟩
      · exact ⟨rfl, hb⟩
      · exact absurd h1 ht
      · exact absurd h1 ht)
    have HC15 := Aside0.mk (show ∀ W, Below wb.heap.size wb W → Calls Try.prog 15 #[.int .i64 x, .int .i64 y, .slice Ao O.length co] W fun e w' => e = .returned (.bool false) ∧ Below W.heap.size W w' from fun W hW => by
      refine (task_is (Kd.C_below HCO.out hW) HLO.out).mono ?_
      rintro e w' ⟨r, rfl, hr, hb⟩
      cases r
      · exact ⟨rfl, hb⟩
      · exact absurd (hr.1 rfl) ht)
    clear ht
    go_wp2_with (first
      | (go_at_call 18
         (with_reducible refine (HC18.out _ (Below.refl _ _)).mono ?_)
         rintro e wc ⟨rfl, hB⟩
         have HBc := Aside0.mk (below_kept (Below.refl _ _) hB)
         have hX := (HBc.out.block w.heap.size hlx').trans HXb.out
         have zwc0 := (blk_cell hX 0).trans rfl
         have zwc1 := (blk_cell hX 1).trans rfl
         have lwc := blk_lt hX
         clear hB hX)
      | (go_at_call 15
         (with_reducible refine (HC15.out _ HBc.out).mono ?_)
         rintro e we ⟨rfl, hB⟩
         have HBe := Aside0.mk (below_kept HBc.out hB)
         have hX := (HBe.out.block w.heap.size hlx').trans HXb.out
         have zwe0 := (blk_cell hX 0).trans rfl
         have zwe1 := (blk_cell hX 1).trans rfl
         have lwe := blk_lt hX
         clear hB hX)
      | (go_at_call 19
         (with_reducible refine (awake_any _).mono ?_)
         rintro e w4 ⟨rfl, b4⟩))
    go_ret
    exact ⟨by simp [go_sem], below_kept (below_kept HB2.out HBe.out) b4⟩

end Go.Proofs.Ytochbhndeboodaa
