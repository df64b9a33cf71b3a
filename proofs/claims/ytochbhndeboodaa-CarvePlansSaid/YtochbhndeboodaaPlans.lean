/- The walk of CarvePlans. -/
import Derived.Test.YtochbhndeboodaaAwake
import Derived.Test.YtochbhndeboodaaPlainI
import Derived.Test.YtochbhndeboodaaRefRead
import Derived.Test.YtochbhndeboodaaSteps
import Derived.Deep.RegionHeld3
namespace Go.Proofs.Ytochbhndeboodaa
set_option linter.unusedVariables false
set_option linter.unusedSimpArgs false
open Go.RowKit Go.Proofs.YtochbhndeboodaaW.PrintWords Go.Proofs.YtochbhndeboodaaW.PrintLast Go.Proofs.YtochbhndeboodaaW.PrintMore
open Go.Proofs.Ytochbhndeboodaa.PCarveMore (S52 S56 k52 k56)

theorem task_is {a0 a1 : Int} {L : List S52} {A : Option Addr} {c : Nat} {w : World} (hr : Kd.C k52 w A L.length L) (hc : L.length ≤ c) :
    Calls Try.prog 15 #[.int .i64 a0, .int .i64 a1, .slice A L.length c] w fun e w' => ∃ r, e = .returned (.bool r) ∧ (r = true ↔ isTask a0 a1 L) ∧ Below w.heap.size w w' := by
  rcases task_tells 20 (Nat.le_refl _) a0 a1 L with ⟨h, ht⟩ | ⟨h, ht⟩
  · exact (PCarveMore.silversideref02_Task.calls 20 a0 a1 A c L true w hr hc h).mono fun e w' he => ⟨true, he.1, ⟨fun _ => ht, fun _ => rfl⟩, he.2.below⟩
  · exact (PCarveMore.silversideref02_Task.calls 20 a0 a1 A c L false w hr hc h).mono fun e w' he => ⟨false, he.1, ⟨(fun h => nomatch h), fun h => absurd h ht⟩, he.2.below⟩
theorem below_kept {w a b : World} (h : Below w.heap.size w a) (hb : Below a.heap.size a b) : Below w.heap.size w b := below_then h h.size hb

set_option maxHeartbeats 1000000 in
set_option maxRecDepth 100000 in
theorem plans_any (x y : Int) (A Ap : Option Addr) (c cp : Nat) (L : List S52) (p : List S56) (w : World) (hr : Kd.C k52 w A L.length L) (hc : L.length ≤ c) (hp : Kd.C k56 w Ap p.length p) (hcp : p.length ≤ cp) :
    Calls Try.prog 4 #[.agg #[.int .i64 x, .int .i64 y, .slice A L.length c], .slice Ap p.length cp] w fun e w' => e = .returned (.bool true) ∧ Below w.heap.size w w' := by
  have HR := Aside0.mk hr
  have HC := Aside0.mk hc
  have HP := Aside0.mk hp
  have HCP := Aside0.mk hcp
  clear hr hc hp hcp
  have hu24 := Try.underlying24
  have hu52 := Try.underlying52
  have hu22 := Try.underlying22
  go_enter Try.func4, Try.ntmps4
  go_wp2_with (first
    | (go_at_call 13
       go_must (refine (blanks_all (Kd.C_alloc HR.out _) HC.out).mono ?_)
       rintro e wa ⟨va, rfl, hva, hB⟩
       have HB1 := Aside0.mk (below_then (below_alloc (Below.refl w.heap.size w) _) (by simp) hB)
       have hX := (hB.block w.heap.size (by simp)).trans (heap_alloc_new w (.cells #[.int .i64 x, .int .i64 y, .slice A L.length c] 24))
       have HX := Aside0.mk hX
       have q0 := (blk_cell hX 0).trans rfl
       have q1 := (blk_cell hX 1).trans rfl
       have hlx := blk_lt hX
       have HVA := Aside0.mk hva
       clear hB hX hva)
    | (go_at_call 23
       go_must (refine (steps_any (Kd.C_below HP.out HB1.out) HCP.out).mono ?_)
       rintro e wb ⟨vb, rfl, hvb, hB⟩
       have HB2 := Aside0.mk (below_kept HB1.out hB)
       have hX := (hB.block w.heap.size hlx).trans HX.out
       have HXb := Aside0.mk hX
       have q0' := (blk_cell hX 0).trans rfl
       have q1' := (blk_cell hX 1).trans rfl
       have hlx' := blk_lt hX
       obtain ⟨Ao, co, rfl, hco, hCo⟩ := Kd.R_reads HVA.out
       obtain ⟨Aq, cq, rfl, hcq, hCq⟩ := Kd.R_reads hvb
       have HCO := Aside0.mk (Kd.C_below hCo hB)
       have HCQ := Aside0.mk hCq
       have HLO := Aside0.mk hco
       clear hB hX hvb hco hcq hCo hCq HVA
       generalize L.take 17 = O at *
       generalize p.take 8193 = P at *
       clear q0 q1 hlx HX))
  by_cases ht : isTask x y O
  · rcases hrd : readP O x y P with _ | ⟨v, a⟩
    · have HC16 := Aside0.mk (show ∀ W, Below wb.heap.size wb W → Calls Try.prog 16 #[.int .i64 x, .int .i64 y, .slice Ao O.length co, .slice Aq P.length cq] W fun e w' => e = .returned (.tuple #[.int .i64 0, .int .i64 20]) ∧ Below W.heap.size W w' from fun W hW => by
        refine (worth_any x y O P Ao Aq co cq W (Kd.C_below HCO.out hW) (Kd.C_below HCQ.out hW)).mono ?_
        rintro e w' ⟨hb, ⟨h1, rfl⟩ | ⟨h1, h2, rfl⟩ | ⟨v', a', h1, h2, rfl⟩⟩
        · exact absurd ht h1
        · exact ⟨rfl, hb⟩
        · rw [hrd] at h2; cases h2)
      have HC17 := Aside0.mk (show ∀ W, Below wb.heap.size wb W → Calls Try.prog 17 #[.int .i64 x, .int .i64 y, .slice Ao O.length co, .slice Aq P.length cq] W fun e w' => e = .returned (.tuple #[.int .i64 0, .int .i64 20]) ∧ Below W.heap.size W w' from fun W hW => by
        refine (rest_any x y O P Ao Aq co cq W (Kd.C_below HCO.out hW) (Kd.C_below HCQ.out hW)).mono ?_
        rintro e w' ⟨hb, ⟨h1, rfl⟩ | ⟨h1, h2, rfl⟩ | ⟨v', a', h1, h2, rfl⟩⟩
        · exact absurd ht h1
        · exact ⟨rfl, hb⟩
        · rw [hrd] at h2; cases h2)
      have HC15 := Aside0.mk (show ∀ W, Below wb.heap.size wb W → Calls Try.prog 15 #[.int .i64 x, .int .i64 y, .slice Ao O.length co] W fun e w' => e = .returned (.bool true) ∧ Below W.heap.size W w' from fun W hW => by
        refine (task_is (Kd.C_below HCO.out hW) HLO.out).mono ?_
        rintro e w' ⟨r, rfl, hr, hb⟩
        cases r
        · exact absurd (hr.2 ht) (by simp)
        · exact ⟨rfl, hb⟩)
      have HC20 := Aside0.mk (show ∀ W, Below wb.heap.size wb W → Calls Try.prog 20 #[.int .i64 x, .int .i64 y, .slice Ao O.length co, .slice Aq P.length cq] W fun e w' => e = .returned (.tuple #[.int .i64 0, .int .i64 0, .bool false]) ∧ Below W.heap.size W w' from fun W hW => by
        refine (refRead_any (Kd.C_below HCO.out hW) (Kd.C_below HCQ.out hW) ht).mono ?_
        rintro e w' ⟨hb, ⟨v', a', h2, rfl⟩ | ⟨h2, rfl⟩⟩
        · rw [hrd] at h2; cases h2
        · exact ⟨rfl, hb⟩)
      clear ht hrd
      go_wp2_with (first
        | (go_at_call 16
           (with_reducible refine (HC16.out _ (Below.refl _ _)).mono ?_)
           rintro e wc ⟨rfl, hB⟩
           have HBc := Aside0.mk (below_kept (Below.refl _ _) hB)
           have hX := (HBc.out.block w.heap.size hlx').trans HXb.out
           have zwc0 := (blk_cell hX 0).trans rfl
           have zwc1 := (blk_cell hX 1).trans rfl
           have lwc := blk_lt hX
           clear hB hX)
        | (go_at_call 17
           (with_reducible refine (HC17.out _ HBc.out).mono ?_)
           rintro e wd ⟨rfl, hB⟩
           have HBd := Aside0.mk (below_kept HBc.out hB)
           have hX := (HBd.out.block w.heap.size hlx').trans HXb.out
           have zwd0 := (blk_cell hX 0).trans rfl
           have zwd1 := (blk_cell hX 1).trans rfl
           have lwd := blk_lt hX
           clear hB hX)
        | (go_at_call 15
           (with_reducible refine (HC15.out _ HBd.out).mono ?_)
           rintro e we ⟨rfl, hB⟩
           have HBe := Aside0.mk (below_kept HBd.out hB)
           have hX := (HBe.out.block w.heap.size hlx').trans HXb.out
           have zwe0 := (blk_cell hX 0).trans rfl
           have zwe1 := (blk_cell hX 1).trans rfl
           have lwe := blk_lt hX
           clear hB hX)
        | (go_at_call 20
           (with_reducible refine (HC20.out _ HBe.out).mono ?_)
           rintro e wf ⟨rfl, hB⟩
           have HBf := Aside0.mk (below_kept HBe.out hB)
           have hX := (HBf.out.block w.heap.size hlx').trans HXb.out
           have zwf0 := (blk_cell hX 0).trans rfl
           have zwf1 := (blk_cell hX 1).trans rfl
           have lwf := blk_lt hX
           clear hB hX)
        | (go_at_call 19
           (with_reducible refine (awake_any _).mono ?_)
           rintro e w4 ⟨rfl, b4⟩))
      go_ret
      exact ⟨by simp [go_sem], below_kept (below_kept HB2.out HBf.out) b4⟩
    · have HC16 := Aside0.mk (show ∀ W, Below wb.heap.size wb W → Calls Try.prog 16 #[.int .i64 x, .int .i64 y, .slice Ao O.length co, .slice Aq P.length cq] W fun e w' => e = .returned (.tuple #[.int .i64 v, .int .i64 0]) ∧ Below W.heap.size W w' from fun W hW => by
        refine (worth_any x y O P Ao Aq co cq W (Kd.C_below HCO.out hW) (Kd.C_below HCQ.out hW)).mono ?_
        rintro e w' ⟨hb, ⟨h1, rfl⟩ | ⟨h1, h2, rfl⟩ | ⟨v', a', h1, h2, rfl⟩⟩
        · exact absurd ht h1
        · rw [hrd] at h2; cases h2
        · rw [hrd] at h2
          obtain ⟨rfl, rfl⟩ : v = v' ∧ a = a' := by simpa using h2
          exact ⟨rfl, hb⟩)
      have HC17 := Aside0.mk (show ∀ W, Below wb.heap.size wb W → Calls Try.prog 17 #[.int .i64 x, .int .i64 y, .slice Ao O.length co, .slice Aq P.length cq] W fun e w' => e = .returned (.tuple #[.int .i64 (x * y - a), .int .i64 0]) ∧ Below W.heap.size W w' from fun W hW => by
        refine (rest_any x y O P Ao Aq co cq W (Kd.C_below HCO.out hW) (Kd.C_below HCQ.out hW)).mono ?_
        rintro e w' ⟨hb, ⟨h1, rfl⟩ | ⟨h1, h2, rfl⟩ | ⟨v', a', h1, h2, rfl⟩⟩
        · exact absurd ht h1
        · rw [hrd] at h2; cases h2
        · rw [hrd] at h2
          obtain ⟨rfl, rfl⟩ : v = v' ∧ a = a' := by simpa using h2
          exact ⟨rfl, hb⟩)
      have HC15 := Aside0.mk (show ∀ W, Below wb.heap.size wb W → Calls Try.prog 15 #[.int .i64 x, .int .i64 y, .slice Ao O.length co] W fun e w' => e = .returned (.bool true) ∧ Below W.heap.size W w' from fun W hW => by
        refine (task_is (Kd.C_below HCO.out hW) HLO.out).mono ?_
        rintro e w' ⟨r, rfl, hr, hb⟩
        cases r
        · exact absurd (hr.2 ht) (by simp)
        · exact ⟨rfl, hb⟩)
      have HC20 := Aside0.mk (show ∀ W, Below wb.heap.size wb W → Calls Try.prog 20 #[.int .i64 x, .int .i64 y, .slice Ao O.length co, .slice Aq P.length cq] W fun e w' => e = .returned (.tuple #[.int .i64 v, .int .i64 a, .bool true]) ∧ Below W.heap.size W w' from fun W hW => by
        refine (refRead_any (Kd.C_below HCO.out hW) (Kd.C_below HCQ.out hW) ht).mono ?_
        rintro e w' ⟨hb, ⟨v', a', h2, rfl⟩ | ⟨h2, rfl⟩⟩
        · rw [hrd] at h2
          obtain ⟨rfl, rfl⟩ : v = v' ∧ a = a' := by simpa using h2
          exact ⟨rfl, hb⟩
        · rw [hrd] at h2; cases h2)
      have e1 : wrap64 (wrap64 (x * y) - a) = x * y - a := by
        obtain ⟨b1, b2, b3, b4⟩ := rest_bd ht hrd
        generalize x * y = z at *
        unfold wrap64
        omega
      have e2 : wrap64 (x * y) = x * y := by
        obtain ⟨b1, b2, b3, b4⟩ := rest_bd ht hrd
        generalize x * y = z at *
        unfold wrap64
        omega
      have e3 : wrap64 (x * y - a) = x * y - a := by rw [e2] at e1; exact e1
      clear ht hrd
      go_wp2_with (first
        | (go_at_call 16
           (with_reducible refine (HC16.out _ (Below.refl _ _)).mono ?_)
           rintro e wc ⟨rfl, hB⟩
           have HBc := Aside0.mk (below_kept (Below.refl _ _) hB)
           have hX := (HBc.out.block w.heap.size hlx').trans HXb.out
           have zwc0 := (blk_cell hX 0).trans rfl
           have zwc1 := (blk_cell hX 1).trans rfl
           have lwc := blk_lt hX
           clear hB hX)
        | (go_at_call 17
           (with_reducible refine (HC17.out _ HBc.out).mono ?_)
           rintro e wd ⟨rfl, hB⟩
           have HBd := Aside0.mk (below_kept HBc.out hB)
           have hX := (HBd.out.block w.heap.size hlx').trans HXb.out
           have zwd0 := (blk_cell hX 0).trans rfl
           have zwd1 := (blk_cell hX 1).trans rfl
           have lwd := blk_lt hX
           clear hB hX)
        | (go_at_call 15
           (with_reducible refine (HC15.out _ HBd.out).mono ?_)
           rintro e we ⟨rfl, hB⟩
           have HBe := Aside0.mk (below_kept HBd.out hB)
           have hX := (HBe.out.block w.heap.size hlx').trans HXb.out
           have zwe0 := (blk_cell hX 0).trans rfl
           have zwe1 := (blk_cell hX 1).trans rfl
           have lwe := blk_lt hX
           clear hB hX)
        | (go_at_call 20
           (with_reducible refine (HC20.out _ HBe.out).mono ?_)
           rintro e wf ⟨rfl, hB⟩
           have HBf := Aside0.mk (below_kept HBe.out hB)
           have hX := (HBf.out.block w.heap.size hlx').trans HXb.out
           have zwf0 := (blk_cell hX 0).trans rfl
           have zwf1 := (blk_cell hX 1).trans rfl
           have lwf := blk_lt hX
           clear hB hX)
        | (go_at_call 19
           (with_reducible refine (awake_any _).mono ?_)
           rintro e w4 ⟨rfl, b4⟩))
      go_ret
      exact ⟨by simp [go_sem], below_kept (below_kept HB2.out HBf.out) b4⟩
  · have HC16 := Aside0.mk (show ∀ W, Below wb.heap.size wb W → Calls Try.prog 16 #[.int .i64 x, .int .i64 y, .slice Ao O.length co, .slice Aq P.length cq] W fun e w' => e = .returned (.tuple #[.int .i64 0, .int .i64 2]) ∧ Below W.heap.size W w' from fun W hW => by
      refine (worth_any x y O P Ao Aq co cq W (Kd.C_below HCO.out hW) (Kd.C_below HCQ.out hW)).mono ?_
      rintro e w' ⟨hb, ⟨h1, rfl⟩ | ⟨h1, h2, rfl⟩ | ⟨v', a', h1, h2, rfl⟩⟩
      · exact ⟨rfl, hb⟩
      · exact absurd h1 ht
      · exact absurd h1 ht)
    have HC17 := Aside0.mk (show ∀ W, Below wb.heap.size wb W → Calls Try.prog 17 #[.int .i64 x, .int .i64 y, .slice Ao O.length co, .slice Aq P.length cq] W fun e w' => e = .returned (.tuple #[.int .i64 0, .int .i64 2]) ∧ Below W.heap.size W w' from fun W hW => by
      refine (rest_any x y O P Ao Aq co cq W (Kd.C_below HCO.out hW) (Kd.C_below HCQ.out hW)).mono ?_
      rintro e w' ⟨hb, ⟨h1, rfl⟩ | ⟨h1, h2, rfl⟩ | ⟨v', a', h1, h2, rfl⟩⟩
      · exact ⟨rfl, hb⟩
      · exact absurd h1 ht
      · exact absurd h1 ht)
    have HC15 := Aside0.mk (show ∀ W, Below wb.heap.size wb W → Calls Try.prog 15 #[.int .i64 x, .int .i64 y, .slice Ao O.length co] W fun e w' => e = .returned (.bool false) ∧ Below W.heap.size W w' from fun W hW => by
      refine (task_is (Kd.C_below HCO.out hW) HLO.out).mono ?_
      rintro e w' ⟨r, rfl, hr, hb⟩
      cases r
      · exact ⟨rfl, hb⟩
      · exact absurd (hr.1 rfl) ht)
    clear ht
    go_wp2_with (first
      | (go_at_call 16
         (with_reducible refine (HC16.out _ (Below.refl _ _)).mono ?_)
         rintro e wc ⟨rfl, hB⟩
         have HBc := Aside0.mk (below_kept (Below.refl _ _) hB)
         have hX := (HBc.out.block w.heap.size hlx').trans HXb.out
         have zwc0 := (blk_cell hX 0).trans rfl
         have zwc1 := (blk_cell hX 1).trans rfl
         have lwc := blk_lt hX
         clear hB hX)
      | (go_at_call 17
         (with_reducible refine (HC17.out _ HBc.out).mono ?_)
         rintro e wd ⟨rfl, hB⟩
         have HBd := Aside0.mk (below_kept HBc.out hB)
         have hX := (HBd.out.block w.heap.size hlx').trans HXb.out
         have zwd0 := (blk_cell hX 0).trans rfl
         have zwd1 := (blk_cell hX 1).trans rfl
         have lwd := blk_lt hX
         clear hB hX)
      | (go_at_call 15
         (with_reducible refine (HC15.out _ HBd.out).mono ?_)
         rintro e we ⟨rfl, hB⟩
         have HBe := Aside0.mk (below_kept HBd.out hB)
         have hX := (HBe.out.block w.heap.size hlx').trans HXb.out
         have zwe0 := (blk_cell hX 0).trans rfl
         have zwe1 := (blk_cell hX 1).trans rfl
         have lwe := blk_lt hX
         clear hB hX)
      | (go_at_call 19
         (with_reducible refine (awake_any _).mono ?_)
         rintro e w4 ⟨rfl, b4⟩))
    go_ret
    exact ⟨by simp [go_sem], below_kept (below_kept HB2.out HBe.out) b4⟩

end Go.Proofs.Ytochbhndeboodaa
