/- The walk of CarveRests. -/
import Derived.Test.YtochbhndeboodaaOut
import Derived.Test.YtochbhndeboodaaPlainK
import Derived.Deep.RegionHeld3
namespace Go.Proofs.Ytochbhndeboodaa
set_option linter.unusedVariables false
set_option linter.unusedSimpArgs false
open Go.RowKit Go.Proofs.YtochbhndeboodaaW.PrintWords Go.Proofs.YtochbhndeboodaaW.PrintLast Go.Proofs.YtochbhndeboodaaW.PrintMore
open Go.Proofs.Ytochbhndeboodaa.PCarveMore (S52 S56 k52 k56)

set_option maxHeartbeats 1000000 in
set_option maxRecDepth 100000 in
theorem rests_any (x y : Int) (A : Option Addr) (c : Nat) (L : List S52) (w : World) (hr : Kd.C k52 w A L.length L) (hc : L.length ≤ c) :
    Calls Try.prog 11 #[.agg #[.int .i64 x, .int .i64 y, .slice A L.length c]] w fun e w' => e = .returned (.bool true) ∧ Below w.heap.size w w' := by
  have HR := Aside0.mk hr
  have HC := Aside0.mk hc
  clear hr hc
  have hu24 := Try.underlying24
  have hu52 := Try.underlying52
  have hu22 := Try.underlying22
  go_enter Try.func11, Try.ntmps11
  go_wp2_with (first
    | (go_at_call 25
       go_must (refine (tame_out x y 20 _ _ L _ (Kd.C_alloc HR.out _) HC.out (by decide) (by decide)).mono ?_)
       rintro e wa ⟨Wd, Ht, T, Ao, co, rfl, hT⟩
       have HT := Aside0.mk hT
       have HK := Aside0.mk (task_of (Wd := Wd) (Ht := Ht) (L := T) hT.w1 (by have := hT.wm; omega) hT.h1 (by have := hT.hm; omega) hT.n hT.ok)
       have HB0 := Aside0.mk (below_then (below_alloc (Below.refl w.heap.size w) _) (by simp) hT.below)
       obtain ⟨ar, hread⟩ := plan_read hT.ok (w := Wd) (h := Ht) hT.w1 (by have := hT.wm; omega) hT.h1 (by have := hT.hm; omega)
       have HRD := Aside0.mk hread
       clear hT hread)
    | (go_at_call 14
       go_must (refine (best_rd (Wd := Wd) (Ht := Ht) (L := T) (Kd.C_alloc HT.out.cells _) HT.out.c HK.out rfl rfl).mono ?_)
       rintro e wb ⟨Ap, cp, Ab, cb, rfl, hp, hb, hcb, hB⟩
       have hX := (hB.block wa.heap.size (by simp)).trans (heap_alloc_new wa (.cells #[.int .i64 (Wd : Int), .int .i64 (Ht : Int), .slice Ao T.length co] 24))
       have q0 := (blk_cell hX 0).trans rfl
       have q1 := (blk_cell hX 1).trans rfl
       have q2 := (blk_cell hX 2).trans rfl
       have HX := Aside0.mk hX
       have HP := Aside0.mk hp
       have HCb := Aside0.mk (Kd.C_below (Kd.C_alloc HT.out.cells _) hB)
       have HB1 := Aside0.mk (below_then (below_alloc (Below.refl wa.heap.size wa) _) (by simp) hB)
       clear hp hb hcb hB hX)
    | (go_at_call 16
       go_must (refine (worth_is HCb.out HP.out HK.out HRD.out).mono ?_)
       rintro e wc ⟨rfl, hB⟩
       have hX := (hB.block wa.heap.size (blk_lt HX.out)).trans HX.out
       have q0 := (blk_cell hX 0).trans rfl
       have q1 := (blk_cell hX 1).trans rfl
       have q2 := (blk_cell hX 2).trans rfl
       have HX := Aside0.mk hX
       have HPc := Aside0.mk (Kd.C_below HP.out hB)
       have HCc := Aside0.mk (Kd.C_below HCb.out hB)
       have HB2 := Aside0.mk (below_then HB1.out HB1.out.size hB)
       clear hB hX)
    | (go_at_call 17
       go_must (refine (rest_is HCc.out HPc.out HK.out HRD.out).mono ?_)
       rintro e wd ⟨rfl, hB⟩
       have hX := (hB.block wa.heap.size (blk_lt HX.out)).trans HX.out
       have q0 := (blk_cell hX 0).trans rfl
       have q1 := (blk_cell hX 1).trans rfl
       have q2 := (blk_cell hX 2).trans rfl
       have HX := Aside0.mk hX
       have HPd := Aside0.mk (Kd.C_below HPc.out hB)
       have HCd := Aside0.mk (Kd.C_below HCc.out hB)
       have HB3 := Aside0.mk (below_then HB2.out HB2.out.size hB)
       have har := read_area HT.out.ok (by have := HT.out.w1; omega) (by have := HT.out.h1; omega) HRD.out
       have hr0 : ¬ ((Wd : Int) * Ht - ar < 0) := by omega
       clear hB hX har))
  have hsum := read_sums HRD.out
  generalize bestPlan T Wd Ht = p at *
  have hpl : p.length ≤ 8192 := hsum.2.2.2
  have har := read_area HT.out.ok (by have := HT.out.w1; omega) (by have := HT.out.h1; omega) HRD.out
  have HAR := Aside0.mk har
  have HS := Aside0.mk hsum
  clear hsum har hr0
  rw [HS.out.1, HS.out.2.1]
  go_loopg [7, 9, 11] (p.length + 1) (fun q v7 v9 v11 W => ∃ k : Nat, q + k = p.length + 1 ∧ k ≤ p.length ∧ v7 = .int .i64 (sumV T (p.drop k)) ∧ v9 = .int .i64 ((Wd : Int) * Ht - sumA T (p.drop k)) ∧ v11 = .int .i64 k ∧ Aside0 (Below wd.heap.size wd W))
  case atStart => exact ⟨0, by omega, by omega, rfl, rfl, rfl, ⟨Below.refl _ _⟩⟩
  case round =>
    obtain ⟨k, hq, hk, rfl, rfl, rfl, HB⟩ := hrel
    have hX := (HB.out.block wa.heap.size (blk_lt HX.out)).trans HX.out
    have z0 := (blk_cell hX 0).trans rfl
    have z1 := (blk_cell hX 1).trans rfl
    have z2 := (blk_cell hX 2).trans rfl
    have hlx := blk_lt hX
    clear hX
    by_cases hlt : k < p.length
    · obtain ⟨ap, rfl, s0, s1⟩ := step_cells HPd.out HB.out k hlt
      have es : p.getD k ⟨0, 0⟩ = stepAt p k := by simp [stepAt, PCarveMore.rd_T56, PCarveMore.z56]
      rw [es] at s0 s1
      have HES := Aside0.mk es
      clear es
      have hki : (k : Int) < p.length := by omega
      have hk0 : (0 : Int) ≤ k := by omega
      have hd := drop_step hlt
      have hmk := HS.out.2.2.1 (stepAt p k) (stepAt_mem hlt)
      have hnn := sums_nonneg HT.out.ok (makes_drop HS.out.2.2.1 k)
      have hn1 := sums_nonneg HT.out.ok (makes_drop HS.out.2.2.1 (k + 1))
      have hdr := sums_drop HT.out.ok HS.out.2.2.1 (k + 1)
      rw [hd] at hnn
      rw [hd]
      clear hd
      generalize stepAt p k = st at *
      generalize hD : p.drop (k + 1) = D at *
      have HD := Aside0.mk hD
      clear hD
      simp only [sumV, sumA] at hnn ⊢
      have hAr := HAR.out
      have hSu := HS.out
      have hwh : (Wd : Int) * Ht ≤ 20 * 20 := Int.le_trans (Int.mul_le_mul_of_nonneg_right (show (Wd : Int) ≤ 20 by have := HT.out.wm; omega) (by omega)) (Int.mul_le_mul_of_nonneg_left (show (Ht : Int) ≤ 20 by have := HT.out.hm; omega) (by omega))
      have hbd : 0 ≤ sumV T D ∧ sumV T D ≤ 419430400 ∧ 0 ≤ sumA T D ∧ sumA T D ≤ (Wd : Int) * Ht := by
        rw [← hSu.1, ← hSu.2.1] at hdr
        omega
      have hWH : 0 ≤ (Wd : Int) * Ht := by omega
      clear hAr hSu hdr
      generalize (Wd : Int) * Ht = area at *
      by_cases h1 : st.f0 = 1
      · obtain ⟨m1, m2⟩ := hmk h1
        obtain ⟨m, hm⟩ : ∃ m : Nat, st.f1 = m := ⟨st.f1.toNat, by omega⟩
        rw [h1] at s0
        rw [hm] at s1 m1 m2
        obtain ⟨ab, rfl, b0, b1, b2⟩ := blank_cells HCd.out HB.out m (by omega)
        have CE : Aside0 (∀ W, Below wd.heap.size wd W → (W.cell? (ap.add (k * 2)) = some (.int .i64 st.f0) ∧ W.cell? ⟨(ap.add (k * 2)).block, (ap.add (k * 2)).off + 1, none⟩ = some (.int .i64 st.f1)) ∧ W.cell? (ab.add (m * 3)) = some (.int .i64 (blankAt T m).f0) ∧ W.cell? ⟨(ab.add (m * 3)).block, (ab.add (m * 3)).off + 1, none⟩ = some (.int .i64 (blankAt T m).f1) ∧ W.cell? ⟨(ab.add (m * 3)).block, (ab.add (m * 3)).off + 2, none⟩ = some (.int .i64 (blankAt T m).f2)) := ⟨fun W hW => by
          obtain ⟨ap', e1, p0, p1⟩ := step_cells HPd.out hW k hlt
          obtain ⟨ab', e2, q0, q1, q2⟩ := blank_cells HCd.out hW m (by omega)
          cases e1
          cases e2
          rw [HES.out] at p0 p1
          exact ⟨⟨p0, p1⟩, q0, q1, q2⟩⟩
        simp only [stepV, stepA', h1, hm, if_true, Int.toNat_natCast] at hnn ⊢
        have hbk := HT.out.ok m (by omega)
        generalize blankAt T m = b at *
        obtain ⟨k1, k2, k3⟩ := hbk
        have k1' := inB_iff.1 k1
        have k2' := inB_iff.1 k2
        have k3' := inB_iff.1 k3
        have hz : 0 ≤ b.f0 * b.f1 := Int.mul_nonneg (by omega) (by omega)
        have hz2 : b.f0 * b.f1 ≤ 48 * 48 := Int.le_trans (Int.mul_le_mul_of_nonneg_right k1'.2 (by omega)) (Int.mul_le_mul_of_nonneg_left k2'.2 (by omega))
        have E1 := Aside0.mk (show wrap64 (sumV T D) = sumV T D by unfold wrap64; omega)
        have E2 := Aside0.mk (show wrap64 (area - (b.f0 * b.f1 + sumA T D) + wrap64 (b.f0 * b.f1)) = area - sumA T D by generalize b.f0 * b.f1 = z at *; unfold wrap64; omega)
        clear k1 k2 k3 k1' k2' k3' hz hz2
        have d1 : ¬ (m : Int) < 0 := by omega
        have d2 : (m : Int) < T.length := by omega
        have d3 : ¬ (T.length : Int) ≤ m := by omega
        go_wp2_with fail
        go_still (by kernel_rfl)
        have HBq := Aside0.mk (below_drew HB.out)
        change Exit.then _ _ _ _ wr.drew
        generalize wr.drew = wq at HBq ⊢
        obtain ⟨⟨s0', s1'⟩, b0', b1', b2'⟩ := CE.out wq HBq.out
        have hX' := (HBq.out.block wa.heap.size (blk_lt HX.out)).trans HX.out
        have z0' := (blk_cell hX' 0).trans rfl
        have z1' := (blk_cell hX' 1).trans rfl
        have z2' := (blk_cell hX' 2).trans rfl
        have hlx' := blk_lt hX'
        clear hX'
        rw [h1] at s0'
        rw [hm] at s1'
        go_wp2_with fail
        clear z0 z1 z2 s0 s1 b0 b1 b2 q0 q1 q2
        have HKP : Aside0 (∀ w', Below wq.heap.size wq w' → w'.cell? ⟨wa.heap.size, 2, none⟩ = some (.slice (some ab) T.length co) ∧ w'.cell? ⟨(ap.add (k * 2)).block, (ap.add (k * 2)).off + 1, none⟩ = some (.int .i64 (m : Int)) ∧ w'.cell? (ab.add (m * 3)) = some (.int .i64 b.f0) ∧ w'.cell? ⟨(ab.add (m * 3)).block, (ab.add (m * 3)).off + 1, none⟩ = some (.int .i64 b.f1) ∧ w'.cell? ⟨(ab.add (m * 3)).block, (ab.add (m * 3)).off + 2, none⟩ = some (.int .i64 b.f2) ∧ Below wd.heap.size wd w') := ⟨fun w' hb => ⟨pw_cell_below hb z2', pw_cell_below hb s1', pw_cell_below hb b0', pw_cell_below hb b1', pw_cell_below hb b2', below_then HBq.out HBq.out.size hb⟩⟩
        go_region_held3 (fun w' => w'.cell? ⟨wa.heap.size, 2, none⟩ = some (.slice (some ab) T.length co) ∧ w'.cell? ⟨(ap.add (k * 2)).block, (ap.add (k * 2)).off + 1, none⟩ = some (.int .i64 (m : Int)) ∧ w'.cell? (ab.add (m * 3)) = some (.int .i64 b.f0) ∧ w'.cell? ⟨(ab.add (m * 3)).block, (ab.add (m * 3)).off + 1, none⟩ = some (.int .i64 b.f1) ∧ w'.cell? ⟨(ab.add (m * 3)).block, (ab.add (m * 3)).off + 2, none⟩ = some (.int .i64 b.f2) ∧ Below wd.heap.size wd w')
          (exact HKP.out _ (by repeat (first | exact below_drew (Below.refl _ _) | refine below_drew ?_ | exact Below.refl _ _ | apply below_alloc | refine Below.setCell ?_ (by simp) _)))
          (fail)
        all_goals (go_wp2_with fail)
        go_roundg (p.length - k)
        case measure => omega
        case rel =>
          refine ⟨k + 1, by omega, by omega, ?_, ?_, by go_num, ⟨below_then HBq.out HBq.out.size (by repeat (first | refine below_drew ?_ | exact Below.refl _ _ | apply below_alloc))⟩⟩
          · rw [HD.out, show b.f2 + sumV T D - b.f2 = sumV T D by omega]
          · rw [HD.out, E2.out]
      · have hv : stepV T st = 0 := by unfold stepV; rw [if_neg h1]
        have ha : stepA' T st = 0 := by unfold stepA'; rw [if_neg h1]
        rw [hv, ha, Int.zero_add, Int.zero_add]
        go_wp2_with fail
        go_roundg (p.length - k)
        case measure => omega
        case rel => exact ⟨k + 1, by omega, by omega, by rw [HD.out], by rw [HD.out], by go_num, HB⟩
    · obtain rfl : k = p.length := by omega
      rw [List.drop_length]
      simp only [sumV, sumA, Int.sub_zero]
      have hwh : (Wd : Int) * Ht ≤ 20 * 20 := Int.le_trans (Int.mul_le_mul_of_nonneg_right (show (Wd : Int) ≤ 20 by have := HT.out.wm; omega) (by omega)) (Int.mul_le_mul_of_nonneg_left (show (Ht : Int) ≤ 20 by have := HT.out.hm; omega) (by omega))
      have hWH : 0 ≤ (Wd : Int) * Ht := Int.mul_nonneg (by omega) (by omega)
      have e3 : wrap64 ((Wd : Int) * Ht) = (Wd : Int) * Ht := by generalize (Wd : Int) * Ht = area at *; unfold wrap64; omega
      go_wp2_with (first
        | (go_at_call 19
           (with_reducible refine (awake_any _).mono ?_)
           rintro e we ⟨rfl, hB⟩
           have HB5 := Aside0.mk hB
           clear hB))
      go_ret
      refine ⟨by simp [go_sem], ?_⟩
      have b1 := below_then HB3.out HB3.out.size HB.out
      have b2 := below_then b1 b1.size HB5.out
      exact below_then HB0.out HB0.out.size b2

end Go.Proofs.Ytochbhndeboodaa
