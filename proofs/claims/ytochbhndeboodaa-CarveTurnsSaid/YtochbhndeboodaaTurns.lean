/- The walk of CarveTurns. -/
import Derived.Test.YtochbhndeboodaaOut
namespace Go.Proofs.Ytochbhndeboodaa
set_option linter.unusedVariables false
set_option linter.unusedSimpArgs false
open Go.RowKit Go.Proofs.YtochbhndeboodaaW.PrintWords Go.Proofs.YtochbhndeboodaaW.PrintLast Go.Proofs.YtochbhndeboodaaW.PrintMore
open Go.Proofs.Ytochbhndeboodaa.PCarveMore (S52 S56 k52 k56 k52_mkM info52)

theorem alloc_second (w : World) (o1 o2 : Obj) : ((w.alloc o1).alloc o2).heap[w.heap.size + 1]? = some o2 := by
  have h := heap_alloc_new (w.alloc o1) o2
  rwa [show (w.alloc o1).heap.size = w.heap.size + 1 by simp] at h
theorem alloc_first (w : World) (o1 o2 : Obj) : ((w.alloc o1).alloc o2).heap[w.heap.size]? = some o1 := (Below.heap_alloc _ _ _ (by simp)).trans (heap_alloc_new w o1)
theorem turn_step (T : List S52) {k j : Nat} (h : k + 1 + j = T.length) : (turnL T).take k ++ [(⟨(blankAt T j).f1, (blankAt T j).f0, (blankAt T j).f2⟩ : S52)] = (turnL T).take (k + 1) := by
  have hk : k < (turnL T).length := by rw [turnL_length]; omega
  rw [List.take_add_one, List.getElem?_eq_getElem hk]
  have e := turnL_at T (k := k) (by omega)
  rw [show T.length - 1 - k = j by omega] at e
  have e2 : blankAt (turnL T) k = (turnL T)[k] := by simp [blankAt, List.getD_eq_getElem?_getD, List.getElem?_eq_getElem hk]
  rw [← e2, e]
  rfl

set_option maxHeartbeats 1000000 in
set_option maxRecDepth 100000 in
theorem turns_any (x y : Int) (A : Option Addr) (c : Nat) (L : List S52) (w : World) (hr : Kd.C k52 w A L.length L) (hc : L.length ≤ c) :
    Calls Try.prog 8 #[.agg #[.int .i64 x, .int .i64 y, .slice A L.length c]] w fun e w' => e = .returned (.bool true) ∧ Below w.heap.size w w' := by
  have HR := Aside0.mk hr
  have HC := Aside0.mk hc
  clear hr hc
  have hu24 := Try.underlying24
  have hu52 := Try.underlying52
  have hu22 := Try.underlying22
  go_enter Try.func8, Try.ntmps8
  go_wp2_with (first
    | (go_at_call 25
       go_must (refine (tame_out x y 20 _ _ L _ (Kd.C_alloc HR.out _) HC.out (by decide) (by decide)).mono ?_)
       rintro e wa ⟨Wd, Ht, T, Ao, co, rfl, hT⟩
       have HT := Aside0.mk hT
       clear hT))
  have hTn := HT.out.n
  generalize hn : T.length = n at *
  have Hn := Aside0.mk hn
  clear hn
  have hs : wrap64 ((n : Int) - 1) = (n : Int) - 1 := by unfold wrap64; omega
  rw [hs]
  clear hs
  have HB0 := Aside0.mk (below_then (below_alloc (Below.refl w.heap.size w) _) (by simp) HT.out.below)
  go_loopg [5] (n + 1) (fun q v5 W => ∃ k : Nat, q + k = n + 1 ∧ k ≤ n ∧ v5 = .int .i64 ((n : Int) - 1 - k) ∧ ∃ v : Value, Aside0 (Kd.R k52 52 W wa.heap.size (fun _ => True) v ((turnL T).take k)) ∧ Aside0 (Below wa.heap.size wa W) ∧ Aside0 (W.heap[wa.heap.size]? = some (.cells #[.int .i64 Wd, .int .i64 Ht, .slice Ao n co] 24 (0, 0))) ∧ Aside0 (W.heap[wa.heap.size + 1]? = some (.cells #[.int .i64 Ht, .int .i64 Wd, v] 24 (0, 0))))
  case atStart =>
    exact ⟨0, by omega, by omega, by simp, _, ⟨Kd.R_nil _ _ _ _ _⟩, ⟨below_alloc (below_alloc (Below.refl _ _) _) _⟩, ⟨alloc_first _ _ _⟩, ⟨alloc_second _ _ _⟩⟩
  case round =>
    obtain ⟨k, hq, hk, rfl, v, HO, HB, HX, HY⟩ := hrel
    have hx0 := (blk_cell HX.out 0).trans rfl
    have hx1 := (blk_cell HX.out 1).trans rfl
    have hx2 := (blk_cell HX.out 2).trans rfl
    have hy0 := (blk_cell HY.out 0).trans rfl
    have hy1 := (blk_cell HY.out 1).trans rfl
    have hy2 := (blk_cell HY.out 2).trans rfl
    have hfy2 := blk_frozen HY.out 2
    have hgl := blk_lt HY.out
    have hgl0 := blk_lt HX.out
    by_cases hlt : k < n
    · obtain ⟨j, hj⟩ : ∃ j, k + 1 + j = n := ⟨n - k - 1, by omega⟩
      have ej : (n : Int) - 1 - k = (j : Int) := by omega
      rw [ej]
      obtain ⟨ad, rfl, hc0, hc1, hc2⟩ := blank_cells HT.out.cells HB.out j (by have := Hn.out; omega)
      have hjn : (j : Int) < n := by omega
      have hj0 : (0 : Int) ≤ j := by omega
      go_wp2_with (first
        | ((with_reducible refine gate_builtin (b := .append) (xs := _) rfl ?_)
           at_builtin
           go_must (refine Kd.R_append k52 (w0 := wa) wa.heap.size rfl _ _ 22 52 (.agg #[(.int .i64 0), (.int .i64 0), (.int .i64 0)]) 24 rfl Try.underlying22 info52 rfl (by decide) (by omega) v ((turnL T).take k) (⟨(blankAt T j).f1, (blankAt T j).f0, (blankAt T j).f2⟩ : S52) [.int .i64 (blankAt T j).f1, .int .i64 (blankAt T j).f0, .int .i64 (blankAt T j).f2] (fun _ => True) (fun _ => False) rfl (by simp [go_sem]) ?aP (fun _ hk => hk.elim) (fun _ _ => trivial) ?aO ?aB ?aS ?aL ?_)
           (case aP => exact k52_mkM _ _ _ _)
           (case aO => exact Kd.R_alloc HO.out _)
           (case aB => exact below_alloc HB.out _)
           (case aS => exact (below_alloc HB.out _).size)
           (case aL => simp; omega)
           intro v1 w1 ho hb hg hat
           rw [turn_step T (by rw [Hn.out]; omega)] at ho
           have hY1 := blk_grown (blk_alloc HY.out _) hg (Kd.R_ne HO.out HY.out (by decide))
           have hX1 := blk_grown (blk_alloc HX.out _) hg (Kd.R_ne HO.out HX.out (by decide))
           obtain ⟨T1, hT1⟩ : ∃ T1, T1 = (turnL T).take (k + 1) := ⟨_, rfl⟩
           rw [← hT1] at ho
           have HT1 := Aside0.mk hT1
           clear hT1
           obtain ⟨A1, c1, rfl⟩ := Kd.R_slice ho
           have hz2 := (blk_cell hY1 2).trans rfl
           have hfz2 := blk_frozen hY1 2
           have HY1 := Aside0.mk hY1
           have HX1 := Aside0.mk hX1
           have HO1 := Aside0.mk ho
           have HB1 := Aside0.mk hb
           clear hY1 hX1 ho hb hg hat))
      go_roundg (n - k)
      case measure => omega
      case rel =>
        exact ⟨k + 1, by omega, by omega, by go_num, _, ⟨HT1.out ▸ Kd.R_mono (Kd.R_far (p := ⟨wa.heap.size + 1, 2, none⟩) (Kd.R_types HO1.out HY1.out (by decide)) (fun _ hk => hk.2) _) (fun _ _ => trivial)⟩, ⟨HB1.out.setCell (by simp) _⟩, ⟨blk_far HX1.out (by simp) _⟩, ⟨blk_put HY1.out 2 _ rfl⟩⟩
    · obtain rfl : k = n := by omega
      have ej : (k : Int) - 1 - k = -1 := by omega
      rw [ej]
      have HOr := HO.out
      rw [List.take_of_length_le (by rw [turnL_length, Hn.out]; exact Nat.le_refl _)] at HOr
      obtain ⟨Ap, cp, rfl, hcp, hCp⟩ := Kd.R_reads HOr
      have hml : (turnL T).length = k := by rw [turnL_length, Hn.out]
      have hCq := Kd.C_below HT.out.cells HB.out
      have h1 := best_of (c := co) hCq HT.out.c HT.out.w1 (by have := HT.out.wm; omega) HT.out.h1 (by have := HT.out.hm; omega) HT.out.n HT.out.ok
      rw [Hn.out] at h1
      have H1 := Aside0.mk h1
      have h2 : ∀ wb, Below wr.heap.size wr wb → Calls Try.prog 27 #[.agg #[.int .i64 (Ht : Int), .int .i64 (Wd : Int), .slice Ap k cp]] wb fun e w' => e = .returned (.int .i64 (bestV T Wd Ht)) ∧ Below wb.heap.size wb w' := fun wb hb => by
        have h := best_of (c := cp) (Kd.C_below hCp hb) hcp HT.out.h1 (by have := HT.out.hm; omega) HT.out.w1 (by have := HT.out.wm; omega) (by rw [turnL_length]; exact HT.out.n) (turnL_ok HT.out.ok)
        rwa [hml, bestV_turn HT.out.ok (by have := HT.out.wm; omega) (by have := HT.out.hm; omega)] at h
      have H2 := Aside0.mk h2
      have hYr := HY.out
      rw [hml] at hYr
      have HYr := Aside0.mk hYr
      have HN := Aside0.mk (bestV_nonneg HT.out.ok (i := Wd) (j := Ht) (by have := HT.out.wm; omega) (by have := HT.out.hm; omega))
      rw [hml] at hy2
      clear hml h1 h2 hcp hCp hCq HOr HO hYr HY
      generalize bestV T Wd Ht = bv at *
      have hbv := HN.out
      go_wp2_with (first
        | (go_at_call 27
           (with_reducible refine H1.out.mono ?_)
           rintro e wb ⟨rfl, hB⟩
           have hY1 := (hB.block _ hgl).trans HYr.out
           have hz0 := (blk_cell hY1 0).trans rfl
           have hz1 := (blk_cell hY1 1).trans rfl
           have hz2 := (blk_cell hY1 2).trans rfl
           have H2b := Aside0.mk (H2.out _ hB)
           have HB1 := Aside0.mk hB
           clear hY1 hB)
        | (go_at_call 27
           (with_reducible refine H2b.out.mono ?_)
           rintro e wc ⟨rfl, hB⟩
           have HB2 := Aside0.mk hB
           clear hB)
        | (go_at_call 19
           (with_reducible refine (awake_any _).mono ?_)
           rintro e wd ⟨rfl, hB⟩
           have HB3 := Aside0.mk hB
           clear hB))
      go_ret
      refine ⟨by simp [go_sem], ?_⟩
      have b1 := below_then HB0.out (Nat.le_trans HB0.out.size (Nat.le_refl _)) HB.out
      have b2 := below_then b1 b1.size HB1.out
      have b3 := below_then b2 b2.size HB2.out
      exact below_then b3 b3.size HB3.out

end Go.Proofs.Ytochbhndeboodaa
