/- The walk of best: what the best plan of a task is worth. -/
import Derived.Test.YtochbhndeboodaaAwake
namespace Go.Proofs.Ytochbhndeboodaa
set_option linter.unusedVariables false
set_option linter.unusedSimpArgs false
open Go.RowKit Go.Proofs.YtochbhndeboodaaW.PrintWords Go.Proofs.YtochbhndeboodaaW.PrintLast Go.Proofs.YtochbhndeboodaaW.PrintMore
open Go.Proofs.Ytochbhndeboodaa.PCarveMore (S52 S56 k52 k56)

theorem task_of {Wd Ht : Nat} {L : List S52} (hW1 : 1 ≤ Wd) (hW : Wd ≤ 48) (hH1 : 1 ≤ Ht) (hH : Ht ≤ 48) (hl : L.length ≤ 16) (hL : ∀ k, k < L.length → okB (blankAt L k)) : isTask Wd Ht L :=
  ⟨inB_iff.2 (by omega), inB_iff.2 (by omega), hl, hL⟩

theorem rows_cells {w W : World} {A : Option Addr} {b : List (List Int)} {i j : Nat} (h : Kd.C (Kd.slice 3 (Kd.int .i64)) w A b.length b) (hb : Below w.heap.size w W) (hi : i < b.length) (hj : j < (b.getD i []).length) :
    ∃ ad A' c', A = some ad ∧ W.cell? (ad.add i) = some (.slice (some A') (b.getD i []).length c') ∧ W.cell? (A'.add j) = some (.int .i64 (at2 b i j)) := by
  obtain ⟨ad, A0, c0, e, h1, h2, h3⟩ := PCarveMore.at_L4 h (i : Int) (by omega) (by omega)
  rw [rd_len, Int.toNat_natCast] at h1
  rw [show PCarveMore.rd_L4 b (i : Int) = b.getD i [] by simp [PCarveMore.rd_L4]] at h3
  obtain ⟨A', e', h4⟩ := Kd.at_int h3 (j : Int) (by omega) (by omega)
  subst e'
  rw [Int.toNat_natCast] at h4
  refine ⟨ad, A', c0, e, pw_cell_below hb h1, ?_⟩
  have h5 := pw_cell_below hb h4
  rw [h5]
  simp [rd, at2]

set_option maxHeartbeats 4000000 in
set_option maxRecDepth 100000 in
theorem best_val (Wd Ht : Nat) (A : Option Addr) (c : Nat) (L : List S52) (w : World) (hr : Kd.C k52 w A L.length L) (hc : L.length ≤ c) (ht : isTask Wd Ht L) :
    Calls Try.prog 27 #[.agg #[.int .i64 Wd, .int .i64 Ht, .slice A L.length c]] w fun e w' => e = .returned (.int .i64 (bestV L Wd Ht)) ∧ Below w.heap.size w w' := by
  obtain ⟨w1, w48⟩ := inB_iff.1 ht.1
  obtain ⟨h1, h48⟩ := inB_iff.1 ht.2.1
  obtain ⟨ar, hread⟩ := plan_read ht.2.2.2 (w := Wd) (h := Ht) (by omega) (by omega) (by omega) (by omega)
  have HRD := Aside0.mk hread
  have HR := Aside0.mk hr
  have HC := Aside0.mk hc
  have HT := Aside0.mk ht
  clear hr hc ht hread
  have hu24 := Try.underlying24
  go_enter Try.func27, Try.ntmps27
  go_wp2_with (first
    | (go_at_call 14
       go_must (refine (best_rd (L := L) (Kd.C_alloc HR.out _) HC.out HT.out rfl rfl).mono ?_)
       rintro e wa ⟨Ap, cp, Ab, cb, rfl, hp, hb, hcb, hB⟩
       have hX := (hB.block w.heap.size (by simp)).trans (heap_alloc_new w (.cells #[.int .i64 (Wd : Int), .int .i64 (Ht : Int), .slice A L.length c] 24))
       have q0 := (blk_cell hX 0).trans rfl
       have q1 := (blk_cell hX 1).trans rfl
       have q2 := (blk_cell hX 2).trans rfl
       have HX := Aside0.mk hX
       have HP := Aside0.mk hp
       have HBd := Aside0.mk hb
       have HCB := Aside0.mk hcb
       have HB := Aside0.mk (below_then (below_alloc (Below.refl w.heap.size w) _) (by simp) hB)
       clear hp hb hcb hB hX)
    | (go_at_call 16
       go_must (refine (worth_is (Kd.C_below HR.out HB.out) HP.out HT.out HRD.out).mono ?_)
       rintro e wb ⟨rfl, hB⟩
       have hX := (hB.block w.heap.size (blk_lt HX.out)).trans HX.out
       have q0 := (blk_cell hX 0).trans rfl
       have q1 := (blk_cell hX 1).trans rfl
       have q2 := (blk_cell hX 2).trans rfl
       have HX := Aside0.mk hX
       have HBe := Aside0.mk (Kd.C_below HBd.out hB)
       have HB3 := Aside0.mk hB
       have HB2 := Aside0.mk (below_then HB.out HB.out.size hB)
       clear hB hX))
  have hRl := rowsOf_length (fillP L Wd Ht) Ht (Wd + 1)
  have hRr := len_rowsOf (fillP L Wd Ht) Wd Ht Wd (Nat.le_refl _)
  obtain ⟨ad, A', c', rfl, r0, r1⟩ := rows_cells (i := Wd) (j := Ht) HBe.out (Below.refl _ _) (by omega) (by omega)
  rw [hRr] at r0
  rw [at2_rowsOf _ _ _ _ _ (Nat.le_refl _) (Nat.le_refl _)] at r1
  have hBN := bound_rowsOf HT.out.2.2.2 (w := Wd) (h := Ht) (by omega) (by omega)
  have HBN := Aside0.mk hBN
  clear hBN hRr
  rw [show (fillP L Wd Ht).T Wd Ht = bestV L Wd Ht from rfl] at r1
  generalize rowsOf (fillP L Wd Ht) Ht (Wd + 1) = R at *
  generalize hbv : bestV L Wd Ht = bv at *
  have HBV := Aside0.mk hbv
  clear hbv
  rw [hRl]
  have HRl := Aside0.mk hRl
  clear hRl
  have s1 : IntKind.i64.wrap ((Wd : Int) + 1) = (Wd : Int) + 1 := by rw [i64_w]; unfold wrap64; omega
  have s2 : IntKind.i64.wrap ((Ht : Int) + 1) = (Ht : Int) + 1 := by rw [i64_w]; unfold wrap64; omega
  have hi1 : (Wd : Int) < (Wd : Int) + 1 := by omega
  have hi2 : (Ht : Int) < (Ht : Int) + 1 := by omega
  have hi3 : ¬ (Wd : Int) < 0 := by omega
  have hi4 : ¬ (Ht : Int) < 0 := by omega
  go_still_tail 47, (by kernel_rfl)
  change wpList _ _ _ _ _ wb.drew
  have HRq := Aside0.mk (Kd.C_below (Kd.C_below (Kd.C_below HR.out HB.out) HB3.out) (below_drew (Below.refl wb.heap.size wb)))
  have HBq := Aside0.mk (Kd.C_below HBe.out (below_drew (Below.refl wb.heap.size wb)))
  have HBZ := Aside0.mk (below_drew HB2.out)
  clear q0 q1 q2 r0 r1 HX HBe HB HB2 HB3 HR HP HBd
  generalize wb.drew = wq at HRq HBq HBZ ⊢
  have hck := check_is (a0 := (Wd : Int)) (a1 := (Ht : Int)) (c := c) HRq.out HC.out HBq.out (by have := HCB.out; have := HRl.out; omega) HT.out (by rw [Int.toNat_natCast, Int.toNat_natCast]; exact HBN.out)
  rw [HRl.out] at hck
  have HCK := Aside0.mk hck
  clear hck
  go_wp2_with (first
    | (go_at_call 18
       go_must (with_reducible refine HCK.out.mono ?_)
       rintro e wd ⟨rfl, hB⟩
       have HB4 := Aside0.mk hB
       clear hB))
  go_ret
  exact ⟨by rw [HBV.out]; simp [go_sem], below_then HBZ.out HBZ.out.size HB4.out⟩

end Go.Proofs.Ytochbhndeboodaa
