/- The walk of table: a copy of the first rows of a table, each of them cut. -/
import Derived.Test.YtochbhndeboodaaBest
import Derived.Test.YtochbhndeboodaaPlainD
import Derived.StillTailTactics
namespace Go.Proofs.Ytochbhndeboodaa
set_option linter.unusedVariables false
set_option linter.unusedSimpArgs false
open Go.RowKit Go.Proofs.YtochbhndeboodaaW.PrintWords Go.Proofs.YtochbhndeboodaaW.PrintLast Go.Proofs.YtochbhndeboodaaW.PrintMore
open Go.Proofs.Ytochbhndeboodaa.PCarveMore (S52 S56 k52 k56)
attribute [local go_sem] max2_int min2_int max_two min_two max_three min_three max_four min_four   -- for this text's walks alone

theorem row_full {w : World} {ad : Addr} {b : List (List Int)} (h : Kd.C (Kd.slice 3 (Kd.int .i64)) w (some ad) b.length b) (i : Nat) (hi : i < b.length) :
    ∃ Ai ci, (b.getD i []).length ≤ ci ∧ ∀ W, Below w.heap.size w W → W.cell? (ad.add i) = some (.slice Ai (b.getD i []).length ci) ∧ Kd.C (Kd.int .i64) W Ai (b.getD i []).length (b.getD i []) := by
  obtain ⟨ad', A0, c0, e, h1, h2, h3⟩ := PCarveMore.at_L4 h (i : Int) (by omega) (by omega)
  cases e
  rw [rd_len] at h1 h2
  rw [Int.toNat_natCast] at h1
  rw [show PCarveMore.rd_L4 b (i : Int) = b.getD i [] by simp [PCarveMore.rd_L4]] at h3
  exact ⟨A0, c0, h2, fun W hW => ⟨pw_cell_below hW h1, Kd.C_below h3 hW⟩⟩

def cutT (b : List (List Int)) (i : Nat) : List (List Int) := (b.take i).map (fun r => r.take 50)
theorem cutT_succ (b : List (List Int)) {i : Nat} (hi : i < b.length) : cutT b i ++ [(b.getD i []).take 50] = cutT b (i + 1) := by
  unfold cutT
  have h : (b.map (fun r => r.take 50))[i]? = some ((b.getD i []).take 50) := by
    rw [List.getElem?_map, List.getD_eq_getElem?_getD, List.getElem?_eq_getElem hi]
    rfl
  rw [List.map_take, List.map_take, List.take_add_one (l := b.map (fun r => r.take 50)), h]
  rfl
theorem cutT_length (b : List (List Int)) {i : Nat} (hi : i ≤ b.length) : (cutT b i).length = i := by simp [cutT]; omega
theorem cutT_all (b : List (List Int)) {i : Nat} (h1 : i ≤ 50) (h2 : i ≤ b.length) (h3 : i = 50 ∨ i = b.length) : cutT b i = cutT b 50 := by
  rcases h3 with rfl | rfl
  · rfl
  · unfold cutT
    rw [List.take_of_length_le (Nat.le_refl _), List.take_of_length_le h1]
theorem inf3' : (Try.prog.info? 3).map (fun i => (i.zero, i.size, i.bytes)) = some (some (.int .i64 0), 1, 8) := by kernel_rfl

set_option maxHeartbeats 4000000 in
set_option maxRecDepth 100000 in
theorem table_any {A : Option Addr} {c : Nat} {b : List (List Int)} {w : World} (hr : Kd.C (Kd.slice 3 (Kd.int .i64)) w A b.length b) (hc : b.length ≤ c) :
    Calls Try.prog 24 #[.slice A b.length c] w fun e w' => ∃ v, e = .returned v ∧ Kd.S (Kd.slice 3 (Kd.int .i64)) 39 w' w.heap.size (fun _ => True) v (cutT b 50) ∧ Below w.heap.size w w' := by
  have hbm := Kd.C_max hr
  have HR := Aside0.mk hr
  clear hr
  go_enter Try.func24, Try.ntmps24
  go_wp2_with fail
  go_loopg [3, 4] (b.length + 1) (fun q v3 v4 W => ∃ i : Nat, q + i = b.length + 1 ∧ i ≤ b.length ∧ i ≤ 50 ∧ v4 = .int .i64 (i : Int) ∧ Aside0 (Kd.S (Kd.slice 3 (Kd.int .i64)) 39 W w.heap.size (fun _ => True) v3 (cutT b i)) ∧ Aside0 (Below w.heap.size w W))
  case atStart => exact ⟨0, by omega, by omega, by omega, rfl, ⟨Kd.S_nil _ _ _ _ _⟩, ⟨Below.refl _ _⟩⟩
  case round =>
    obtain ⟨i, hq, hi, hi2, rfl, HS, HB⟩ := hrel
    by_cases hlt : i < b.length
    · have hli : (i : Int) < (b.length : Int) := by omega
      have hi0 : (0 : Int) ≤ (i : Int) := by omega
      by_cases h50 : i < 50
      · have h50' : (i : Int) < 50 := by omega
        obtain ⟨ad, rfl, hcl⟩ := HR.out.2.2 (by omega)
        clear hcl
        obtain ⟨Ai, ci, hci, hrow⟩ := row_full HR.out i hlt
        obtain ⟨c0, hC⟩ := hrow _ HB.out
        have HRow := Aside0.mk hrow
        have HSU := Aside0.mk (cutT_succ b hlt)
        have HLN := Aside0.mk (cutT_length b (i := i) (by omega))
        generalize b.getD i [] = r at *
        obtain ⟨ji, hji⟩ : ∃ ji : Int, mn (r.length : Int) 50 = ji := ⟨_, rfl⟩
        have hj0 : 0 ≤ ji := by rw [← hji]; unfold mn; split <;> omega
        have hj1 : ji ≤ (r.length : Int) := by rw [← hji]; unfold mn; split <;> omega
        have hj2 : ji ≤ 50 := by rw [← hji]; unfold mn; split <;> omega
        have hj3 : r.take ji.toNat = r.take 50 := by
          by_cases h : (50 : Int) < (r.length : Int)
          · have : ji = 50 := by rw [← hji]; unfold mn; split <;> omega
            rw [this]
            rfl
          · have : ji = (r.length : Int) := by rw [← hji]; unfold mn; split <;> omega
            rw [this, Int.toNat_natCast, List.take_of_length_le (Nat.le_refl _), List.take_of_length_le (show r.length ≤ 50 by omega)]
        have hji_ : (if 50 < (r.length : Int) then 50 else (r.length : Int)) = ji := hji
        obtain ⟨i06, hi06, _, hsz6, _⟩ := info_parts inf3'
        have hcut := cut_to (P := Try.prog) 39 3 .i64 Try.underlying39 hi06 Ai r.length ci ji hj0 hj1 hci
        have hr6 := Kd.C_take (m := ji.toNat) hC (by omega)
        have hy6 : (r.take 50).length = ji.toNat := by rw [← hj3, List.length_take]; omega
        rw [hj3] at hr6
        obtain ⟨r5, hr5⟩ : ∃ r5, r5 = r.take 50 := ⟨_, rfl⟩
        rw [← hr5] at hr6 hy6 HSU
        rw [← hy6] at hcut
        have HRO := Aside0.mk hr6
        have HL5 := Aside0.mk (show r5.length ≤ 50 by omega)
        clear hr5
        obtain ⟨A0, c3, rfl⟩ := Kd.S_slice HS.out
        clear hr6 hC hi06 hsz6 hji hj3 hrow hy6
        go_wp2_with fail
        go_still_tail 12, (by kernel_rfl)
        have HBq := Aside0.mk (below_drew HB.out)
        have HSq := Aside0.mk (Kd.S_below HS.out (below_drew (Below.refl wr.heap.size wr)))
        have HRq := Aside0.mk (Kd.C_below HRO.out (below_drew (Below.refl wr.heap.size wr)))
        clear c0 hcut HS HRO HRow HB
        change wpList _ _ _ _ _ wr.drew
        generalize wr.drew = wq at HBq HSq HRq ⊢
        generalize hrows : cutT b i = rows at *
        have HRS := Aside0.mk hrows
        clear hrows
        go_wp2_with (first
          | ((with_reducible refine gate_builtin (b := .append) (xs := _) rfl ?_)
             at_builtin
             (refine Kd.R_append_rows (Kd.int .i64) (w0 := wq) wq.heap.size rfl (.tmp 16) (.tmp 27) 39 3 (.int .i64 0) 8 rfl Try.underlying39 inf3' rfl (by decide) (by decide) _ [] r5 _ _ _ (fun k => wq.heap.size ≤ k) (fun _ => False) rfl rfl (Kd.R_nil _ _ _ _ _) HRq.out (fun x cs h => h) (fun _ h => h.elim) (fun k hk => hk) (Below.refl _ _) (Nat.le_refl _) (by have := HL5.out; simp; omega) ?_)
             intro v1 w1' hR1 hb1 hq1 hq2
             clear hq1 hq2
             simp only [List.nil_append] at hR1
             obtain ⟨A1, c1, rfl⟩ := Kd.R_slice hR1
             have HR1 := Aside0.mk hR1
             have HB1 := Aside0.mk hb1
             clear hR1 hb1)
          | ((with_reducible refine gate_builtin (b := .append) (xs := _) rfl ?_)
             at_builtin
             (refine Kd.S_append (Kd.slice 3 (Kd.int .i64)) (w0 := w) w.heap.size rfl (.tmp 29) (.tmp 31) 27 39 (.slice none 0 0) 24 rfl Try.underlying27 inf39 rfl (by decide) (by decide) _ rows r5 [.slice A1 r5.length c1] (fun _ => True) (fun k => wq.heap.size ≤ k) rfl rfl ⟨_, rfl, Kd.R_lower HR1.out HBq.out.size⟩ (fun k hk => ⟨trivial, fun e => by have := Kd.S_lt HSq.out k e.symm; omega⟩) (fun _ _ => trivial) (Kd.S_below (Kd.S_mono (Kd.S_bound HSq.out) (fun k hk => ⟨trivial, by omega⟩)) HB1.out) (HBq.out.trans (HB1.out.mono HBq.out.size)) (Nat.le_trans HBq.out.size HB1.out.size) (by have := HLN.out; omega) ?_)
             intro v2 w2' hS2 hb2 hq1 hq2
             clear hq1 hq2
             have HS2 := Aside0.mk hS2
             have HB2 := Aside0.mk hb2
             clear hS2 hb2))
        go_roundg (b.length - i)
        case measure => omega
        case rel => exact ⟨i + 1, by omega, by omega, by omega, by go_num, ⟨by rw [← HSU.out]; exact HS2.out⟩, HB2⟩
      · obtain rfl : i = 50 := by omega
        go_wp2_with fail
        go_ret
        refine ⟨_, ?_, HS.out, HB.out⟩
        simp [go_sem]
    · obtain rfl : i = b.length := by omega
      go_wp2_with fail
      go_ret
      have h := HS.out
      rw [cutT_all b hi2 (Nat.le_refl _) (.inr rfl)] at h
      refine ⟨_, ?_, h, HB.out⟩
      simp [go_sem]

end Go.Proofs.Ytochbhndeboodaa
