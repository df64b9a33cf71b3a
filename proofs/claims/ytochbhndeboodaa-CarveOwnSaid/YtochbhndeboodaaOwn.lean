/- The walk of CarveOwn. -/
import Derived.Test.YtochbhndeboodaaOut
import Derived.Test.YtochbhndeboodaaSteps
import Derived.Deep.RegionHeld3
import Derived.StillTactics
namespace Go.Proofs.Ytochbhndeboodaa
set_option linter.unusedVariables false
set_option linter.unusedSimpArgs false
open Go.RowKit Go.Proofs.YtochbhndeboodaaW.PrintWords Go.Proofs.YtochbhndeboodaaW.PrintLast Go.Proofs.YtochbhndeboodaaW.PrintMore
open Go.Proofs.Ytochbhndeboodaa.PCarveMore (S52 S56 k52 k56)

theorem below_on {w a b : World} (h : Below w.heap.size w a) (hb : Below a.heap.size a b) : Below w.heap.size w b := below_then h h.size hb
theorem blk_keep {W w' : World} {g : Nat} {o : Obj} (h : W.heap[g]? = some o) (b : Below W.heap.size W w') : w'.heap[g]? = some o := (b.block _ (blk_lt h)).trans h

/-- A table of one's own: each row lies in a block of ints, from B on. -/
def RowsIn (W : World) (B gb n m : Nat) : Prop :=
  ∃ co, W.heap[gb]? = some (.cells co 39 (0, 0)) ∧ ∀ i, i < n → ∃ g c cur, co[i]? = some (.slice (some ⟨g, 0, none⟩) m c) ∧ B ≤ g ∧ W.heap[g]? = some (.cells cur 3 (0, 0)) ∧ m ≤ cur.size
theorem RowsIn.set {W : World} {B gb n m : Nat} (h : RowsIn W B gb n m) {g k : Nat} {cs : Array Value} {t : TypeId} (hp : W.heap[g]? = some (.cells cs t (0, 0))) (ht : t ≠ 39) (u : Value) : RowsIn (W.setCell ⟨g, k, none⟩ u) B gb n m := by
  obtain ⟨co, h1, h2⟩ := h
  have hne : gb ≠ g := fun e => by
    subst e
    rw [h1] at hp
    simp at hp
    exact ht hp.2.symm
  refine ⟨co, blk_far h1 hne u, fun i hi => ?_⟩
  obtain ⟨g', c, cur, a, b, d, e⟩ := h2 i hi
  by_cases hg : g' = g
  · subst hg
    exact ⟨g', c, _, a, b, blk_set d k u, by simpa using e⟩
  · exact ⟨g', c, cur, a, b, blk_far d hg u, e⟩
theorem RowsIn.below {W W' : World} {B gb n m : Nat} (h : RowsIn W B gb n m) (hb : Below W.heap.size W W') : RowsIn W' B gb n m := by
  obtain ⟨co, h1, h2⟩ := h
  refine ⟨co, blk_keep h1 hb, fun i hi => ?_⟩
  obtain ⟨g', c, cur, a, b, d, e⟩ := h2 i hi
  exact ⟨g', c, cur, a, b, blk_keep d hb, e⟩

theorem rows_in {W : World} {base : Nat} {v : Value} {xs : List (List Int)} {n m : Nat} (h : Kd.S (Kd.slice 3 (Kd.int .i64)) 39 W base (fun _ => True) v xs) (hn : xs.length = n) (hm : ∀ i, i < n → (xs.getD i []).length = m) (hm0 : 0 < m) (hn0 : 0 < n) :
    ∃ gb c, v = .slice (some ⟨gb, 0, none⟩) n c ∧ base ≤ gb ∧ RowsIn W base gb n m := by
  obtain ⟨_, inner, ho, hr⟩ := Kd.S_R h
  obtain ⟨hl, hcase⟩ := ho
  rcases hcase with ⟨_, h0⟩ | ⟨g, cap, cur, rfl, hb, hh, hnc, hcm, hcs, ht⟩
  · omega
  refine ⟨g, cap, by rw [hn], hb, cur, hh, fun i hi => ?_⟩
  have hxi : xs[i]? = some (xs.getD i []) := by
    rw [List.getD_eq_getElem?_getD, List.getElem?_eq_getElem (by omega)]
    rfl
  obtain ⟨v, hv, hR⟩ := hr.2 i _ hxi
  have hv1 : (inner.drop (i * 1)).take 1 = [v] := hv
  obtain ⟨inn, hl2, hcase2⟩ := Kd.R_own hR
  rcases hcase2 with ⟨_, h0⟩ | ⟨g', cap', cur', rfl, hb', hh', hnc', hcm', hcs', ht'⟩
  · have := hm i hi
    omega
  · have hmi := hm i hi
    rw [hmi] at hv1 hnc'
    refine ⟨g', cap', cur', ?_, hb', hh', ?_⟩
    · have h1 : inner[i]? = some (.slice (some ⟨g', 0, none⟩) m cap') := by
        have h2 : ((inner.drop (i * 1)).take 1)[0]? = some (.slice (some ⟨g', 0, none⟩) m cap') := by rw [hv1]; rfl
        simpa using h2
      rw [← ht] at h1
      have h3 : i < xs.length * (Kd.slice 3 (Kd.int .i64)).sz := by
        show i < xs.length * 1
        omega
      rw [List.getElem?_take_of_lt h3] at h1
      simpa using h1
    · rw [hcs']
      show m ≤ cap' * 1
      omega
theorem planP_pos (t : Tab) (n i j : Nat) : 0 < (planP t (n + 1) i j).length := by
  unfold planP
  split
  · simp
  · split <;> simp

theorem block_in {W : World} {base : Nat} {v : Value} {p : List S56} (h : Kd.R k56 56 W base (fun _ => True) v p) (hp : 0 < p.length) :
    ∃ g c cur, v = .slice (some ⟨g, 0, none⟩) p.length c ∧ base ≤ g ∧ W.heap[g]? = some (.cells cur 56 (0, 0)) ∧ p.length * 2 ≤ cur.size := by
  obtain ⟨inner, hl, hcase⟩ := Kd.R_own h
  rcases hcase with ⟨_, h0⟩ | ⟨g, cap, cur, rfl, hb, hh, hnc, hcm, hcs, ht⟩
  · omega
  · refine ⟨g, cap, cur, rfl, hb, hh, ?_⟩
    rw [hcs]
    exact Nat.mul_le_mul_right _ hnc

set_option maxHeartbeats 4000000 in
set_option maxRecDepth 100000 in
theorem own_any (x y : Int) (A : Option Addr) (c : Nat) (L : List S52) (w : World) (hr : Kd.C k52 w A L.length L) (hc : L.length ≤ c) :
    Calls Try.prog 12 #[.agg #[.int .i64 x, .int .i64 y, .slice A L.length c]] w fun e w' => e = .returned (.bool true) ∧ Below w.heap.size w w' := by
  have HR := Aside0.mk hr
  have HC := Aside0.mk hc
  clear hr hc
  have hu24 := Try.underlying24
  have hu52 := Try.underlying52
  have hu56 := Try.underlying56
  have hu22 := Try.underlying22
  go_enter Try.func12, Try.ntmps12
  go_wp2_with (first
    | (go_at_call 25
       go_must (refine (tame_out x y 12 _ _ L _ (Kd.C_alloc HR.out _) HC.out (by decide) (by decide)).mono ?_)
       rintro e wa ⟨Wd, Ht, T, Ao, co, rfl, hT⟩
       have HT := Aside0.mk hT
       have HB0 := Aside0.mk (below_then (below_alloc (Below.refl w.heap.size w) _) (by simp) hT.below)
       clear hT)
    | (go_at_call 13
       go_must (refine (blanks_all (Kd.C_alloc HT.out.cells _) HT.out.c).mono ?_)
       rintro e wb ⟨vb, rfl, hvb, hB⟩
       rw [List.take_of_length_le (show T.length ≤ 17 by have := HT.out.n; omega)] at hvb
       have hX := (hB.block wa.heap.size (by simp)).trans (heap_alloc_new wa (.cells #[.int .i64 (Wd : Int), .int .i64 (Ht : Int), .slice Ao T.length co] 24))
       have HX := Aside0.mk hX
       have q0 := (blk_cell hX 0).trans rfl
       have q1 := (blk_cell hX 1).trans rfl
       have q2 := (blk_cell hX 2).trans rfl
       have hlx := blk_lt hX
       obtain ⟨Ac, cc, rfl, hcc, hCc⟩ := Kd.R_reads hvb
       have HCC := Aside0.mk hCc
       have HCO := Aside0.mk (Kd.C_below (Kd.C_alloc HT.out.cells _) hB)
       have HB1 := Aside0.mk (below_then (below_alloc (Below.refl wa.heap.size wa) _) (by simp) hB)
       clear hX hvb hCc hcc hB)
    | (go_at_call 14
       go_must (refine (best_ok (Wd : Int) (Ht : Int) Wd Ht Ao co T _ HCO.out HT.out.c (task_of HT.out.w1 (by have := HT.out.wm; omega) HT.out.h1 (by have := HT.out.hm; omega) HT.out.n HT.out.ok) rfl rfl).mono ?_)
       rintro e wc ⟨pv, bv, rfl, hp, hb, hB⟩
       have hX := (hB.block wa.heap.size hlx).trans HX.out
       have q0' := (blk_cell hX 0).trans rfl
       have q1' := (blk_cell hX 1).trans rfl
       have q2' := (blk_cell hX 2).trans rfl
       have hlx' := blk_lt hX
       have HP := Aside0.mk hp
       have HBD := Aside0.mk hb
       have HBc := Aside0.mk hB
       clear hX hp hb hB)
    | (go_at_call 27
       go_must (refine (best_of (Kd.C_below HCO.out HBc.out) HT.out.c HT.out.w1 (by have := HT.out.wm; omega) HT.out.h1 (by have := HT.out.hm; omega) HT.out.n HT.out.ok).mono ?_)
       rintro e wd ⟨rfl, hB⟩
       have HBd := Aside0.mk hB
       clear hB))
  obtain ⟨Hr1, Hr2⟩ : (∀ i, i < Wd + 1 → ((rowsOf (fillP T Wd Ht) Ht (Wd + 1)).getD i []).length = Ht + 1) ∧ (rowsOf (fillP T Wd Ht) Ht (Wd + 1)).length = Wd + 1 := ⟨fun i hi => len_rowsOf (fillP T Wd Ht) Wd Ht i (by omega), rowsOf_length (fillP T Wd Ht) Ht (Wd + 1)⟩
  obtain ⟨gb, cb, rfl, hgb, hrows⟩ := rows_in HBD.out Hr2 Hr1 (by omega) (by omega)
  have hpp : 0 < (planP (fillP T Wd Ht) (Wd + Ht) Wd Ht).length := by
    obtain ⟨n, hn⟩ : ∃ n, Wd + Ht = n + 1 := ⟨Wd + Ht - 1, by have := HT.out.w1; omega⟩
    rw [hn]
    exact planP_pos _ _ _ _
  have hple : (planP (fillP T Wd Ht) (Wd + Ht) Wd Ht).length ≤ 4607 := planP_len' (cuts_fillP T Wd Ht) (by have := HT.out.wm; omega) (by have := HT.out.hm; omega) (Wd + Ht) Wd Ht HT.out.w1 (Nat.le_refl _) HT.out.h1 (Nat.le_refl _)
  obtain ⟨gp, cp, pcur, rfl, hgp, hpb, hps⟩ := block_in HP.out hpp
  generalize (planP (fillP T Wd Ht) (Wd + Ht) Wd Ht).length = n at *
  have HRI := Aside0.mk (hrows.below HBd.out)
  have HPB := Aside0.mk (show ∃ cur, wd.heap[gp]? = some (.cells cur 56 (0, 0)) ∧ n * 2 ≤ cur.size from ⟨pcur, blk_keep hpb HBd.out, hps⟩)
  have HBD2 := Aside0.mk (below_on HBc.out HBd.out)
  have Hgp := Aside0.mk hgp
  have Hgb := Aside0.mk hgb
  have HBV := Aside0.mk (bestV_nonneg HT.out.ok (i := Wd) (j := Ht) (by have := HT.out.wm; omega) (by have := HT.out.hm; omega))
  have hCO := HCO
  have HCW := Aside0.mk (show ∀ W, Below wb.heap.size wb W → Calls Try.prog 27 #[.agg #[.int .i64 (Wd : Int), .int .i64 (Ht : Int), .slice Ao T.length co]] W fun e w' => e = .returned (.int .i64 (bestV T Wd Ht)) ∧ Below W.heap.size W w' from fun W hW => best_of (Kd.C_below HCO.out hW) HT.out.c HT.out.w1 (by have := HT.out.wm; omega) HT.out.h1 (by have := HT.out.hm; omega) HT.out.n HT.out.ok)
  generalize bestV T Wd Ht = bv at *
  have hbv := HBV.out
  clear hrows hpb hps Hr1 hgp hgb HBD HP q0 q1 q2 q0' q1' q2' hlx' hpp
  clear Hr2
  go_loopg [9] (n + 1) (fun q v9 W => ∃ k : Nat, q + k = n + 1 ∧ k ≤ n ∧ v9 = .int .i64 (k : Int) ∧ Aside0 (Below wb.heap.size wb W) ∧ Aside0 (RowsIn W wb.heap.size gb (Wd + 1) (Ht + 1)) ∧ Aside0 (∃ cur, W.heap[gp]? = some (.cells cur 56 (0, 0)) ∧ n * 2 ≤ cur.size))
  case atStart => exact ⟨0, by omega, by omega, rfl, HBD2, HRI, HPB⟩
  case round =>
    obtain ⟨k, hq, hk, rfl, HB, HRW, HPW⟩ := hrel
    by_cases hlt : k < n
    · have hki : (k : Int) < (n : Int) := by omega
      have hk0 : (0 : Int) ≤ (k : Int) := by omega
      obtain ⟨cur, hcur, hsz⟩ := HPW.out
      have HCU := Aside0.mk hcur
      have e0 : k * 2 < cur.size := by omega
      have e1 : k * 2 + 1 < cur.size := by omega
      have c0 := (blk_cell hcur (k * 2)).trans (Array.getElem?_eq_getElem e0)
      have c1 := (blk_cell hcur (k * 2 + 1)).trans (Array.getElem?_eq_getElem e1)
      have f0 := blk_frozen hcur (k * 2)
      have f1 := blk_frozen hcur (k * 2 + 1)
      have hgl := blk_lt hcur
      generalize cur[k * 2] = u0 at c0
      generalize cur[k * 2 + 1] = u1 at c1
      have HSZ := Aside0.mk hsz
      clear hcur hsz e0 e1
      go_wp2_with fail
      go_roundg (n - k)
      case measure => omega
      case rel =>
        refine ⟨k + 1, by omega, by omega, by go_num, ⟨(HB.out.setCell Hgp.out _).setCell Hgp.out _⟩, ⟨(HRW.out.set HCU.out (by decide) _).set (blk_set HCU.out _ _) (by decide) _⟩, ⟨_, blk_set (blk_set HCU.out _ _) _ _, by have := HSZ.out; simpa using this⟩⟩
    · obtain rfl : k = n := by omega
      clear HPW HRI HPB
      go_wp2_with fail
      have hw12 := HT.out.wm
      have hh12 := HT.out.hm
      go_loopg [10] (Wd + 2) (fun q v10 W => ∃ i : Nat, q + i = Wd + 2 ∧ i ≤ Wd + 1 ∧ v10 = .int .i64 (i : Int) ∧ Aside0 (Below wb.heap.size wb W) ∧ Aside0 (RowsIn W wb.heap.size gb (Wd + 1) (Ht + 1)))
      case atStart => exact ⟨0, by omega, by omega, rfl, HB, HRW⟩
      case round =>
        clear HB HRW
        obtain ⟨i, hqi, hi, rfl, HB, HRW⟩ := hrel
        by_cases hlt : i < Wd + 1
        · have hii : (i : Int) < (Wd : Int) + 1 := by omega
          have hi0 : (0 : Int) ≤ (i : Int) := by omega
          go_wp2_with fail
          go_loopg [11] (Ht + 2) (fun q v11 W => ∃ j : Nat, q + j = Ht + 2 ∧ j ≤ Ht + 1 ∧ v11 = .int .i64 (j : Int) ∧ Aside0 (Below wb.heap.size wb W) ∧ Aside0 (RowsIn W wb.heap.size gb (Wd + 1) (Ht + 1)))
          case atStart => exact ⟨0, by omega, by omega, rfl, HB, HRW⟩
          case round =>
            clear HB HRW
            obtain ⟨j, hqj, hj, rfl, HB, HRW⟩ := hrel
            obtain ⟨oc, hoc, hrow⟩ := HRW.out
            obtain ⟨g, cg, cur, hoi, hBg, hcur, hsz⟩ := hrow i hlt
            have o0 := (blk_cell hoc i).trans hoi
            clear hrow hoc hoi
            by_cases hltj : j < Ht + 1
            · have hji : (j : Int) < (Ht : Int) + 1 := by omega
              have hj0 : (0 : Int) ≤ (j : Int) := by omega
              have e0 : j < cur.size := by omega
              have c0 := (blk_cell hcur j).trans (Array.getElem?_eq_getElem e0)
              have f0 := blk_frozen hcur j
              have hgl := blk_lt hcur
              have HCU := Aside0.mk hcur
              have HBG := Aside0.mk hBg
              generalize cur[j] = u0 at c0
              clear hcur hsz e0 hBg
              go_wp2_with fail
              go_roundg (Ht + 1 - j)
              case measure => omega
              case rel => exact ⟨j + 1, by omega, by omega, by go_num, ⟨HB.out.setCell HBG.out _⟩, ⟨HRW.out.set HCU.out (by decide) _⟩⟩
            · obtain rfl : j = Ht + 1 := by omega
              clear hcur hsz hBg
              go_wp2_with fail
              go_roundg (Wd + 1 - i)
              case measure => omega
              case rel => exact ⟨i + 1, by omega, by omega, by go_num, HB, HRW⟩
        · obtain rfl : i = Wd + 1 := by omega
          go_wp2_with fail
          have hTn := HT.out.n
          go_loopg [12] (T.length + 1) (fun q v12 W => ∃ m : Nat, q + m = T.length + 1 ∧ m ≤ T.length ∧ v12 = .int .i64 (m : Int) ∧ Aside0 (Below wb.heap.size wb W))
          case atStart => exact ⟨0, by omega, by omega, rfl, HB⟩
          case round =>
            clear HB HRW
            obtain ⟨m, hqm, hm, rfl, HB⟩ := hrel
            have hX := blk_keep HX.out HB.out
            have z0 := (blk_cell hX 0).trans rfl
            have z1 := (blk_cell hX 1).trans rfl
            have z2 := (blk_cell hX 2).trans rfl
            have hlx2 := blk_lt hX
            clear hX
            by_cases hltm : m < T.length
            · obtain ⟨ac, rfl, a0, a1, a2⟩ := blank_cells HCC.out HB.out m hltm
              obtain ⟨ao, rfl, b0, b1, b2⟩ := blank_cells HCO.out HB.out m hltm
              have hmi : (m : Int) < (T.length : Int) := by omega
              have hm0 : (0 : Int) ≤ (m : Int) := by omega
              generalize blankAt T m = bl at *
              go_wp2_with fail
              go_still (by kernel_rfl)
              have HBq := Aside0.mk (below_drew HB.out)
              change Exit.then _ _ _ _ wr.drew
              generalize wr.drew = wq at HBq ⊢
              go_wp2_with fail
              go_roundg (T.length - m)
              case measure => omega
              case rel => exact ⟨m + 1, by omega, by omega, by go_num, HBq⟩
            · obtain rfl : m = T.length := by omega
              have HBx := Aside0.mk (below_on HB0.out (below_on HB1.out HB.out))
              go_wp2_with (first
                | (go_at_call 27
                   (with_reducible refine (HCW.out _ HB.out).mono ?_)
                   rintro e we ⟨rfl, b4⟩)
                | (go_at_call 19
                   (with_reducible refine (awake_any _).mono ?_)
                   rintro e wf ⟨rfl, b5⟩))
              go_ret
              exact ⟨by simp [go_sem], below_on (below_on HBx.out b4) b5⟩

end Go.Proofs.Ytochbhndeboodaa
