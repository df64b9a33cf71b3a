/- The walk of CarveTimes. -/
import Derived.Test.YtochbhndeboodaaOut
import Derived.Test.YtochbhndeboodaaPlainM
import Derived.Test.YtochbhndeboodaaHelps
import Derived.Deep.RegionHeld3
namespace Go.Proofs.Ytochbhndeboodaa
set_option linter.unusedVariables false
set_option linter.unusedSimpArgs false
open Go.RowKit Go.Proofs.YtochbhndeboodaaW.PrintWords Go.Proofs.YtochbhndeboodaaW.PrintLast Go.Proofs.YtochbhndeboodaaW.PrintMore
open Go.Proofs.Ytochbhndeboodaa.PCarveMore (S52 S56 k52 k56 k52_mkM info52)

theorem take_step (f : S52 → S52) (T : List S52) {k : Nat} (h : k < T.length) : (T.map f).take k ++ [f (blankAt T k)] = (T.map f).take (k + 1) := by
  have hk : k < (T.map f).length := by simpa using h
  rw [List.take_add_one, List.getElem?_eq_getElem hk]
  simp [blankAt, List.getD_eq_getElem?_getD, List.getElem?_eq_getElem h]

set_option maxHeartbeats 1000000 in
set_option maxRecDepth 100000 in
theorem times_any (x y times : Int) (A : Option Addr) (c : Nat) (L : List S52) (w : World) (hr : Kd.C k52 w A L.length L) (hc : L.length ≤ c) :
    Calls Try.prog 10 #[.agg #[.int .i64 x, .int .i64 y, .slice A L.length c], .int .i64 times] w fun e w' => e = .returned (.bool true) ∧ Below w.heap.size w w' := by
  have HR := Aside0.mk hr
  have HC := Aside0.mk hc
  clear hr hc
  have hu24 := Try.underlying24
  have hu52 := Try.underlying52
  have hu22 := Try.underlying22
  go_enter Try.func10, Try.ntmps10
  go_wp2_with (first
    | (go_at_call 25
       go_must (refine (tame_out x y 16 _ _ L _ (Kd.C_alloc HR.out _) HC.out (by decide) (by decide)).mono ?_)
       rintro e wa ⟨Wd, Ht, T, Ao, co, rfl, hT⟩
       have HT := Aside0.mk hT
       have HB0 := Aside0.mk (below_then (below_alloc (Below.refl w.heap.size w) _) (by simp) hT.below)
       clear hT))
  refine (mod_any times 3 _ (by omega) (by omega)).mono ?_
  rintro e wm ⟨rfl, hB⟩
  have hmi := modI_in times (n := 3) (by omega)
  obtain ⟨K, hX⟩ : ∃ K : Nat, modI times 3 = (K : Int) - 1 := ⟨(modI times 3).toNat + 1, by omega⟩
  rw [hX] at hmi ⊢
  clear hX
  have hs : wrap64 (1 + ((K : Int) - 1)) = (K : Int) := by unfold wrap64; omega
  have hs0 : 1 + ((K : Int) - 1) = K := by omega
  have hX := (hB.block wa.heap.size (by simp)).trans (heap_alloc_new wa (.cells #[.int .i64 (Wd : Int), .int .i64 (Ht : Int), .slice Ao T.length co] 24))
  have q0 := (blk_cell hX 0).trans rfl
  have q1 := (blk_cell hX 1).trans rfl
  have q2 := (blk_cell hX 2).trans rfl
  have hlx := blk_lt hX
  have HX := Aside0.mk hX
  have HB1 := Aside0.mk (below_then (below_alloc (Below.refl wa.heap.size wa) _) (by simp) hB)
  clear hX hB
  have hK1 : 1 ≤ K := by omega
  have hK3 : K ≤ 3 := by omega
  have hw1 : K * Wd ≤ 48 := by have := Nat.mul_le_mul hK3 HT.out.wm; omega
  have hw2 : K * Ht ≤ 48 := by have := Nat.mul_le_mul hK3 HT.out.hm; omega
  obtain ⟨KW, hKW⟩ : ∃ KW, KW = K * Wd := ⟨_, rfl⟩
  obtain ⟨KH, hKH⟩ : ∃ KH, KH = K * Ht := ⟨_, rfl⟩
  have hs2 : IntKind.i64.wrap ((K : Int) * Wd) = (KW : Int) := by rw [i64_w, ← Int.natCast_mul, ← hKW]; unfold wrap64; omega
  have hs3 : IntKind.i64.wrap ((K : Int) * Ht) = (KH : Int) := by rw [i64_w, ← Int.natCast_mul, ← hKH]; unfold wrap64; omega
  have HKW := Aside0.mk hKW
  have HKH := Aside0.mk hKH
  rw [← hKW] at hw1
  rw [← hKH] at hw2
  clear hKW hKH
  go_wp2_with fail
  have HKP : Aside0 (∀ w', Below wm.heap.size wm w' → w'.cell? ⟨wa.heap.size, 0, none⟩ = some (.int .i64 (Wd : Int)) ∧ w'.cell? ⟨wa.heap.size, 1, none⟩ = some (.int .i64 (Ht : Int)) ∧ w'.cell? ⟨wa.heap.size, 2, none⟩ = some (.slice Ao T.length co)) := ⟨fun w' hb => ⟨pw_cell_below hb q0, pw_cell_below hb q1, pw_cell_below hb q2⟩⟩
  go_region_held3 (fun w' => w'.cell? ⟨wa.heap.size, 0, none⟩ = some (.int .i64 (Wd : Int)) ∧ w'.cell? ⟨wa.heap.size, 1, none⟩ = some (.int .i64 (Ht : Int)) ∧ w'.cell? ⟨wa.heap.size, 2, none⟩ = some (.slice Ao T.length co))
    (exact HKP.out _ (by repeat (first | exact below_drew (Below.refl _ _) | refine below_drew ?_ | exact Below.refl _ _ | apply below_alloc | refine Below.setCell ?_ (by simp) _)))
    (fail)
  all_goals (go_wp2_with fail)
  have Hgr := Aside0.mk (show ((wm.alloc (.cells #[.int .i64 (Wd : Int), .int .i64 (Ht : Int), .slice none 0 0] 24)).alloc (.cells #[.int .i64 (KW : Int), .int .i64 (KH : Int), .slice none 0 0] 24)).drew.heap[wm.heap.size]? = some (.cells #[.int .i64 (Wd : Int), .int .i64 (Ht : Int), .slice none 0 0] 24) from blk_first wm (.cells #[.int .i64 (Wd : Int), .int .i64 (Ht : Int), .slice none 0 0] 24) (.cells #[.int .i64 (KW : Int), .int .i64 (KH : Int), .slice none 0 0] 24))
  have Hgl := Aside0.mk (show ((wm.alloc (.cells #[.int .i64 (Wd : Int), .int .i64 (Ht : Int), .slice none 0 0] 24)).alloc (.cells #[.int .i64 (KW : Int), .int .i64 (KH : Int), .slice none 0 0] 24)).drew.heap[wm.heap.size + 1]? = some (.cells #[.int .i64 (KW : Int), .int .i64 (KH : Int), .slice none 0 0] 24) from blk_second wm (.cells #[.int .i64 (Wd : Int), .int .i64 (Ht : Int), .slice none 0 0] 24) (.cells #[.int .i64 (KW : Int), .int .i64 (KH : Int), .slice none 0 0] 24))
  have HWm := Aside0.mk (below_drew (below_alloc (below_alloc (Below.refl wm.heap.size wm) (.cells #[.int .i64 (Wd : Int), .int .i64 (Ht : Int), .slice none 0 0] 24)) (.cells #[.int .i64 (KW : Int), .int .i64 (KH : Int), .slice none 0 0] 24)))
  generalize ((wm.alloc (.cells #[.int .i64 (Wd : Int), .int .i64 (Ht : Int), .slice none 0 0] 24)).alloc (.cells #[.int .i64 (KW : Int), .int .i64 (KH : Int), .slice none 0 0] 24)).drew = W0 at Hgr Hgl HWm ⊢
  generalize e1 : wm.heap.size + 1 = gl at Hgl ⊢
  generalize e0 : wm.heap.size = gr at Hgr ⊢
  have hgr : wm.heap.size ≤ gr := by omega
  have hgl : wm.heap.size ≤ gl := by omega
  have hne : gr ≠ gl := by omega
  clear e0 e1
  rotate_left
  have Hgl := Aside0.mk (show ((wm.alloc (.cells #[.int .i64 (KW : Int), .int .i64 (KH : Int), .slice none 0 0] 24)).alloc (.cells #[.int .i64 (Wd : Int), .int .i64 (Ht : Int), .slice none 0 0] 24)).drew.heap[wm.heap.size]? = some (.cells #[.int .i64 (KW : Int), .int .i64 (KH : Int), .slice none 0 0] 24) from blk_first wm (.cells #[.int .i64 (KW : Int), .int .i64 (KH : Int), .slice none 0 0] 24) (.cells #[.int .i64 (Wd : Int), .int .i64 (Ht : Int), .slice none 0 0] 24))
  have Hgr := Aside0.mk (show ((wm.alloc (.cells #[.int .i64 (KW : Int), .int .i64 (KH : Int), .slice none 0 0] 24)).alloc (.cells #[.int .i64 (Wd : Int), .int .i64 (Ht : Int), .slice none 0 0] 24)).drew.heap[wm.heap.size + 1]? = some (.cells #[.int .i64 (Wd : Int), .int .i64 (Ht : Int), .slice none 0 0] 24) from blk_second wm (.cells #[.int .i64 (KW : Int), .int .i64 (KH : Int), .slice none 0 0] 24) (.cells #[.int .i64 (Wd : Int), .int .i64 (Ht : Int), .slice none 0 0] 24))
  have HWm := Aside0.mk (below_drew (below_alloc (below_alloc (Below.refl wm.heap.size wm) (.cells #[.int .i64 (KW : Int), .int .i64 (KH : Int), .slice none 0 0] 24)) (.cells #[.int .i64 (Wd : Int), .int .i64 (Ht : Int), .slice none 0 0] 24)))
  generalize ((wm.alloc (.cells #[.int .i64 (KW : Int), .int .i64 (KH : Int), .slice none 0 0] 24)).alloc (.cells #[.int .i64 (Wd : Int), .int .i64 (Ht : Int), .slice none 0 0] 24)).drew = W0 at Hgr Hgl HWm ⊢
  generalize e1 : wm.heap.size + 1 = gr at Hgr ⊢
  generalize e0 : wm.heap.size = gl at Hgl ⊢
  have hgr : wm.heap.size ≤ gr := by omega
  have hgl : wm.heap.size ≤ gl := by omega
  have hne : gr ≠ gl := by omega
  clear e0 e1
  rotate_left
  all_goals
    clear q0 q1 q2 HKP hmi hs hs0
    have Hne := Aside0.mk hne
    have Hgrl := Aside0.mk hgr
    have Hgll := Aside0.mk hgl
    have HXw := Aside0.mk ((HWm.out.block _ hlx).trans HX.out)
    have Hlx := Aside0.mk hlx
    have HK1 := Aside0.mk hK1
    have HK3 := Aside0.mk hK3
    clear hne hgr hgl hlx hs2 hs3
    have hTn := HT.out.n
    generalize hn : T.length = n at *
    have Hn := Aside0.mk hn
    clear hn
    go_loopg [9] (n + 1) (fun q v9 W => ∃ i : Nat, q + i = n + 1 ∧ i ≤ n ∧ v9 = .int .i64 i ∧ Aside0 (∀ k, k < i → Fine K (blankAt T k)) ∧ ∃ vr vl : Value, Aside0 (Kd.R k52 52 W wm.heap.size (fun _ => True) vr ((richL K T).take i)) ∧ Aside0 (Kd.R k52 52 W wm.heap.size (fun k => True ∧ some k ≠ vr.ownBlock) vl ((largeL K T).take i)) ∧ Aside0 (Below wm.heap.size wm W) ∧ Aside0 (W.heap[gr]? = some (.cells #[.int .i64 Wd, .int .i64 Ht, vr] 24 (0, 0))) ∧ Aside0 (W.heap[gl]? = some (.cells #[.int .i64 KW, .int .i64 KH, vl] 24 (0, 0))))
    case atStart =>
      exact ⟨0, by omega, by omega, rfl, ⟨fun k hk => absurd hk (by omega)⟩, _, _, ⟨Kd.R_nil _ _ _ _ _⟩, ⟨Kd.R_nil _ _ _ _ _⟩, HWm, Hgr, Hgl⟩
    case round =>
      obtain ⟨i, hq, hi, rfl, HF, vr, vl, HOr, HOl, HB, HYr, HYl⟩ := hrel
      have hX := (HB.out.block wa.heap.size Hlx.out).trans HX.out
      have hx0 := (blk_cell hX 0).trans rfl
      have hx1 := (blk_cell hX 1).trans rfl
      have hx2 := (blk_cell hX 2).trans rfl
      have hr0 := (blk_cell HYr.out 0).trans rfl
      have hr1 := (blk_cell HYr.out 1).trans rfl
      have hr2 := (blk_cell HYr.out 2).trans rfl
      have hfr2 := blk_frozen HYr.out 2
      have hglr := blk_lt HYr.out
      have hl0 := (blk_cell HYl.out 0).trans rfl
      have hl1 := (blk_cell HYl.out 1).trans rfl
      have hl2 := (blk_cell HYl.out 2).trans rfl
      have hfl2 := blk_frozen HYl.out 2
      have hgll := blk_lt HYl.out
      have hglx := blk_lt hX
      have HXr := Aside0.mk hX
      clear hX
      by_cases hlt : i < n
      · obtain ⟨ad, rfl, hc0, hc1, hc2⟩ := blank_cells HT.out.cells (below_on HB1.out HB.out) i (by have := Hn.out; omega)
        have hin : (i : Int) < n := by omega
        have hi0 : (0 : Int) ≤ i := by omega
        have hbk := HT.out.ok i (by have := Hn.out; omega)
        have HSr := Aside0.mk (show (richL K T).take i ++ [richB K (blankAt T i)] = (richL K T).take (i + 1) from take_step (richB K) T (k := i) (by have := Hn.out; omega))
        have HSl := Aside0.mk (show (largeL K T).take i ++ [largeB K (blankAt T i)] = (largeL K T).take (i + 1) from take_step (largeB K) T (k := i) (by have := Hn.out; omega))
        have HFi := Aside0.mk (show Fine K (blankAt T i) → ∀ k, k < i + 1 → Fine K (blankAt T k) from fun h k hk => by
          rcases Nat.lt_or_ge k i with h1 | h1
          · exact HF.out k h1
          · obtain rfl : k = i := by omega
            exact h)
        generalize blankAt T i = b at *
        obtain ⟨k1, k2, k3⟩ := hbk
        have k1' := inB_iff.1 k1
        have k2' := inB_iff.1 k2
        have k3' := inB_iff.1 k3
        have E0 : wrap64 (b.f2 * K) = b.f2 * K ∧ wrap64 (b.f0 * K) = b.f0 * K ∧ wrap64 (b.f1 * K) = b.f1 * K := by
          have hK := HK1.out
          have hK' := HK3.out
          obtain rfl | rfl | rfl : K = 1 ∨ K = 2 ∨ K = 3 := by omega
          all_goals unfold wrap64; omega
        obtain ⟨E1, E2, E3⟩ := E0
        have HE := Aside0.mk (show wrap64 ((K : Int) * b.f2) = (K : Int) * b.f2 ∧ wrap64 ((K : Int) * b.f0) = (K : Int) * b.f0 ∧ wrap64 ((K : Int) * b.f1) = (K : Int) * b.f1 from by rw [Int.mul_comm, E1, Int.mul_comm (K : Int) b.f0, E2, Int.mul_comm (K : Int) b.f1, E3]; exact ⟨rfl, rfl, rfl⟩)
        clear k1 k2 k3 k1' k2' k3'
        have hwr : wr.heap.size ≠ gr := by omega
        have hwl : wr.heap.size ≠ gl := by omega
        have hwr' : gr ≠ wr.heap.size := by omega
        have hwl' : gl ≠ wr.heap.size := by omega
        have hgg := Hne.out
        have hgg' := Hne.out.symm
        by_cases hFb : Fine K b
        · obtain ⟨d1, d2, d3⟩ := hFb
          have HFb := Aside0.mk (show Fine K b from ⟨d1, d2, d3⟩)
          have d1' : ¬ 1048576 < b.f2 * K := by omega
          have d2' : ¬ 48 < b.f0 * K := by omega
          have d3' : ¬ 48 < b.f1 * K := by omega
          have HD1 := Aside0.mk d1
          have HD2 := Aside0.mk d2
          have HD3 := Aside0.mk d3
          clear d1 d2 d3
          obtain ⟨m1, m2, m3⟩ := HE.out
          go_wp2_with (first
            | ((with_reducible refine gate_builtin (b := .append) (xs := _) rfl ?_)
               at_builtin
               (refine Kd.R_append k52 (w0 := wm) wm.heap.size rfl (.tmp 64) _ 22 52 (.agg #[(.int .i64 0), (.int .i64 0), (.int .i64 0)]) 24 rfl Try.underlying22 info52 rfl (by decide) (by omega) vr ((richL K T).take i) (richB K b) [.int .i64 b.f0, .int .i64 b.f1, .int .i64 ((K : Int) * b.f2)] (fun _ => True) (fun _ => False) rfl (by simp [go_sem]) ?aP (fun _ hk => hk.elim) (fun _ _ => trivial) ?aO ?aB ?aS ?aL ?_)
               (case aP => exact k52_mkM _ _ _ _)
               (case aO => exact Kd.R_alloc HOr.out _)
               (case aB => exact below_alloc HB.out _)
               (case aS => exact (below_alloc HB.out _).size)
               (case aL => simp; omega)
               intro v1 w1 ho hb hg hat
               rw [HSr.out] at ho
               have HBb := Aside0.mk (blk_grown (heap_alloc_new wr (.cells #[.int .i64 b.f0, .int .i64 b.f1, .int .i64 b.f2] 52)) hg (fun e => by have := Kd.R_lt HOr.out _ e.symm; omega))
               have HYr1 := Aside0.mk (blk_grown (blk_alloc HYr.out _) hg (Kd.R_ne HOr.out HYr.out (by decide)))
               have HYl1 := Aside0.mk (blk_grown (blk_alloc HYl.out _) hg (Kd.R_ne HOr.out HYl.out (by decide)))
               have HOl1 := Aside0.mk (Kd.R_after (Kd.R_alloc HOl.out _) hg hat)
               obtain ⟨T1, hT1⟩ : ∃ T1, T1 = (richL K T).take (i + 1) := ⟨_, rfl⟩
               rw [← hT1] at ho
               have HT1 := Aside0.mk hT1
               clear hT1
               obtain ⟨A1, c1, rfl⟩ := Kd.R_slice ho
               have HOr1 := Aside0.mk ho
               have HB1' := Aside0.mk hb
               have g0 := (blk_cell HBb.out 0).trans rfl
               have g1 := (blk_cell HBb.out 1).trans rfl
               have g2 := (blk_cell HBb.out 2).trans rfl
               have j2 := (blk_cell HYl1.out 2).trans rfl
               have jr2 := (blk_cell HYr1.out 2).trans rfl
               have hfr1 := blk_frozen HYr1.out 2
               have hfl1 := blk_frozen HYl1.out 2
               have hgr1 := blk_lt HYr1.out
               have hgl1 := blk_lt HYl1.out
               have hgb1 := blk_lt HBb.out
               clear ho hb hg hat)
            | ((with_reducible refine gate_builtin (b := .append) (xs := _) rfl ?_)
               at_builtin
               go_must (refine Kd.R_append k52 (w0 := wm) wm.heap.size rfl (.tmp 78) _ 22 52 (.agg #[(.int .i64 0), (.int .i64 0), (.int .i64 0)]) 24 rfl Try.underlying22 info52 rfl (by decide) (by omega) vl ((largeL K T).take i) (largeB K b) [.int .i64 ((K : Int) * b.f0), .int .i64 ((K : Int) * b.f1), .int .i64 b.f2] (fun k => (True ∧ some k ≠ (Value.slice A1 T1.length c1).ownBlock) ∧ k ≠ gr) (fun _ => False) rfl (by simp [go_sem]) ?aP (fun _ hk => hk.elim) ?aF ?aO ?aB ?aS ?aL ?_)
               (case aP => exact k52_mkM _ _ _ _)
               (case aO => exact Kd.R_far (p := ⟨gr, 2, none⟩) (Kd.R_types HOl1.out HYr1.out (by decide)) (fun _ hk => hk.2) _)
               (case aB => exact HB1'.out.setCell Hgrl.out _)
               (case aS => exact (HB1'.out.setCell Hgrl.out _).size)
               (case aL => simp; omega)
               (case aF => exact fun k hk => ⟨⟨trivial, fun e => by have := Kd.R_lt HOr1.out k e.symm; simp at hk; omega⟩, by simp at hk; omega⟩)
               intro w3 v2 ho hb hg hat
               rw [HSl.out] at ho
               have HOr3 := Aside0.mk (Kd.R_grown2 (Kd.R_far (p := ⟨gr, 2, none⟩) (Kd.R_types HOr1.out HYr1.out (by decide)) (fun _ hk => hk.2) _) rfl hg (fun k hk => (HOl1.out.1 k hk).2))
               have HYr3 := Aside0.mk (blk_grown (blk_put HYr1.out 2 (Value.slice A1 T1.length c1) rfl) hg (Kd.R_ne HOl1.out HYr1.out (by decide)))
               have HYl3 := Aside0.mk (blk_grown (blk_far HYl1.out (p := ⟨gr, 2, none⟩) Hne.out.symm (Value.slice A1 T1.length c1)) hg (Kd.R_ne HOl1.out HYl1.out (by decide)))
               obtain ⟨T2, hT2⟩ : ∃ T2, T2 = (largeL K T).take (i + 1) := ⟨_, rfl⟩
               rw [← hT2] at ho
               have HT2 := Aside0.mk hT2
               clear hT2
               obtain ⟨A2, c2, rfl⟩ := Kd.R_slice ho
               have HOl3 := Aside0.mk ho
               have HB3' := Aside0.mk hb
               have e2 := (blk_cell HYl3.out 2).trans rfl
               have hfl3 := blk_frozen HYl3.out 2
               have hgl3 := blk_lt HYl3.out
               clear ho hb hg hat))
          go_roundg (n - i)
          case measure => omega
          case rel =>
            exact ⟨i + 1, by omega, by omega, by go_num, ⟨HFi.out HFb.out⟩, _, _, ⟨HT1.out ▸ Kd.R_mono (Kd.R_far (p := ⟨gl, 2, none⟩) (Kd.R_types HOr3.out HYl3.out (by decide)) (fun _ hk => hk.2) _) (fun _ _ => trivial)⟩, ⟨HT2.out ▸ Kd.R_mono (Kd.R_far (p := ⟨gl, 2, none⟩) (Kd.R_types HOl3.out HYl3.out (by decide)) (fun _ hk => hk.2) _) (fun _ hk => hk.1.1)⟩, ⟨HB3'.out.setCell Hgll.out _⟩, ⟨blk_far HYr3.out (p := ⟨gl, 2, none⟩) Hne.out _⟩, ⟨blk_put HYl3.out 2 _ rfl⟩⟩
        · have HBx := Aside0.mk (below_on HB0.out (below_on HB1.out (below_on HB.out (below_alloc (Below.refl wr.heap.size wr) (.cells #[.int .i64 b.f0, .int .i64 b.f1, .int .i64 b.f2] 52)))))
          by_cases d1 : 1048576 < b.f2 * K
          · go_wp2_with (first
              | (go_at_call 19
                 (with_reducible refine (awake_any _).mono ?_)
                 rintro e w4 ⟨rfl, b4⟩))
            go_ret
            exact ⟨by simp [go_sem], below_on HBx.out b4⟩
          · by_cases d2 : 48 < b.f0 * K
            · go_wp2_with (first
                | (go_at_call 19
                   (with_reducible refine (awake_any _).mono ?_)
                   rintro e w4 ⟨rfl, b4⟩))
              go_ret
              exact ⟨by simp [go_sem], below_on HBx.out b4⟩
            · have d3 : 48 < b.f1 * K := by
                rcases Int.lt_or_le 48 (b.f1 * K) with h | h
                · exact h
                · exact absurd ⟨by omega, by omega, h⟩ hFb
              go_wp2_with (first
                | (go_at_call 19
                   (with_reducible refine (awake_any _).mono ?_)
                   rintro e w4 ⟨rfl, b4⟩))
              go_ret
              exact ⟨by simp [go_sem], below_on HBx.out b4⟩
      · obtain rfl : i = n := by omega
        have hnn : ¬ (i : Int) < i := by omega
        have hrr := HOr.out
        have hll := HOl.out
        rw [List.take_of_length_le (by simp only [richL, List.length_map, Hn.out]; exact Nat.le_refl _)] at hrr
        rw [List.take_of_length_le (by simp only [largeL, List.length_map, Hn.out]; exact Nat.le_refl _)] at hll
        obtain ⟨Ar, cr, rfl, hcr, hCr⟩ := Kd.R_reads hrr
        obtain ⟨Al, cl, rfl, hcl, hCl⟩ := Kd.R_reads hll
        have lr : (richL K T).length = i := by simp only [richL, List.length_map, Hn.out]
        have ll : (largeL K T).length = i := by simp only [largeL, List.length_map, Hn.out]
        have hFF : ∀ k, k < T.length → Fine K (blankAt T k) := fun k hk => HF.out k (by have := Hn.out; omega)
        have hrok := rich_ok HT.out.ok hFF
        have hlok := large_ok HK1.out HT.out.ok hFF
        have e1 := bestV_rich HT.out.ok hFF HT.out.w1 (by have := HT.out.wm; omega) HT.out.h1 (by have := HT.out.hm; omega)
        have e2 := bestV_large (K := K) (by have := HK1.out; have := HK3.out; omega) HT.out.ok hFF HT.out.w1 HT.out.wm HT.out.h1 HT.out.hm
        rw [← HKW.out, ← HKH.out] at e2
        have hCq := Kd.C_below HT.out.cells (below_on HB1.out HB.out)
        have HCO := Aside0.mk (show ∀ W, Below wr.heap.size wr W → Calls Try.prog 27 #[.agg #[.int .i64 (Wd : Int), .int .i64 (Ht : Int), .slice Ao i co]] W fun e w' => e = .returned (.int .i64 (bestV T Wd Ht)) ∧ Below W.heap.size W w' from fun W hW => by
          have h := best_of (c := co) (Kd.C_below hCq hW) HT.out.c HT.out.w1 (by have := HT.out.wm; omega) HT.out.h1 (by have := HT.out.hm; omega) HT.out.n HT.out.ok
          rwa [Hn.out] at h)
        have HCR := Aside0.mk (show ∀ W, Below wr.heap.size wr W → Calls Try.prog 27 #[.agg #[.int .i64 (Wd : Int), .int .i64 (Ht : Int), .slice Ar i cr]] W fun e w' => e = .returned (.int .i64 ((K : Int) * bestV T Wd Ht)) ∧ Below W.heap.size W w' from fun W hW => by
          have h := best_of (c := cr) (Kd.C_below hCr hW) hcr HT.out.w1 (by have := HT.out.wm; omega) HT.out.h1 (by have := HT.out.hm; omega) (by rw [lr]; omega) hrok
          rwa [lr, e1] at h)
        have HCL := Aside0.mk (show ∀ W, Below wr.heap.size wr W → Calls Try.prog 27 #[.agg #[.int .i64 (KW : Int), .int .i64 (KH : Int), .slice Al i cl]] W fun e w' => e = .returned (.int .i64 (bestV T Wd Ht)) ∧ Below W.heap.size W w' from fun W hW => by
          have hp : 1 ≤ KW ∧ 1 ≤ KH := by
            rw [HKW.out, HKH.out]
            exact ⟨Nat.mul_le_mul HK1.out HT.out.w1, Nat.mul_le_mul HK1.out HT.out.h1⟩
          have h := best_of (c := cl) (Kd.C_below hCl hW) hcl hp.1 hw1 hp.2 hw2 (by rw [ll]; omega) hlok
          rwa [ll, e2] at h)
        have hbn := bestV_nonneg HT.out.ok (i := Wd) (j := Ht) (by have := HT.out.wm; omega) (by have := HT.out.hm; omega)
        have hbs := bestV_small HT.out.ok (i := Wd) (j := Ht) (by have := HT.out.wm; omega) (by have := HT.out.hm; omega)
        have HYr' := HYr
        have HYl' := HYl
        rw [lr] at hr2 HYr'
        rw [ll] at hl2 HYl'
        clear hrr hll hcr hcl hCr hCl lr ll hFF hrok hlok e1 e2 hCq HYr HYl HOr HOl
        generalize bestV T Wd Ht = bv at *
        have hkb : wrap64 ((K : Int) * bv) = (K : Int) * bv := by
          have hK := HK1.out
          have hK' := HK3.out
          obtain rfl | rfl | rfl : K = 1 ∨ K = 2 ∨ K = 3 := by omega
          all_goals unfold wrap64; omega
        have HBx := Aside0.mk (below_on HB0.out (below_on HB1.out HB.out))
        go_wp2_with (first
          | (go_at_call 27
             (with_reducible refine (HCO.out _ (Below.refl _ _)).mono ?_)
             rintro e wb ⟨rfl, hB⟩
             have hr0' := (blk_cell ((hB.block _ hglr).trans HYr'.out) 0).trans rfl
             have hr1' := (blk_cell ((hB.block _ hglr).trans HYr'.out) 1).trans rfl
             have hr2' := (blk_cell ((hB.block _ hglr).trans HYr'.out) 2).trans rfl
             have HBb := Aside0.mk hB
             clear hB)
          | (go_at_call 27
             (with_reducible refine (HCR.out _ HBb.out).mono ?_)
             rintro e wc ⟨rfl, hB⟩
             have hB2 := below_on HBb.out hB
             have hl0' := (blk_cell ((hB2.block _ hgll).trans HYl'.out) 0).trans rfl
             have hl1' := (blk_cell ((hB2.block _ hgll).trans HYl'.out) 1).trans rfl
             have hl2' := (blk_cell ((hB2.block _ hgll).trans HYl'.out) 2).trans rfl
             have HBc := Aside0.mk hB2
             clear hB hB2)
          | (go_at_call 27
             (with_reducible refine (HCL.out _ HBc.out).mono ?_)
             rintro e wd ⟨rfl, hB⟩
             have HBd := Aside0.mk (below_on HBc.out hB)
             clear hB)
          | (go_at_call 19
             (with_reducible refine (awake_any _).mono ?_)
             rintro e w4 ⟨rfl, b4⟩))
        go_ret
        exact ⟨by simp [go_sem], below_on (below_on HBx.out HBd.out) b4⟩

end Go.Proofs.Ytochbhndeboodaa
