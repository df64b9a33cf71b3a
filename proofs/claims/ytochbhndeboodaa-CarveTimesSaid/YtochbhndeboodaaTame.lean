/- The walk of tame, by hand: a valid task made from any task. -/
import Derived.Test.YtochbhndeboodaaPlainI
import Derived.Test.YtochbhndeboodaaTbl
import Derived.WalkSpells
import Derived.Deep.RegionLaw
namespace Go.Proofs.Ytochbhndeboodaa
set_option linter.unusedVariables false
set_option linter.unusedSimpArgs false
open Go.RowKit Go.Proofs.YtochbhndeboodaaW.PrintWords Go.Proofs.YtochbhndeboodaaW.PrintLast Go.Proofs.YtochbhndeboodaaW.PrintMore
open Go.Proofs.Ytochbhndeboodaa.PCarveMore (S52 k52 k52_mkM info52)

/-- What tame answers. -/
def TamePost (x y m : Int) (L : List S52) (w : World) (e : Ending) (w' : World) : Prop :=
  ∃ v : Value, e = .returned (.agg #[.int .i64 (tN m x), .int .i64 (tN m y), v]) ∧ Kd.R k52 52 w' w.heap.size (fun _ => True) v (tL L) ∧ Below w.heap.size w w'
theorem tm_mod (x n : Int) (w : World) (h : 0 < n) (h2 : n ≤ 1000000) : Calls Try.prog 26 #[.int .i64 x, .int .i64 n] w fun e w' => e = .returned (.int .i64 (modI x n)) ∧ Below w.heap.size w w' :=
  (PCarveMore.silversidelaw02_mod.calls x n _ w (mod_eq x h h2)).mono fun _ _ h => ⟨h.1, h.2.below⟩
theorem tm_on {w a b : World} (h : Below w.heap.size w a) (hb : Below a.heap.size a b) : Below w.heap.size w b := below_then h h.size hb
theorem tm_keep {W w' : World} {g : Nat} {o : Obj} (h : W.heap[g]? = some o) (b : Below W.heap.size W w') : w'.heap[g]? = some o := (b.block _ (blk_lt h)).trans h
theorem tm_two (w : World) (o1 o2 : Obj) : ((w.alloc o1).alloc o2).heap[w.heap.size + 1]? = some o2 := by
  have h := heap_alloc_new (w.alloc o1) o2
  rwa [show (w.alloc o1).heap.size = w.heap.size + 1 by simp] at h
theorem tm_three (w : World) (o1 o2 o3 : Obj) : (((w.alloc o1).alloc o2).alloc o3).heap[w.heap.size + 1 + 1]? = some o3 := by
  have h := tm_two (w.alloc o1) o2 o3
  rwa [show (w.alloc o1).heap.size = w.heap.size + 1 by simp] at h
/-- The test of tame, as one Boolean. -/
def tOut (m x : Int) : Bool := decide (x < 1 ∨ m < x)
theorem tN_yes {m x : Int} (hm : 0 < m) (hm2 : m ≤ 1000) (h : tOut m x = true) : tN m x = wrap64 (1 + modI x m) := by
  have hi := modI_in x hm
  unfold tN
  rw [if_pos (of_decide_eq_true h)]
  unfold wrap64
  omega
theorem tN_no {m x : Int} (h : tOut m x = false) : tN m x = x := if_neg (of_decide_eq_false h)

theorem tL_step (L : List S52) {i : Nat} (h : i < min 16 L.length) : (tL L).take i ++ [tB (blankAt L i)] = (tL L).take (i + 1) := by
  have hi : i < (tL L).length := by rw [tL_length]; exact h
  have hl : i < L.length := by omega
  rw [List.take_add_one, List.getElem?_eq_getElem hi]
  simp [tL, blankAt, List.getD_eq_getElem?_getD, List.getElem?_eq_getElem hl]
/-- ref.Task of one blank. -/
theorem tm_task {b : S52} {W : World} {g : Nat} (h : W.heap[g]? = some (.cells #[.int .i64 b.f0, .int .i64 b.f1, .int .i64 b.f2] 52 (0, 0))) :
    Calls Try.prog 15 #[.int .i64 1, .int .i64 1, .slice (some ⟨g, 0, none⟩) 1 1] W fun e w' => e = .returned (.bool (decide (okB b))) ∧ Below W.heap.size W w' := by
  have hr : Kd.C k52 W (some ⟨g, 0, none⟩) [b].length [b] := by
    refine ⟨rfl, by simp, fun _ => ⟨_, rfl, fun j p hj => ?_⟩⟩
    match j, hj with
    | 0, hj =>
      obtain rfl : b = p := by simpa using hj
      refine ⟨_, rfl, PCarveMore.k52_mk _ _, fun i u hu => ?_⟩
      rw [add_plain]
      match i, hu with
      | 0, hu => rw [← hu]; exact blk_cell h 0
      | 1, hu => rw [← hu]; exact blk_cell h 1
      | 2, hu => rw [← hu]; exact blk_cell h 2
  rcases task_tells 20 (Nat.le_refl _) 1 1 [b] with ⟨h1, ht⟩ | ⟨h1, ht⟩
  · refine (PCarveMore.silversideref02_Task.calls 20 1 1 _ 1 [b] true W hr (by simp) h1).mono fun e w' he => ⟨?_, he.2.below⟩
    rw [decide_eq_true ((one_task b).1 ht)]
    exact he.1
  · refine (PCarveMore.silversideref02_Task.calls 20 1 1 _ 1 [b] false W hr (by simp) h1).mono fun e w' he => ⟨?_, he.2.below⟩
    rw [decide_eq_false (fun q => ht ((one_task b).2 q))]
    exact he.1

set_option maxHeartbeats 1000000 in
set_option maxRecDepth 100000 in
theorem tame_any (x y m : Int) (A : Option Addr) (c : Nat) (L : List S52) (w : World) (hr : Kd.C k52 w A L.length L) (hc : L.length ≤ c) (hm : 0 < m) (hm2 : m ≤ 1000) :
    Calls Try.prog 25 #[.agg #[.int .i64 x, .int .i64 y, .slice A L.length c], .int .i64 m] w (TamePost x y m L w) := by
  have HR := Aside0.mk hr
  have HC := Aside0.mk hc
  have HM := Aside0.mk hm
  have HM2 := Aside0.mk hm2
  clear hr hc hm hm2
  have hu24 := Try.underlying24
  have hu52 := Try.underlying52
  have hu22 := Try.underlying22
  go_enter Try.func25, Try.ntmps25
  go_upto_region 2 with (fail)
  have HT := Aside0.mk (show (((w.alloc (.cells #[.int .i64 x, .int .i64 y, .slice A L.length c] 24)).alloc (.cells #[.int .i64 0, .int .i64 0, .slice none 0 0] 24)).alloc (.cells #[.int .i64 x, .int .i64 y, .slice none 0 0] 24)).heap[w.heap.size]? = some (.cells #[.int .i64 x, .int .i64 y, .slice A L.length c] 24 (0, 0)) from blk_alloc (blk_alloc (heap_alloc_new w _) _) _)
  have HZ := Aside0.mk (show (((w.alloc (.cells #[.int .i64 x, .int .i64 y, .slice A L.length c] 24)).alloc (.cells #[.int .i64 0, .int .i64 0, .slice none 0 0] 24)).alloc (.cells #[.int .i64 x, .int .i64 y, .slice none 0 0] 24)).heap[w.heap.size + 1]? = some (.cells #[.int .i64 0, .int .i64 0, .slice none 0 0] 24 (0, 0)) from blk_alloc (tm_two w _ _) _)
  have HO := Aside0.mk (show (((w.alloc (.cells #[.int .i64 x, .int .i64 y, .slice A L.length c] 24)).alloc (.cells #[.int .i64 0, .int .i64 0, .slice none 0 0] 24)).alloc (.cells #[.int .i64 x, .int .i64 y, .slice none 0 0] 24)).heap[w.heap.size + 1 + 1]? = some (.cells #[.int .i64 x, .int .i64 y, .slice none 0 0] 24 (0, 0)) from tm_three w _ _ _)
  have HB := Aside0.mk (show Below w.heap.size w (((w.alloc (.cells #[.int .i64 x, .int .i64 y, .slice A L.length c] 24)).alloc (.cells #[.int .i64 0, .int .i64 0, .slice none 0 0] 24)).alloc (.cells #[.int .i64 x, .int .i64 y, .slice none 0 0] 24)) from below_alloc (below_alloc (below_alloc (Below.refl _ _) _) _) _)
  generalize (((w.alloc (.cells #[.int .i64 x, .int .i64 y, .slice A L.length c] 24)).alloc (.cells #[.int .i64 0, .int .i64 0, .slice none 0 0] 24)).alloc (.cells #[.int .i64 x, .int .i64 y, .slice none 0 0] 24)) = W0 at HT HZ HO HB ⊢
  generalize e2 : w.heap.size + 1 + 1 = g2 at HO ⊢
  generalize e1 : w.heap.size + 1 = g1 at HZ ⊢
  have G1 := Aside0.mk (show w.heap.size ≤ g1 by omega)
  have G2 := Aside0.mk (show w.heap.size ≤ g2 by omega)
  have N12 := Aside0.mk (show g1 ≠ g2 by omega)
  have N02 := Aside0.mk (show w.heap.size ≠ g2 by omega)
  have N01 := Aside0.mk (show w.heap.size ≠ g1 by omega)
  clear e1 e2
  generalize e0 : w.heap.size = g0 at HT N02 N01 ⊢
  have ho0 := (blk_cell HO.out 0).trans rfl
  have ho1 := (blk_cell HO.out 1).trans rfl
  go_cut [21] (fun v21 wq => v21 = .bool (tOut m x) ∧ wq = W0)
  case first =>
    by_cases h1 : x < 1
    · go_wp2_with fail
      go_meet
      case rel => exact ⟨by rw [show tOut m x = true from decide_eq_true (by omega)], rfl⟩
    · by_cases h2 : m < x
      · go_wp2_with fail
        go_meet
        case rel => exact ⟨by rw [show tOut m x = true from decide_eq_true (by omega)], rfl⟩
      · go_wp2_with fail
        go_meet
        case rel => exact ⟨by rw [show tOut m x = false from decide_eq_false (by omega)], rfl⟩
  case rest =>
    obtain ⟨rfl, rfl⟩ := hcut
    clear ho0 ho1
    go_upto_if 21 with (fail)
    go_cut [] (fun wc => Aside0 (wc.heap[g0]? = some (.cells #[.int .i64 x, .int .i64 y, .slice A L.length c] 24 (0, 0))) ∧ Aside0 (wc.heap[g1]? = some (.cells #[.int .i64 0, .int .i64 0, .slice none 0 0] 24 (0, 0))) ∧ Aside0 (wc.heap[g2]? = some (.cells #[.int .i64 (tN m x), .int .i64 y, .slice none 0 0] 24 (0, 0))) ∧ Aside0 (Below w.heap.size w wc))
    case first =>
      by_cases h : tOut m x = true
      · rw [h]
        have ht := tN_yes HM.out HM2.out h
        have ht0 := (blk_cell HT.out 0).trans rfl
        go_wp2_with (first
          | (go_at_call 26
             refine (tm_mod x m _ HM.out (by have := HM2.out; omega)).mono ?_
             rintro e wm ⟨rfl, hB⟩
             have HO1 := Aside0.mk (tm_keep HO.out hB)
             have HT1 := Aside0.mk (tm_keep HT.out hB)
             have HZ1 := Aside0.mk (tm_keep HZ.out hB)
             have HB1 := Aside0.mk (tm_on HB.out hB)
             have hc := (blk_cell HO1.out 0).trans rfl
             have hf := blk_frozen HO1.out 0
             clear hB))
        go_meet
        case rel => exact ⟨⟨blk_far HT1.out N02.out _⟩, ⟨blk_far HZ1.out N12.out _⟩, ⟨by rw [ht]; exact blk_put HO1.out 0 _ rfl⟩, ⟨HB1.out.setCell G2.out _⟩⟩
      · have h' : tOut m x = false := by simpa using h
        rw [h']
        have ht := tN_no h'
        go_wp2_with fail
        go_meet
        case rel => exact ⟨HT, HZ, by rw [ht]; exact HO, HB⟩
    case rest =>
      clear HT HZ HO HB
      obtain ⟨HT, HZ, HO, HB⟩ := hcut
      go_upto_region 4 with (fail)
      have ho0 := (blk_cell HO.out 0).trans rfl
      have ho1 := (blk_cell HO.out 1).trans rfl
      go_cut [36] (fun v36 wq => v36 = .bool (tOut m y) ∧ wq = wc)
      case first =>
        by_cases h1 : y < 1
        · go_wp2_with fail
          go_meet
          case rel => exact ⟨by rw [show tOut m y = true from decide_eq_true (by omega)], rfl⟩
        · by_cases h2 : m < y
          · go_wp2_with fail
            go_meet
            case rel => exact ⟨by rw [show tOut m y = true from decide_eq_true (by omega)], rfl⟩
          · go_wp2_with fail
            go_meet
            case rel => exact ⟨by rw [show tOut m y = false from decide_eq_false (by omega)], rfl⟩
      case rest =>
        obtain ⟨rfl, rfl⟩ := hcut
        clear ho0 ho1
        go_upto_if 36 with (fail)
        go_cut [] (fun wc => Aside0 (wc.heap[g0]? = some (.cells #[.int .i64 x, .int .i64 y, .slice A L.length c] 24 (0, 0))) ∧ Aside0 (wc.heap[g1]? = some (.cells #[.int .i64 0, .int .i64 0, .slice none 0 0] 24 (0, 0))) ∧ Aside0 (wc.heap[g2]? = some (.cells #[.int .i64 (tN m x), .int .i64 (tN m y), .slice none 0 0] 24 (0, 0))) ∧ Aside0 (Below w.heap.size w wc))
        case first =>
          by_cases h : tOut m y = true
          · rw [h]
            have ht := tN_yes HM.out HM2.out h
            have ht0 := (blk_cell HT.out 1).trans rfl
            go_wp2_with (first
              | (go_at_call 26
                 refine (tm_mod y m _ HM.out (by have := HM2.out; omega)).mono ?_
                 rintro e wm ⟨rfl, hB⟩
                 have HO1 := Aside0.mk (tm_keep HO.out hB)
                 have HT1 := Aside0.mk (tm_keep HT.out hB)
                 have HZ1 := Aside0.mk (tm_keep HZ.out hB)
                 have HB1 := Aside0.mk (tm_on HB.out hB)
                 have hc := (blk_cell HO1.out 1).trans rfl
                 have hf := blk_frozen HO1.out 1
                 clear hB))
            go_meet
            case rel => exact ⟨⟨blk_far HT1.out N02.out _⟩, ⟨blk_far HZ1.out N12.out _⟩, ⟨by rw [ht]; exact blk_put HO1.out 1 _ rfl⟩, ⟨HB1.out.setCell G2.out _⟩⟩
          · have h' : tOut m y = false := by simpa using h
            rw [h']
            have ht := tN_no h'
            go_wp2_with fail
            go_meet
            case rel => exact ⟨HT, HZ, by rw [ht]; exact HO, HB⟩
        case rest =>
          clear HT HZ HO HB
          obtain ⟨HT, HZ, HO, HB⟩ := hcut
          generalize hX : tN m x = X at HO ⊢
          generalize hY : tN m y = Y at HO ⊢
          have HX := Aside0.mk hX
          have HY := Aside0.mk hY
          clear hX hY e0
          obtain ⟨N, hN⟩ : ∃ N, N = min 16 L.length := ⟨_, rfl⟩
          have HN := Aside0.mk hN
          clear hN
          go_wp2_with fail
          go_loopg [6] (N + 1) (fun q v6 W => ∃ i : Nat, q + i = N + 1 ∧ i ≤ N ∧ v6 = .int .i64 i ∧ ∃ v : Value, Aside0 (Kd.R k52 52 W w.heap.size (fun _ => True) v ((tL L).take i)) ∧ Aside0 (W.heap[g0]? = some (.cells #[.int .i64 x, .int .i64 y, .slice A L.length c] 24 (0, 0))) ∧ Aside0 (W.heap[g1]? = some (.cells #[.int .i64 0, .int .i64 0, .slice none 0 0] 24 (0, 0))) ∧ Aside0 (W.heap[g2]? = some (.cells #[.int .i64 X, .int .i64 Y, v] 24 (0, 0))) ∧ Aside0 (Below w.heap.size w W))
          case atStart =>
            exact ⟨0, by omega, by omega, rfl, _, ⟨Kd.R_nil _ _ _ _ _⟩, HT, HZ, HO, HB⟩
          case round =>
            clear HT HZ HO HB
            obtain ⟨i, hq, hi, rfl, v, HOv, HT, HZ, HO, HB⟩ := hrel
            have ht2 := (blk_cell HT.out 2).trans rfl
            by_cases hlt : i < N
            · have hil : (i : Int) < (L.length : Int) := by have := HN.out; omega
              have hi16 : (i : Int) < 16 := by have := HN.out; omega
              have hi0 : (0 : Int) ≤ i := by omega
              obtain ⟨ad, rfl, hc0, hc1, hc2⟩ := blank_cells HR.out HB.out i (by have := HN.out; omega)
              have HS := Aside0.mk (tL_step L (i := i) (by have := HN.out; omega))
              generalize blankAt L i = b at hc0 hc1 hc2 HS
              go_upto_region 10 with (fail)
              generalize hg : wr.heap.size = gb
              have HK := Aside0.mk (show (wr.alloc (.cells #[.int .i64 b.f0, .int .i64 b.f1, .int .i64 b.f2] 52)).heap[gb]? = some (.cells #[.int .i64 b.f0, .int .i64 b.f1, .int .i64 b.f2] 52 (0, 0)) from hg ▸ heap_alloc_new wr _)
              have HT1 := Aside0.mk (blk_alloc HT.out (.cells #[.int .i64 b.f0, .int .i64 b.f1, .int .i64 b.f2] 52))
              have HZ1 := Aside0.mk (blk_alloc HZ.out (.cells #[.int .i64 b.f0, .int .i64 b.f1, .int .i64 b.f2] 52))
              have HO1 := Aside0.mk (blk_alloc HO.out (.cells #[.int .i64 b.f0, .int .i64 b.f1, .int .i64 b.f2] 52))
              have HV1 := Aside0.mk (Kd.R_alloc (Kd.R_mono (ok' := fun k => k ≠ gb) (Kd.R_bound HOv.out) (fun k hk => by have := hk.2.2.1; omega)) (.cells #[.int .i64 b.f0, .int .i64 b.f1, .int .i64 b.f2] 52))
              have HB1 := Aside0.mk (below_alloc HB.out (.cells #[.int .i64 b.f0, .int .i64 b.f1, .int .i64 b.f2] 52))
              have NK0 := Aside0.mk (show g0 ≠ gb from by have := blk_lt HT.out; omega)
              have NK1 := Aside0.mk (show g1 ≠ gb from by have := blk_lt HZ.out; omega)
              have NK2 := Aside0.mk (show g2 ≠ gb from by have := blk_lt HO.out; omega)
              have GB := Aside0.mk (show w.heap.size ≤ gb from by have := HB.out.size; omega)
              clear hc0 hc1 hc2 ht2 HT HZ HO HOv HB hg
              generalize wr.alloc (.cells #[.int .i64 b.f0, .int .i64 b.f1, .int .i64 b.f2] 52) = W1 at HK HT1 HZ1 HO1 HV1 HB1 ⊢
              have k0 := (blk_cell HK.out 0).trans rfl
              have k1 := (blk_cell HK.out 1).trans rfl
              have k2 := (blk_cell HK.out 2).trans rfl
              go_upto_if 62 with (first
                | (go_at_call 15
                   refine (tm_task (heap_alloc_new _ _)).mono ?_
                   rintro e wt ⟨rfl, hB⟩
                   have hB' := tm_on (below_alloc (Below.refl W1.heap.size W1) _) hB
                   have HKt := Aside0.mk (tm_keep HK.out hB')
                   have HTt := Aside0.mk (tm_keep HT1.out hB')
                   have HZt := Aside0.mk (tm_keep HZ1.out hB')
                   have HOt := Aside0.mk (tm_keep HO1.out hB')
                   have HVt := Aside0.mk (Kd.R_below HV1.out hB')
                   have HBt := Aside0.mk (tm_on HB1.out hB')
                   clear hB hB'))
              clear HK HT1 HZ1 HO1 HV1 HB1 k0 k1 k2
              go_cut [] (fun wc => Aside0 (wc.heap[gb]? = some (.cells #[.int .i64 (tB b).f0, .int .i64 (tB b).f1, .int .i64 (tB b).f2] 52 (0, 0))) ∧ Aside0 (Kd.R k52 52 wc w.heap.size (fun k => k ≠ gb) v ((tL L).take i)) ∧ Aside0 (wc.heap[g0]? = some (.cells #[.int .i64 x, .int .i64 y, .slice (some ad) L.length c] 24 (0, 0))) ∧ Aside0 (wc.heap[g1]? = some (.cells #[.int .i64 0, .int .i64 0, .slice none 0 0] 24 (0, 0))) ∧ Aside0 (wc.heap[g2]? = some (.cells #[.int .i64 X, .int .i64 Y, v] 24 (0, 0))) ∧ Aside0 (Below w.heap.size w wc))
              case first =>
                by_cases hok : okB b
                · rw [decide_eq_true hok]
                  go_wp2_with fail
                  go_meet
                  case rel => exact ⟨by rw [show tB b = b from if_pos hok]; exact HKt, HVt, HTt, HZt, HOt, HBt⟩
                · rw [decide_eq_false hok]
                  go_wp2_with fail
                  have HA := Aside0.mk (below_drew (Below.refl wt.heap.size wt))
                  have HE := Aside0.mk (show tB b = ⟨1 + modI b.f0 9, 1 + modI b.f1 9, modI b.f2 50⟩ from if_neg hok)
                  have m0 := modI_in b.f0 (n := 9) (by decide)
                  have m1 := modI_in b.f1 (n := 9) (by decide)
                  have s0 : IntKind.i64.wrap (1 + modI b.f0 9) = 1 + modI b.f0 9 := by rw [i64_w]; unfold wrap64; omega
                  have s1 : IntKind.i64.wrap (1 + modI b.f1 9) = 1 + modI b.f1 9 := by rw [i64_w]; unfold wrap64; omega
                  clear m0 m1
                  have q0 := (blk_cell (tm_keep HKt.out HA.out) 0).trans rfl
                  have q1 := (blk_cell (tm_keep HKt.out HA.out) 1).trans rfl
                  have q2 := (blk_cell (tm_keep HKt.out HA.out) 2).trans rfl
                  go_region_law (first
                    | (go_simp
                       go_at_call 26
                       (refine (tm_mod _ _ _ (by decide) (by decide)).mono ?_)
                       rintro e w9 ⟨rfl, b26⟩
                       have HA := Aside0.mk (tm_on HA.out b26)
                       have q0 := (blk_cell (tm_keep HKt.out HA.out) 0).trans rfl
                       have q1 := (blk_cell (tm_keep HKt.out HA.out) 1).trans rfl
                       have q2 := (blk_cell (tm_keep HKt.out HA.out) 2).trans rfl
                       have f0 := blk_frozen (tm_keep HKt.out HA.out) 0
                       have f1 := blk_frozen (tm_keep HKt.out HA.out) 1
                       have f2 := blk_frozen (tm_keep HKt.out HA.out) 2
                       clear b26))
                  all_goals
                    go_wp2_with fail
                    go_meet
                    exact ⟨⟨by rw [HE.out]; exact blk_put (blk_put (blk_put (tm_keep HKt.out HA.out) 0 _ rfl) 1 _ rfl) 2 _ rfl⟩, ⟨Kd.R_far (p := ⟨gb, 2, none⟩) (Kd.R_far (p := ⟨gb, 1, none⟩) (Kd.R_far (p := ⟨gb, 0, none⟩) (Kd.R_below HVt.out HA.out) (fun _ hk => hk) _) (fun _ hk => hk) _) (fun _ hk => hk) _⟩, ⟨blk_far (blk_far (blk_far (tm_keep HTt.out HA.out) NK0.out _) NK0.out _) NK0.out _⟩, ⟨blk_far (blk_far (blk_far (tm_keep HZt.out HA.out) NK1.out _) NK1.out _) NK1.out _⟩, ⟨blk_far (blk_far (blk_far (tm_keep HOt.out HA.out) NK2.out _) NK2.out _) NK2.out _⟩, ⟨(((tm_on HBt.out HA.out).setCell GB.out _).setCell GB.out _).setCell GB.out _⟩⟩
              case rest =>
                clear HKt HTt HZt HOt HVt HBt
                obtain ⟨HK, HOv, HT, HZ, HO, HB⟩ := hcut
                have k0 := (blk_cell HK.out 0).trans rfl
                have k1 := (blk_cell HK.out 1).trans rfl
                have k2 := (blk_cell HK.out 2).trans rfl
                have o2 := (blk_cell HO.out 2).trans rfl
                have hfo2 := blk_frozen HO.out 2
                have hgl := blk_lt HO.out
                generalize tB b = bb at *
                go_wp2_with (first
                  | ((with_reducible refine gate_builtin (b := .append) (xs := _) rfl ?_)
                     at_builtin
                     go_must (refine Kd.R_append k52 (w0 := w) w.heap.size rfl _ _ 22 52 (.agg #[(.int .i64 0), (.int .i64 0), (.int .i64 0)]) 24 rfl Try.underlying22 info52 rfl (by decide) (by omega) v ((tL L).take i) bb [.int .i64 bb.f0, .int .i64 bb.f1, .int .i64 bb.f2] (fun _ => True) (fun _ => False) rfl (by simp [go_sem]) ?aP (fun _ hk => hk.elim) (fun _ _ => trivial) ?aO ?aB ?aS ?aL ?_)
                     (case aP => exact k52_mkM _ _ _ _)
                     (case aO => exact Kd.R_mono HOv.out (fun _ _ => trivial))
                     (case aB => exact HB.out)
                     (case aS => exact HB.out.size)
                     (case aL => simp; omega)
                     intro v1 w1 ho hb hg hat
                     rw [HS.out] at ho
                     have hO1 := blk_grown HO.out hg (Kd.R_ne HOv.out HO.out (by decide))
                     have hT1 := blk_grown HT.out hg (Kd.R_ne HOv.out HT.out (by decide))
                     have hZ1 := blk_grown HZ.out hg (Kd.R_ne HOv.out HZ.out (by decide))
                     obtain ⟨T1, hT1'⟩ : ∃ T1, T1 = (tL L).take (i + 1) := ⟨_, rfl⟩
                     rw [← hT1'] at ho
                     have HT1' := Aside0.mk hT1'
                     clear hT1'
                     obtain ⟨A1, c1, rfl⟩ := Kd.R_slice ho
                     have hz2 := (blk_cell hO1 2).trans rfl
                     have hfz2 := blk_frozen hO1 2
                     have HO1 := Aside0.mk hO1
                     have HT1 := Aside0.mk hT1
                     have HZ1 := Aside0.mk hZ1
                     have HV1 := Aside0.mk ho
                     have HB1 := Aside0.mk hb
                     clear hO1 hT1 hZ1 ho hb hg hat))
                go_roundg (N - i)
                case measure => omega
                case rel =>
                  exact ⟨i + 1, by omega, by omega, by go_num, _, ⟨HT1'.out ▸ Kd.R_mono (Kd.R_far (p := ⟨g2, 2, none⟩) (Kd.R_types HV1.out HO1.out (by decide)) (fun _ hk => hk.2) _) (fun _ _ => trivial)⟩, ⟨blk_far HT1.out N02.out _⟩, ⟨blk_far HZ1.out N12.out _⟩, ⟨blk_put HO1.out 2 _ rfl⟩, ⟨HB1.out.setCell G2.out _⟩⟩
            · obtain rfl : i = N := by omega
              have ho0 := (blk_cell HO.out 0).trans rfl
              have ho1 := (blk_cell HO.out 1).trans rfl
              have ho2 := (blk_cell HO.out 2).trans rfl
              have hz0 := (blk_cell HZ.out 0).trans rfl
              have hz1 := (blk_cell HZ.out 1).trans rfl
              have hz2 := (blk_cell HZ.out 2).trans rfl
              have hf0 := blk_frozen HZ.out 0
              have hf1 := blk_frozen HZ.out 1
              have hf2 := blk_frozen HZ.out 2
              have hll := blk_lt HZ.out
              have HV := HOv.out
              rw [List.take_of_length_le (by rw [tL_length, HN.out]; exact Nat.le_refl _)] at HV
              obtain ⟨Ao, co, rfl⟩ := Kd.R_slice HV
              have HVa := Aside0.mk HV
              clear HV
              have hn : ¬ (i : Int) < (L.length : Int) ∨ (i : Int) < (L.length : Int) ∧ ¬ (i : Int) < 16 := by have := HN.out; omega
              rcases hn with hn | ⟨hn, hn2⟩
              all_goals
                go_wp2_with fail
                refine bodyPost_ret (results_cell_row rfl _ _ g1 24 #[.int .i64 X, .int .i64 Y, .slice Ao (tL L).length co] (0, 0) _ rfl (blk_put (cs := #[.int .i64 X, .int .i64 Y, .slice none 0 0]) (blk_put (cs := #[.int .i64 X, .int .i64 0, .slice none 0 0]) (blk_put (cs := #[.int .i64 0, .int .i64 0, .slice none 0 0]) HZ.out 0 _ rfl) 1 _ rfl) 2 _ rfl) Try.underlying24 rfl (by kernel_rfl)) rfl ?_
                exact ⟨_, by rw [HX.out, HY.out], Kd.R_mono (Kd.R_far (p := ⟨g1, 2, none⟩) (Kd.R_far (p := ⟨g1, 1, none⟩) (Kd.R_far (p := ⟨g1, 0, none⟩) (Kd.R_types HVa.out HZ.out (by decide)) (fun _ hk => hk.2) _) (fun _ hk => hk.2) _) (fun _ hk => hk.2) _) (fun _ _ => trivial), (((HB.out.setCell G1.out _).setCell G1.out _).setCell G1.out _)⟩

end Go.Proofs.Ytochbhndeboodaa
