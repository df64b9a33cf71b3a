/- The walk of fill: it computes the table of all pieces. -/
import Derived.Test.YtochbhndeboodaaTbl
import Derived.WalkSpells
namespace Go.Proofs.Ytochbhndeboodaa
set_option linter.unusedVariables false
set_option linter.unusedSimpArgs false
open Go.RowKit Go.Proofs.YtochbhndeboodaaW.PrintWords Go.Proofs.YtochbhndeboodaaW.PrintLast Go.Proofs.YtochbhndeboodaaW.PrintMore
open Go.Proofs.Ytochbhndeboodaa.PCarveMore (S52 S56 k52 k56)

/-- What holds inside fill: the table's block, what was there before, the task's own block. -/
structure FI (w : World) (X : Array Value) (W : World) (t : Tab) : Prop where
  tb : TB W (w.heap.size + 1) t
  below : Below w.heap.size w W
  box : W.heap[w.heap.size]? = some (.cells X 59 (0, 0))

theorem FI.alloc {w W : World} {X : Array Value} {t : Tab} (h : FI w X W t) (o : Obj) : FI w X (W.alloc o) t :=
  ⟨h.tb.alloc o, below_alloc h.below o, (Below.heap_alloc _ _ _ (blk_lt h.box)).trans h.box⟩
theorem FI.drewN {w W : World} {X : Array Value} {t : Tab} (h : FI w X W t) (n : Nat) : FI w X (W.drewN n) t :=
  ⟨h.tb.drewN n, pw_below_drewN h.below n, h.box⟩
theorem FI.drew {w W : World} {X : Array Value} {t : Tab} (h : FI w X W t) : FI w X W.drew t := ⟨h.tb.drew, below_drew h.below, h.box⟩
theorem FI.step {w W W1 : World} {X : Array Value} {t t1 : Tab} (h : FI w X W t) (ht : TB W1 (w.heap.size + 1) t1) (hg : W.grownBy W1 (some (w.heap.size + 1))) : FI w X W1 t1 :=
  ⟨ht, h.below.grown hg h.below.size (fun k hk => by injection hk with hk; omega), (hg.block _ (blk_lt h.box) (by intro e; injection e with e; omega)).trans h.box⟩

theorem stepB_yes (L : List S52) (i j k : Nat) (t : Tab) (h0 : (blankAt L k).f0 ≤ (i : Int)) (h1 : (blankAt L k).f1 ≤ (j : Int)) : stepB L i j k t = t.imp i j (blankAt L k).f2 (1, k) := by
  unfold stepB; rw [if_pos ⟨h0, h1⟩]
theorem stepB_no (L : List S52) (i j k : Nat) (t : Tab) (h : ¬ ((blankAt L k).f0 ≤ (i : Int) ∧ (blankAt L k).f1 ≤ (j : Int))) : stepB L i j k t = t := by
  unfold stepB; rw [if_neg h]

theorem stepA_at {i j l y z d : Nat} {t : Tab} (hz : z = l + 1) (hy : y = j) (hd : d = i - (l + 1)) : stepA i j l t = t.imp i j (wrap64 (t.T z y + t.T d y)) (2, (z : Int)) := by
  subst hz hy hd
  rfl
theorem stepH_at {i j l x z d : Nat} {t : Tab} (hz : z = l + 1) (hx : x = i) (hd : d = j - (l + 1)) : stepH i j l t = t.imp i j (wrap64 (t.T x z + t.T x d)) (3, (z : Int)) := by
  subst hz hx hd
  rfl

set_option maxHeartbeats 4000000 in
set_option maxRecDepth 100000 in
theorem fill_any (A : Option Addr) (c : Nat) (L : List S52) (Wd Ht : Nat) (w : World) (hr : Kd.C k52 w A L.length L) (hc : L.length ≤ c) (hW1 : 1 ≤ Wd) (hW : Wd ≤ 48) (hH1 : 1 ≤ Ht) (hH : Ht ≤ 48) :
    Calls Try.prog 30 #[.agg #[.int .i64 Wd, .int .i64 Ht, .slice A L.length c]] w fun e w' => ∃ g, e = .returned (.pointer (some ⟨g, 0, none⟩)) ∧ w.heap.size ≤ g ∧ TB w' g (fillP L Wd Ht) ∧ Below w.heap.size w w' := by
  obtain ⟨Z, hZ, hZ1, hZ2⟩ := build69
  have HZ1 := Aside0.mk hZ1
  have HZ2 := Aside0.mk hZ2
  have HR := Aside0.mk hr
  have HC := Aside0.mk hc
  have hL : L.length ≤ 9223372036854775807 := Kd.C_max hr
  clear hZ1 hZ2 hr hc
  have hu69 := Try.underlying69
  have hu59 := Try.underlying59
  have hu65 := Try.underlying65
  have hu64 := Try.underlying64
  have hu52 := Try.underlying52
  go_enter Try.func30, Try.ntmps30
  go_wp2
  go_loopg [4] (Wd + 1) (fun q v4 W => ∃ i x : Nat, Aside0 (x = i + 1) ∧ q + x = Wd + 2 ∧ 1 ≤ x ∧ x ≤ Wd + 1 ∧ v4 = .int .i64 (x : Int) ∧ FI w #[.int .i64 Wd, .int .i64 Ht, .slice A L.length c] W (up (fun i t => rowP L Ht (i + 1) t) i tab0))
  case atStart =>
    refine ⟨0, 1, ⟨rfl⟩, by omega, by omega, by omega, rfl, ?_, ?_, ?_⟩
    · refine ⟨Z, ?_, HZ1.out, fun i j hi hj => ⟨HZ2.out _ (by omega), HZ2.out _ (by omega), HZ2.out _ (by omega)⟩⟩
      have h1 := heap_alloc_new (w.alloc (.cells #[.int .i64 Wd, .int .i64 Ht, .slice A L.length c] 59)) (.cells Z 69)
      rwa [show (w.alloc (.cells #[.int .i64 Wd, .int .i64 Ht, .slice A L.length c] 59)).heap.size = w.heap.size + 1 by simp] at h1
    · exact ((Below.refl _ _).alloc (Nat.le_refl _) _).alloc (by simp) _
    · exact (Below.heap_alloc _ _ _ (by simp)).trans (heap_alloc_new w _)
  case round =>
    obtain ⟨i, x, hxi, hq, hx1, hx2, rfl, HF⟩ := hrel
    have hc0 := (blk_cell HF.box 0).trans rfl
    by_cases hlt : x ≤ Wd
    · have hc1 := (blk_cell HF.box 1).trans rfl
      have d1 : decide ((x : Int) ≤ (Wd : Int)) = true := decide_eq_true (by omega)
      have e1 : decide (x ≤ Wd) = true := decide_eq_true (by omega)
      clear hZ
      go_wp2
      generalize hN : up (fun i t => rowP L Ht (i + 1) t) i tab0 = t0 at HF
      have HN := Aside0.mk hN
      clear hN
      go_loopg [5] (Ht + 1) (fun q v5 W => ∃ j y : Nat, Aside0 (y = j + 1) ∧ q + y = Ht + 2 ∧ 1 ≤ y ∧ y ≤ Ht + 1 ∧ v5 = .int .i64 (y : Int) ∧ FI w #[.int .i64 Wd, .int .i64 Ht, .slice A L.length c] W (up (fun j t => cellP L (i + 1) (j + 1) t) j t0))
      case atStart => exact ⟨0, 1, ⟨rfl⟩, by omega, by omega, by omega, rfl, HF⟩
      case round =>
        clear hc0 hc1 HF
        obtain ⟨j, y, hyj, hqj, hy1, hy2, rfl, HF⟩ := hrel
        have hc1 := (blk_cell HF.box 1).trans rfl
        by_cases hltj : y ≤ Ht
        · have hc2 := (blk_cell HF.box 2).trans rfl
          have d2 : decide ((y : Int) ≤ (Ht : Int)) = true := decide_eq_true (by omega)
          have e2 : decide (y ≤ Ht) = true := decide_eq_true (by omega)
          go_wp2
          generalize hN1 : up (fun j t => cellP L (i + 1) (j + 1) t) j t0 = t1 at HF
          have HN1 := Aside0.mk hN1
          clear hN1
          go_loopg [27] (L.length + 1) (fun q v27 W => ∃ k : Nat, q + k = L.length + 1 ∧ k ≤ L.length ∧ v27 = .int .i64 k ∧ FI w #[.int .i64 Wd, .int .i64 Ht, .slice A L.length c] W (up (stepB L (i + 1) (j + 1)) k t1))
          case atStart => exact ⟨0, by omega, by omega, rfl, HF⟩
          case round =>
            clear hc1 hc2 HF
            obtain ⟨k, hqk, hk, rfl, HF⟩ := hrel
            by_cases hltk : k < L.length
            · obtain ⟨ad, rfl, hc0, hc1, hc2⟩ := blank_cells HR.out HF.below k hltk
              by_cases hfit : (blankAt L k).f0 ≤ (x : Int) ∧ (blankAt L k).f1 ≤ (y : Int)
              · obtain ⟨hf0, hf1⟩ := hfit
                go_wp2_with (first | (go_at_call 37; go_must (refine (improve_at (w.heap.size + 1) (i + 1) (j + 1) _ _ (blankAt L k).f2 1 (k : Int) _ _ (by have := hxi.out; omega) (by have := hyj.out; omega) (by have := hxi.out; omega) (by have := hyj.out; omega) (HF.tb.alloc _)).mono ?_); rintro e w' ⟨rfl, ht', hg'⟩))
                go_roundg (L.length - k)
                case measure => omega
                case rel => exact ⟨k + 1, by omega, by omega, by go_num, (HF.alloc _).step (by show TB w' _ (stepB L (i + 1) (j + 1) k _); rw [stepB_yes _ _ _ _ _ (by have := hxi.out; omega) (by have := hyj.out; omega)]; exact ht') hg'⟩
              · have HS := Aside0.mk (stepB_no L (i + 1) (j + 1) k (up (stepB L (i + 1) (j + 1)) k t1) (by have := hxi.out; have := hyj.out; subst_vars; exact hfit))
                by_cases hf0 : (blankAt L k).f0 ≤ (x : Int)
                · have hf1 : ¬ (blankAt L k).f1 ≤ (y : Int) := fun h => hfit ⟨hf0, h⟩
                  clear hfit
                  go_wp2_with fail
                  go_roundg (L.length - k)
                  case measure => omega
                  case rel => exact ⟨k + 1, by omega, by omega, by go_num, by show FI w _ _ (stepB L (i + 1) (j + 1) k _); rw [HS.out]; exact HF.alloc _⟩
                · clear hfit
                  go_wp2_with fail
                  go_roundg (L.length - k)
                  case measure => omega
                  case rel => exact ⟨k + 1, by omega, by omega, by go_num, by show FI w _ _ (stepB L (i + 1) (j + 1) k _); rw [HS.out]; exact HF.alloc _⟩
            · go_wp2
              have hk : k = L.length := by omega
              subst hk
              generalize hN2 : up (stepB L (i + 1) (j + 1)) L.length t1 = t2 at HF
              have HN2 := Aside0.mk hN2
              clear hN2
              go_loopg [8] (i + 1) (fun q v8 W => ∃ l z : Nat, Aside0 (z = l + 1) ∧ q + z = x + 1 ∧ 1 ≤ z ∧ z ≤ x ∧ v8 = .int .i64 (z : Int) ∧ FI w #[.int .i64 Wd, .int .i64 Ht, .slice A L.length c] W (up (stepA (i + 1) (j + 1)) l t2))
              case atStart => exact ⟨0, 1, ⟨rfl⟩, by have := hxi.out; omega, by omega, by omega, rfl, HF⟩
              case round =>
                clear HF hltk
                obtain ⟨l, z, hzl, hql, hz1, hz2, rfl, HF⟩ := hrel
                by_cases hltl : z < x
                · have hcA := (HF.tb.cells z y (by omega) (by omega)).1
                  have hcB := (HF.tb.cells (x - z) y (by omega) (by omega)).1
                  generalize hN3 : up (stepA (i + 1) (j + 1)) l t2 = t3 at HF hcA hcB
                  have HN3 := Aside0.mk hN3
                  clear hN3
                  obtain ⟨d, hd⟩ : ∃ d : Nat, d = x - z := ⟨_, rfl⟩
                  rw [← hd] at hcB
                  have hsub : IntKind.i64.wrap ((x : Int) - (z : Int)) = (d : Int) := by rw [i64_w]; unfold wrap64; omega
                  have hz49 : (z : Int) < 49 := by omega
                  have hy49 : (y : Int) < 49 := by omega
                  have hd49 : (d : Int) < 49 := by omega
                  have HD := Aside0.mk hd
                  clear hd
                  go_wp2_with fail
                  go_still_tail 24, (by kernel_rfl)
                  change wpList _ _ _ _ _ wr.drew
                  have HFd := HF.drew
                  clear HF hcA hcB hz49 hy49 hd49 hsub
                  generalize wr.drew = wq at HFd
                  go_wp2_with (first | (go_at_call 37; go_must (refine (improve_at (w.heap.size + 1) (i + 1) (j + 1) _ _ _ 2 (z : Int) _ _ (by have := hxi.out; omega) (by have := hyj.out; omega) (by have := hxi.out; omega) (by have := hyj.out; omega) HFd.tb).mono ?_); rintro e w' ⟨rfl, ht', hg'⟩))
                  go_roundg (x - z)
                  case measure => omega
                  case rel =>
                    have ez : z = l + 1 := hzl.out
                    have ed : d = i + 1 - (l + 1) := by have := HD.out; have := hxi.out; omega
                    have ey : y = j + 1 := hyj.out
                    refine ⟨l + 1, z + 1, ⟨by omega⟩, by omega, by omega, by omega, by go_num, ?_⟩
                    show FI w _ _ (stepA (i + 1) (j + 1) l _)
                    rw [HN3.out]
                    refine HFd.step ?_ hg'
                    rw [stepA_at ez ey ed]
                    exact ht'
                · go_wp2_with fail
                  have hl : l = i := by have := hzl.out; have := hxi.out; omega
                  subst hl
                  generalize hN3 : up (stepA (l + 1) (j + 1)) l t2 = t3 at HF
                  have HN3 := Aside0.mk hN3
                  clear hN3 hltl hz1 hz2 hql hzl
                  go_loopg [9] (j + 1) (fun q v9 W => ∃ m z : Nat, Aside0 (z = m + 1) ∧ q + z = y + 1 ∧ 1 ≤ z ∧ z ≤ y ∧ v9 = .int .i64 (z : Int) ∧ FI w #[.int .i64 Wd, .int .i64 Ht, .slice A L.length c] W (up (stepH (l + 1) (j + 1)) m t3))
                  case atStart => exact ⟨0, 1, ⟨rfl⟩, by have := hyj.out; omega, by omega, by omega, rfl, HF⟩
                  case round =>
                    clear HF
                    obtain ⟨m, z, hzl, hql, hz1, hz2, rfl, HF⟩ := hrel
                    by_cases hltl : z < y
                    · have hcA := (HF.tb.cells x z (by omega) (by omega)).1
                      have hcB := (HF.tb.cells x (y - z) (by omega) (by omega)).1
                      generalize hN4 : up (stepH (l + 1) (j + 1)) m t3 = t4 at HF hcA hcB
                      have HN4 := Aside0.mk hN4
                      clear hN4
                      obtain ⟨d, hd⟩ : ∃ d : Nat, d = y - z := ⟨_, rfl⟩
                      rw [← hd] at hcB
                      have hsub : IntKind.i64.wrap ((y : Int) - (z : Int)) = (d : Int) := by rw [i64_w]; unfold wrap64; omega
                      have hz49 : (z : Int) < 49 := by omega
                      have hx49 : (x : Int) < 49 := by omega
                      have hd49 : (d : Int) < 49 := by omega
                      have HD := Aside0.mk hd
                      clear hd
                      go_wp2_with fail
                      go_still_tail 24, (by kernel_rfl)
                      change wpList _ _ _ _ _ wr.drew
                      have HFd := HF.drew
                      clear HF hcA hcB hz49 hx49 hd49 hsub
                      generalize wr.drew = wq at HFd
                      go_wp2_with (first | (go_at_call 37; go_must (refine (improve_at (w.heap.size + 1) (l + 1) (j + 1) _ _ _ 3 (z : Int) _ _ (by have := hxi.out; omega) (by have := hyj.out; omega) (by have := hxi.out; omega) (by have := hyj.out; omega) HFd.tb).mono ?_); rintro e w' ⟨rfl, ht', hg'⟩))
                      go_roundg (y - z)
                      case measure => omega
                      case rel =>
                        have ez : z = m + 1 := hzl.out
                        have ed : d = j + 1 - (m + 1) := by have := HD.out; have := hyj.out; omega
                        have ex : x = l + 1 := hxi.out
                        refine ⟨m + 1, z + 1, ⟨by omega⟩, by omega, by omega, by omega, by go_num, ?_⟩
                        show FI w _ _ (stepH (l + 1) (j + 1) m _)
                        rw [HN4.out]
                        refine HFd.step ?_ hg'
                        rw [stepH_at ez ex ed]
                        exact ht'
                    · go_wp2_with fail
                      go_roundg (Ht + 1 - y)
                      case measure => omega
                      case rel =>
                        have hm : m = j := by have := hzl.out; have := hyj.out; omega
                        subst hm
                        refine ⟨m + 1, y + 1, ⟨by have := hyj.out; omega⟩, by omega, by omega, by omega, by go_num, ?_⟩
                        show FI w _ _ (cellP L (l + 1) (m + 1) _)
                        rw [HN1.out]
                        unfold cellP
                        rw [show m + 1 - 1 = m from rfl, show l + 1 - 1 = l from rfl, HN2.out, HN3.out]
                        exact HF
        · go_wp2
          go_roundg (Wd + 1 - x)
          case measure => omega
          case rel =>
            have hj : j = Ht := by have := hyj.out; omega
            subst hj
            exact ⟨i + 1, x + 1, ⟨by have := hxi.out; omega⟩, by omega, by omega, by omega, by go_num, by show FI w _ _ (rowP L j (i + 1) (up _ i tab0)); rw [HN.out]; exact HF⟩
    · go_wp2
      go_ret
      have hi : i = Wd := by have := hxi.out; omega
      subst hi
      exact ⟨_, rfl, by omega, HF.tb, HF.below⟩

end Go.Proofs.Ytochbhndeboodaa
