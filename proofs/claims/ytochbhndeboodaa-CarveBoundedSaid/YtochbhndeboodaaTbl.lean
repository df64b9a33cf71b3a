/- The walks of improve and fill: what they make of the table's block. -/
import Derived.Test.YtochbhndeboodaaPlainA
import Derived.RegionTactic
import Derived.ChangeAlike
import Derived.BigRegion
import Derived.StillTailTactics
import Derived.KernelRfl
namespace Go.Proofs.Ytochbhndeboodaa
set_option linter.unusedVariables false
set_option linter.unusedSimpArgs false
open Go.RowKit Go.Proofs.YtochbhndeboodaaW.PrintWords Go.Proofs.YtochbhndeboodaaW.PrintLast Go.Proofs.YtochbhndeboodaaW.PrintMore
open Go.Proofs.Ytochbhndeboodaa.PCarveMore (S52 S56 k52 k56)

theorem zero69 : ((Try.prog.info? 69).bind fun i => i.zero) = some (.agg (Array.replicate 7203 (.int .i64 0))) := by kernel_rfl
theorem build69 : ∃ Z : Array Value, (∀ w, (zeroValue 69).run Try.prog w = .ok (.agg Z) w) ∧ Z.size = 7203 ∧ ∀ i, i < 7203 → Z[i]? = some (.int .i64 0) := by
  refine ⟨Array.replicate 7203 (.int .i64 0), fun w => ?_, by simp, fun i hi => by rw [Array.getElem?_replicate, if_pos hi]⟩
  obtain ⟨i, hi, hz⟩ := Option.bind_eq_some_iff.1 zero69
  simp [zeroValue, typeInfo, hi, hz]

theorem inf3 : (Try.prog.info? 3).map (fun i => (i.zero, i.size, i.bytes)) = some (some (.int .i64 0), 1, 8) := by kernel_rfl
theorem inf39 : (Try.prog.info? 39).map (fun i => (i.zero, i.size, i.bytes)) = some (some (.slice none 0 0), 1, 24) := by kernel_rfl

/-- Block g holds the table t. -/
def TB (w : World) (g : Nat) (t : Tab) : Prop :=
  ∃ cs, w.heap[g]? = some (.cells cs 69 (0, 0)) ∧ cs.size = 7203 ∧
    ∀ i j, i < 49 → j < 49 → cs[i * 49 + j]? = some (.int .i64 (t.T i j)) ∧ cs[2401 + i * 98 + j * 2]? = some (.int .i64 (t.S i j).1) ∧ cs[2401 + i * 98 + j * 2 + 1]? = some (.int .i64 (t.S i j).2)

theorem TB.cells {w : World} {g : Nat} {t : Tab} (h : TB w g t) (i j : Nat) (hi : i < 49) (hj : j < 49) :
    w.cell? ⟨g, i * 49 + j, none⟩ = some (.int .i64 (t.T i j)) ∧ w.cell? ⟨g, 2401 + i * 98 + j * 2, none⟩ = some (.int .i64 (t.S i j).1) ∧ w.cell? ⟨g, 2401 + i * 98 + j * 2 + 1, none⟩ = some (.int .i64 (t.S i j).2) := by
  obtain ⟨cs, h1, _, h3⟩ := h
  obtain ⟨a, b, c⟩ := h3 i j hi hj
  exact ⟨(blk_cell h1 _).trans a, (blk_cell h1 _).trans b, (blk_cell h1 _).trans c⟩
theorem TB.lt {w : World} {g : Nat} {t : Tab} (h : TB w g t) : g < w.heap.size := by
  obtain ⟨cs, h1, _⟩ := h
  exact blk_lt h1
theorem TB.frozen {w : World} {g : Nat} {t : Tab} (h : TB w g t) (o : Nat) : w.frozen? ⟨g, o, none⟩ = false := by
  obtain ⟨cs, h1, _⟩ := h
  exact blk_frozen h1 o
theorem TB.move {w w1 : World} {g : Nat} {t : Tab} (h : TB w g t) (hb : w1.heap[g]? = w.heap[g]?) : TB w1 g t := by
  obtain ⟨cs, h1, h2⟩ := h
  exact ⟨cs, hb.trans h1, h2⟩
theorem TB.below {w w1 : World} {g : Nat} {t : Tab} (h : TB w g t) (hb : Below w.heap.size w w1) : TB w1 g t := h.move (hb.block g h.lt)
theorem TB.alloc {w : World} {g : Nat} {t : Tab} (h : TB w g t) (o : Obj) : TB (w.alloc o) g t := h.below (below_alloc (Below.refl _ _) o)
theorem TB.drew {w : World} {g : Nat} {t : Tab} (h : TB w g t) : TB w.drew g t := h.below (below_drew (Below.refl _ _))
theorem TB.drewN {w : World} {g : Nat} {t : Tab} (h : TB w g t) (n : Nat) : TB (w.drewN n) g t := h.below (pw_below_drewN (Below.refl _ _) n)
theorem TB.far {w : World} {g : Nat} {t : Tab} (h : TB w g t) {p : Addr} (hp : g ≠ p.block) (u : Value) : TB (w.setCell p u) g t := h.move (Below.heap_setCell w p u g hp)
theorem TB.grown {w w1 : World} {g : Nat} {t : Tab} {row : Option Nat} (h : TB w g t) (hg : w.grownBy w1 row) (hne : some g ≠ row) : TB w1 g t := h.move (hg.block g h.lt hne)

theorem TB.set3 {w : World} {g : Nat} {t : Tab} (h : TB w g t) (i j : Nat) (hi : i < 49) (hj : j < 49) (v k a : Int) (hlt : t.T i j < v) :
    TB (((w.setCell ⟨g, i * 49 + j, none⟩ (.int .i64 v)).setCell ⟨g, 2401 + i * 98 + j * 2, none⟩ (.int .i64 k)).setCell ⟨g, 2401 + i * 98 + j * 2 + 1, none⟩ (.int .i64 a)) g (t.imp i j v (k, a)) := by
  obtain ⟨cs, h1, h2, h3⟩ := h
  refine ⟨_, blk_set (blk_set (blk_set h1 _ _) _ _) _ _, by simp [h2], fun x y hx hy => ?_⟩
  obtain ⟨p, q, r⟩ := h3 x y hx hy
  unfold Tab.imp
  rw [if_pos hlt]
  simp only [Array.getElem?_setIfInBounds, Array.size_setIfInBounds, h2]
  by_cases e : x = i ∧ y = j
  · obtain ⟨rfl, rfl⟩ := e
    refine ⟨?_, ?_, ?_⟩
    · rw [if_neg (by omega), if_neg (by omega), if_pos rfl, if_pos (by omega)]; simp
    · rw [if_neg (by omega), if_pos rfl, if_pos (by omega)]; simp
    · rw [if_pos rfl, if_pos (by omega)]; simp
  · simp only [e, if_false]
    refine ⟨?_, ?_, ?_⟩
    · rw [if_neg (by omega), if_neg (by omega), if_neg (by omega)]; exact p
    · rw [if_neg (by omega), if_neg (by omega), if_neg (by omega)]; exact q
    · rw [if_neg (by omega), if_neg (by omega), if_neg (by omega)]; exact r

theorem grown_set {w w1 : World} {g : Nat} (h : w.grownBy w1 (some g)) (o : Nat) (u : Value) : w.grownBy (w1.setCell ⟨g, o, none⟩ u) (some g) :=
  ⟨h.os, h.tape, h.output, by simpa [World.setCell] using h.size, fun k hk hne => (Below.heap_setCell w1 _ u k (fun e => hne (by rw [e]))).trans (h.block k hk hne)⟩
theorem grown_alloc {w w1 : World} {row : Option Nat} (h : w.grownBy w1 row) (o : Obj) : w.grownBy (w1.alloc o) row :=
  ⟨h.os, h.tape, h.output, by have := h.size; simp; omega, fun k hk hne => (Below.heap_alloc _ _ _ (by have := h.size; omega)).trans (h.block k hk hne)⟩
theorem grown_drew {w w1 : World} {row : Option Nat} (h : w.grownBy w1 row) : w.grownBy w1.drew row := ⟨h.os, h.tape, h.output, h.size, h.block⟩
theorem grown_refl (w : World) (row : Option Nat) : w.grownBy w row := ⟨rfl, rfl, rfl, Nat.le_refl _, fun _ _ _ => rfl⟩

set_option maxHeartbeats 400000 in
theorem improve_no (g i j : Nat) (v k a : Int) (w : World) (t : Int) (hi : i < 49) (hj : j < 49) (hg : g < w.heap.size)
   (hc : w.cell? ⟨g, i * 49 + j, none⟩ = some (.int .i64 t)) (hle : ¬ t < v) :
    Calls Try.prog 37 #[.pointer (some ⟨g, 0, none⟩), .int .i64 i, .int .i64 j, .int .i64 v, .agg #[.int .i64 k, .int .i64 a]] w fun e w' => e = .returned (.tuple #[]) ∧ w' = w.alloc (.cells #[.int .i64 k, .int .i64 a] 56) := by
  have hu69 := Try.underlying69
  have hu65 := Try.underlying65
  have hu64 := Try.underlying64
  go_enter Try.func37, Try.ntmps37
  go_wp2
  go_end0
  exact ⟨rfl, rfl⟩

set_option maxHeartbeats 800000 in
theorem improve_yes (g i j : Nat) (v k a : Int) (w : World) (t s0 s1 : Int) (hi : i < 49) (hj : j < 49) (hg : g < w.heap.size)
   (hc : w.cell? ⟨g, i * 49 + j, none⟩ = some (.int .i64 t))
   (hc0 : w.cell? ⟨g, 2401 + i * 98 + j * 2, none⟩ = some (.int .i64 s0))
   (hc1 : w.cell? ⟨g, 2401 + i * 98 + j * 2 + 1, none⟩ = some (.int .i64 s1))
   (hf : ∀ o, w.frozen? ⟨g, o, none⟩ = false)
   (hle : t < v) :
    Calls Try.prog 37 #[.pointer (some ⟨g, 0, none⟩), .int .i64 i, .int .i64 j, .int .i64 v, .agg #[.int .i64 k, .int .i64 a]] w fun e w' => e = .returned (.tuple #[]) ∧
      w' = ((((w.setCell ⟨g, i * 49 + j, none⟩ (.int .i64 v)).setCell ⟨g, 2401 + i * 98 + j * 2, none⟩ (.int .i64 k)).setCell ⟨g, 2401 + i * 98 + j * 2 + 1, none⟩ (.int .i64 a)).alloc (.cells #[.int .i64 k, .int .i64 a] 56)).drew := by
  have hu69 := Try.underlying69
  have hu65 := Try.underlying65
  have hu64 := Try.underlying64
  have hu66 := Try.underlying66
  have hu67 := Try.underlying67
  have hu56 := Try.underlying56
  go_enter Try.func37, Try.ntmps37
  go_wp2
  go_region
  all_goals go_end0
  all_goals exact ⟨rfl, rfl⟩

theorem improve_any (g i j : Nat) (v k a : Int) (w : World) (t : Tab) (hi : i < 49) (hj : j < 49) (h : TB w g t) :
    Calls Try.prog 37 #[.pointer (some ⟨g, 0, none⟩), .int .i64 i, .int .i64 j, .int .i64 v, .agg #[.int .i64 k, .int .i64 a]] w fun e w' => e = .returned (.tuple #[]) ∧ TB w' g (t.imp i j v (k, a)) ∧ w.grownBy w' (some g) := by
  obtain ⟨c, c0, c1⟩ := h.cells i j hi hj
  by_cases hlt : t.T i j < v
  · refine (improve_yes g i j v k a w _ _ _ hi hj h.lt c c0 c1 h.frozen hlt).mono ?_
    rintro e w' ⟨he, rfl⟩
    exact ⟨he, ((h.set3 i j hi hj v k a hlt).alloc _).drew, grown_drew (grown_alloc (grown_set (grown_set (grown_set (grown_refl _ _) _ _) _ _) _ _) _)⟩
  · refine (improve_no g i j v k a w _ hi hj h.lt c hlt).mono ?_
    rintro e w' ⟨he, rfl⟩
    refine ⟨he, ?_, grown_alloc (grown_refl _ _) _⟩
    unfold Tab.imp
    rw [if_neg hlt]
    exact h.alloc _

theorem improve_at (g i j : Nat) (x y : Int) (v k a : Int) (w : World) (t : Tab) (hx : x = i) (hy : y = j) (hi : i < 49) (hj : j < 49) (h : TB w g t) :
    Calls Try.prog 37 #[.pointer (some ⟨g, 0, none⟩), .int .i64 x, .int .i64 y, .int .i64 v, .agg #[.int .i64 k, .int .i64 a]] w fun e w' => e = .returned (.tuple #[]) ∧ TB w' g (t.imp i j v (k, a)) ∧ w.grownBy w' (some g) := by
  subst hx hy
  exact improve_any g i j v k a w t hi hj h

theorem rd_T52_at (L : List S52) (k : Nat) : PCarveMore.rd_T52 L (k : Int) = blankAt L k := by simp [PCarveMore.rd_T52, blankAt, PCarveMore.z52]

theorem blank_cells {A : Option Addr} {n : Nat} {L : List S52} {w W : World} (hr : Kd.C k52 w A n L) (hb : Below w.heap.size w W) (k : Nat) (hk : k < n) :
    ∃ ad, A = some ad ∧ W.cell? (ad.add (k * 3)) = some (.int .i64 (blankAt L k).f0) ∧ W.cell? ⟨(ad.add (k * 3)).block, (ad.add (k * 3)).off + 1, none⟩ = some (.int .i64 (blankAt L k).f1) ∧ W.cell? ⟨(ad.add (k * 3)).block, (ad.add (k * 3)).off + 2, none⟩ = some (.int .i64 (blankAt L k).f2) := by
  obtain ⟨ad, e, h0, h1, h2⟩ := PCarveMore.at_T52 hr (k : Int) (by omega) (by omega)
  rw [rd_T52_at, Int.toNat_natCast] at h0
  rw [rd_T52_at, Int.toNat_natCast] at h1
  rw [rd_T52_at, Int.toNat_natCast] at h2
  exact ⟨ad, e, pw_cell_below hb h0, pw_cell_below hb h1, pw_cell_below hb h2⟩

end Go.Proofs.Ytochbhndeboodaa
