/- Small lemmas that several walks use: mod as a contract, two blocks made one after the other, worlds one above the other. -/
import Derived.Test.YtochbhndeboodaaOut
import Derived.Test.YtochbhndeboodaaPlainL
namespace Go.Proofs.Ytochbhndeboodaa
set_option linter.unusedVariables false
set_option linter.unusedSimpArgs false
open Go.RowKit Go.Proofs.YtochbhndeboodaaW.PrintWords Go.Proofs.YtochbhndeboodaaW.PrintLast Go.Proofs.YtochbhndeboodaaW.PrintMore
open Go.Proofs.Ytochbhndeboodaa.PCarveMore (S52 S56 k52 k56)

theorem blk_second (w : World) (o1 o2 : Obj) : ((w.alloc o1).alloc o2).heap[w.heap.size + 1]? = some o2 := by
  have h := heap_alloc_new (w.alloc o1) o2
  rwa [show (w.alloc o1).heap.size = w.heap.size + 1 by simp] at h
theorem blk_first (w : World) (o1 o2 : Obj) : ((w.alloc o1).alloc o2).heap[w.heap.size]? = some o1 := (Below.heap_alloc _ _ _ (by simp)).trans (heap_alloc_new w o1)
theorem below_on {w a b : World} (h : Below w.heap.size w a) (hb : Below a.heap.size a b) : Below w.heap.size w b := below_then h h.size hb
theorem mod_any (x n : Int) (w : World) (h : 0 < n) (h2 : n ≤ 1000000) : Calls Try.prog 26 #[.int .i64 x, .int .i64 n] w fun e w' => e = .returned (.int .i64 (modI x n)) ∧ Below w.heap.size w w' :=
  (PCarveMore.silversidelaw02_mod.calls x n _ w (mod_eq x h h2)).mono fun _ _ h => ⟨h.1, h.2.below⟩
theorem bestPlan_len {L : List S52} {w h : Nat} (hw1 : 1 ≤ w) (hw : w ≤ 48) (hh1 : 1 ≤ h) (hh : h ≤ 48) : (bestPlan L w h).length ≤ 4607 :=
  planP_len' (cuts_fillP L w h) hw hh (w + h) w h hw1 (Nat.le_refl _) hh1 (Nat.le_refl _)

end Go.Proofs.Ytochbhndeboodaa
