/- The arguments of the statements, opened: a task, a list of blanks, a list of steps. -/
import Derived.Test.YtochbhndeboodaaPlainC
import Derived.Test.YtochbhndeboodaaRows
import Derived.WalkKit
import Derived.ProofKit
import Derived.OpenShut
import Derived.ChangeOld
import Derived.Below
import Derived.Deep.Slices
import Derived.Deep.Fields
import Derived.Lib.SmallJoins
namespace Go.Proofs.Ytochbhndeboodaa
set_option linter.unusedVariables false
set_option linter.unusedSimpArgs false
open Go.ChangeShapes Go.WideShapes Go.ChangeAt Go.RowKit Go.Deep Go.Joins
open Go.Proofs.YtochbhndeboodaaW.PrintWords Go.Proofs.YtochbhndeboodaaW.PrintLast Go.Proofs.YtochbhndeboodaaW.PrintMore
open Go.Proofs.Ytochbhndeboodaa.PCarveMore (S52 S56 k52 k56 k52_mk k56_mk)

def F52 : Array Field := #[{ name := "W", type := 3, offset := 0, embedded := false, tag := "", pkgPath := "", byteOffset := 0 }, { name := "H", type := 3, offset := 1, embedded := false, tag := "", pkgPath := "", byteOffset := 8 }, { name := "Value", type := 3, offset := 2, embedded := false, tag := "", pkgPath := "", byteOffset := 16 }]
theorem Try.own : ownKnob Try.prog.godebug = none := by kernel_rfl
theorem Try.laidOut : laidOutB Try.prog = true := by kernel_rfl

section
variable {H : Type} {enc : TypeId × Value → H} {P : Program} {w : World} {base : Nat} {spare : Nat → Bool} {held : Bool}
theorem open_slice_fields {t e : TypeId} {fs : Array Field} {fuel : Nat} {cs : List Value} {x : DataW H × List MemPlace} (ht : P.underlying t = some (.slice e)) (he : P.underlying e = some (.struct fs))
    (hone : oneCellFields P fs = true) (hC : P.cellsOf e = fs.size) (h : DataW.trod enc P w base spare held fuel t cs = some x) :
    cs = [.slice none 0 0] ∨
    ∃ (a : Addr) (len cap : Nat), cs = [.slice (some a) len cap] ∧ len ≤ cap ∧ cap ≤ maxLen ∧
      ∀ i, i < len → ∀ (j : Nat) (f : Field), fs[j]? = some f → ∃ (v : Value) (y : DataW H × List MemPlace) (n : Nat), w.cell? (a.add (i * fs.size + j)) = some v ∧ DataW.trod enc P w base spare held n f.type [v] = some y := by
  rcases open_slice ht h with h0 | ⟨a, len, cap, m, n, D, Pl, hcs, hb, hl, hm, hmm, hx, hi⟩
  · exact .inl h0.1
  · refine .inr ⟨a, len, cap, hcs, hl, hm, fun i him j f hj => ?_⟩
    obtain ⟨cs', hc, ht'⟩ := hi i (by rw [hmm]; split <;> omega)
    rw [hC] at hc
    obtain ⟨ys, n', hn', hy, hlen, hyl, hf⟩ := DataW.trod_struct he ht'
    obtain ⟨_, hcl, hat⟩ := World.cells?_some hc
    obtain ⟨ho, hk⟩ := hone_of hone j f hj
    have hjl : j < fs.size := (Array.getElem?_eq_some_iff.1 hj).1
    have hcell := hat j hjl
    have hv : cs'[j]? = some (cs'[j]'(by omega)) := List.getElem?_eq_getElem (by omega)
    have h1 := hf j f hj
    rw [ho, hk] at h1
    have hone' : (cs'.drop j).take 1 = [cs'[j]'(by omega)] := by
      rw [List.drop_eq_getElem_cons (by omega)]
      rfl
    rw [hone'] at h1
    have hys : ys[j]? = some (ys[j]'(by omega)) := List.getElem?_eq_getElem (by omega)
    refine ⟨_, _, _, ?_, h1.trans hys⟩
    rw [← Go.Deep.add_add, hcell, hv]

theorem open_blanks {fuel : Nat} {cs : List Value} {x : DataW H × List MemPlace} (h : DataW.trod enc Try.prog w base spare held fuel 22 cs = some x) :
    ∃ A L c, cs = [.slice A L.length c] ∧ Kd.C k52 w A L.length L ∧ L.length ≤ c := by
  rcases open_slice_fields (fs := F52) Try.underlying22 Try.underlying52 (by kernel_rfl) (by kernel_rfl) h with h0 | ⟨a, len, cap, hcs, hl, hm, hc⟩
  · exact ⟨none, [], 0, h0, ⟨rfl, by decide, fun hn => absurd hn (by simp)⟩, Nat.le_refl _⟩
  · have hcell : ∀ i, ∃ b : S52, i < len → w.cell? (a.add (i * 3)) = some (.int .i64 b.f0) ∧ w.cell? (a.add (i * 3 + 1)) = some (.int .i64 b.f1) ∧ w.cell? (a.add (i * 3 + 2)) = some (.int .i64 b.f2) := fun i => by
      by_cases hi : i < len
      · obtain ⟨v0, y0, n0, c0, t0⟩ := hc i hi 0 _ rfl
        obtain ⟨v1, y1, n1, c1, t1⟩ := hc i hi 1 _ rfl
        obtain ⟨v2, y2, n2, c2, t2⟩ := hc i hi 2 _ rfl
        obtain ⟨b0, e0, _⟩ := DataW.trod_int Try.underlying3 t0
        obtain ⟨b1, e1, _⟩ := DataW.trod_int Try.underlying3 t1
        obtain ⟨b2, e2, _⟩ := DataW.trod_int Try.underlying3 t2
        obtain rfl := (List.cons.inj e0).1
        obtain rfl := (List.cons.inj e1).1
        obtain rfl := (List.cons.inj e2).1
        exact ⟨⟨b0, b1, b2⟩, fun _ => ⟨c0, c1, c2⟩⟩
      · exact ⟨⟨0, 0, 0⟩, fun h => absurd h hi⟩
    let f : Nat → S52 := fun i => Classical.choose (hcell i)
    have hf : ∀ i, i < len → w.cell? (a.add (i * 3)) = some (.int .i64 (f i).f0) ∧ w.cell? (a.add (i * 3 + 1)) = some (.int .i64 (f i).f1) ∧ w.cell? (a.add (i * 3 + 2)) = some (.int .i64 (f i).f2) := fun i => Classical.choose_spec (hcell i)
    refine ⟨some a, (List.range len).map f, cap, by simpa using hcs, ⟨by simp, ?_, fun _ => ⟨a, rfl, fun j p hj => ?_⟩⟩, by simpa using hl⟩
    · simp only [List.length_map, List.length_range]
      unfold maxLen at hm
      omega
    · have hjl : j < len := by
        have := (List.getElem?_eq_some_iff.1 hj).1
        simpa using this
      obtain rfl : f j = p := by simpa [List.getElem?_map, List.getElem?_range hjl] using hj
      obtain ⟨c0, c1, c2⟩ := hf j hjl
      refine ⟨_, rfl, k52_mk _ _, fun i u hu => ?_⟩
      match i, hu with
      | 0, hu => rw [← hu]; exact c0
      | 1, hu => rw [← hu]; exact c1
      | 2, hu => rw [← hu]; exact c2

/-- A task that came in. -/
theorem open_task {r : Reach} {b0 : Nat} {v : Value} {d : DataW H} {p : List MemPlace} (hv : Value.okWide Try.prog w r b0 24 v) (h : DataW.Trod enc Try.prog w base spare held 24 v d p) :
    ∃ x y A L c, v = .agg #[.int .i64 x, .int .i64 y, .slice A L.length c] ∧ Kd.C k52 w A L.length L ∧ L.length ≤ c := by
  obtain ⟨v0, v1, v2, y0, y1, y2, n, rfl, _, _, t0, t1, t2⟩ := open_agg3 Try.underlying24 (by kernel_rfl) (by kernel_rfl) hv h
  obtain ⟨x, e0, _⟩ := DataW.trod_int Try.underlying3 t0
  obtain ⟨y, e1, _⟩ := DataW.trod_int Try.underlying3 t1
  obtain ⟨A, L, c, e2, hC, hc⟩ := open_blanks t2
  obtain rfl := (List.cons.inj e0).1
  obtain rfl := (List.cons.inj e1).1
  obtain rfl := (List.cons.inj e2).1
  exact ⟨x, y, A, L, c, rfl, hC, hc⟩
end

end Go.Proofs.Ytochbhndeboodaa
