/- The row of CarveBounds. -/
import Derived.Test.YtochbhndeboodaaOpen
import Derived.Test.YtochbhndeboodaaBounds
import Derived.SizedLaws
import Derived.ChangeSlices
namespace Go.Proofs.Ytochbhndeboodaa.carveBounds
set_option linter.unusedVariables false
set_option linter.unusedSimpArgs false
open Go.ChangeShapes Go.WideShapes Go.ChangeAt Go.RowKit Go.Deep

section
variable {H : Type} {enc : TypeId × Value → H} {w : World} {base : Nat} {spare : Nat → Bool} {held : Bool}
open Go.Proofs.YtochbhndeboodaaW.PrintWords Go.Proofs.YtochbhndeboodaaW.PrintLast Go.Proofs.YtochbhndeboodaaW.PrintMore
theorem open_row {fuel : Nat} {cs : List Value} {x : DataW H × List MemPlace} (h : DataW.trod enc Try.prog w base spare held fuel 39 cs = some x) :
    ∃ (A : Option Addr) (r : List Int) (c : Nat), cs = [.slice A r.length c] ∧ r.length ≤ c ∧ Kd.C (Kd.int .i64) w A r.length r := by
  rcases open_ints Try.underlying39 Try.underlying3 (by kernel_rfl) h with h0 | ⟨a, len, cap, zs, rfl, _, hl, hm, hz, _, hc, _⟩
  · exact ⟨none, [], 0, h0.1, Nat.le_refl _, ⟨rfl, by simp, fun hn => absurd hn (by simp)⟩⟩
  · have hzl : len ≤ zs.length := by rw [hz]; split <;> omega
    have hrl : (zs.take len).length = len := by rw [List.length_take]; omega
    refine ⟨some a, zs.take len, cap, by rw [hrl], by omega, rfl, ?_, fun _ => ⟨a, rfl, fun j p hj => ?_⟩⟩
    · unfold maxLen at hm
      omega
    · have hjl : j < len := by
        have := (List.getElem?_eq_some_iff.1 hj).1
        omega
      refine ⟨[.int .i64 p], rfl, rfl, fun i u hu => ?_⟩
      match i, hu with
      | 0, hu =>
        have h1 := hc j (by omega)
        have h2 : zs.getD j 0 = p := by
          rw [List.getElem?_take_of_lt hjl] at hj
          rw [List.getD_eq_getElem?_getD, hj]
          rfl
        rw [h2] at h1
        have hu2 : u = .int .i64 p := by simpa using hu.symm
        rw [hu2]
        show w.cell? (a.add (j * 1 + 0)) = _
        rw [Nat.mul_one, Nat.add_zero]
        exact h1
theorem open_tables {fuel : Nat} {cs : List Value} {x : DataW H × List MemPlace} (h : DataW.trod enc Try.prog w base spare held fuel 27 cs = some x) :
    ∃ (A : Option Addr) (b : List (List Int)) (c : Nat), cs = [.slice A b.length c] ∧ b.length ≤ c ∧ Kd.C (Kd.slice 3 (Kd.int .i64)) w A b.length b := by
  rcases open_slice Try.underlying27 h with h0 | ⟨a, len, cap, m, n, D, Pl, rfl, hb, hl, hm, hmm, hx, hi⟩
  · exact ⟨none, [], 0, h0.1, Nat.le_refl _, ⟨rfl, by simp, fun hn => absurd hn (by simp)⟩⟩
  · have hC1 : Try.prog.cellsOf 39 = 1 := by kernel_rfl
    have hcell : ∀ i, ∃ r : List Int, i < len → ∃ A' c', w.cell? (a.add i) = some (.slice A' r.length c') ∧ r.length ≤ c' ∧ Kd.C (Kd.int .i64) w A' r.length r := fun i => by
      by_cases hil : i < len
      · obtain ⟨cs', hc, ht'⟩ := hi i (by rw [hmm]; split <;> omega)
        obtain ⟨A', r, c', rfl, hrc, hR⟩ := open_row ht'
        rw [hC1, Nat.mul_one] at hc
        obtain ⟨_, _, hat⟩ := World.cells?_some hc
        refine ⟨r, fun _ => ⟨A', c', ?_, hrc, hR⟩⟩
        have h0 := hat 0 (by omega)
        rw [Go.Deep.add_add, Nat.add_zero] at h0
        simpa using h0
      · exact ⟨[], fun h => absurd h hil⟩
    let f : Nat → List Int := fun i => Classical.choose (hcell i)
    have hf : ∀ i, i < len → ∃ A' c', w.cell? (a.add i) = some (.slice A' (f i).length c') ∧ (f i).length ≤ c' ∧ Kd.C (Kd.int .i64) w A' (f i).length (f i) := fun i => Classical.choose_spec (hcell i)
    refine ⟨some a, (List.range len).map f, cap, by simp, by simpa using hl, rfl, ?_, fun _ => ⟨a, rfl, fun j p hj => ?_⟩⟩
    · unfold maxLen at hm
      simp
      omega
    · have hjl : j < len := by
        have := (List.getElem?_eq_some_iff.1 hj).1
        simpa using this
      obtain rfl : f j = p := by simpa [List.getElem?_map, List.getElem?_range hjl] using hj
      obtain ⟨A', c', h1, h2, h3⟩ := hf j hjl
      refine ⟨[.slice A' (f j).length c'], rfl, ⟨A', c', rfl, h2, h3⟩, fun i u hu => ?_⟩
      match i, hu with
      | 0, hu =>
        have hu2 : u = .slice A' (f j).length c' := by simpa using hu.symm
        rw [hu2]
        show w.cell? (a.add (j * 1 + 0)) = _
        rw [Nat.mul_one, Nat.add_zero]
        exact h1
theorem open_table {r : Reach} {b0 : Nat} {v : Value} {d : DataW H} {p : List MemPlace} (hv : Value.okWide Try.prog w r b0 27 v) (h : DataW.Trod enc Try.prog w base spare held 27 v d p) :
    ∃ (A : Option Addr) (b : List (List Int)) (c : Nat), v = .slice A b.length c ∧ Kd.C (Kd.slice 3 (Kd.int .i64)) w A b.length b ∧ b.length ≤ c := by
  obtain ⟨a0, len, cap, rfl⟩ := Go.WideShapes.okWide_slice Try.underlying27 hv
  obtain ⟨fuel, hf⟩ := h
  obtain ⟨A, b, c, e, hc, hC⟩ := open_tables hf
  have e2 : Value.slice a0 len cap = .slice A b.length c := by simpa [Value.cells] using e
  exact ⟨A, b, c, e2, hC, hc⟩
end

set_option maxRecDepth 100000 in
theorem lifted (os : Os) (started : os.Started) (H : Type) (enc : TypeId × Value → H) :
    ReturnsInHanded {} Try.checked os 5 .any (Rows.carveBoundsSpec.pre6 enc Try.prog Try.f5 Rows.carveBoundsRow.domain false) (Rows.carveBoundsSpec.post enc Try.prog Try.f5 false true false false) := by
  refine returnsInHanded_of_change (C := Try.checked) Try.own started (by kernel_rfl) Try.func5
    (ChangeSpec.witness6 (enc := enc) (C := Try.checked) false ⟨#[], #[.agg #[.int .i64 0, .int .i64 0, .slice none 0 0], .slice none 0 0], []⟩ 5 (by kernel_rfl) (by kernel_rfl) (by kernel_rfl) (by kernel_rfl)) ?_
  intro W base args ds gs before hval0 hW hcnd _
  have hval : ∀ (j : Nat) t v, Try.f5.params[j]? = some t → args[j]? = some v → Value.okWide Try.prog W .any base t v := hval0
  have hW' := hW
  obtain ⟨p, q, hA0, hV, rfl, hfz, hnd⟩ := hW
  have hA : DataW.TrodAll enc Try.prog W 0 (fun _ => true) true Try.f5.params.toList args.toList ds p := hA0
  rw [Try.params5] at hA hval
  obtain ⟨v0, vs0, d0, ds0, p0, q0, hargs, rfl, rfl, h0, r0⟩ := trodAll_cons hA
  obtain ⟨v1, vs1, d1, ds1, p1, q1, rfl, rfl, rfl, h1, r1⟩ := trodAll_cons r0
  obtain ⟨rfl, rfl, rfl⟩ := trodAll_nil r1
  obtain rfl : args = #[v0, v1] := by cases args; simp_all
  obtain ⟨rfl, rfl⟩ := trodVars_none hV
  have lt0 : ∀ x ∈ p0, x.block < W.heap.size := by obtain ⟨m, hm⟩ := h0; exact DataW.trod_lt m _ _ _ hm
  obtain ⟨x, y, A, L, c, rfl, hC, hc⟩ := open_task (hval 0 24 v0 rfl rfl) h0
  have lt1 : ∀ x ∈ p1, x.block < W.heap.size := by obtain ⟨m, hm⟩ := h1; exact DataW.trod_lt m _ _ _ hm
  obtain ⟨Ab, b, cb, rfl, hP, hcp⟩ := open_table (hval 1 27 v1 rfl rfl) h1
  clear hA0 hval0
  refine (bounds_law x y A Ab c cb L b W hC hc hP hcp).mono fun e W' ⟨he, bel⟩ => ?_
  subst he
  exact ⟨_, rfl, _, _, _, [], _, [], hW', trodAll_mk1 (shut_bool Try.underlying4 _), (trodAll_cons_mk (Below.trod Try.laidOut (by kernel_rfl) (of_decide_eq_true (by kernel_rfl)) h0 bel lt0) (trodAll_cons_mk (Below.trod Try.laidOut (by kernel_rfl) (of_decide_eq_true (by kernel_rfl)) h1 bel lt1) trodAll_mk0)), rfl, bel.frame _, fun h => by cases h⟩

theorem over : Rows.carveBoundsRow.holds Try.pinned (OpenSpec.ofChange Rows.carveBoundsSpec) :=
  OpenClaim.holds_of_wide 5 Try.f5 rfl rfl rfl rfl rfl rfl rfl ⟨rfl, rfl, rfl, rfl, rfl⟩ rfl rfl rfl rfl rfl (by kernel_rfl) Try.func5 (by kernel_rfl)
    (of_decide_eq_true (by kernel_rfl)) (by unfold Func.isWrapper; first | (rw [if_pos (by decide +kernel)]; kernel_rfl) | (rw [if_neg (by decide +kernel)]; exact ⟨rfl, rfl⟩))
    (fun os started H enc _ => lifted os started H enc)

end Go.Proofs.Ytochbhndeboodaa.carveBounds
namespace Go.Proofs.Ytochbhndeboodaa
/-- The row, under a short name, for the claim. -/
theorem carveBounds_holds : Rows.CarveBoundsSaid := carveBounds.over
#print axioms carveBounds_holds
end Go.Proofs.Ytochbhndeboodaa
