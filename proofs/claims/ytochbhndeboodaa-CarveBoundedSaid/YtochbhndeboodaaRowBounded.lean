/- The row of CarveBounded. -/
import Derived.Test.YtochbhndeboodaaOpen
import Derived.Test.YtochbhndeboodaaBoundedLaw
import Derived.SizedLaws
import Derived.ChangeSlices
namespace Go.Proofs.Ytochbhndeboodaa.carveBounded
set_option linter.unusedVariables false
set_option linter.unusedSimpArgs false
open Go.ChangeShapes Go.WideShapes Go.ChangeAt Go.RowKit Go.Deep

section
variable {H : Type} {enc : TypeId × Value → H} {w : World} {base : Nat} {spare : Nat → Bool} {held : Bool}
open Go.Proofs.YtochbhndeboodaaW.PrintWords Go.Proofs.YtochbhndeboodaaW.PrintLast Go.Proofs.YtochbhndeboodaaW.PrintMore
open Go.Proofs.Ytochbhndeboodaa.PCarveMore (S52 S56 k52 k56 k56_mk)
def F56 : Array Field := #[{ name := "Kind", type := 3, offset := 0, embedded := false, tag := "", pkgPath := "", byteOffset := 0 }, { name := "Arg", type := 3, offset := 1, embedded := false, tag := "", pkgPath := "", byteOffset := 8 }]
theorem open_steps {fuel : Nat} {cs : List Value} {x : DataW H × List MemPlace} (h : DataW.trod enc Try.prog w base spare held fuel 26 cs = some x) :
    ∃ A L c, cs = [.slice A L.length c] ∧ Kd.C k56 w A L.length L ∧ L.length ≤ c := by
  rcases open_slice_fields (fs := F56) Try.underlying26 Try.underlying56 (by kernel_rfl) (by kernel_rfl) h with h0 | ⟨a, len, cap, hcs, hl, hm, hc⟩
  · exact ⟨none, [], 0, h0, ⟨rfl, by decide, fun hn => absurd hn (by simp)⟩, Nat.le_refl _⟩
  · have hcell : ∀ i, ∃ b : S56, i < len → w.cell? (a.add (i * 2)) = some (.int .i64 b.f0) ∧ w.cell? (a.add (i * 2 + 1)) = some (.int .i64 b.f1) := fun i => by
      by_cases hi : i < len
      · obtain ⟨v0, y0, n0, c0, t0⟩ := hc i hi 0 _ rfl
        obtain ⟨v1, y1, n1, c1, t1⟩ := hc i hi 1 _ rfl
        obtain ⟨b0, e0, _⟩ := DataW.trod_int Try.underlying3 t0
        obtain ⟨b1, e1, _⟩ := DataW.trod_int Try.underlying3 t1
        obtain rfl := (List.cons.inj e0).1
        obtain rfl := (List.cons.inj e1).1
        exact ⟨⟨b0, b1⟩, fun _ => ⟨c0, c1⟩⟩
      · exact ⟨⟨0, 0⟩, fun h => absurd h hi⟩
    let f : Nat → S56 := fun i => Classical.choose (hcell i)
    have hf : ∀ i, i < len → w.cell? (a.add (i * 2)) = some (.int .i64 (f i).f0) ∧ w.cell? (a.add (i * 2 + 1)) = some (.int .i64 (f i).f1) := fun i => Classical.choose_spec (hcell i)
    refine ⟨some a, (List.range len).map f, cap, by simpa using hcs, ⟨by simp, ?_, fun _ => ⟨a, rfl, fun j p hj => ?_⟩⟩, by simpa using hl⟩
    · simp only [List.length_map, List.length_range]
      unfold maxLen at hm
      omega
    · have hjl : j < len := by
        have := (List.getElem?_eq_some_iff.1 hj).1
        simpa using this
      obtain rfl : f j = p := by simpa [List.getElem?_map, List.getElem?_range hjl] using hj
      obtain ⟨c0, c1⟩ := hf j hjl
      refine ⟨_, rfl, k56_mk _ _, fun i u hu => ?_⟩
      match i, hu with
      | 0, hu => rw [← hu]; exact c0
      | 1, hu => rw [← hu]; exact c1
theorem open_plan {r : Reach} {b0 : Nat} {v : Value} {d : DataW H} {p : List MemPlace} (hv : Value.okWide Try.prog w r b0 26 v) (h : DataW.Trod enc Try.prog w base spare held 26 v d p) :
    ∃ A L c, v = .slice A L.length c ∧ Kd.C k56 w A L.length L ∧ L.length ≤ c := by
  obtain ⟨a0, len, cap, rfl⟩ := Go.WideShapes.okWide_slice Try.underlying26 hv
  obtain ⟨fuel, hf⟩ := h
  obtain ⟨A, L, c, e, hC, hc⟩ := open_steps hf
  have e2 : Value.slice a0 len cap = .slice A L.length c := by simpa [Value.cells] using e
  exact ⟨A, L, c, e2, hC, hc⟩
theorem open_row {fuel : Nat} {cs : List Value} {x : DataW H × List MemPlace} (h : DataW.trod enc Try.prog w base spare held fuel 39 cs = some x) :
    ∃ (A : Option Addr) (r : List Int) (c : Nat), cs = [.slice A r.length c] ∧ r.length ≤ c ∧ Kd.C (Kd.int .i64) w A r.length r := by
  rcases open_ints Try.underlying39 Try.underlying3 (by kernel_rfl) h with h0 | ⟨a, len, cap, zs, rfl, _, hl, hm, hz, _, hc, _⟩
  · exact ⟨none, [], 0, h0.1, Nat.le_refl _, ⟨rfl, by simp, fun hn => absurd hn (by simp)⟩⟩
  · have hzl : len ≤ zs.length := by rw [hz]; split <;> omega
    have hrl : (zs.take len).length = len := by rw [List.length_take]; omega
    refine ⟨some a, zs.take len, cap, by rw [hrl], by omega, rfl, ?_, fun _ => ⟨a, rfl, fun j p hj => ?_⟩⟩
    · unfold maxLen at hm
      omega
    · have hjl : j < len := by
        have := (List.getElem?_eq_some_iff.1 hj).1
        omega
      refine ⟨[.int .i64 p], rfl, rfl, fun i u hu => ?_⟩
      match i, hu with
      | 0, hu =>
        have h1 := hc j (by omega)
        have h2 : zs.getD j 0 = p := by
          rw [List.getElem?_take_of_lt hjl] at hj
          rw [List.getD_eq_getElem?_getD, hj]
          rfl
        rw [h2] at h1
        have hu2 : u = .int .i64 p := by simpa using hu.symm
        rw [hu2]
        show w.cell? (a.add (j * 1 + 0)) = _
        rw [Nat.mul_one, Nat.add_zero]
        exact h1
theorem open_list {r : Reach} {b0 : Nat} {v : Value} {d : DataW H} {p : List MemPlace} (hv : Value.okWide Try.prog w r b0 39 v) (h : DataW.Trod enc Try.prog w base spare held 39 v d p) :
    ∃ (A : Option Addr) (l : List Int) (c : Nat), v = .slice A l.length c ∧ Kd.C (Kd.int .i64) w A l.length l ∧ l.length ≤ c := by
  obtain ⟨a0, len, cap, rfl⟩ := Go.WideShapes.okWide_slice Try.underlying39 hv
  obtain ⟨fuel, hf⟩ := h
  obtain ⟨A, l, c, e, hc, hC⟩ := open_row hf
  have e2 : Value.slice a0 len cap = .slice A l.length c := by simpa [Value.cells] using e
  exact ⟨A, l, c, e2, hC, hc⟩
end

set_option maxRecDepth 100000 in
theorem lifted (os : Os) (started : os.Started) (H : Type) (enc : TypeId × Value → H) :
    ReturnsInHanded {} Try.checked os 6 .any (Rows.carveBoundedSpec.pre6 enc Try.prog Try.f6 Rows.carveBoundedRow.domain false) (Rows.carveBoundedSpec.post enc Try.prog Try.f6 false true false false) := by
  refine returnsInHanded_of_change (C := Try.checked) Try.own started (by kernel_rfl) Try.func6
    (ChangeSpec.witness6 (enc := enc) (C := Try.checked) false ⟨#[], #[.agg #[.int .i64 0, .int .i64 0, .slice none 0 0], .slice none 0 0, .slice none 0 0], []⟩ 6 (by kernel_rfl) (by kernel_rfl) (by kernel_rfl) (by kernel_rfl)) ?_
  intro W base args ds gs before hval0 hW hcnd _
  have hval : ∀ (j : Nat) t v, Try.f6.params[j]? = some t → args[j]? = some v → Value.okWide Try.prog W .any base t v := hval0
  have hW' := hW
  obtain ⟨p, q, hA0, hV, rfl, hfz, hnd⟩ := hW
  have hA : DataW.TrodAll enc Try.prog W 0 (fun _ => true) true Try.f6.params.toList args.toList ds p := hA0
  rw [Try.params6] at hA hval
  obtain ⟨v0, vs0, d0, ds0, p0, q0, hargs, rfl, rfl, h0, r0⟩ := trodAll_cons hA
  obtain ⟨v1, vs1, d1, ds1, p1, q1, rfl, rfl, rfl, h1, r1⟩ := trodAll_cons r0
  obtain ⟨v2, vs2, d2, ds2, p2, q2, rfl, rfl, rfl, h2, r2⟩ := trodAll_cons r1
  obtain ⟨rfl, rfl, rfl⟩ := trodAll_nil r2
  obtain rfl : args = #[v0, v1, v2] := by cases args; simp_all
  obtain ⟨rfl, rfl⟩ := trodVars_none hV
  have lt0 : ∀ x ∈ p0, x.block < W.heap.size := by obtain ⟨m, hm⟩ := h0; exact DataW.trod_lt m _ _ _ hm
  obtain ⟨x, y, A, L, c, rfl, hC, hc⟩ := open_task (hval 0 24 v0 rfl rfl) h0
  have lt1 : ∀ x ∈ p1, x.block < W.heap.size := by obtain ⟨m, hm⟩ := h1; exact DataW.trod_lt m _ _ _ hm
  obtain ⟨Ap, P, cp, rfl, hP, hcp⟩ := open_plan (hval 1 26 v1 rfl rfl) h1
  have lt2 : ∀ x ∈ p2, x.block < W.heap.size := by obtain ⟨m, hm⟩ := h2; exact DataW.trod_lt m _ _ _ hm
  obtain ⟨Am, M, cm, rfl, hM, hcm⟩ := open_list (hval 2 39 v2 rfl rfl) h2
  clear hA0 hval0
  refine (bounded_any x y A Ap Am c cp cm L P M W hC hc hP hcp hM).mono fun e W' ⟨he, bel⟩ => ?_
  subst he
  exact ⟨_, rfl, _, _, _, [], _, [], hW', trodAll_mk1 (shut_bool Try.underlying4 _), (trodAll_cons_mk (Below.trod Try.laidOut (by kernel_rfl) (of_decide_eq_true (by kernel_rfl)) h0 bel lt0) (trodAll_cons_mk (Below.trod Try.laidOut (by kernel_rfl) (of_decide_eq_true (by kernel_rfl)) h1 bel lt1) (trodAll_cons_mk (Below.trod Try.laidOut (by kernel_rfl) (of_decide_eq_true (by kernel_rfl)) h2 bel lt2) trodAll_mk0))), rfl, bel.frame _, fun h => by cases h⟩

theorem over : Rows.carveBoundedRow.holds Try.pinned (OpenSpec.ofChange Rows.carveBoundedSpec) :=
  OpenClaim.holds_of_wide 6 Try.f6 rfl rfl rfl rfl rfl rfl rfl ⟨rfl, rfl, rfl, rfl, rfl⟩ rfl rfl rfl rfl rfl (by kernel_rfl) Try.func6 (by kernel_rfl)
    (of_decide_eq_true (by kernel_rfl)) (by unfold Func.isWrapper; first | (rw [if_pos (by decide +kernel)]; kernel_rfl) | (rw [if_neg (by decide +kernel)]; exact ⟨rfl, rfl⟩))
    (fun os started H enc _ => lifted os started H enc)

end Go.Proofs.Ytochbhndeboodaa.carveBounded
namespace Go.Proofs.Ytochbhndeboodaa
/-- The row, under a short name, for the claim. -/
theorem carveBounded_holds : Rows.CarveBoundedSaid := carveBounded.over
#print axioms carveBounded_holds
end Go.Proofs.Ytochbhndeboodaa
