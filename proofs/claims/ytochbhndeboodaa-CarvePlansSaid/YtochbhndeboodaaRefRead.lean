/- The walk of the reference's Read. -/
import Derived.Test.YtochbhndeboodaaRef
import Derived.Deep.RegionHeld3
import Derived.StillTailTactics
namespace Go.Proofs.Ytochbhndeboodaa
set_option linter.unusedVariables false
set_option linter.unusedSimpArgs false
open Go.RowKit Go.Proofs.YtochbhndeboodaaW.PrintWords Go.Proofs.YtochbhndeboodaaW.PrintLast Go.Proofs.YtochbhndeboodaaW.PrintMore
open Go.Proofs.Ytochbhndeboodaa.PCarveMore (S52 S56 k52 k56)

/-- What Read answers. -/
def ReadPost (x : Option (Int × Int)) (w : World) (e : Ending) (w' : World) : Prop :=
  Below w.heap.size w w' ∧ ((∃ v a, x = some (v, a) ∧ e = .returned (.tuple #[.int .i64 v, .int .i64 a, .bool true])) ∨ (x = none ∧ e = .returned (.tuple #[.int .i64 0, .int .i64 0, .bool false])))

set_option maxHeartbeats 1000000 in
set_option maxRecDepth 100000 in
theorem refRead_any {a0 a1 : Int} {L : List S52} {p : List S56} {A Ap : Option Addr} {c cp : Nat} {w : World} (hr : Kd.C k52 w A L.length L) (hp : Kd.C k56 w Ap p.length p) (ht : isTask a0 a1 L) :
    Calls Try.prog 20 #[.int .i64 a0, .int .i64 a1, .slice A L.length c, .slice Ap p.length cp] w (ReadPost (readP L a0 a1 p) w) := by
  have hu78 := Try.underlying78
  have hpm : p.length ≤ 9223372036854775807 := Kd.C_max hp
  obtain ⟨w1, w48⟩ := inB_iff.1 ht.1
  obtain ⟨h1, h48⟩ := inB_iff.1 ht.2.1
  by_cases hl : p.length ≤ 8192
  · have hcall := read_of (c := c) (cp := cp) ht.2.2.2 ht.2.2.1 hl hr hp p.length 0 a0 a1 w (by omega) (Nat.zero_le _) w1 w48 h1 h48 (Below.refl _ _)
    have HCA := Aside0.mk hcall
    have hli : ¬ (8192 : Int) < p.length := by omega
    have HL := Aside0.mk hl
    clear hcall hl hr hp ht w1 w48 h1 h48
    go_enter Try.func20, Try.ntmps20
    go_wp2_with fail
    refine HCA.out.mono ?_
    rintro e wa ⟨hB, ⟨v, a, m, e1, hm, rfl⟩ | ⟨s, v, a, e1, rfl⟩⟩
    · have HE := Aside0.mk e1
      have HB := Aside0.mk hB
      unfold cutV
      clear e1 hB
      by_cases hk : m = p.length
      · have hk' : ((m : Int) != (p.length : Int)) = false := by simp; omega
        have HK := Aside0.mk hk
        clear hk hm
        go_wp2_with fail
        have hX := heap_alloc_new wa (.cells #[.int .i64 (m : Int), .int .i64 v, .int .i64 a, .bool false] 78)
        have hBx := below_alloc HB.out (.cells #[.int .i64 (m : Int), .int .i64 v, .int .i64 a, .bool false] 78)
        generalize wa.alloc (.cells #[.int .i64 (m : Int), .int .i64 v, .int .i64 a, .bool false] 78) = wb at hX hBx ⊢
        have q1 := (blk_cell hX 1).trans rfl
        have q2 := (blk_cell hX 2).trans rfl
        have HBx := Aside0.mk hBx
        clear hBx hX
        have HKP : Aside0 (∀ w', Below wb.heap.size wb w' → w'.cell? ⟨wa.heap.size, 1, none⟩ = some (.int .i64 v) ∧ w'.cell? ⟨wa.heap.size, 2, none⟩ = some (.int .i64 a)) := ⟨fun w' hb => ⟨pw_cell_below hb q1, pw_cell_below hb q2⟩⟩
        go_region_held3 (fun w' => w'.cell? ⟨wa.heap.size, 1, none⟩ = some (.int .i64 v) ∧ w'.cell? ⟨wa.heap.size, 2, none⟩ = some (.int .i64 a))
          (exact HKP.out _ (below_drew (Below.refl _ _)))
          (fail)
        all_goals (go_wp2_with fail)
        all_goals
          refine bodyPost_ret (v := .tuple #[.int .i64 v, .int .i64 a, .bool true]) (by simp [results, Try.results20, go_sem]) rfl ⟨below_drew HBx.out, .inl ⟨v, a, ?_, rfl⟩⟩
          unfold readP
          rw [if_pos HL.out]
          have he := HE.out
          rw [List.drop_zero, Nat.zero_add, HK.out, List.drop_length] at he
          rw [he]
      · have hk' : ((m : Int) != (p.length : Int)) = true := by simp; omega
        have HK := Aside0.mk hk
        have HM := Aside0.mk hm
        clear hk hm
        go_wp2_with fail
        refine bodyPost_ret (v := .tuple #[.int .i64 0, .int .i64 0, .bool false]) (by simp [results, Try.results20, go_sem]) rfl ⟨below_alloc HB.out _, .inr ⟨?_, rfl⟩⟩
        unfold readP
        rw [if_pos HL.out]
        have he := HE.out
        rw [List.drop_zero, Nat.zero_add] at he
        rw [he]
        obtain ⟨x, y, e⟩ : ∃ x y, p.drop m = x :: y := ⟨_, _, List.drop_eq_getElem_cons (by have := HM.out; have := HK.out; omega)⟩
        rw [e]
    · have HE := Aside0.mk e1
      have HB := Aside0.mk hB
      unfold cutV
      clear e1 hB
      go_wp2_with fail
      refine bodyPost_ret (v := .tuple #[.int .i64 0, .int .i64 0, .bool false]) (by simp [results, Try.results20, go_sem]) rfl ⟨below_alloc HB.out _, .inr ⟨?_, rfl⟩⟩
      unfold readP
      rw [if_pos HL.out]
      have he := HE.out
      rw [List.drop_zero] at he
      rw [he]
  · have hli : (8192 : Int) < p.length := by omega
    have HL := Aside0.mk hl
    clear hl hr hp ht w1 w48 h1 h48
    go_enter Try.func20, Try.ntmps20
    go_wp2_with fail
    refine bodyPost_ret (v := .tuple #[.int .i64 0, .int .i64 0, .bool false]) (by simp [results, Try.results20, go_sem]) rfl ⟨Below.refl _ _, .inr ⟨?_, rfl⟩⟩
    unfold readP
    rw [if_neg HL.out]

end Go.Proofs.Ytochbhndeboodaa
