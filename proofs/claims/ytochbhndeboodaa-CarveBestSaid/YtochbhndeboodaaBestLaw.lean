/- The walk of CarveBest; in it, the walk of the reference's Read, as in RefRead. -/
import Derived.Test.YtochbhndeboodaaVal
import Derived.Test.YtochbhndeboodaaPlainI
import Derived.Test.YtochbhndeboodaaBound
import Derived.Test.YtochbhndeboodaaMost
import Derived.Test.YtochbhndeboodaaPCarveMorex1
import Derived.Deep.RegionHeld3
namespace Go.Proofs.Ytochbhndeboodaa
set_option linter.unusedVariables false
set_option linter.unusedSimpArgs false
open Go.RowKit Go.Proofs.YtochbhndeboodaaW.PrintWords Go.Proofs.YtochbhndeboodaaW.PrintLast Go.Proofs.YtochbhndeboodaaW.PrintMore
open Go.Proofs.Ytochbhndeboodaa.PCarveMore (S52 S56 k52 k56)

/-- What Read answers. -/
def ReadPost (x : Option (Int × Int)) (w : World) (e : Ending) (w' : World) : Prop :=
  Below w.heap.size w w' ∧ ((∃ v a, x = some (v, a) ∧ e = .returned (.tuple #[.int .i64 v, .int .i64 a, .bool true])) ∨ (x = none ∧ e = .returned (.tuple #[.int .i64 0, .int .i64 0, .bool false])))

set_option maxHeartbeats 1000000 in
set_option maxRecDepth 100000 in
theorem refRead_any {a0 a1 : Int} {L : List S52} {p : List S56} {A Ap : Option Addr} {c cp : Nat} {w : World} (hr : Kd.C k52 w A L.length L) (hp : Kd.C k56 w Ap p.length p) (ht : isTask a0 a1 L) :
    Calls Try.prog 20 #[.int .i64 a0, .int .i64 a1, .slice A L.length c, .slice Ap p.length cp] w (ReadPost (readP L a0 a1 p) w) := by
  have hu78 := Try.underlying78
  have hpm : p.length ≤ 9223372036854775807 := Kd.C_max hp
  obtain ⟨w1, w48⟩ := inB_iff.1 ht.1
  obtain ⟨h1, h48⟩ := inB_iff.1 ht.2.1
  by_cases hl : p.length ≤ 8192
  · have hcall := read_of (c := c) (cp := cp) ht.2.2.2 ht.2.2.1 hl hr hp p.length 0 a0 a1 w (by omega) (Nat.zero_le _) w1 w48 h1 h48 (Below.refl _ _)
    have HCA := Aside0.mk hcall
    have hli : ¬ (8192 : Int) < p.length := by omega
    have HL := Aside0.mk hl
    clear hcall hl hr hp ht w1 w48 h1 h48
    go_enter Try.func20, Try.ntmps20
    go_wp2_with fail
    refine HCA.out.mono ?_
    rintro e wa ⟨hB, ⟨v, a, m, e1, hm, rfl⟩ | ⟨s, v, a, e1, rfl⟩⟩
    · have HE := Aside0.mk e1
      have HB := Aside0.mk hB
      unfold cutV
      clear e1 hB
      by_cases hk : m = p.length
      · have hk' : ((m : Int) != (p.length : Int)) = false := by simp; omega
        have HK := Aside0.mk hk
        clear hk hm
        go_wp2_with fail
        have hX := heap_alloc_new wa (.cells #[.int .i64 (m : Int), .int .i64 v, .int .i64 a, .bool false] 78)
        have hBx := below_alloc HB.out (.cells #[.int .i64 (m : Int), .int .i64 v, .int .i64 a, .bool false] 78)
        generalize wa.alloc (.cells #[.int .i64 (m : Int), .int .i64 v, .int .i64 a, .bool false] 78) = wb at hX hBx ⊢
        have q1 := (blk_cell hX 1).trans rfl
        have q2 := (blk_cell hX 2).trans rfl
        have HBx := Aside0.mk hBx
        clear hBx hX
        have HKP : Aside0 (∀ w', Below wb.heap.size wb w' → w'.cell? ⟨wa.heap.size, 1, none⟩ = some (.int .i64 v) ∧ w'.cell? ⟨wa.heap.size, 2, none⟩ = some (.int .i64 a)) := ⟨fun w' hb => ⟨pw_cell_below hb q1, pw_cell_below hb q2⟩⟩
        go_region_held3 (fun w' => w'.cell? ⟨wa.heap.size, 1, none⟩ = some (.int .i64 v) ∧ w'.cell? ⟨wa.heap.size, 2, none⟩ = some (.int .i64 a))
          (exact HKP.out _ (below_drew (Below.refl _ _)))
          (fail)
        all_goals (go_wp2_with fail)
        all_goals
          refine bodyPost_ret (v := .tuple #[.int .i64 v, .int .i64 a, .bool true]) (by simp [results, Try.results20, go_sem]) rfl ⟨below_drew HBx.out, .inl ⟨v, a, ?_, rfl⟩⟩
          unfold readP
          rw [if_pos HL.out]
          have he := HE.out
          rw [List.drop_zero, Nat.zero_add, HK.out, List.drop_length] at he
          rw [he]
      · have hk' : ((m : Int) != (p.length : Int)) = true := by simp; omega
        have HK := Aside0.mk hk
        have HM := Aside0.mk hm
        clear hk hm
        go_wp2_with fail
        refine bodyPost_ret (v := .tuple #[.int .i64 0, .int .i64 0, .bool false]) (by simp [results, Try.results20, go_sem]) rfl ⟨below_alloc HB.out _, .inr ⟨?_, rfl⟩⟩
        unfold readP
        rw [if_pos HL.out]
        have he := HE.out
        rw [List.drop_zero, Nat.zero_add] at he
        rw [he]
        obtain ⟨x, y, e⟩ : ∃ x y, p.drop m = x :: y := ⟨_, _, List.drop_eq_getElem_cons (by have := HM.out; have := HK.out; omega)⟩
        rw [e]
    · have HE := Aside0.mk e1
      have HB := Aside0.mk hB
      unfold cutV
      clear e1 hB
      go_wp2_with fail
      refine bodyPost_ret (v := .tuple #[.int .i64 0, .int .i64 0, .bool false]) (by simp [results, Try.results20, go_sem]) rfl ⟨below_alloc HB.out _, .inr ⟨?_, rfl⟩⟩
      unfold readP
      rw [if_pos HL.out]
      have he := HE.out
      rw [List.drop_zero] at he
      rw [he]
  · have hli : (8192 : Int) < p.length := by omega
    have HL := Aside0.mk hl
    clear hl hr hp ht w1 w48 h1 h48
    go_enter Try.func20, Try.ntmps20
    go_wp2_with fail
    refine bodyPost_ret (v := .tuple #[.int .i64 0, .int .i64 0, .bool false]) (by simp [results, Try.results20, go_sem]) rfl ⟨Below.refl _ _, .inr ⟨?_, rfl⟩⟩
    unfold readP
    rw [if_neg HL.out]

theorem blanks_all {A : Option Addr} {c : Nat} {T : List S52} {w : World} (hr : Kd.C k52 w A T.length T) (hc : T.length ≤ c) :
    Calls Try.prog 13 #[.slice A T.length c] w fun e w' => ∃ v, e = .returned v ∧ Kd.R k52 52 w' w.heap.size (fun _ => True) v (T.take 17) ∧ Below w.heap.size w w' := by
  refine PCarveMore.silversidelaw02_blanks.calls A c T (T.take 17) w hr hc ?_
  unfold PCarveMore.silversidelaw02_blanks.f
  by_cases h : (17 : Int) < T.length
  · have e : mn (T.length : Int) 17 = 17 := by unfold mn; split <;> omega
    rw [e, if_pos (by omega), if_pos (by omega)]
    simp
    omega
  · have e : mn (T.length : Int) 17 = T.length := by unfold mn; split <;> omega
    rw [e, if_pos (by omega), if_pos (by omega)]
    rw [List.take_of_length_le (show T.length ≤ 17 by omega)]
    simp
    omega

theorem task_is {a0 a1 : Int} {L : List S52} {A : Option Addr} {c : Nat} {w : World} (hr : Kd.C k52 w A L.length L) (hc : L.length ≤ c) :
    Calls Try.prog 15 #[.int .i64 a0, .int .i64 a1, .slice A L.length c] w fun e w' => ∃ r, e = .returned (.bool r) ∧ (r = true ↔ isTask a0 a1 L) ∧ Below w.heap.size w w' := by
  rcases task_tells 20 (Nat.le_refl _) a0 a1 L with ⟨h, ht⟩ | ⟨h, ht⟩
  · exact (PCarveMore.silversideref02_Task.calls 20 a0 a1 A c L true w hr hc h).mono fun e w' he => ⟨true, he.1, ⟨fun _ => ht, fun _ => rfl⟩, he.2.below⟩
  · exact (PCarveMore.silversideref02_Task.calls 20 a0 a1 A c L false w hr hc h).mono fun e w' he => ⟨false, he.1, ⟨(fun h => nomatch h), fun h => absurd h ht⟩, he.2.below⟩

set_option maxHeartbeats 8000000 in
set_option maxRecDepth 100000 in
theorem bestLaw_any (x y : Int) (A : Option Addr) (c : Nat) (L : List S52) (w : World) (hr : Kd.C k52 w A L.length L) (hc : L.length ≤ c) :
    Calls Try.prog 3 #[.agg #[.int .i64 x, .int .i64 y, .slice A L.length c]] w fun e w' => e = .returned (.bool true) ∧ Below w.heap.size w w' := by
  have HR := Aside0.mk hr
  have HC := Aside0.mk hc
  clear hr hc
  have hu24 := Try.underlying24
  have hu52 := Try.underlying52
  have hu22 := Try.underlying22
  go_enter Try.func3, Try.ntmps3
  go_wp2_with fail
  have hX := heap_alloc_new w (.cells #[.int .i64 x, .int .i64 y, .slice A L.length c] 24)
  have hBq := below_alloc (Below.refl w.heap.size w) (.cells #[.int .i64 x, .int .i64 y, .slice A L.length c] 24)
  have HCq := Aside0.mk (Kd.C_alloc HR.out (.cells #[.int .i64 x, .int .i64 y, .slice A L.length c] 24))
  generalize w.alloc (.cells #[.int .i64 x, .int .i64 y, .slice A L.length c] 24) = wq at hX hBq HCq ⊢
  have q0 := (blk_cell hX 0).trans rfl
  have q1 := (blk_cell hX 1).trans rfl
  have q2 := (blk_cell hX 2).trans rfl
  have HBq := Aside0.mk hBq
  have HKQ : Aside0 (∀ w', Below wq.heap.size wq w' → (Below wq.heap.size wq w' ∧ w'.cell? ⟨w.heap.size, 0, none⟩ = some (.int .i64 x) ∧ w'.cell? ⟨w.heap.size, 1, none⟩ = some (.int .i64 y) ∧ w'.cell? ⟨w.heap.size, 2, none⟩ = some (.slice A L.length c))) := ⟨fun w' hb => ⟨hb, pw_cell_below hb q0, pw_cell_below hb q1, pw_cell_below hb q2⟩⟩
  have HBL := Aside0.mk (show ∀ W, Below wq.heap.size wq W → Calls Try.prog 13 #[.slice A L.length c] W fun e w' => ∃ Ao co, e = .returned (.slice Ao (L.take 17).length co) ∧ (L.take 17).length ≤ co ∧ Kd.C k52 w' Ao (L.take 17).length (L.take 17) ∧ Below W.heap.size W w' from fun W hW => (blanks_all (Kd.C_below HCq.out hW) HC.out).mono fun e w' h => by
    obtain ⟨v, rfl, hv, hb⟩ := h
    obtain ⟨Ao, co, rfl, h1, h2⟩ := Kd.R_reads hv
    exact ⟨Ao, co, rfl, h1, h2, hb⟩)
  generalize L.take 17 = O at *
  clear hX hBq q0 q1 q2
  go_region_held3 (fun w' => (Below wq.heap.size wq w' ∧ w'.cell? ⟨w.heap.size, 0, none⟩ = some (.int .i64 x) ∧ w'.cell? ⟨w.heap.size, 1, none⟩ = some (.int .i64 y) ∧ w'.cell? ⟨w.heap.size, 2, none⟩ = some (.slice A L.length c)))
    (first
      | exact HKQ.out _ (below_drew (Below.refl _ _))
      | (go_split_ands; exact HKQ.out _ (below_on (by assumption) b1)))
    (first
      | (go_at_call 13; (with_reducible refine (HBL.out _ ?_).mono ?_); (focus (first | exact below_drew (Below.refl _ _) | (go_split_ands; assumption))); rintro e wa ⟨Ao, co, rfl, hlo, hco, b1⟩))
  all_goals (go_wp2_with fail)
  have HLO := Aside0.mk hlo
  have HCO := Aside0.mk hco
  have HB1 := Aside0.mk (below_on (below_drew HBq.out) b1)
  clear hlo hco b1 HKQ HBL HCq
  by_cases ht : isTask x y O
  · obtain ⟨w1, w48⟩ := inB_iff.1 ht.1
    obtain ⟨h1, h48⟩ := inB_iff.1 ht.2.1
    obtain ⟨X, rfl⟩ : ∃ X : Nat, x = X := ⟨x.toNat, by omega⟩
    obtain ⟨Y, rfl⟩ : ∃ Y : Nat, y = Y := ⟨y.toNat, by omega⟩
    have HTK := Aside0.mk ht
    clear ht
    go_wp2_with (first
      | (go_at_call 14
         go_must (refine (best_rd (Wd := X) (Ht := Y) (L := O) HCO.out HLO.out HTK.out rfl rfl).mono ?_)
         rintro e wb ⟨Ap, cp, Ab, cb, rfl, hp, hb, hcb, hB⟩
         have HP := Aside0.mk hp
         have HBD := Aside0.mk hb
         have HCB := Aside0.mk hcb
         have HBb := Aside0.mk hB
         have HCb := Aside0.mk (Kd.C_below HCO.out hB)
         clear hp hb hcb hB)
      | (go_at_call 15
         go_must (refine (task_is HCb.out HLO.out).mono ?_)
         rintro e wc ⟨r, rfl, hr, hB⟩
         obtain rfl : r = true := hr.2 HTK.out
         have HBc := Aside0.mk hB
         have HCc := Aside0.mk (Kd.C_below HCb.out hB)
         have HPc := Aside0.mk (Kd.C_below HP.out hB)
         have HBDc := Aside0.mk (Kd.C_below HBD.out hB)
         clear hr hB)
      | (go_at_call 20
         go_must (refine (refRead_any HCc.out HPc.out HTK.out).mono ?_)
         rintro e wd ⟨hB, hres⟩
         obtain ⟨ar, hread⟩ := plan_read HTK.out.2.2.2 (w := X) (h := Y) (by omega) (by omega) (by omega) (by omega)
         obtain ⟨v', a', h2, rfl⟩ : ∃ v a, readP O X Y (bestPlan O X Y) = some (v, a) ∧ e = .returned (.tuple #[.int .i64 v, .int .i64 a, .bool true]) := by
           rcases hres with h | ⟨h2, _⟩
           · exact h
           · rw [hread] at h2
             cases h2
         rw [hread] at h2
         obtain ⟨rfl, rfl⟩ : bestV O X Y = v' ∧ ar = a' := by simpa using h2
         have HRD := Aside0.mk hread
         have HBd := Aside0.mk hB
         have HCd := Aside0.mk (Kd.C_below HCc.out hB)
         have HPd := Aside0.mk (Kd.C_below HPc.out hB)
         have HBDd := Aside0.mk (Kd.C_below HBDc.out hB)
         clear hB hres hread h2))
    have hRl := rowsOf_length (fillP O X Y) Y (X + 1)
    have hRr := len_rowsOf (fillP O X Y) X Y X (Nat.le_refl _)
    have hBN := bound_rowsOf HTK.out.2.2.2 (w := X) (h := Y) (by omega) (by omega)
    have HBN := Aside0.mk hBN
    have HCE := Aside0.mk (show ∀ W, Below wd.heap.size wd W → ∃ ad A' c', Ab = some ad ∧ W.cell? (ad.add X) = some (.slice (some A') (Y + 1) c') ∧ W.cell? (A'.add Y) = some (.int .i64 (bestV O X Y)) from fun W hW => by
      obtain ⟨ad, A', c', e, r0, r1⟩ := rows_cells (i := X) (j := Y) HBDd.out hW (by omega) (by omega)
      rw [hRr] at r0
      rw [at2_rowsOf _ _ _ _ _ (Nat.le_refl _) (Nat.le_refl _)] at r1
      exact ⟨ad, A', c', e, r0, r1⟩)
    have hb21 := refBound_any (x := X) (y := Y) (c := co) (cb := cb) HCd.out HBDd.out HTK.out.2.2.1 HTK.out.2.2.2 (by omega) (by omega) (by omega) (by omega)
    have hck := fun W (hW : Below wd.heap.size wd W) => check_is (a0 := (X : Int)) (a1 := (Y : Int)) (c := co) (Kd.C_below HCd.out hW) HLO.out (Kd.C_below HBDd.out hW) HCB.out HTK.out (by rw [Int.toNat_natCast, Int.toNat_natCast]; exact HBN.out)
    have hwo := fun W (hW : Below wd.heap.size wd W) => worth_is (c := co) (cp := cp) (Kd.C_below HCd.out hW) (Kd.C_below HPd.out hW) HTK.out HRD.out
    have hmo := fun W (hW : Below wd.heap.size wd W) => most_any (x := X) (y := Y) (c := co) (Kd.C_below HCd.out hW) HTK.out.2.2.1 HTK.out.2.2.2 (by omega) (by omega) (by omega) (by omega)
    have HB21 := Aside0.mk hb21
    have HCK := Aside0.mk hck
    have HWO := Aside0.mk hwo
    have HMO := Aside0.mk hmo
    rw [hRl] at HB21 HCK ⊢
    clear hRr hBN hb21 hck hwo hmo
    have hxl : (X : Int) < (X : Int) + 1 := by omega
    have hyl : (Y : Int) < (Y : Int) + 1 := by omega
    have hx0 : (0 : Int) ≤ (X : Int) := by omega
    have hy0 : (0 : Int) ≤ (Y : Int) := by omega
    have HBWD := Aside0.mk (below_on HB1.out (below_on HBb.out (below_on HBc.out HBd.out)))
    generalize rowsOf (fillP O X Y) Y (X + 1) = R at *
    clear hRl
    generalize hpl : bestPlan O X Y = P at *
    have HPL := Aside0.mk hpl
    clear hpl
    generalize hbv : bestV O X Y = bv at *
    have HBV := Aside0.mk hbv
    clear hbv
    refine HB21.out.mono ?_
    rintro e we ⟨r, rfl, hr, hB⟩
    obtain rfl : r = true := hr.2 HBN.out
    have HBe := Aside0.mk hB
    obtain ⟨ad, A', c', rfl, r0, r1⟩ := HCE.out we hB
    clear hr hB
    go_wp2_with (first
      | (go_at_call 22
         go_must (refine (HMO.out _ HBe.out).mono ?_)
         rintro e wf ⟨vo, gs, cs, rfl, hT, hB⟩
         obtain ⟨A2, c2, rfl⟩ := hT.slice
         obtain ⟨ad2, rfl, o0⟩ := hT.at X (by omega)
         have o1 := ((hT.row X (by omega)).cell Y (by omega)).1
         rw [HBV.out] at o1
         have HBf := Aside0.mk (below_on HBe.out hB)
         clear hT hB)
      | (go_at_call 16
         go_must (refine (HWO.out _ HBf.out).mono ?_)
         rintro e wg ⟨rfl, hB⟩
         have HBg := Aside0.mk (below_on HBf.out hB)
         clear hB)
      | (go_at_call 18
         go_must (refine (HCK.out _ HBg.out).mono ?_)
         rintro e wh ⟨rfl, hB⟩
         have HBh := Aside0.mk (below_on HBg.out hB)
         clear hB)
      | (go_at_call 19
         (with_reducible refine (awake_any _).mono ?_)
         rintro e w4 ⟨rfl, b4⟩))
    go_ret
    exact ⟨by simp [go_sem], below_on (below_on HBWD.out HBh.out) b4⟩
  · have HC14 := Aside0.mk (show ∀ W, Below wa.heap.size wa W → Calls Try.prog 14 #[.int .i64 x, .int .i64 y, .slice Ao O.length co] W fun e w' => e = .returned (.tuple #[.slice none 0 0, .slice none 0 0, .int .i64 2]) ∧ Below W.heap.size W w' from fun W hW => by
      exact best_bad x y Ao co O W (Kd.C_below HCO.out hW) ht)
    have HC15 := Aside0.mk (show ∀ W, Below wa.heap.size wa W → Calls Try.prog 15 #[.int .i64 x, .int .i64 y, .slice Ao O.length co] W fun e w' => e = .returned (.bool false) ∧ Below W.heap.size W w' from fun W hW => by
      refine (task_is (Kd.C_below HCO.out hW) HLO.out).mono ?_
      rintro e w' ⟨r, rfl, hr, hb⟩
      cases r
      · exact ⟨rfl, hb⟩
      · exact absurd (hr.1 rfl) ht)
    have HC16 := Aside0.mk (show ∀ W, Below wa.heap.size wa W → Calls Try.prog 16 #[.int .i64 x, .int .i64 y, .slice Ao O.length co, .slice none 0 0] W fun e w' => e = .returned (.tuple #[.int .i64 0, .int .i64 2]) ∧ Below W.heap.size W w' from fun W hW => by
      refine (worth_any x y O [] Ao none co 0 W (Kd.C_below HCO.out hW) (Kd.C_nil _ _)).mono ?_
      rintro e w' ⟨hb, ⟨h1, rfl⟩ | ⟨h1, h2, rfl⟩ | ⟨v', a', h1, h2, rfl⟩⟩
      · exact ⟨rfl, hb⟩
      · exact absurd h1 ht
      · exact absurd h1 ht)
    have HC17 := Aside0.mk (show ∀ W, Below wa.heap.size wa W → Calls Try.prog 17 #[.int .i64 x, .int .i64 y, .slice Ao O.length co, .slice none 0 0] W fun e w' => e = .returned (.tuple #[.int .i64 0, .int .i64 2]) ∧ Below W.heap.size W w' from fun W hW => by
      refine (rest_any x y O [] Ao none co 0 W (Kd.C_below HCO.out hW) (Kd.C_nil _ _)).mono ?_
      rintro e w' ⟨hb, ⟨h1, rfl⟩ | ⟨h1, h2, rfl⟩ | ⟨v', a', h1, h2, rfl⟩⟩
      · exact ⟨rfl, hb⟩
      · exact absurd h1 ht
      · exact absurd h1 ht)
    have HC18 := Aside0.mk (show ∀ W, Below wa.heap.size wa W → Calls Try.prog 18 #[.int .i64 x, .int .i64 y, .slice Ao O.length co, .slice none 0 0] W fun e w' => e = .returned (.int .i64 2) ∧ Below W.heap.size W w' from fun W hW => by
      refine (check_any x y O [] Ao none co 0 W (Kd.C_below HCO.out hW) HLO.out (Kd.C_nil _ _) (Nat.le_refl _)).mono ?_
      rintro e w' ⟨hb, ⟨h1, rfl⟩ | ⟨h1, h2, rfl⟩ | ⟨h1, h2, rfl⟩⟩
      · exact ⟨rfl, hb⟩
      · exact absurd h1 ht
      · exact absurd h1 ht)
    clear ht
    go_wp2_with (first
      | (go_at_call 14
         (with_reducible refine (HC14.out _ (Below.refl _ _)).mono ?_)
         rintro e wc ⟨rfl, hB⟩
         have HBc := Aside0.mk (below_on (Below.refl _ _) hB)
         clear hB)
      | (go_at_call 15
         (with_reducible refine (HC15.out _ HBc.out).mono ?_)
         rintro e wd ⟨rfl, hB⟩
         have HBd := Aside0.mk (below_on HBc.out hB)
         clear hB)
      | (go_at_call 16
         (with_reducible refine (HC16.out _ HBd.out).mono ?_)
         rintro e we ⟨rfl, hB⟩
         have HBe := Aside0.mk (below_on HBd.out hB)
         clear hB)
      | (go_at_call 17
         (with_reducible refine (HC17.out _ HBe.out).mono ?_)
         rintro e wf ⟨rfl, hB⟩
         have HBf := Aside0.mk (below_on HBe.out hB)
         clear hB)
      | (go_at_call 18
         (with_reducible refine (HC18.out _ HBf.out).mono ?_)
         rintro e wg ⟨rfl, hB⟩
         have HBg := Aside0.mk (below_on HBf.out hB)
         clear hB)
      | (go_at_call 19
         (with_reducible refine (awake_any _).mono ?_)
         rintro e w4 ⟨rfl, b4⟩))
    go_ret
    exact ⟨by simp [go_sem], below_on (below_on HB1.out HBg.out) b4⟩

end Go.Proofs.Ytochbhndeboodaa
