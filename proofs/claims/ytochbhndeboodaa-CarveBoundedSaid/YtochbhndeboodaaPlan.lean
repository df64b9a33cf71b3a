/- The walk of plan: the steps of the best plan, read off the table. -/
import Derived.Test.YtochbhndeboodaaTbl
import Derived.Test.YtochbhndeboodaaPCarveMorex3
import Derived.WalkSpells
import Derived.Deep.RegionHeld3
import Derived.Deep.AppendLies
namespace Go.Proofs.Ytochbhndeboodaa
set_option linter.unusedVariables false
set_option linter.unusedSimpArgs false
open Go.RowKit Go.Proofs.YtochbhndeboodaaW.PrintWords Go.Proofs.YtochbhndeboodaaW.PrintLast Go.Proofs.YtochbhndeboodaaW.PrintMore
open Go.Proofs.Ytochbhndeboodaa.PCarveMore (S52 S56 k52 k56)

theorem two_rows {W : World} {A1 A2 : Option Addr} {k1 k2 : Nat} {p1 p2 : List S56} (h1 : Kd.C k56 W A1 p1.length p1) (l1 : p1.length ≤ k1) (h2 : Kd.C k56 W A2 p2.length p2) (l2 : p2.length ≤ k2) :
    Kd.C (Kd.slice 56 k56) (W.alloc (.cells #[.slice A1 p1.length k1, .slice A2 p2.length k2] 26)) (some ⟨W.heap.size, 0, none⟩) [p1, p2].length [p1, p2] := by
  refine ⟨rfl, by simp, fun _ => ⟨_, rfl, fun j p hj => ?_⟩⟩
  have hb : Below W.heap.size W (W.alloc (.cells #[.slice A1 p1.length k1, .slice A2 p2.length k2] 26)) := below_alloc (Below.refl _ _) _
  have hn := heap_alloc_new W (.cells #[.slice A1 p1.length k1, .slice A2 p2.length k2] 26)
  match j, hj with
  | 0, hj =>
    obtain rfl : p1 = p := by simpa using hj
    refine ⟨[.slice A1 p1.length k1], rfl, ⟨A1, k1, rfl, l1, Kd.C_below h1 hb⟩, fun i u hu => ?_⟩
    match i, hu with
    | 0, hu => rw [← hu]; exact blk_cell hn 0
  | 1, hj =>
    obtain rfl : p2 = p := by simpa using hj
    refine ⟨[.slice A2 p2.length k2], rfl, ⟨A2, k2, rfl, l2, Kd.C_below h2 hb⟩, fun i u hu => ?_⟩
    match i, hu with
    | 0, hu => rw [← hu]; exact blk_cell hn 1

theorem planP_a {t : Tab} {n i j m d : Nat} (hk : (t.S i j).1 = 2) (ha : (t.S i j).2 = (m : Int)) (hd : d = i - m) : planP t (n + 1) i j = ⟨2, (m : Int)⟩ :: (planP t n m j ++ planP t n d j) := by
  subst hd
  rw [planP, if_pos hk, hk, ha, Int.toNat_natCast]
theorem planP_h {t : Tab} {n i j m d : Nat} (hk : (t.S i j).1 = 3) (ha : (t.S i j).2 = (m : Int)) (hd : d = j - m) : planP t (n + 1) i j = ⟨3, (m : Int)⟩ :: (planP t n i m ++ planP t n i d) := by
  subst hd
  rw [planP, if_neg (by rw [hk]; decide), if_pos hk, hk, ha, Int.toNat_natCast]
theorem planP_o {t : Tab} {n i j : Nat} {k a : Int} (hk : (t.S i j).1 = k) (ha : (t.S i j).2 = a) (h2 : ¬ k = 2) (h3 : ¬ k = 3) : planP t (n + 1) i j = [⟨k, a⟩] := by
  rw [planP, if_neg (by rw [hk]; exact h2), if_neg (by rw [hk]; exact h3), hk, ha]
theorem below_steps {w W0 Wa Wb Wc : World} {o : Obj} (h0 : Below w.heap.size w W0) (ha : Below W0.drew.heap.size W0.drew Wa) (hb : Below Wa.heap.size Wa Wb) (hc : Below (Wb.alloc o).heap.size (Wb.alloc o) Wc) : Below w.heap.size w Wc :=
  below_then (below_alloc (below_then (below_then (below_drew h0) h0.size ha) (Nat.le_trans h0.size ha.size) hb) o) (by have := h0.size; have := ha.size; have := hb.size; simp at *; omega) hc

theorem steps_two (a b : Int) (p q : List S56) (hp : p.length ≤ 100000) (hq : q.length ≤ 100000) : PCarveMore.carve_steps.f 3 a b [p, q] = some (⟨a, b⟩ :: (p ++ q)) := by
  unfold PCarveMore.carve_steps.f
  have e0 : PCarveMore.rd_L3 [p, q] 0 = p := rfl
  have e1 : PCarveMore.rd_L3 [p, q] 1 = q := rfl
  have w0 : wrap64 (0 + 1) = 1 := by unfold wrap64; omega
  have w1 : wrap64 (1 + 1) = 2 := by unfold wrap64; omega
  simp only [PCarveMore.carve_steps.l0, e0, e1, w0, w1]
  rw [if_pos (by simp), if_pos (by simp), if_pos (by simp), if_pos (by simp; omega), if_pos (by simp), if_pos (by simp), if_pos (by simp), if_pos (by simp; omega), if_neg (by simp)]
  simp
theorem steps_none (a b : Int) : PCarveMore.carve_steps.f 1 a b [] = some [⟨a, b⟩] := by
  unfold PCarveMore.carve_steps.f
  simp only [PCarveMore.carve_steps.l0]
  simp
  
set_option maxHeartbeats 2000000 in
set_option maxRecDepth 100000 in
theorem plan_any (t : Tab) (wd ht g : Nat) (hW : wd ≤ 48) (hH : ht ≤ 48) (hC : Cuts t wd ht) (n : Nat) : ∀ (i j : Nat) (w : World), i + j ≤ n → 1 ≤ i → i ≤ wd → 1 ≤ j → j ≤ ht → TB w g t →
    Calls Try.prog 31 #[.pointer (some ⟨g, 0, none⟩), .int .i64 i, .int .i64 j] w fun e w' => ∃ v, e = .returned v ∧ Kd.R k56 56 w' w.heap.size (fun _ => True) v (planP t n i j) ∧ Below w.heap.size w w' := by
  induction n with
  | zero =>
    intro i j w h h1
    omega
  | succ n ih =>
    intro i j w hn hi1 hi2 hj1 hj2 hT
    obtain ⟨_, c0, c1⟩ := hT.cells i j (by omega) (by omega)
    have hg := hT.lt
    obtain ⟨hA, hH2⟩ := hC i j hi1 hi2 hj1 hj2
    have HC := Aside0.mk hC
    have HT := Aside0.mk hT
    clear hC hT
    have hu69 := Try.underlying69
    have hu67 := Try.underlying67
    have hu66 := Try.underlying66
    have hu56 := Try.underlying56
    generalize hk : (t.S i j).1 = kd at c0 hA hH2
    generalize ha : (t.S i j).2 = ar at c1 hA hH2
    have HK := Aside0.mk hk
    have HA := Aside0.mk ha
    clear hk ha
    have hi49 : (i : Int) < 49 := by omega
    have hj49 : (j : Int) < 49 := by omega
    by_cases h2 : kd = 2
    · have hA1 := hA h2
      obtain ⟨m, hm⟩ : ∃ m : Nat, ar = (m : Int) := ⟨ar.toNat, by omega⟩
      subst hm h2
      obtain ⟨d, hd⟩ : ∃ d : Nat, d = i - m := ⟨_, rfl⟩
      have hsub : IntKind.i64.wrap ((i : Int) - (m : Int)) = (d : Int) := by rw [i64_w]; unfold wrap64; omega
      have P1 : Aside0 (∀ W, TB W g t → Calls Try.prog 31 #[.pointer (some ⟨g, 0, none⟩), .int .i64 m, .int .i64 j] W fun e w' => ∃ v, e = .returned v ∧ Kd.R k56 56 w' W.heap.size (fun _ => True) v (planP t n m j) ∧ Below W.heap.size W w') :=
        ⟨fun W h => ih m j W (by omega) (by omega) (by omega) hj1 hj2 h⟩
      have P2 : Aside0 (∀ W, TB W g t → Calls Try.prog 31 #[.pointer (some ⟨g, 0, none⟩), .int .i64 d, .int .i64 j] W fun e w' => ∃ v, e = .returned v ∧ Kd.R k56 56 w' W.heap.size (fun _ => True) v (planP t n d j) ∧ Below W.heap.size W w') :=
        ⟨fun W h => ih d j W (by omega) (by omega) (by omega) hj1 hj2 h⟩
      have hl1 : (planP t n m j).length ≤ 100000 := by have := planP_len' HC.out hW hH n m j (by omega) (by omega) hj1 hj2; omega
      have hl2 : (planP t n d j).length ≤ 100000 := by have := planP_len' HC.out hW hH n d j (by omega) (by omega) hj1 hj2; omega
      have HD := Aside0.mk hd
      have HIH := Aside0.mk ih
      clear hA hH2 hd ih
      go_enter Try.func31, Try.ntmps31
      go_wp2_with fail
      have HT0 := (HT.out.alloc (.cells #[.int .i64 2, .int .i64 (m : Int)] 56))
      have HB0 := below_alloc (Below.refl w.heap.size w) (.cells #[.int .i64 2, .int .i64 (m : Int)] 56)
      have hq0 := (blk_cell (heap_alloc_new w (.cells #[.int .i64 2, .int .i64 (m : Int)] 56)) 0).trans rfl
      have hq1 := (blk_cell (heap_alloc_new w (.cells #[.int .i64 2, .int .i64 (m : Int)] 56)) 1).trans rfl
      have hz : w.heap.size < (w.alloc (.cells #[.int .i64 2, .int .i64 (m : Int)] 56)).heap.size := by simp
      generalize w.alloc (.cells #[.int .i64 2, .int .i64 (m : Int)] 56) = W0 at HT0 HB0 hq0 hq1 hz
      clear c0 c1 hg
      go_region_held3 (fun w' => w'.cell? ⟨w.heap.size, 0, none⟩ = some (.int .i64 2) ∧ w'.cell? ⟨w.heap.size, 1, none⟩ = some (.int .i64 (m : Int)) ∧ TB w' g t)
        (first
          | exact ⟨hq0, hq1, HT0.drew⟩
          | (go_split_ands; exact ⟨pw_cell_below b3 (by assumption), pw_cell_below b3 (by assumption), TB.below (by assumption) b3⟩)
          | (go_split_ands; exact ⟨pw_cell_below b2 (by assumption), pw_cell_below b2 (by assumption), TB.below (by assumption) b2⟩)
          | (go_split_ands; exact ⟨pw_cell_below b1 (by assumption), pw_cell_below b1 (by assumption), TB.below (by assumption) b1⟩)
          | (go_split_ands; exact ⟨pw_cell_below (below_alloc (Below.refl _ _) _) (by assumption), pw_cell_below (below_alloc (Below.refl _ _) _) (by assumption), TB.alloc (by assumption) _⟩))
        (first
          | (go_at_call 31; (with_reducible refine (P1.out _ ?_).mono ?_); (focus (first | exact HT0.drew | (go_split_ands; assumption))); rintro e w1 ⟨v1, rfl, h1, b1⟩; obtain ⟨A1, k1, rfl⟩ := Kd.R_slice h1)
          | (go_at_call 31; (with_reducible refine (P2.out _ ?_).mono ?_); (focus (first | exact HT0.drew | (go_split_ands; assumption))); rintro e w2 ⟨v2, rfl, h2, b2⟩; obtain ⟨A2, k2, rfl⟩ := Kd.R_slice h2)
          | (go_at_call 38
             have r1 := Kd.R_reads' h1
             have r2 := Kd.R_reads' h2
             refine (PCarveMore.carve_steps.calls 3 2 (m : Int) _ 2 [planP t n m j, planP t n d j] _ _ (two_rows (by first | exact r1.2.2 | exact Kd.C_below r1.2.2 b2) r1.2.1 (by first | exact r2.2.2 | exact Kd.C_below r2.2.2 b1) r2.2.1) (Nat.le_refl _) (steps_two _ _ _ _ (hl1) (hl2))).mono ?_
             rintro e w3 ⟨v3, rfl, h3, b3⟩))
      all_goals go_wp2_with fail
      all_goals go_ret
      all_goals
        refine ⟨_, rfl, ?_, ?_⟩
        · rw [planP_a HK.out HA.out HD.out]
          refine Kd.R_lower h3 ?_
          have := HB0.size
          have := b1.size
          have := b2.size
          simp at *
          omega
        · first
            | exact below_steps HB0 b1 b2 b3
            | exact below_steps HB0 b2 b1 b3
    · by_cases h3 : kd = 3
      · have hA1 := hH2 h3
        obtain ⟨m, hm⟩ : ∃ m : Nat, ar = (m : Int) := ⟨ar.toNat, by omega⟩
        subst hm h3
        obtain ⟨d, hd⟩ : ∃ d : Nat, d = j - m := ⟨_, rfl⟩
        have hsub : IntKind.i64.wrap ((j : Int) - (m : Int)) = (d : Int) := by rw [i64_w]; unfold wrap64; omega
        have P1 : Aside0 (∀ W, TB W g t → Calls Try.prog 31 #[.pointer (some ⟨g, 0, none⟩), .int .i64 i, .int .i64 m] W fun e w' => ∃ v, e = .returned v ∧ Kd.R k56 56 w' W.heap.size (fun _ => True) v (planP t n i m) ∧ Below W.heap.size W w') :=
          ⟨fun W h => ih i m W (by omega) hi1 hi2 (by omega) (by omega) h⟩
        have P2 : Aside0 (∀ W, TB W g t → Calls Try.prog 31 #[.pointer (some ⟨g, 0, none⟩), .int .i64 i, .int .i64 d] W fun e w' => ∃ v, e = .returned v ∧ Kd.R k56 56 w' W.heap.size (fun _ => True) v (planP t n i d) ∧ Below W.heap.size W w') :=
          ⟨fun W h => ih i d W (by omega) hi1 hi2 (by omega) (by omega) h⟩
        have hl1 : (planP t n i m).length ≤ 100000 := by have := planP_len' HC.out hW hH n i m hi1 hi2 (by omega) (by omega); omega
        have hl2 : (planP t n i d).length ≤ 100000 := by have := planP_len' HC.out hW hH n i d hi1 hi2 (by omega) (by omega); omega
        have HD := Aside0.mk hd
        have HIH := Aside0.mk ih
        clear hA hH2 hd ih h2
        go_enter Try.func31, Try.ntmps31
        go_wp2_with fail
        have HT0 := (HT.out.alloc (.cells #[.int .i64 3, .int .i64 (m : Int)] 56))
        have HB0 := below_alloc (Below.refl w.heap.size w) (.cells #[.int .i64 3, .int .i64 (m : Int)] 56)
        have hq0 := (blk_cell (heap_alloc_new w (.cells #[.int .i64 3, .int .i64 (m : Int)] 56)) 0).trans rfl
        have hq1 := (blk_cell (heap_alloc_new w (.cells #[.int .i64 3, .int .i64 (m : Int)] 56)) 1).trans rfl
        have hz : w.heap.size < (w.alloc (.cells #[.int .i64 3, .int .i64 (m : Int)] 56)).heap.size := by simp
        generalize w.alloc (.cells #[.int .i64 3, .int .i64 (m : Int)] 56) = W0 at HT0 HB0 hq0 hq1 hz
        clear c0 c1 hg
        go_region_held3 (fun w' => w'.cell? ⟨w.heap.size, 0, none⟩ = some (.int .i64 3) ∧ w'.cell? ⟨w.heap.size, 1, none⟩ = some (.int .i64 (m : Int)) ∧ TB w' g t)
          (first
            | exact ⟨hq0, hq1, HT0.drew⟩
            | (go_split_ands; exact ⟨pw_cell_below b3 (by assumption), pw_cell_below b3 (by assumption), TB.below (by assumption) b3⟩)
            | (go_split_ands; exact ⟨pw_cell_below b2 (by assumption), pw_cell_below b2 (by assumption), TB.below (by assumption) b2⟩)
            | (go_split_ands; exact ⟨pw_cell_below b1 (by assumption), pw_cell_below b1 (by assumption), TB.below (by assumption) b1⟩)
            | (go_split_ands; exact ⟨pw_cell_below (below_alloc (Below.refl _ _) _) (by assumption), pw_cell_below (below_alloc (Below.refl _ _) _) (by assumption), TB.alloc (by assumption) _⟩))
          (first
            | (go_at_call 31; (with_reducible refine (P1.out _ ?_).mono ?_); (focus (first | exact HT0.drew | (go_split_ands; assumption))); rintro e w1 ⟨v1, rfl, h1, b1⟩; obtain ⟨A1, k1, rfl⟩ := Kd.R_slice h1)
            | (go_at_call 31; (with_reducible refine (P2.out _ ?_).mono ?_); (focus (first | exact HT0.drew | (go_split_ands; assumption))); rintro e w2 ⟨v2, rfl, h2, b2⟩; obtain ⟨A2, k2, rfl⟩ := Kd.R_slice h2)
            | (go_at_call 38
               have r1 := Kd.R_reads' h1
               have r2 := Kd.R_reads' h2
               refine (PCarveMore.carve_steps.calls 3 3 (m : Int) _ 2 [planP t n i m, planP t n i d] _ _ (two_rows (by first | exact r1.2.2 | exact Kd.C_below r1.2.2 b2) r1.2.1 (by first | exact r2.2.2 | exact Kd.C_below r2.2.2 b1) r2.2.1) (Nat.le_refl _) (steps_two _ _ _ _ (hl1) (hl2))).mono ?_
               rintro e w3 ⟨v3, rfl, h3, b3⟩))
        all_goals go_wp2_with fail
        all_goals go_ret
        all_goals
          refine ⟨_, rfl, ?_, ?_⟩
          · rw [planP_h HK.out HA.out HD.out]
            refine Kd.R_lower h3 ?_
            have := HB0.size
            have := b1.size
            have := b2.size
            simp at *
            omega
          · first
              | exact below_steps HB0 b1 b2 b3
              | exact below_steps HB0 b2 b1 b3
      · clear hA hH2 ih
        have e2 : (kd == 2) = false := by simpa using h2
        have e3 : (kd == 3) = false := by simpa using h3
        have H2 := Aside0.mk h2
        have H3 := Aside0.mk h3
        clear h2 h3
        go_enter Try.func31, Try.ntmps31
        go_wp2_with (first | (go_at_call 38; go_must (refine (PCarveMore.carve_steps.calls 1 kd ar none 0 [] _ _ (Kd.C_nil _ _) (Nat.le_refl _) (steps_none _ _)).mono ?_); rintro e w3 ⟨v3, rfl, h3, b3⟩))
        go_ret
        refine ⟨_, rfl, ?_, ?_⟩
        · rw [planP_o HK.out HA.out H2.out H3.out]
          exact Kd.R_lower h3 (by simp)
        · exact below_then (below_alloc (Below.refl _ _) _) (by simp) b3


end Go.Proofs.Ytochbhndeboodaa
