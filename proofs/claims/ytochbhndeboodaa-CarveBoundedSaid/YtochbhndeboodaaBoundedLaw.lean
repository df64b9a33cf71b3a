/- The walk of CarveBounded: the texts Out, PlainN and Bounded in one. -/
import Derived.Test.YtochbhndeboodaaVal
import Derived.Test.YtochbhndeboodaaPlainI
import Derived.Test.YtochbhndeboodaaTame
import Derived.Test.YtochbhndeboodaaPlainJ
import Derived.Test.YtochbhndeboodaaMost
import Derived.Test.YtochbhndeboodaaPlainG
import Derived.Test.YtochbhndeboodaaSteps
import Derived.Deep.RegionHeld3
namespace Go.Proofs.Ytochbhndeboodaa
set_option linter.unusedVariables false
set_option linter.unusedSimpArgs false
open Go.RowKit Go.Proofs.YtochbhndeboodaaW.PrintWords Go.Proofs.YtochbhndeboodaaW.PrintLast Go.Proofs.YtochbhndeboodaaW.PrintMore
open Go.Proofs.Ytochbhndeboodaa.PCarveMore (S52 S56 k52 k56 k52_mkM info52)

/-- A task that tame has made. -/
structure Tamed (m : Nat) (x y : Int) (L : List S52) (w w' : World) (Wd Ht : Nat) (T : List S52) (Ao : Option Addr) (co : Nat) : Prop where
  tw : tN m x = Wd
  th : tN m y = Ht
  tl : tL L = T
  w1 : 1 ≤ Wd
  wm : Wd ≤ m
  h1 : 1 ≤ Ht
  hm : Ht ≤ m
  n : T.length ≤ 16
  ok : OkL T
  c : T.length ≤ co
  own : Kd.R k52 52 w' w.heap.size (fun _ => True) (.slice Ao T.length co) T
  cells : Kd.C k52 w' Ao T.length T
  below : Below w.heap.size w w'

theorem tame_out (x y : Int) (m : Nat) (A : Option Addr) (c : Nat) (L : List S52) (w : World) (hr : Kd.C k52 w A L.length L) (hc : L.length ≤ c) (hm : 0 < m) (hm2 : m ≤ 1000) :
    Calls Try.prog 25 #[.agg #[.int .i64 x, .int .i64 y, .slice A L.length c], .int .i64 (m : Int)] w fun e w' => ∃ (Wd Ht : Nat) (T : List S52) (Ao : Option Addr) (co : Nat), e = .returned (.agg #[.int .i64 (Wd : Int), .int .i64 (Ht : Int), .slice Ao T.length co]) ∧ Tamed m x y L w w' Wd Ht T Ao co := by
  refine (tame_any x y m A c L w hr hc (by omega) (by omega)).mono ?_
  rintro e wa ⟨v, rfl, hv, hB⟩
  obtain ⟨Ao, co, rfl, hco, hOc⟩ := Kd.R_reads hv
  have hx := tN_in x (m := m) (by omega)
  have hy := tN_in y (m := m) (by omega)
  refine ⟨(tN m x).toNat, (tN m y).toNat, tL L, Ao, co, by rw [Int.toNat_of_nonneg (by omega), Int.toNat_of_nonneg (by omega)], ?_⟩
  exact ⟨(Int.toNat_of_nonneg (by omega)).symm, (Int.toNat_of_nonneg (by omega)).symm, rfl, by omega, by omega, by omega, by omega, tL_le L, tL_ok L, hco, hv, hOc, hB⟩

theorem best_of {Wd Ht : Nat} {A : Option Addr} {c : Nat} {T : List S52} {w : World} (hr : Kd.C k52 w A T.length T) (hc : T.length ≤ c) (w1 : 1 ≤ Wd) (w2 : Wd ≤ 48) (h1 : 1 ≤ Ht) (h2 : Ht ≤ 48) (hn : T.length ≤ 16) (ho : OkL T) :
    Calls Try.prog 27 #[.agg #[.int .i64 Wd, .int .i64 Ht, .slice A T.length c]] w fun e w' => e = .returned (.int .i64 (bestV T Wd Ht)) ∧ Below w.heap.size w w' :=
  best_val Wd Ht A c T w hr hc (task_of w1 w2 h1 h2 hn ho)

end Go.Proofs.Ytochbhndeboodaa
namespace Go.Proofs.Ytochbhndeboodaa
set_option linter.unusedVariables false
set_option linter.unusedSimpArgs false
open Go.RowKit Go.Proofs.YtochbhndeboodaaW.PrintWords Go.Proofs.YtochbhndeboodaaW.PrintLast Go.Proofs.YtochbhndeboodaaW.PrintMore
open Go.Proofs.Ytochbhndeboodaa.PCarveMore (S52 S56 k52 k56)

def listOf (n m : Nat) (F : Nat → Nat → Int) : List (List Int) := (List.range n).map fun i => (List.range m).map (F i)
theorem listOf_length (n m : Nat) (F : Nat → Nat → Int) : (listOf n m F).length = n := by simp [listOf]
theorem listOf_row (n m : Nat) (F : Nat → Nat → Int) (i : Nat) (hi : i < n) : (listOf n m F).getD i [] = (List.range m).map (F i) := by
  simp [listOf, List.getD_eq_getElem?_getD, List.getElem?_map, List.getElem?_range hi]
theorem at2_listOf (n m : Nat) (F : Nat → Nat → Int) (i j : Nat) (hi : i < n) (hj : j < m) : at2 (listOf n m F) i j = F i j := by
  unfold at2
  rw [listOf_row n m F i hi]
  simp [List.getD_eq_getElem?_getD, List.getElem?_map, List.getElem?_range hj]

def more (L : List S52) (e : Nat) (i j : Nat) : Int := bestV L i j + ((e * i * j : Nat) : Int)
theorem more_bound {L : List S52} (hL : OkL L) {w h e : Nat} (hw : w ≤ 14) (hh : h ≤ 14) (he : e ≤ 16) : IsBound w h L (listOf (w + 1) (h + 1) (more L e)) := by
  have hl := bestV_lower hL
  have hsm : ∀ i j, i ≤ 14 → j ≤ 14 → e * i * j ≤ 16 * 14 * 14 := fun i j h1 h2 => Nat.mul_le_mul (Nat.mul_le_mul he h1) h2
  refine ⟨⟨listOf_length _ _ _, fun i hi => by rw [listOf_row _ _ _ i (by omega)]; simp⟩, fun i j hi hj => ?_, fun i j hi hj => ⟨fun k hk h0 h1 => ?_, fun x h1 h2 => ?_, fun y h1 h2 => ?_⟩⟩
  · rw [at2_listOf _ _ _ i j (by omega) (by omega)]
    have h1 := bestV_nonneg hL (i := i) (j := j) (by omega) (by omega)
    have h2 := bestV_small hL (i := i) (j := j) (by omega) (by omega)
    have h3 := hsm i j (by omega) (by omega)
    unfold more
    omega
  · rw [at2_listOf _ _ _ i j (by omega) (by omega)]
    obtain ⟨o0, o1, _⟩ := hL k hk
    have o0' := inB_iff.1 o0
    have o1' := inB_iff.1 o1
    have := hl.blank i j (by omega) (by omega) (by omega) (by omega) k ⟨hk, h0, h1⟩
    unfold more
    omega
  · rw [at2_listOf _ _ _ x j (by omega) (by omega), at2_listOf _ _ _ (i - x) j (by omega) (by omega), at2_listOf _ _ _ i j (by omega) (by omega)]
    have e1 : e * x * j + e * (i - x) * j = e * i * j := by
      rw [← Nat.add_mul, ← Nat.mul_add, show x + (i - x) = i by omega]
    unfold more
    by_cases j0 : 1 ≤ j
    · have := hl.across i j (by omega) (by omega) j0 (by omega) x h1 h2
      omega
    · have z1 := bestV_zero hL (w := x) (h := j) (by omega) (by omega) (by omega)
      have z2 := bestV_zero hL (w := i - x) (h := j) (by omega) (by omega) (by omega)
      have z3 := bestV_zero hL (w := i) (h := j) (by omega) (by omega) (by omega)
      omega
  · rw [at2_listOf _ _ _ i y (by omega) (by omega), at2_listOf _ _ _ i (j - y) (by omega) (by omega), at2_listOf _ _ _ i j (by omega) (by omega)]
    have e1 : e * i * y + e * i * (j - y) = e * i * j := by
      rw [← Nat.mul_add, show y + (j - y) = j by omega]
    unfold more
    by_cases i0 : 1 ≤ i
    · have := hl.along i j i0 (by omega) (by omega) (by omega) y h1 h2
      omega
    · have z1 := bestV_zero hL (w := i) (h := y) (by omega) (by omega) (by omega)
      have z2 := bestV_zero hL (w := i) (h := j - y) (by omega) (by omega) (by omega)
      have z3 := bestV_zero hL (w := i) (h := j) (by omega) (by omega) (by omega)
      omega

/-- The worth of any plan that is read is at most the best worth. -/
theorem read_best {L : List S52} (hL : OkL L) {w h : Nat} (w1 : 1 ≤ w) (hw : w ≤ 48) (h1 : 1 ≤ h) (hh : h ≤ 48) {p : List S56} {v a : Int} (e : readP L w h p = some (v, a)) : 0 ≤ v ∧ v ≤ bestV L w h := by
  refine ⟨(read_area hL (by omega) (by omega) e).1, ?_⟩
  unfold readP at e
  split at e
  · split at e
    · rename_i v' a' hp
      simp only [Option.some.injEq, Prod.mk.injEq] at e
      obtain ⟨rfl, rfl⟩ := e
      exact plan_le (bestV_lower hL) _ w h _ _ _ _ w1 hw h1 hh hp
    · cases e
  · cases e

theorem Tabl.reads {W : World} {B : Nat} {A : Option Addr} {c n m : Nat} {F : Nat → Nat → Int} {gs cs : Nat → Nat} (h : Tabl W B (.slice A n c) n m F gs cs) (hm : m ≤ 100) (hn : n ≤ 100) :
    Kd.C (Kd.slice 3 (Kd.int .i64)) W A (listOf n m F).length (listOf n m F) ∧ n ≤ c := by
  obtain ⟨_, hcap, _⟩ := Kd.R_reads' h.out
  refine ⟨⟨rfl, by rw [listOf_length]; omega, fun hpos => ?_⟩, hcap⟩
  rw [listOf_length] at hpos
  obtain ⟨ad, e, _⟩ := h.at 0 hpos
  refine ⟨ad, e, fun j p hj => ?_⟩
  have hjn : j < n := by
    have := (List.getElem?_eq_some_iff.1 hj).1
    rwa [listOf_length] at this
  obtain ⟨ad', e', hc⟩ := h.at j hjn
  rw [e] at e'
  cases e'
  have hp : p = (List.range m).map (F j) := by
    have h2 := listOf_row n m F j hjn
    rw [List.getD_eq_getElem?_getD, hj] at h2
    exact h2
  subst hp
  refine ⟨[.slice (some ⟨gs j, 0, none⟩) m (cs j)], rfl, ⟨some ⟨gs j, 0, none⟩, cs j, by simp, by simpa using h.cap j hjn, rfl, by simp; omega, fun _ => ⟨_, rfl, fun i q hi => ?_⟩⟩, fun i u hu => ?_⟩
  · have him : i < m := by
      have := (List.getElem?_eq_some_iff.1 hi).1
      simpa using this
    have hq : F j i = q := by simpa [List.getElem?_map, List.getElem?_range him] using hi
    refine ⟨[.int .i64 q], rfl, rfl, fun k u hu => ?_⟩
    match k, hu with
    | 0, hu =>
      have hu2 : u = .int .i64 q := by simpa using hu.symm
      rw [hu2, ← hq, add_plain]
      show W.cell? ⟨gs j, i * 1 + 0, none⟩ = _
      rw [Nat.mul_one, Nat.add_zero]
      exact ((h.row j hjn).cell i him).1
  · match i, hu with
    | 0, hu =>
      have hu2 : u = .slice (some ⟨gs j, 0, none⟩) m (cs j) := by simpa using hu.symm
      rw [hu2]
      show W.cell? (ad.add (j * 1 + 0)) = _
      rw [Nat.mul_one, Nat.add_zero]
      exact hc

end Go.Proofs.Ytochbhndeboodaa
namespace Go.Proofs.Ytochbhndeboodaa
set_option linter.unusedVariables false
set_option linter.unusedSimpArgs false
open Go.RowKit Go.Proofs.YtochbhndeboodaaW.PrintWords Go.Proofs.YtochbhndeboodaaW.PrintLast Go.Proofs.YtochbhndeboodaaW.PrintMore
open Go.Proofs.Ytochbhndeboodaa.PCarveMore (S52 S56 k52 k56)
attribute [local go_sem] max2_int min2_int max_two min_two max_three min_three max_four min_four   -- for this text's walks alone

theorem mod_any (x n : Int) (w : World) (h : 0 < n) (h2 : n ≤ 1000000) : Calls Try.prog 26 #[.int .i64 x, .int .i64 n] w fun e w' => e = .returned (.int .i64 (modI x n)) ∧ Below w.heap.size w w' :=
  (PCarveMore.silversidelaw02_mod.calls x n _ w (mod_eq x h h2)).mono fun _ _ h => ⟨h.1, h.2.below⟩

set_option maxHeartbeats 8000000 in
set_option maxRecDepth 100000 in
theorem bounded_any (x y : Int) (A Ap Am : Option Addr) (c cp cm : Nat) (L : List S52) (p : List S56) (mo : List Int) (w : World) (hr : Kd.C k52 w A L.length L) (hc : L.length ≤ c) (hp : Kd.C k56 w Ap p.length p) (hcp : p.length ≤ cp) (hm : Kd.C (Kd.int .i64) w Am mo.length mo) :
    Calls Try.prog 6 #[.agg #[.int .i64 x, .int .i64 y, .slice A L.length c], .slice Ap p.length cp, .slice Am mo.length cm] w fun e w' => e = .returned (.bool true) ∧ Below w.heap.size w w' := by
  have HR := Aside0.mk hr
  have HC := Aside0.mk hc
  have HPP := Aside0.mk hp
  have HCP := Aside0.mk hcp
  have HMO := Aside0.mk hm
  have hmm := Kd.C_max hm
  clear hr hc hp hcp hm
  have hu24 := Try.underlying24
  have hu52 := Try.underlying52
  have hu22 := Try.underlying22
  go_enter Try.func6, Try.ntmps6
  go_wp2_with (first
    | (go_at_call 25
       go_must (refine (tame_out x y 14 _ _ L _ (Kd.C_alloc HR.out _) HC.out (by decide) (by decide)).mono ?_)
       rintro e wa ⟨Wd, Ht, T, Ao, co, rfl, hT⟩
       have HT := Aside0.mk hT
       have HK := Aside0.mk (task_of (Wd := Wd) (Ht := Ht) (L := T) hT.w1 (by have := hT.wm; omega) hT.h1 (by have := hT.hm; omega) hT.n hT.ok)
       have HB0 := Aside0.mk (below_then (below_alloc (Below.refl w.heap.size w) _) (by simp) hT.below)
       have HB0a := Aside0.mk (below_alloc HB0.out (.cells #[.int .i64 (Wd : Int), .int .i64 (Ht : Int), .slice Ao T.length co] 24))
       clear hT)
    | (go_at_call 23
       go_must (refine (steps_any (Kd.C_below HPP.out HB0a.out) HCP.out).mono ?_)
       rintro e wb ⟨vb, rfl, hvb, hB⟩
       have hX := (hB.block wa.heap.size (by simp)).trans (heap_alloc_new wa (.cells #[.int .i64 (Wd : Int), .int .i64 (Ht : Int), .slice Ao T.length co] 24))
       have HX := Aside0.mk hX
       have q0 := (blk_cell hX 0).trans rfl
       have q1 := (blk_cell hX 1).trans rfl
       have q2 := (blk_cell hX 2).trans rfl
       have hlx := blk_lt hX
       obtain ⟨Aq, cq, rfl, hcq, hCq⟩ := Kd.R_reads hvb
       have HB1 := Aside0.mk (below_then (below_alloc (Below.refl wa.heap.size wa) _) (by simp) hB)
       have HCO := Aside0.mk (Kd.C_below (Kd.C_alloc HT.out.cells _) hB)
       generalize p.take 8193 = P at *
       have hPm := Kd.C_max hCq
       obtain ⟨ji, hji⟩ : ∃ ji : Int, mn (P.length : Int) 400 = ji := ⟨_, rfl⟩
       have hj0 : 0 ≤ ji := by rw [← hji]; unfold mn; split <;> omega
       have hj1 : ji ≤ (P.length : Int) := by rw [← hji]; unfold mn; split <;> omega
       have hji_ : (if 400 < (P.length : Int) then 400 else (P.length : Int)) = ji := hji
       obtain ⟨i06, hi06, _, hsz6, _⟩ := info_parts PCarveMore.info56
       have hcut := cut_to (P := Try.prog) 26 56 .i64 Try.underlying26 hi06 Aq P.length cq ji hj0 hj1 hcq
       have hr6 := Kd.C_take (m := ji.toNat) hCq (by omega)
       have hy6 : (P.take ji.toNat).length = ji.toNat := by rw [List.length_take]; omega
       rw [← hy6] at hcut
       have HQ := Aside0.mk hr6
       generalize P.take ji.toNat = Q at *
       clear hr6 hCq hi06 hsz6 hji hX hvb hcq hy6 hB))
  have HVN := Aside0.mk (bestV_nonneg HT.out.ok (i := Wd) (j := Ht) (by have := HT.out.wm; omega) (by have := HT.out.hm; omega))
  refine (worth_any (Wd : Int) (Ht : Int) T Q Ao Aq co cq wb HCO.out HQ.out).mono ?_
  rintro e wc ⟨hB, ⟨h1, rfl⟩ | ⟨h1, h2, rfl⟩ | ⟨v, a, h1, h2, rfl⟩⟩
  · exact absurd HK.out h1
  · have HN := Aside0.mk (show (0 : Int) ≤ 0 ∧ (0 : Int) ≤ bestV T Wd Ht from ⟨Int.le_refl _, HVN.out⟩)
    have HBc := Aside0.mk hB
    clear h1 h2 hB hj0 hj1 hji_ hcut hPm
    have hX := (HBc.out.block wa.heap.size hlx).trans HX.out
    have q0' := (blk_cell hX 0).trans rfl
    have q1' := (blk_cell hX 1).trans rfl
    have q2' := (blk_cell hX 2).trans rfl
    have hlx' := blk_lt hX
    have HXc := Aside0.mk hX
    clear hX q0 q1 q2
    go_wp2_with fail
    refine (most_any (x := Wd) (y := Ht) (c := co) (Kd.C_below HCO.out HBc.out) HT.out.n HT.out.ok HT.out.w1 (by have := HT.out.wm; omega) HT.out.h1 (by have := HT.out.hm; omega)).mono ?_
    rintro e wd ⟨vo, gs, cs, rfl, hTb, hB⟩
    obtain ⟨A1, c1, rfl⟩ := hTb.slice
    have HTb := Aside0.mk hTb
    have HBd := Aside0.mk hB
    have HTM := HT
    clear hTb hB q0' q1' q2'
    clear HT
    go_wp2_with fail
    have hWm := HTM.out.wm
    have hHm := HTM.out.hm
    go_loopg [12, 13] 5 (fun q v12 v13 W => ∃ i ea : Nat, q + i = 5 ∧ i ≤ 4 ∧ i ≤ mo.length ∧ v13 = .int .i64 (i : Int) ∧ v12 = .int .i64 (ea : Int) ∧ ea ≤ 4 * i ∧ Aside0 (Tabl W wc.heap.size (.slice A1 (Wd + 1) c1) (Wd + 1) (Ht + 1) (bestV T) gs cs) ∧ Aside0 (Below wc.heap.size wc W))
    case atStart => exact ⟨0, 0, by omega, by omega, by omega, rfl, rfl, by omega, HTb, HBd⟩
    case round =>
      obtain ⟨i, ea, hq, hi, hi2, rfl, rfl, hea, HT, HB⟩ := hrel
      by_cases hlt : i < mo.length
      · have hli : (i : Int) < (mo.length : Int) := by omega
        have hi0 : (0 : Int) ≤ (i : Int) := by omega
        by_cases h4 : i < 4
        · have h4' : (i : Int) < 4 := by omega
          have HBw := Aside0.mk (below_then (below_then (below_then HB0.out HB0.out.size HB1.out) (by have := HB0.out.size; have := HB1.out.size; omega) HBc.out) (by have := HB0.out.size; have := HB1.out.size; have := HBc.out.size; omega) HB.out)
          obtain ⟨Aw, e1, m0⟩ := Kd.at_int (Kd.C_below HMO.out HBw.out) (i : Int) (by omega) (by omega)
          subst e1
          rw [Int.toNat_natCast] at m0
          generalize rd mo (i : Int) = mi at m0
          go_wp2_with fail
          refine (mod_any mi 5 _ (by omega) (by omega)).mono ?_
          rintro e we ⟨rfl, b9⟩
          have hmi := modI_in mi (n := 5) (by omega)
          obtain ⟨mm, hmm2⟩ : ∃ mm : Nat, modI mi 5 = mm := ⟨(modI mi 5).toNat, by omega⟩
          rw [hmm2] at hmi ⊢
          clear hmm2
          obtain ⟨d, hd⟩ : ∃ d : Nat, d = ea + mm := ⟨_, rfl⟩
          have hs : IntKind.i64.wrap ((ea : Int) + (mm : Int)) = (d : Int) := by rw [i64_w]; unfold wrap64; omega
          have hd4 : d ≤ 4 * (i + 1) := by omega
          have HB9 := Aside0.mk b9
          clear b9 m0 hd
          go_wp2_with fail
          go_roundg (4 - i)
          case measure => omega
          case rel => exact ⟨i + 1, d, by omega, by omega, by omega, by go_num, rfl, hd4, ⟨HT.out.below HB9.out⟩, ⟨below_on HB.out HB9.out⟩⟩
        · have he16 : ea ≤ 16 := by omega
          obtain rfl : i = 4 := by omega
          go_wp2_with fail
          clear hlt hli hi0 h4 hq hea hi hi2
          clear HTb HBd
          go_loopg [14] (Wd + 2) (fun q v14 W => ∃ i : Nat, q + i = Wd + 2 ∧ i ≤ Wd + 1 ∧ v14 = .int .i64 (i : Int) ∧ Aside0 (Tabl W wc.heap.size (.slice A1 (Wd + 1) c1) (Wd + 1) (Ht + 1) (fun a b => if a < i then more T ea a b else bestV T a b) gs cs) ∧ Aside0 (Below wc.heap.size wc W))
          case atStart => exact ⟨0, by omega, by omega, rfl, ⟨HT.out.congr (fun a b _ _ => by simp)⟩, HB⟩
          case round =>
            clear HT HB
            obtain ⟨i, hqi, hi, rfl, HT, HB⟩ := hrel
            have hX := (HB.out.block wa.heap.size hlx').trans HXc.out
            have q0 := (blk_cell hX 0).trans rfl
            have q1 := (blk_cell hX 1).trans rfl
            have q2 := (blk_cell hX 2).trans rfl
            clear hX
            by_cases hlt : i ≤ Wd
            · have hii : (i : Int) ≤ (Wd : Int) := by omega
              have hi0 : (0 : Int) ≤ (i : Int) := by omega
              go_wp2_with fail
              go_loopg [15] (Ht + 2) (fun q v15 W => ∃ j : Nat, q + j = Ht + 2 ∧ j ≤ Ht + 1 ∧ v15 = .int .i64 (j : Int) ∧ Aside0 (Tabl W wc.heap.size (.slice A1 (Wd + 1) c1) (Wd + 1) (Ht + 1) (fun a b => if a < i ∨ (a = i ∧ b < j) then more T ea a b else bestV T a b) gs cs) ∧ Aside0 (Below wc.heap.size wc W))
              case atStart => exact ⟨0, by omega, by omega, rfl, ⟨HT.out.congr (fun a b _ _ => by simp)⟩, HB⟩
              case round =>
                clear HT HB q0 q1 q2
                obtain ⟨j, hqj, hj, rfl, HT, HB⟩ := hrel
                have hX := (HB.out.block wa.heap.size hlx').trans HXc.out
                have q0 := (blk_cell hX 0).trans rfl
                have q1 := (blk_cell hX 1).trans rfl
                have q2 := (blk_cell hX 2).trans rfl
                clear hX
                by_cases hltj : j ≤ Ht
                · have hjj : (j : Int) ≤ (Ht : Int) := by omega
                  have hj0 : (0 : Int) ≤ (j : Int) := by omega
                  have hW0 : (i : Int) < (Wd : Int) + 1 := by omega
                  have hH0 : (j : Int) < (Ht : Int) + 1 := by omega
                  obtain ⟨ad, rfl, o0⟩ := HT.out.at i (by omega)
                  have r0 := ((HT.out.row i (by omega)).cell j (by omega)).1
                  simp only [Nat.lt_irrefl, and_false, or_self, if_false] at r0
                  have hv1 := bestV_nonneg HTM.out.ok (i := i) (j := j) (by omega) (by omega)
                  have hv3 := bestV_small HTM.out.ok (i := i) (j := j) (by omega) (by omega)
                  have hm1 : ea * i ≤ 16 * 14 := Nat.mul_le_mul he16 (by omega)
                  have hm2 : ea * i * j ≤ 16 * 14 * 14 := Nat.mul_le_mul hm1 (by omega)
                  obtain ⟨p1, hp1⟩ : ∃ p1 : Nat, p1 = ea * i := ⟨_, rfl⟩
                  obtain ⟨p2, hp2⟩ : ∃ p2 : Nat, p2 = p1 * j := ⟨_, rfl⟩
                  have hq1 : p1 ≤ 224 := by omega
                  have hq2 : p2 ≤ 3136 := by rw [hp2, hp1]; omega
                  have hs1 : IntKind.i64.wrap ((ea : Int) * (i : Int)) = (p1 : Int) := by
                    rw [i64_w, ← Int.natCast_mul, ← hp1]; unfold wrap64; omega
                  have hs2 : IntKind.i64.wrap ((p1 : Int) * (j : Int)) = (p2 : Int) := by
                    rw [i64_w, ← Int.natCast_mul, ← hp2]; unfold wrap64; omega
                  have HMV := Aside0.mk (show more T ea i j = bestV T i j + (p2 : Int) from by unfold more; rw [hp2, hp1])
                  have hs3 : IntKind.i64.wrap (bestV T i j + (p2 : Int)) = bestV T i j + (p2 : Int) := by rw [i64_w]; unfold wrap64; omega
                  clear hp1 hp2 hm1 hm2 hq1 hq2 hv1 hv3
                  generalize bestV T i j = v1 at r0 hs3 HMV
                  go_wp2_with fail
                  go_still_tail 19, (by kernel_rfl)
                  change wpList _ _ _ _ _ wr.drew
                  have HTq := Aside0.mk (HT.out.below (below_drew (Below.refl _ _)))
                  have HBq := Aside0.mk (below_drew HB.out)
                  clear HT HB o0 r0 hs1 hs2 hs3 q0 q1 q2
                  generalize wr.drew = wq at HTq HBq ⊢
                  obtain ⟨s0, sf0, slt⟩ := (HTq.out.row i (by omega)).cell j (by omega)
                  have HPU := Aside0.mk (HTq.out.put i j (by omega) (by omega) (v1 + (p2 : Int)))
                  have HGB := Aside0.mk (HTq.out.base i (by omega))
                  generalize gs i = gr at s0 sf0 slt HPU HGB ⊢
                  go_wp2_with fail
                  go_roundg (Ht + 1 - j)
                  case measure => omega
                  case rel =>
                    refine ⟨j + 1, by omega, by omega, by go_num, ⟨HPU.out.congr (fun a b ha hb => ?_)⟩, ⟨HBq.out.setCell HGB.out _⟩⟩
                    by_cases e : a = i ∧ b = j
                    · obtain ⟨rfl, rfl⟩ := e
                      rw [if_pos ⟨rfl, rfl⟩, if_pos (by omega)]
                      exact HMV.out.symm
                    · rw [if_neg e]
                      by_cases e2 : a < i ∨ a = i ∧ b < j
                      · rw [if_pos e2, if_pos (by omega)]
                      · rw [if_neg e2, if_neg (by omega)]
                · obtain rfl : j = Ht + 1 := by omega
                  go_wp2_with fail
                  go_roundg (Wd + 1 - i)
                  case measure => omega
                  case rel =>
                    refine ⟨i + 1, by omega, by omega, by go_num, ⟨HT.out.congr (fun a b ha hb => ?_)⟩, HB⟩
                    by_cases e : a < i + 1
                    · rw [if_pos e, if_pos (by omega)]
                    · rw [if_neg e, if_neg (by omega)]
            · obtain rfl : i = Wd + 1 := by omega
              go_wp2_with fail
              have HTF := Aside0.mk (HT.out.congr (G := more T ea) (fun a b ha hb => by rw [if_pos ha]))
              have HBF := Aside0.mk (below_on HBc.out HB.out)
              have HGE := Aside0.mk (show bestV T Wd Ht ≤ more T ea Wd Ht from by unfold more; omega)
              have HMB := Aside0.mk (more_bound HTM.out.ok hWm hHm he16)
              clear HT q0 q1 q2
              refine (best_of (Kd.C_below HCO.out HBF.out) HTM.out.c HTM.out.w1 (by omega) HTM.out.h1 (by omega) HTM.out.n HTM.out.ok).mono ?_
              rintro e wf ⟨rfl, hB⟩
              have HTf := Aside0.mk (HTF.out.below hB)
              have HBf := Aside0.mk (below_on HB.out hB)
              clear hB HTF HBF HB
              have hX := (HBf.out.block wa.heap.size hlx').trans HXc.out
              have q0 := (blk_cell hX 0).trans rfl
              have q1 := (blk_cell hX 1).trans rfl
              have q2 := (blk_cell hX 2).trans rfl
              clear hX
              have HCK := Aside0.mk (show ∀ W, Below wf.heap.size wf W → Calls Try.prog 18 #[.int .i64 (Wd : Int), .int .i64 (Ht : Int), .slice Ao T.length co, .slice A1 (Wd + 1) c1] W fun e w' => e = .returned (.int .i64 0) ∧ Below W.heap.size W w' from fun W hW => by
                have hTW := HTf.out.below hW
                have h := check_is (a0 := (Wd : Int)) (a1 := (Ht : Int)) (c := co) (cb := c1) (Kd.C_below HCO.out (below_on HBc.out (below_on HBf.out hW))) HTM.out.c (hTW.reads (by omega) (by omega)).1 (by rw [listOf_length]; exact (hTW.reads (by omega) (by omega)).2) HK.out (by rw [Int.toNat_natCast, Int.toNat_natCast]; exact HMB.out)
                rwa [listOf_length] at h)
              obtain ⟨ad, rfl, o0⟩ := HTf.out.at Wd (by omega)
              have o1 := ((HTf.out.row Wd (by omega)).cell Ht (by omega)).1
              have hN := HN.out
              have hGE := HGE.out
              generalize more T ea Wd Ht = mv at *
              generalize bestV T Wd Ht = bv at *
              have hW0 : (0 : Int) ≤ (Wd : Int) := by omega
              have hW1 : (Wd : Int) < (Wd : Int) + 1 := by omega
              have hH0 : (0 : Int) ≤ (Ht : Int) := by omega
              have hH1 : (Ht : Int) < (Ht : Int) + 1 := by omega
              have hn1 : (0 : Int) ≤ bv := by omega
              have hnm : (0 : Int) ≤ mv := by omega
              have HKQ : Aside0 (∀ w', Below wf.heap.size wf w' → (Below wf.heap.size wf w' ∧ w'.cell? ⟨wa.heap.size, 0, none⟩ = some (.int .i64 (Wd : Int)) ∧ w'.cell? ⟨wa.heap.size, 1, none⟩ = some (.int .i64 (Ht : Int)) ∧ w'.cell? ⟨wa.heap.size, 2, none⟩ = some (.slice Ao T.length co) ∧ w'.cell? (ad.add Wd) = some (.slice (some ⟨gs Wd, 0, none⟩) (Ht + 1) (cs Wd)) ∧ w'.cell? ⟨gs Wd, Ht, none⟩ = some (.int .i64 mv))) := ⟨fun w' hb => ⟨hb, pw_cell_below hb q0, pw_cell_below hb q1, pw_cell_below hb q2, pw_cell_below hb o0, pw_cell_below hb o1⟩⟩
              have HBA := Aside0.mk (below_then (below_then HB0.out HB0.out.size HB1.out) (by have := HB0.out.size; have := HB1.out.size; omega) (below_on HBc.out HBf.out))
              generalize gs Wd = gr at *
              generalize cs Wd = cr at *
              clear q0 q1 q2 o0 o1 HTf hN
              go_wp2_with fail
              go_region_held3 (fun w' => (Below wf.heap.size wf w' ∧ w'.cell? ⟨wa.heap.size, 0, none⟩ = some (.int .i64 (Wd : Int)) ∧ w'.cell? ⟨wa.heap.size, 1, none⟩ = some (.int .i64 (Ht : Int)) ∧ w'.cell? ⟨wa.heap.size, 2, none⟩ = some (.slice Ao T.length co) ∧ w'.cell? (ad.add Wd) = some (.slice (some ⟨gr, 0, none⟩) (Ht + 1) cr) ∧ w'.cell? ⟨gr, Ht, none⟩ = some (.int .i64 mv)))
                (first
                  | exact HKQ.out _ (below_drew (Below.refl _ _))
                  | (go_split_ands; exact HKQ.out _ (below_on (by assumption) b1))
                  | (go_split_ands; exact HKQ.out _ (below_on (by assumption) b4)))
                (first
                  | (go_at_call 18; (with_reducible refine (HCK.out _ ?_).mono ?_); (focus (first | exact below_drew (Below.refl _ _) | (go_split_ands; assumption))); rintro e wg ⟨rfl, b1⟩)
                  | (go_at_call 19; (with_reducible refine (awake_any _).mono ?_); rintro e w4 ⟨rfl, b4⟩))
              all_goals (go_wp2_with fail)
              go_ret
              go_split_ands
              exact ⟨by simp [go_sem], below_on HBA.out (by assumption)⟩
      · have he16 : ea ≤ 16 := by omega
        obtain rfl : i = mo.length := by omega
        go_wp2_with fail
        clear hlt hq hea hi hi2
        clear HTb HBd
        go_loopg [14] (Wd + 2) (fun q v14 W => ∃ i : Nat, q + i = Wd + 2 ∧ i ≤ Wd + 1 ∧ v14 = .int .i64 (i : Int) ∧ Aside0 (Tabl W wc.heap.size (.slice A1 (Wd + 1) c1) (Wd + 1) (Ht + 1) (fun a b => if a < i then more T ea a b else bestV T a b) gs cs) ∧ Aside0 (Below wc.heap.size wc W))
        case atStart => exact ⟨0, by omega, by omega, rfl, ⟨HT.out.congr (fun a b _ _ => by simp)⟩, HB⟩
        case round =>
          clear HT HB
          obtain ⟨i, hqi, hi, rfl, HT, HB⟩ := hrel
          have hX := (HB.out.block wa.heap.size hlx').trans HXc.out
          have q0 := (blk_cell hX 0).trans rfl
          have q1 := (blk_cell hX 1).trans rfl
          have q2 := (blk_cell hX 2).trans rfl
          clear hX
          by_cases hlt : i ≤ Wd
          · have hii : (i : Int) ≤ (Wd : Int) := by omega
            have hi0 : (0 : Int) ≤ (i : Int) := by omega
            go_wp2_with fail
            go_loopg [15] (Ht + 2) (fun q v15 W => ∃ j : Nat, q + j = Ht + 2 ∧ j ≤ Ht + 1 ∧ v15 = .int .i64 (j : Int) ∧ Aside0 (Tabl W wc.heap.size (.slice A1 (Wd + 1) c1) (Wd + 1) (Ht + 1) (fun a b => if a < i ∨ (a = i ∧ b < j) then more T ea a b else bestV T a b) gs cs) ∧ Aside0 (Below wc.heap.size wc W))
            case atStart => exact ⟨0, by omega, by omega, rfl, ⟨HT.out.congr (fun a b _ _ => by simp)⟩, HB⟩
            case round =>
              clear HT HB q0 q1 q2
              obtain ⟨j, hqj, hj, rfl, HT, HB⟩ := hrel
              have hX := (HB.out.block wa.heap.size hlx').trans HXc.out
              have q0 := (blk_cell hX 0).trans rfl
              have q1 := (blk_cell hX 1).trans rfl
              have q2 := (blk_cell hX 2).trans rfl
              clear hX
              by_cases hltj : j ≤ Ht
              · have hjj : (j : Int) ≤ (Ht : Int) := by omega
                have hj0 : (0 : Int) ≤ (j : Int) := by omega
                have hW0 : (i : Int) < (Wd : Int) + 1 := by omega
                have hH0 : (j : Int) < (Ht : Int) + 1 := by omega
                obtain ⟨ad, rfl, o0⟩ := HT.out.at i (by omega)
                have r0 := ((HT.out.row i (by omega)).cell j (by omega)).1
                simp only [Nat.lt_irrefl, and_false, or_self, if_false] at r0
                have hv1 := bestV_nonneg HTM.out.ok (i := i) (j := j) (by omega) (by omega)
                have hv3 := bestV_small HTM.out.ok (i := i) (j := j) (by omega) (by omega)
                have hm1 : ea * i ≤ 16 * 14 := Nat.mul_le_mul he16 (by omega)
                have hm2 : ea * i * j ≤ 16 * 14 * 14 := Nat.mul_le_mul hm1 (by omega)
                obtain ⟨p1, hp1⟩ : ∃ p1 : Nat, p1 = ea * i := ⟨_, rfl⟩
                obtain ⟨p2, hp2⟩ : ∃ p2 : Nat, p2 = p1 * j := ⟨_, rfl⟩
                have hq1 : p1 ≤ 224 := by omega
                have hq2 : p2 ≤ 3136 := by rw [hp2, hp1]; omega
                have hs1 : IntKind.i64.wrap ((ea : Int) * (i : Int)) = (p1 : Int) := by
                  rw [i64_w, ← Int.natCast_mul, ← hp1]; unfold wrap64; omega
                have hs2 : IntKind.i64.wrap ((p1 : Int) * (j : Int)) = (p2 : Int) := by
                  rw [i64_w, ← Int.natCast_mul, ← hp2]; unfold wrap64; omega
                have HMV := Aside0.mk (show more T ea i j = bestV T i j + (p2 : Int) from by unfold more; rw [hp2, hp1])
                have hs3 : IntKind.i64.wrap (bestV T i j + (p2 : Int)) = bestV T i j + (p2 : Int) := by rw [i64_w]; unfold wrap64; omega
                clear hp1 hp2 hm1 hm2 hq1 hq2 hv1 hv3
                generalize bestV T i j = v1 at r0 hs3 HMV
                go_wp2_with fail
                go_still_tail 19, (by kernel_rfl)
                change wpList _ _ _ _ _ wr.drew
                have HTq := Aside0.mk (HT.out.below (below_drew (Below.refl _ _)))
                have HBq := Aside0.mk (below_drew HB.out)
                clear HT HB o0 r0 hs1 hs2 hs3 q0 q1 q2
                generalize wr.drew = wq at HTq HBq ⊢
                obtain ⟨s0, sf0, slt⟩ := (HTq.out.row i (by omega)).cell j (by omega)
                have HPU := Aside0.mk (HTq.out.put i j (by omega) (by omega) (v1 + (p2 : Int)))
                have HGB := Aside0.mk (HTq.out.base i (by omega))
                generalize gs i = gr at s0 sf0 slt HPU HGB ⊢
                go_wp2_with fail
                go_roundg (Ht + 1 - j)
                case measure => omega
                case rel =>
                  refine ⟨j + 1, by omega, by omega, by go_num, ⟨HPU.out.congr (fun a b ha hb => ?_)⟩, ⟨HBq.out.setCell HGB.out _⟩⟩
                  by_cases e : a = i ∧ b = j
                  · obtain ⟨rfl, rfl⟩ := e
                    rw [if_pos ⟨rfl, rfl⟩, if_pos (by omega)]
                    exact HMV.out.symm
                  · rw [if_neg e]
                    by_cases e2 : a < i ∨ a = i ∧ b < j
                    · rw [if_pos e2, if_pos (by omega)]
                    · rw [if_neg e2, if_neg (by omega)]
              · obtain rfl : j = Ht + 1 := by omega
                go_wp2_with fail
                go_roundg (Wd + 1 - i)
                case measure => omega
                case rel =>
                  refine ⟨i + 1, by omega, by omega, by go_num, ⟨HT.out.congr (fun a b ha hb => ?_)⟩, HB⟩
                  by_cases e : a < i + 1
                  · rw [if_pos e, if_pos (by omega)]
                  · rw [if_neg e, if_neg (by omega)]
          · obtain rfl : i = Wd + 1 := by omega
            go_wp2_with fail
            have HTF := Aside0.mk (HT.out.congr (G := more T ea) (fun a b ha hb => by rw [if_pos ha]))
            have HBF := Aside0.mk (below_on HBc.out HB.out)
            have HGE := Aside0.mk (show bestV T Wd Ht ≤ more T ea Wd Ht from by unfold more; omega)
            have HMB := Aside0.mk (more_bound HTM.out.ok hWm hHm he16)
            clear HT q0 q1 q2
            refine (best_of (Kd.C_below HCO.out HBF.out) HTM.out.c HTM.out.w1 (by omega) HTM.out.h1 (by omega) HTM.out.n HTM.out.ok).mono ?_
            rintro e wf ⟨rfl, hB⟩
            have HTf := Aside0.mk (HTF.out.below hB)
            have HBf := Aside0.mk (below_on HB.out hB)
            clear hB HTF HBF HB
            have hX := (HBf.out.block wa.heap.size hlx').trans HXc.out
            have q0 := (blk_cell hX 0).trans rfl
            have q1 := (blk_cell hX 1).trans rfl
            have q2 := (blk_cell hX 2).trans rfl
            clear hX
            have HCK := Aside0.mk (show ∀ W, Below wf.heap.size wf W → Calls Try.prog 18 #[.int .i64 (Wd : Int), .int .i64 (Ht : Int), .slice Ao T.length co, .slice A1 (Wd + 1) c1] W fun e w' => e = .returned (.int .i64 0) ∧ Below W.heap.size W w' from fun W hW => by
              have hTW := HTf.out.below hW
              have h := check_is (a0 := (Wd : Int)) (a1 := (Ht : Int)) (c := co) (cb := c1) (Kd.C_below HCO.out (below_on HBc.out (below_on HBf.out hW))) HTM.out.c (hTW.reads (by omega) (by omega)).1 (by rw [listOf_length]; exact (hTW.reads (by omega) (by omega)).2) HK.out (by rw [Int.toNat_natCast, Int.toNat_natCast]; exact HMB.out)
              rwa [listOf_length] at h)
            obtain ⟨ad, rfl, o0⟩ := HTf.out.at Wd (by omega)
            have o1 := ((HTf.out.row Wd (by omega)).cell Ht (by omega)).1
            have hN := HN.out
            have hGE := HGE.out
            generalize more T ea Wd Ht = mv at *
            generalize bestV T Wd Ht = bv at *
            have hW0 : (0 : Int) ≤ (Wd : Int) := by omega
            have hW1 : (Wd : Int) < (Wd : Int) + 1 := by omega
            have hH0 : (0 : Int) ≤ (Ht : Int) := by omega
            have hH1 : (Ht : Int) < (Ht : Int) + 1 := by omega
            have hn1 : (0 : Int) ≤ bv := by omega
            have hnm : (0 : Int) ≤ mv := by omega
            have HKQ : Aside0 (∀ w', Below wf.heap.size wf w' → (Below wf.heap.size wf w' ∧ w'.cell? ⟨wa.heap.size, 0, none⟩ = some (.int .i64 (Wd : Int)) ∧ w'.cell? ⟨wa.heap.size, 1, none⟩ = some (.int .i64 (Ht : Int)) ∧ w'.cell? ⟨wa.heap.size, 2, none⟩ = some (.slice Ao T.length co) ∧ w'.cell? (ad.add Wd) = some (.slice (some ⟨gs Wd, 0, none⟩) (Ht + 1) (cs Wd)) ∧ w'.cell? ⟨gs Wd, Ht, none⟩ = some (.int .i64 mv))) := ⟨fun w' hb => ⟨hb, pw_cell_below hb q0, pw_cell_below hb q1, pw_cell_below hb q2, pw_cell_below hb o0, pw_cell_below hb o1⟩⟩
            have HBA := Aside0.mk (below_then (below_then HB0.out HB0.out.size HB1.out) (by have := HB0.out.size; have := HB1.out.size; omega) (below_on HBc.out HBf.out))
            generalize gs Wd = gr at *
            generalize cs Wd = cr at *
            clear q0 q1 q2 o0 o1 HTf hN
            go_wp2_with fail
            go_region_held3 (fun w' => (Below wf.heap.size wf w' ∧ w'.cell? ⟨wa.heap.size, 0, none⟩ = some (.int .i64 (Wd : Int)) ∧ w'.cell? ⟨wa.heap.size, 1, none⟩ = some (.int .i64 (Ht : Int)) ∧ w'.cell? ⟨wa.heap.size, 2, none⟩ = some (.slice Ao T.length co) ∧ w'.cell? (ad.add Wd) = some (.slice (some ⟨gr, 0, none⟩) (Ht + 1) cr) ∧ w'.cell? ⟨gr, Ht, none⟩ = some (.int .i64 mv)))
              (first
                | exact HKQ.out _ (below_drew (Below.refl _ _))
                | (go_split_ands; exact HKQ.out _ (below_on (by assumption) b1))
                | (go_split_ands; exact HKQ.out _ (below_on (by assumption) b4)))
              (first
                | (go_at_call 18; (with_reducible refine (HCK.out _ ?_).mono ?_); (focus (first | exact below_drew (Below.refl _ _) | (go_split_ands; assumption))); rintro e wg ⟨rfl, b1⟩)
                | (go_at_call 19; (with_reducible refine (awake_any _).mono ?_); rintro e w4 ⟨rfl, b4⟩))
            all_goals (go_wp2_with fail)
            go_ret
            go_split_ands
            exact ⟨by simp [go_sem], below_on HBA.out (by assumption)⟩
  · have HN := Aside0.mk (read_best HT.out.ok HT.out.w1 (by have := HT.out.wm; omega) HT.out.h1 (by have := HT.out.hm; omega) h2)
    have HBc := Aside0.mk hB
    clear h1 h2 hB hj0 hj1 hji_ hcut hPm
    have hX := (HBc.out.block wa.heap.size hlx).trans HX.out
    have q0' := (blk_cell hX 0).trans rfl
    have q1' := (blk_cell hX 1).trans rfl
    have q2' := (blk_cell hX 2).trans rfl
    have hlx' := blk_lt hX
    have HXc := Aside0.mk hX
    clear hX q0 q1 q2
    go_wp2_with fail
    refine (most_any (x := Wd) (y := Ht) (c := co) (Kd.C_below HCO.out HBc.out) HT.out.n HT.out.ok HT.out.w1 (by have := HT.out.wm; omega) HT.out.h1 (by have := HT.out.hm; omega)).mono ?_
    rintro e wd ⟨vo, gs, cs, rfl, hTb, hB⟩
    obtain ⟨A1, c1, rfl⟩ := hTb.slice
    have HTb := Aside0.mk hTb
    have HBd := Aside0.mk hB
    have HTM := HT
    clear hTb hB q0' q1' q2'
    clear HT
    go_wp2_with fail
    have hWm := HTM.out.wm
    have hHm := HTM.out.hm
    go_loopg [12, 13] 5 (fun q v12 v13 W => ∃ i ea : Nat, q + i = 5 ∧ i ≤ 4 ∧ i ≤ mo.length ∧ v13 = .int .i64 (i : Int) ∧ v12 = .int .i64 (ea : Int) ∧ ea ≤ 4 * i ∧ Aside0 (Tabl W wc.heap.size (.slice A1 (Wd + 1) c1) (Wd + 1) (Ht + 1) (bestV T) gs cs) ∧ Aside0 (Below wc.heap.size wc W))
    case atStart => exact ⟨0, 0, by omega, by omega, by omega, rfl, rfl, by omega, HTb, HBd⟩
    case round =>
      obtain ⟨i, ea, hq, hi, hi2, rfl, rfl, hea, HT, HB⟩ := hrel
      by_cases hlt : i < mo.length
      · have hli : (i : Int) < (mo.length : Int) := by omega
        have hi0 : (0 : Int) ≤ (i : Int) := by omega
        by_cases h4 : i < 4
        · have h4' : (i : Int) < 4 := by omega
          have HBw := Aside0.mk (below_then (below_then (below_then HB0.out HB0.out.size HB1.out) (by have := HB0.out.size; have := HB1.out.size; omega) HBc.out) (by have := HB0.out.size; have := HB1.out.size; have := HBc.out.size; omega) HB.out)
          obtain ⟨Aw, e1, m0⟩ := Kd.at_int (Kd.C_below HMO.out HBw.out) (i : Int) (by omega) (by omega)
          subst e1
          rw [Int.toNat_natCast] at m0
          generalize rd mo (i : Int) = mi at m0
          go_wp2_with fail
          refine (mod_any mi 5 _ (by omega) (by omega)).mono ?_
          rintro e we ⟨rfl, b9⟩
          have hmi := modI_in mi (n := 5) (by omega)
          obtain ⟨mm, hmm2⟩ : ∃ mm : Nat, modI mi 5 = mm := ⟨(modI mi 5).toNat, by omega⟩
          rw [hmm2] at hmi ⊢
          clear hmm2
          obtain ⟨d, hd⟩ : ∃ d : Nat, d = ea + mm := ⟨_, rfl⟩
          have hs : IntKind.i64.wrap ((ea : Int) + (mm : Int)) = (d : Int) := by rw [i64_w]; unfold wrap64; omega
          have hd4 : d ≤ 4 * (i + 1) := by omega
          have HB9 := Aside0.mk b9
          clear b9 m0 hd
          go_wp2_with fail
          go_roundg (4 - i)
          case measure => omega
          case rel => exact ⟨i + 1, d, by omega, by omega, by omega, by go_num, rfl, hd4, ⟨HT.out.below HB9.out⟩, ⟨below_on HB.out HB9.out⟩⟩
        · have he16 : ea ≤ 16 := by omega
          obtain rfl : i = 4 := by omega
          go_wp2_with fail
          clear hlt hli hi0 h4 hq hea hi hi2
          clear HTb HBd
          go_loopg [14] (Wd + 2) (fun q v14 W => ∃ i : Nat, q + i = Wd + 2 ∧ i ≤ Wd + 1 ∧ v14 = .int .i64 (i : Int) ∧ Aside0 (Tabl W wc.heap.size (.slice A1 (Wd + 1) c1) (Wd + 1) (Ht + 1) (fun a b => if a < i then more T ea a b else bestV T a b) gs cs) ∧ Aside0 (Below wc.heap.size wc W))
          case atStart => exact ⟨0, by omega, by omega, rfl, ⟨HT.out.congr (fun a b _ _ => by simp)⟩, HB⟩
          case round =>
            clear HT HB
            obtain ⟨i, hqi, hi, rfl, HT, HB⟩ := hrel
            have hX := (HB.out.block wa.heap.size hlx').trans HXc.out
            have q0 := (blk_cell hX 0).trans rfl
            have q1 := (blk_cell hX 1).trans rfl
            have q2 := (blk_cell hX 2).trans rfl
            clear hX
            by_cases hlt : i ≤ Wd
            · have hii : (i : Int) ≤ (Wd : Int) := by omega
              have hi0 : (0 : Int) ≤ (i : Int) := by omega
              go_wp2_with fail
              go_loopg [15] (Ht + 2) (fun q v15 W => ∃ j : Nat, q + j = Ht + 2 ∧ j ≤ Ht + 1 ∧ v15 = .int .i64 (j : Int) ∧ Aside0 (Tabl W wc.heap.size (.slice A1 (Wd + 1) c1) (Wd + 1) (Ht + 1) (fun a b => if a < i ∨ (a = i ∧ b < j) then more T ea a b else bestV T a b) gs cs) ∧ Aside0 (Below wc.heap.size wc W))
              case atStart => exact ⟨0, by omega, by omega, rfl, ⟨HT.out.congr (fun a b _ _ => by simp)⟩, HB⟩
              case round =>
                clear HT HB q0 q1 q2
                obtain ⟨j, hqj, hj, rfl, HT, HB⟩ := hrel
                have hX := (HB.out.block wa.heap.size hlx').trans HXc.out
                have q0 := (blk_cell hX 0).trans rfl
                have q1 := (blk_cell hX 1).trans rfl
                have q2 := (blk_cell hX 2).trans rfl
                clear hX
                by_cases hltj : j ≤ Ht
                · have hjj : (j : Int) ≤ (Ht : Int) := by omega
                  have hj0 : (0 : Int) ≤ (j : Int) := by omega
                  have hW0 : (i : Int) < (Wd : Int) + 1 := by omega
                  have hH0 : (j : Int) < (Ht : Int) + 1 := by omega
                  obtain ⟨ad, rfl, o0⟩ := HT.out.at i (by omega)
                  have r0 := ((HT.out.row i (by omega)).cell j (by omega)).1
                  simp only [Nat.lt_irrefl, and_false, or_self, if_false] at r0
                  have hv1 := bestV_nonneg HTM.out.ok (i := i) (j := j) (by omega) (by omega)
                  have hv3 := bestV_small HTM.out.ok (i := i) (j := j) (by omega) (by omega)
                  have hm1 : ea * i ≤ 16 * 14 := Nat.mul_le_mul he16 (by omega)
                  have hm2 : ea * i * j ≤ 16 * 14 * 14 := Nat.mul_le_mul hm1 (by omega)
                  obtain ⟨p1, hp1⟩ : ∃ p1 : Nat, p1 = ea * i := ⟨_, rfl⟩
                  obtain ⟨p2, hp2⟩ : ∃ p2 : Nat, p2 = p1 * j := ⟨_, rfl⟩
                  have hq1 : p1 ≤ 224 := by omega
                  have hq2 : p2 ≤ 3136 := by rw [hp2, hp1]; omega
                  have hs1 : IntKind.i64.wrap ((ea : Int) * (i : Int)) = (p1 : Int) := by
                    rw [i64_w, ← Int.natCast_mul, ← hp1]; unfold wrap64; omega
                  have hs2 : IntKind.i64.wrap ((p1 : Int) * (j : Int)) = (p2 : Int) := by
                    rw [i64_w, ← Int.natCast_mul, ← hp2]; unfold wrap64; omega
                  have HMV := Aside0.mk (show more T ea i j = bestV T i j + (p2 : Int) from by unfold more; rw [hp2, hp1])
                  have hs3 : IntKind.i64.wrap (bestV T i j + (p2 : Int)) = bestV T i j + (p2 : Int) := by rw [i64_w]; unfold wrap64; omega
                  clear hp1 hp2 hm1 hm2 hq1 hq2 hv1 hv3
                  generalize bestV T i j = v1 at r0 hs3 HMV
                  go_wp2_with fail
                  go_still_tail 19, (by kernel_rfl)
                  change wpList _ _ _ _ _ wr.drew
                  have HTq := Aside0.mk (HT.out.below (below_drew (Below.refl _ _)))
                  have HBq := Aside0.mk (below_drew HB.out)
                  clear HT HB o0 r0 hs1 hs2 hs3 q0 q1 q2
                  generalize wr.drew = wq at HTq HBq ⊢
                  obtain ⟨s0, sf0, slt⟩ := (HTq.out.row i (by omega)).cell j (by omega)
                  have HPU := Aside0.mk (HTq.out.put i j (by omega) (by omega) (v1 + (p2 : Int)))
                  have HGB := Aside0.mk (HTq.out.base i (by omega))
                  generalize gs i = gr at s0 sf0 slt HPU HGB ⊢
                  go_wp2_with fail
                  go_roundg (Ht + 1 - j)
                  case measure => omega
                  case rel =>
                    refine ⟨j + 1, by omega, by omega, by go_num, ⟨HPU.out.congr (fun a b ha hb => ?_)⟩, ⟨HBq.out.setCell HGB.out _⟩⟩
                    by_cases e : a = i ∧ b = j
                    · obtain ⟨rfl, rfl⟩ := e
                      rw [if_pos ⟨rfl, rfl⟩, if_pos (by omega)]
                      exact HMV.out.symm
                    · rw [if_neg e]
                      by_cases e2 : a < i ∨ a = i ∧ b < j
                      · rw [if_pos e2, if_pos (by omega)]
                      · rw [if_neg e2, if_neg (by omega)]
                · obtain rfl : j = Ht + 1 := by omega
                  go_wp2_with fail
                  go_roundg (Wd + 1 - i)
                  case measure => omega
                  case rel =>
                    refine ⟨i + 1, by omega, by omega, by go_num, ⟨HT.out.congr (fun a b ha hb => ?_)⟩, HB⟩
                    by_cases e : a < i + 1
                    · rw [if_pos e, if_pos (by omega)]
                    · rw [if_neg e, if_neg (by omega)]
            · obtain rfl : i = Wd + 1 := by omega
              go_wp2_with fail
              have HTF := Aside0.mk (HT.out.congr (G := more T ea) (fun a b ha hb => by rw [if_pos ha]))
              have HBF := Aside0.mk (below_on HBc.out HB.out)
              have HGE := Aside0.mk (show bestV T Wd Ht ≤ more T ea Wd Ht from by unfold more; omega)
              have HMB := Aside0.mk (more_bound HTM.out.ok hWm hHm he16)
              clear HT q0 q1 q2
              refine (best_of (Kd.C_below HCO.out HBF.out) HTM.out.c HTM.out.w1 (by omega) HTM.out.h1 (by omega) HTM.out.n HTM.out.ok).mono ?_
              rintro e wf ⟨rfl, hB⟩
              have HTf := Aside0.mk (HTF.out.below hB)
              have HBf := Aside0.mk (below_on HB.out hB)
              clear hB HTF HBF HB
              have hX := (HBf.out.block wa.heap.size hlx').trans HXc.out
              have q0 := (blk_cell hX 0).trans rfl
              have q1 := (blk_cell hX 1).trans rfl
              have q2 := (blk_cell hX 2).trans rfl
              clear hX
              have HCK := Aside0.mk (show ∀ W, Below wf.heap.size wf W → Calls Try.prog 18 #[.int .i64 (Wd : Int), .int .i64 (Ht : Int), .slice Ao T.length co, .slice A1 (Wd + 1) c1] W fun e w' => e = .returned (.int .i64 0) ∧ Below W.heap.size W w' from fun W hW => by
                have hTW := HTf.out.below hW
                have h := check_is (a0 := (Wd : Int)) (a1 := (Ht : Int)) (c := co) (cb := c1) (Kd.C_below HCO.out (below_on HBc.out (below_on HBf.out hW))) HTM.out.c (hTW.reads (by omega) (by omega)).1 (by rw [listOf_length]; exact (hTW.reads (by omega) (by omega)).2) HK.out (by rw [Int.toNat_natCast, Int.toNat_natCast]; exact HMB.out)
                rwa [listOf_length] at h)
              obtain ⟨ad, rfl, o0⟩ := HTf.out.at Wd (by omega)
              have o1 := ((HTf.out.row Wd (by omega)).cell Ht (by omega)).1
              have hN := HN.out
              have hGE := HGE.out
              generalize more T ea Wd Ht = mv at *
              generalize bestV T Wd Ht = bv at *
              have hW0 : (0 : Int) ≤ (Wd : Int) := by omega
              have hW1 : (Wd : Int) < (Wd : Int) + 1 := by omega
              have hH0 : (0 : Int) ≤ (Ht : Int) := by omega
              have hH1 : (Ht : Int) < (Ht : Int) + 1 := by omega
              have hn1 : (v : Int) ≤ bv := by omega
              have hnm : (v : Int) ≤ mv := by omega
              have HKQ : Aside0 (∀ w', Below wf.heap.size wf w' → (Below wf.heap.size wf w' ∧ w'.cell? ⟨wa.heap.size, 0, none⟩ = some (.int .i64 (Wd : Int)) ∧ w'.cell? ⟨wa.heap.size, 1, none⟩ = some (.int .i64 (Ht : Int)) ∧ w'.cell? ⟨wa.heap.size, 2, none⟩ = some (.slice Ao T.length co) ∧ w'.cell? (ad.add Wd) = some (.slice (some ⟨gs Wd, 0, none⟩) (Ht + 1) (cs Wd)) ∧ w'.cell? ⟨gs Wd, Ht, none⟩ = some (.int .i64 mv))) := ⟨fun w' hb => ⟨hb, pw_cell_below hb q0, pw_cell_below hb q1, pw_cell_below hb q2, pw_cell_below hb o0, pw_cell_below hb o1⟩⟩
              have HBA := Aside0.mk (below_then (below_then HB0.out HB0.out.size HB1.out) (by have := HB0.out.size; have := HB1.out.size; omega) (below_on HBc.out HBf.out))
              generalize gs Wd = gr at *
              generalize cs Wd = cr at *
              clear q0 q1 q2 o0 o1 HTf hN
              go_wp2_with fail
              go_region_held3 (fun w' => (Below wf.heap.size wf w' ∧ w'.cell? ⟨wa.heap.size, 0, none⟩ = some (.int .i64 (Wd : Int)) ∧ w'.cell? ⟨wa.heap.size, 1, none⟩ = some (.int .i64 (Ht : Int)) ∧ w'.cell? ⟨wa.heap.size, 2, none⟩ = some (.slice Ao T.length co) ∧ w'.cell? (ad.add Wd) = some (.slice (some ⟨gr, 0, none⟩) (Ht + 1) cr) ∧ w'.cell? ⟨gr, Ht, none⟩ = some (.int .i64 mv)))
                (first
                  | exact HKQ.out _ (below_drew (Below.refl _ _))
                  | (go_split_ands; exact HKQ.out _ (below_on (by assumption) b1))
                  | (go_split_ands; exact HKQ.out _ (below_on (by assumption) b4)))
                (first
                  | (go_at_call 18; (with_reducible refine (HCK.out _ ?_).mono ?_); (focus (first | exact below_drew (Below.refl _ _) | (go_split_ands; assumption))); rintro e wg ⟨rfl, b1⟩)
                  | (go_at_call 19; (with_reducible refine (awake_any _).mono ?_); rintro e w4 ⟨rfl, b4⟩))
              all_goals (go_wp2_with fail)
              go_ret
              go_split_ands
              exact ⟨by simp [go_sem], below_on HBA.out (by assumption)⟩
      · have he16 : ea ≤ 16 := by omega
        obtain rfl : i = mo.length := by omega
        go_wp2_with fail
        clear hlt hq hea hi hi2
        clear HTb HBd
        go_loopg [14] (Wd + 2) (fun q v14 W => ∃ i : Nat, q + i = Wd + 2 ∧ i ≤ Wd + 1 ∧ v14 = .int .i64 (i : Int) ∧ Aside0 (Tabl W wc.heap.size (.slice A1 (Wd + 1) c1) (Wd + 1) (Ht + 1) (fun a b => if a < i then more T ea a b else bestV T a b) gs cs) ∧ Aside0 (Below wc.heap.size wc W))
        case atStart => exact ⟨0, by omega, by omega, rfl, ⟨HT.out.congr (fun a b _ _ => by simp)⟩, HB⟩
        case round =>
          clear HT HB
          obtain ⟨i, hqi, hi, rfl, HT, HB⟩ := hrel
          have hX := (HB.out.block wa.heap.size hlx').trans HXc.out
          have q0 := (blk_cell hX 0).trans rfl
          have q1 := (blk_cell hX 1).trans rfl
          have q2 := (blk_cell hX 2).trans rfl
          clear hX
          by_cases hlt : i ≤ Wd
          · have hii : (i : Int) ≤ (Wd : Int) := by omega
            have hi0 : (0 : Int) ≤ (i : Int) := by omega
            go_wp2_with fail
            go_loopg [15] (Ht + 2) (fun q v15 W => ∃ j : Nat, q + j = Ht + 2 ∧ j ≤ Ht + 1 ∧ v15 = .int .i64 (j : Int) ∧ Aside0 (Tabl W wc.heap.size (.slice A1 (Wd + 1) c1) (Wd + 1) (Ht + 1) (fun a b => if a < i ∨ (a = i ∧ b < j) then more T ea a b else bestV T a b) gs cs) ∧ Aside0 (Below wc.heap.size wc W))
            case atStart => exact ⟨0, by omega, by omega, rfl, ⟨HT.out.congr (fun a b _ _ => by simp)⟩, HB⟩
            case round =>
              clear HT HB q0 q1 q2
              obtain ⟨j, hqj, hj, rfl, HT, HB⟩ := hrel
              have hX := (HB.out.block wa.heap.size hlx').trans HXc.out
              have q0 := (blk_cell hX 0).trans rfl
              have q1 := (blk_cell hX 1).trans rfl
              have q2 := (blk_cell hX 2).trans rfl
              clear hX
              by_cases hltj : j ≤ Ht
              · have hjj : (j : Int) ≤ (Ht : Int) := by omega
                have hj0 : (0 : Int) ≤ (j : Int) := by omega
                have hW0 : (i : Int) < (Wd : Int) + 1 := by omega
                have hH0 : (j : Int) < (Ht : Int) + 1 := by omega
                obtain ⟨ad, rfl, o0⟩ := HT.out.at i (by omega)
                have r0 := ((HT.out.row i (by omega)).cell j (by omega)).1
                simp only [Nat.lt_irrefl, and_false, or_self, if_false] at r0
                have hv1 := bestV_nonneg HTM.out.ok (i := i) (j := j) (by omega) (by omega)
                have hv3 := bestV_small HTM.out.ok (i := i) (j := j) (by omega) (by omega)
                have hm1 : ea * i ≤ 16 * 14 := Nat.mul_le_mul he16 (by omega)
                have hm2 : ea * i * j ≤ 16 * 14 * 14 := Nat.mul_le_mul hm1 (by omega)
                obtain ⟨p1, hp1⟩ : ∃ p1 : Nat, p1 = ea * i := ⟨_, rfl⟩
                obtain ⟨p2, hp2⟩ : ∃ p2 : Nat, p2 = p1 * j := ⟨_, rfl⟩
                have hq1 : p1 ≤ 224 := by omega
                have hq2 : p2 ≤ 3136 := by rw [hp2, hp1]; omega
                have hs1 : IntKind.i64.wrap ((ea : Int) * (i : Int)) = (p1 : Int) := by
                  rw [i64_w, ← Int.natCast_mul, ← hp1]; unfold wrap64; omega
                have hs2 : IntKind.i64.wrap ((p1 : Int) * (j : Int)) = (p2 : Int) := by
                  rw [i64_w, ← Int.natCast_mul, ← hp2]; unfold wrap64; omega
                have HMV := Aside0.mk (show more T ea i j = bestV T i j + (p2 : Int) from by unfold more; rw [hp2, hp1])
                have hs3 : IntKind.i64.wrap (bestV T i j + (p2 : Int)) = bestV T i j + (p2 : Int) := by rw [i64_w]; unfold wrap64; omega
                clear hp1 hp2 hm1 hm2 hq1 hq2 hv1 hv3
                generalize bestV T i j = v1 at r0 hs3 HMV
                go_wp2_with fail
                go_still_tail 19, (by kernel_rfl)
                change wpList _ _ _ _ _ wr.drew
                have HTq := Aside0.mk (HT.out.below (below_drew (Below.refl _ _)))
                have HBq := Aside0.mk (below_drew HB.out)
                clear HT HB o0 r0 hs1 hs2 hs3 q0 q1 q2
                generalize wr.drew = wq at HTq HBq ⊢
                obtain ⟨s0, sf0, slt⟩ := (HTq.out.row i (by omega)).cell j (by omega)
                have HPU := Aside0.mk (HTq.out.put i j (by omega) (by omega) (v1 + (p2 : Int)))
                have HGB := Aside0.mk (HTq.out.base i (by omega))
                generalize gs i = gr at s0 sf0 slt HPU HGB ⊢
                go_wp2_with fail
                go_roundg (Ht + 1 - j)
                case measure => omega
                case rel =>
                  refine ⟨j + 1, by omega, by omega, by go_num, ⟨HPU.out.congr (fun a b ha hb => ?_)⟩, ⟨HBq.out.setCell HGB.out _⟩⟩
                  by_cases e : a = i ∧ b = j
                  · obtain ⟨rfl, rfl⟩ := e
                    rw [if_pos ⟨rfl, rfl⟩, if_pos (by omega)]
                    exact HMV.out.symm
                  · rw [if_neg e]
                    by_cases e2 : a < i ∨ a = i ∧ b < j
                    · rw [if_pos e2, if_pos (by omega)]
                    · rw [if_neg e2, if_neg (by omega)]
              · obtain rfl : j = Ht + 1 := by omega
                go_wp2_with fail
                go_roundg (Wd + 1 - i)
                case measure => omega
                case rel =>
                  refine ⟨i + 1, by omega, by omega, by go_num, ⟨HT.out.congr (fun a b ha hb => ?_)⟩, HB⟩
                  by_cases e : a < i + 1
                  · rw [if_pos e, if_pos (by omega)]
                  · rw [if_neg e, if_neg (by omega)]
          · obtain rfl : i = Wd + 1 := by omega
            go_wp2_with fail
            have HTF := Aside0.mk (HT.out.congr (G := more T ea) (fun a b ha hb => by rw [if_pos ha]))
            have HBF := Aside0.mk (below_on HBc.out HB.out)
            have HGE := Aside0.mk (show bestV T Wd Ht ≤ more T ea Wd Ht from by unfold more; omega)
            have HMB := Aside0.mk (more_bound HTM.out.ok hWm hHm he16)
            clear HT q0 q1 q2
            refine (best_of (Kd.C_below HCO.out HBF.out) HTM.out.c HTM.out.w1 (by omega) HTM.out.h1 (by omega) HTM.out.n HTM.out.ok).mono ?_
            rintro e wf ⟨rfl, hB⟩
            have HTf := Aside0.mk (HTF.out.below hB)
            have HBf := Aside0.mk (below_on HB.out hB)
            clear hB HTF HBF HB
            have hX := (HBf.out.block wa.heap.size hlx').trans HXc.out
            have q0 := (blk_cell hX 0).trans rfl
            have q1 := (blk_cell hX 1).trans rfl
            have q2 := (blk_cell hX 2).trans rfl
            clear hX
            have HCK := Aside0.mk (show ∀ W, Below wf.heap.size wf W → Calls Try.prog 18 #[.int .i64 (Wd : Int), .int .i64 (Ht : Int), .slice Ao T.length co, .slice A1 (Wd + 1) c1] W fun e w' => e = .returned (.int .i64 0) ∧ Below W.heap.size W w' from fun W hW => by
              have hTW := HTf.out.below hW
              have h := check_is (a0 := (Wd : Int)) (a1 := (Ht : Int)) (c := co) (cb := c1) (Kd.C_below HCO.out (below_on HBc.out (below_on HBf.out hW))) HTM.out.c (hTW.reads (by omega) (by omega)).1 (by rw [listOf_length]; exact (hTW.reads (by omega) (by omega)).2) HK.out (by rw [Int.toNat_natCast, Int.toNat_natCast]; exact HMB.out)
              rwa [listOf_length] at h)
            obtain ⟨ad, rfl, o0⟩ := HTf.out.at Wd (by omega)
            have o1 := ((HTf.out.row Wd (by omega)).cell Ht (by omega)).1
            have hN := HN.out
            have hGE := HGE.out
            generalize more T ea Wd Ht = mv at *
            generalize bestV T Wd Ht = bv at *
            have hW0 : (0 : Int) ≤ (Wd : Int) := by omega
            have hW1 : (Wd : Int) < (Wd : Int) + 1 := by omega
            have hH0 : (0 : Int) ≤ (Ht : Int) := by omega
            have hH1 : (Ht : Int) < (Ht : Int) + 1 := by omega
            have hn1 : (v : Int) ≤ bv := by omega
            have hnm : (v : Int) ≤ mv := by omega
            have HKQ : Aside0 (∀ w', Below wf.heap.size wf w' → (Below wf.heap.size wf w' ∧ w'.cell? ⟨wa.heap.size, 0, none⟩ = some (.int .i64 (Wd : Int)) ∧ w'.cell? ⟨wa.heap.size, 1, none⟩ = some (.int .i64 (Ht : Int)) ∧ w'.cell? ⟨wa.heap.size, 2, none⟩ = some (.slice Ao T.length co) ∧ w'.cell? (ad.add Wd) = some (.slice (some ⟨gs Wd, 0, none⟩) (Ht + 1) (cs Wd)) ∧ w'.cell? ⟨gs Wd, Ht, none⟩ = some (.int .i64 mv))) := ⟨fun w' hb => ⟨hb, pw_cell_below hb q0, pw_cell_below hb q1, pw_cell_below hb q2, pw_cell_below hb o0, pw_cell_below hb o1⟩⟩
            have HBA := Aside0.mk (below_then (below_then HB0.out HB0.out.size HB1.out) (by have := HB0.out.size; have := HB1.out.size; omega) (below_on HBc.out HBf.out))
            generalize gs Wd = gr at *
            generalize cs Wd = cr at *
            clear q0 q1 q2 o0 o1 HTf hN
            go_wp2_with fail
            go_region_held3 (fun w' => (Below wf.heap.size wf w' ∧ w'.cell? ⟨wa.heap.size, 0, none⟩ = some (.int .i64 (Wd : Int)) ∧ w'.cell? ⟨wa.heap.size, 1, none⟩ = some (.int .i64 (Ht : Int)) ∧ w'.cell? ⟨wa.heap.size, 2, none⟩ = some (.slice Ao T.length co) ∧ w'.cell? (ad.add Wd) = some (.slice (some ⟨gr, 0, none⟩) (Ht + 1) cr) ∧ w'.cell? ⟨gr, Ht, none⟩ = some (.int .i64 mv)))
              (first
                | exact HKQ.out _ (below_drew (Below.refl _ _))
                | (go_split_ands; exact HKQ.out _ (below_on (by assumption) b1))
                | (go_split_ands; exact HKQ.out _ (below_on (by assumption) b4)))
              (first
                | (go_at_call 18; (with_reducible refine (HCK.out _ ?_).mono ?_); (focus (first | exact below_drew (Below.refl _ _) | (go_split_ands; assumption))); rintro e wg ⟨rfl, b1⟩)
                | (go_at_call 19; (with_reducible refine (awake_any _).mono ?_); rintro e w4 ⟨rfl, b4⟩))
            all_goals (go_wp2_with fail)
            go_ret
            go_split_ands
            exact ⟨by simp [go_sem], below_on HBA.out (by assumption)⟩

end Go.Proofs.Ytochbhndeboodaa
