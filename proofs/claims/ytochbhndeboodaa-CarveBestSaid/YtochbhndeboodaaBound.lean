/- The walk of the reference's Bound: it tells whether a table is a bound. -/
import Derived.Test.YtochbhndeboodaaTbl
import Derived.Test.YtochbhndeboodaaPlainE
import Derived.Test.YtochbhndeboodaaPlainH
import Derived.Test.YtochbhndeboodaaRef
import Derived.StillTactics
import Derived.Deep.RegionHeld3
namespace Go.Proofs.Ytochbhndeboodaa
set_option linter.unusedVariables false
set_option linter.unusedSimpArgs false
open Go.RowKit Go.Proofs.YtochbhndeboodaaW.PrintWords Go.Proofs.YtochbhndeboodaaW.PrintLast Go.Proofs.YtochbhndeboodaaW.PrintMore
open Go.Proofs.Ytochbhndeboodaa.PCarveMore (S52 S56 k52 k56)

/-- A row of a table in memory, in every later world. -/
theorem row_at {w : World} {ad : Addr} {b : List (List Int)} (h : Kd.C (Kd.slice 3 (Kd.int .i64)) w (some ad) b.length b) (i : Nat) (hi : i < b.length) :
    ∃ Ai ci, ∀ W, Below w.heap.size w W → W.cell? (ad.add i) = some (.slice Ai (b.getD i []).length ci) ∧ ∀ j, j < (b.getD i []).length → ∃ a, Ai = some a ∧ W.cell? (a.add j) = some (.int .i64 (at2 b i j)) := by
  obtain ⟨ad', A0, c0, e, h1, h2, h3⟩ := PCarveMore.at_L4 h (i : Int) (by omega) (by omega)
  cases e
  rw [rd_len, Int.toNat_natCast] at h1
  rw [show PCarveMore.rd_L4 b (i : Int) = b.getD i [] by simp [PCarveMore.rd_L4]] at h3
  refine ⟨A0, c0, fun W hW => ⟨pw_cell_below hW h1, fun j hj => ?_⟩⟩
  obtain ⟨A', e', h4⟩ := Kd.at_int h3 (j : Int) (by omega) (by omega)
  rw [Int.toNat_natCast] at h4
  refine ⟨A', e', ?_⟩
  rw [pw_cell_below hW h4]
  simp [rd, at2]

def RowOk (h : Nat) (b : List (List Int)) (i : Nat) : Prop := (b.getD i []).length = h + 1 ∧ ∀ j, j ≤ h → 0 ≤ at2 b i j ∧ at2 b i j ≤ 1099511627776

def BoundPost (P : Prop) (w : World) (e : Ending) (w' : World) : Prop := ∃ r, e = .returned (.bool r) ∧ (r = true ↔ P) ∧ Below w.heap.size w w'
theorem BoundPost.no {P : Prop} {w : World} {e : Ending} {w' : World} (he : e = .returned (.bool false)) (h : ¬ P) (hb : Below w.heap.size w w') : BoundPost P w e w' := ⟨false, he, ⟨(fun h => nomatch h), fun hp => absurd hp h⟩, hb⟩
theorem BoundPost.yes {P : Prop} {w : World} {e : Ending} {w' : World} (he : e = .returned (.bool true)) (h : P) (hb : Below w.heap.size w w') : BoundPost P w e w' := ⟨true, he, ⟨fun _ => h, fun _ => rfl⟩, hb⟩

set_option maxHeartbeats 16000000 in
set_option maxRecDepth 100000 in
theorem refBound_any {x y : Nat} {L : List S52} {b : List (List Int)} {A Ab : Option Addr} {c cb : Nat} {w : World} (hr : Kd.C k52 w A L.length L) (hb : Kd.C (Kd.slice 3 (Kd.int .i64)) w Ab b.length b) (hL : L.length ≤ 16) (hok : ∀ k, k < L.length → okB (blankAt L k)) (x1 : 1 ≤ x) (x2 : x ≤ 48) (y1 : 1 ≤ y) (y2 : y ≤ 48) :
    Calls Try.prog 21 #[.int .i64 (x : Int), .int .i64 (y : Int), .slice A L.length c, .slice Ab b.length cb] w (BoundPost (IsBound x y L b) w) := by
  have hbm := Kd.C_max hb
  have HR := Aside0.mk hr
  have HBB := Aside0.mk hb
  have HOK := Aside0.mk hok
  have hu52 := Try.underlying52
  by_cases hlen : b.length = x + 1
  · obtain ⟨ad, rfl⟩ : ∃ ad, Ab = some ad := by
      obtain ⟨ad, e, _⟩ := hb.2.2 (by omega)
      exact ⟨ad, e⟩
    have HLen := Aside0.mk hlen
    rw [hlen]
    clear hr hb hok hbm hlen
    have s1 : wrap64 ((x : Int) + 1) = (x : Int) + 1 := by unfold wrap64; omega
    have s2 : wrap64 ((y : Int) + 1) = (y : Int) + 1 := by unfold wrap64; omega
    have hxx : ((((x + 1 : Nat) : Int)) != (x : Int) + 1) = false := by simp
    go_enter Try.func21, Try.ntmps21
    go_wp2_with fail
    go_loopg [9] (x + 2) (fun q v9 W => ∃ i : Nat, q + i = x + 2 ∧ i ≤ x + 1 ∧ v9 = .int .i64 (i : Int) ∧ Aside0 (∀ i', i' < i → RowOk y b i') ∧ Aside0 (Below w.heap.size w W))
    case atStart => exact ⟨0, by omega, by omega, rfl, ⟨fun i' h => absurd h (by omega)⟩, ⟨Below.refl _ _⟩⟩
    case round =>
      obtain ⟨i, hq, hi, rfl, HR1, HB⟩ := hrel
      by_cases hlt : i ≤ x
      · have d1 : (i : Int) ≤ (x : Int) := by omega
        have i0 : (0 : Int) ≤ (i : Int) := by omega
        have ib : (i : Int) < ((x + 1 : Nat) : Int) := by omega
        obtain ⟨Ai, ci, hrow⟩ := row_at HBB.out i (by have := HLen.out; omega)
        have HRow := Aside0.mk hrow
        have c0 := (hrow _ HB.out).1
        clear hrow
        by_cases hl : (b.getD i []).length = y + 1
        · have HLi := Aside0.mk hl
          rw [hl] at c0
          clear hl
          go_wp2_with fail
          go_loopg [10] (y + 2) (fun q v10 W => ∃ k : Nat, q + k = y + 2 ∧ k ≤ y + 1 ∧ v10 = .int .i64 (k : Int) ∧ Aside0 (∀ j, j < k → 0 ≤ at2 b i j ∧ at2 b i j ≤ 1099511627776) ∧ Aside0 (Below w.heap.size w W))
          case atStart => exact ⟨0, by omega, by omega, rfl, ⟨fun j h => absurd h (by omega)⟩, HB⟩
          case round =>
            clear c0 HB
            obtain ⟨k, hqk, hk, rfl, HR2, HB⟩ := hrel
            by_cases hltk : k ≤ y
            · have d2 : (k : Int) ≤ (y : Int) := by omega
              have k0 : (0 : Int) ≤ (k : Int) := by omega
              have kb : (k : Int) < ((y + 1 : Nat) : Int) := by omega
              obtain ⟨c0, hcell⟩ := HRow.out _ HB.out
              obtain ⟨ai, rfl, c1⟩ := hcell k (by have := HLi.out; omega)
              rw [HLi.out] at c0
              clear hcell
              have HN := Aside0.mk (show (0 ≤ at2 b i k ∧ at2 b i k ≤ 1099511627776) → ∀ j, j < k + 1 → 0 ≤ at2 b i j ∧ at2 b i j ≤ 1099511627776 from fun h j hj => by
                rcases Nat.lt_or_ge j k with h1 | h1
                · exact HR2.out j h1
                · obtain rfl : j = k := by omega
                  exact h)
              have HNo := Aside0.mk (show ¬ (0 ≤ at2 b i k ∧ at2 b i k ≤ 1099511627776) → ¬ IsBound x y L b from fun h hB => h (hB.2.1 i k hlt hltk))
              generalize at2 b i k = v at *
              by_cases v0 : v < 0
              · go_wp2_with fail
                go_ret
                exact BoundPost.no (by simp [go_sem]) (HNo.out (by omega)) HB.out
              · by_cases v1 : 1099511627776 < v
                · go_wp2_with fail
                  go_ret
                  exact BoundPost.no (by simp [go_sem]) (HNo.out (by omega)) HB.out
                · go_wp2_with fail
                  go_roundg (y + 1 - k)
                  case measure => omega
                  case rel => exact ⟨k + 1, by omega, by omega, by go_num, ⟨HN.out ⟨by omega, by omega⟩⟩, HB⟩
            · obtain rfl : k = y + 1 := by omega
              go_wp2_with fail
              go_roundg (x + 1 - i)
              case measure => omega
              case rel =>
                exact ⟨i + 1, by omega, by omega, by go_num, ⟨fun i' h => by
                  rcases Nat.lt_or_ge i' i with h1 | h1
                  · exact HR1.out i' h1
                  · obtain rfl : i' = i := by omega
                    exact ⟨HLi.out, fun j hj => HR2.out j (by omega)⟩⟩, HB⟩
        · have hne : (((b.getD i []).length : Int) != (y : Int) + 1) = true := by rw [bne_iff_ne]; omega
          have HNo := Aside0.mk (show ¬ IsBound x y L b from fun hB => hl (hB.1.2 i hlt))
          clear hl
          generalize (b.getD i []).length = n at *
          go_wp2_with fail
          go_ret
          exact BoundPost.no (by simp [go_sem]) HNo.out HB.out
      · obtain rfl : i = x + 1 := by omega
        go_wp2_with fail
        have HS := Aside0.mk (show Shape x y b ∧ Ranged x y b from ⟨⟨HLen.out, fun i hi => (HR1.out i (by omega)).1⟩, fun i j hi hj => (HR1.out i (by omega)).2 j hj⟩)
        have HALL := Aside0.mk (show ∀ r, r ≤ x → ∃ ar cr, ∀ W, Below w.heap.size w W → W.cell? (ad.add r) = some (.slice (some ar) (y + 1) cr) ∧ ∀ j, j ≤ y → W.cell? (ar.add j) = some (.int .i64 (at2 b r j)) from fun r hr => by
          obtain ⟨Ai, ci, hrow⟩ := row_at HBB.out r (by have := HLen.out; omega)
          have hl := HS.out.1.2 r hr
          obtain ⟨ai, e, _⟩ := (hrow w (Below.refl _ _)).2 0 (by omega)
          subst e
          refine ⟨ai, ci, fun W hW => ?_⟩
          obtain ⟨c0, hcell⟩ := hrow W hW
          rw [hl] at c0
          refine ⟨c0, fun j hj => ?_⟩
          obtain ⟨a', e', h⟩ := hcell j (by omega)
          cases e'
          exact h)
        clear HR1
        go_loopg [11] (x + 2) (fun q v11 W => ∃ i : Nat, q + i = x + 2 ∧ i ≤ x + 1 ∧ v11 = .int .i64 (i : Int) ∧ Aside0 (∀ i', i' < i → ∀ j, j ≤ y → Enough L b i' j) ∧ Aside0 (Below w.heap.size w W))
        case atStart => exact ⟨0, by omega, by omega, rfl, ⟨fun i' h => absurd h (by omega)⟩, HB⟩
        case round =>
          clear HB
          obtain ⟨i, hq, hi, rfl, HE1, HB⟩ := hrel
          by_cases hlt : i ≤ x
          · have d1 : (i : Int) ≤ (x : Int) := by omega
            have i0 : (0 : Int) ≤ (i : Int) := by omega
            have ib : (i : Int) < ((x + 1 : Nat) : Int) := by omega
            have ib2 : (i : Int) < (x : Int) + 1 := by omega
            obtain ⟨Ai, ci, hrow⟩ := row_at HBB.out i (by have := HLen.out; omega)
            have HRow := Aside0.mk hrow
            clear hrow
            have HLi := Aside0.mk (HS.out.1.2 i hlt)
            go_wp2_with fail
            go_loopg [12] (y + 2) (fun q v12 W => ∃ k : Nat, q + k = y + 2 ∧ k ≤ y + 1 ∧ v12 = .int .i64 (k : Int) ∧ Aside0 (∀ j, j < k → Enough L b i j) ∧ Aside0 (Below w.heap.size w W))
            case atStart => exact ⟨0, by omega, by omega, rfl, ⟨fun j h => absurd h (by omega)⟩, HB⟩
            case round =>
              clear HB
              obtain ⟨k, hqk, hk, rfl, HE2, HB⟩ := hrel
              by_cases hltk : k ≤ y
              · have d2 : (k : Int) ≤ (y : Int) := by omega
                have k0 : (0 : Int) ≤ (k : Int) := by omega
                have kb : (k : Int) < ((y + 1 : Nat) : Int) := by omega
                have kb2 : (k : Int) < (y : Int) + 1 := by omega
                have HV := Aside0.mk (HS.out.2 i k hlt hltk)
                have HNo := Aside0.mk (show ¬ Enough L b i k → ¬ IsBound x y L b from fun h hB => h (hB.2.2 i k hlt hltk))
                have HC := Aside0.mk (show ∀ W, Below w.heap.size w W → ∃ ai, Ai = some ai ∧ W.cell? (ad.add i) = some (.slice Ai (y + 1) ci) ∧ W.cell? (ai.add k) = some (.int .i64 (at2 b i k)) from fun W hW => by
                  obtain ⟨c0, hcell⟩ := HRow.out _ hW
                  obtain ⟨ai, e, c1⟩ := hcell k (by have := HLi.out; omega)
                  rw [HLi.out] at c0
                  exact ⟨ai, e, c0, c1⟩)
                obtain ⟨ai, rfl, _, _⟩ := HC.out _ HB.out
                have HCW := Aside0.mk (show ∀ W, Below w.heap.size w W → W.cell? (ad.add i) = some (.slice (some ai) (y + 1) ci) ∧ W.cell? (ai.add k) = some (.int .i64 (at2 b i k)) from fun W hW => by
                  obtain ⟨ai', e, h⟩ := HC.out _ hW
                  cases e
                  exact h)
                clear HC
                go_wp2_with fail
                go_loopg [13] (L.length + 1) (fun q v13 W => ∃ m : Nat, q + m = L.length + 1 ∧ m ≤ L.length ∧ v13 = .int .i64 (m : Int) ∧ Aside0 (∀ m', m' < m → (blankAt L m').f0 ≤ i → (blankAt L m').f1 ≤ k → (blankAt L m').f2 ≤ at2 b i k) ∧ Aside0 (Below w.heap.size w W))
                case atStart => exact ⟨0, by omega, by omega, rfl, ⟨fun m' h => absurd h (by omega)⟩, HB⟩
                case round =>
                  clear HB
                  obtain ⟨m, hqm, hm, rfl, HF, HB⟩ := hrel
                  by_cases hltm : m < L.length
                  · obtain ⟨ab, rfl, b0, b1, b2⟩ := blank_cells HR.out HB.out m hltm
                    have hml : (m : Int) < (L.length : Int) := by omega
                    have hm0 : (0 : Int) ≤ (m : Int) := by omega
                    have HBC := Aside0.mk (show ∀ W', Below w.heap.size w W' → W'.cell? (ab.add (m * 3)) = some (.int .i64 (blankAt L m).f0) ∧ W'.cell? ⟨(ab.add (m * 3)).block, (ab.add (m * 3)).off + 1, none⟩ = some (.int .i64 (blankAt L m).f1) ∧ W'.cell? ⟨(ab.add (m * 3)).block, (ab.add (m * 3)).off + 2, none⟩ = some (.int .i64 (blankAt L m).f2) from fun W' hW' => by
                      obtain ⟨ab', e', h⟩ := blank_cells HR.out hW' m hltm
                      cases e'
                      exact h)
                    have HFn := Aside0.mk (show ((blankAt L m).f0 ≤ i → (blankAt L m).f1 ≤ k → (blankAt L m).f2 ≤ at2 b i k) → ∀ m', m' < m + 1 → (blankAt L m').f0 ≤ i → (blankAt L m').f1 ≤ k → (blankAt L m').f2 ≤ at2 b i k from fun h m' hm' => by
                      rcases Nat.lt_or_ge m' m with h1 | h1
                      · exact HF.out m' h1
                      · obtain rfl : m' = m := by omega
                        exact h)
                    have HFo := Aside0.mk (show ¬ ((blankAt L m).f0 ≤ i → (blankAt L m).f1 ≤ k → (blankAt L m).f2 ≤ at2 b i k) → ¬ IsBound x y L b from fun h => HNo.out (fun hE => h (hE.1 m hltm)))
                    generalize blankAt L m = bl at *
                    by_cases hf : bl.f0 ≤ (i : Int) ∧ bl.f1 ≤ (k : Int)
                    · have HFt := Aside0.mk (show ∀ W, Calls Try.prog 28 #[.agg #[.int .i64 bl.f0, .int .i64 bl.f1, .int .i64 bl.f2], .int .i64 (i : Int), .int .i64 (k : Int)] W fun e w' => e = .returned (.bool true) ∧ Below W.heap.size W w' from fun W => by
                        have h := fits_is bl (i : Int) (k : Int) W
                        rwa [decide_eq_true hf] at h)
                      generalize at2 b i k = v at *
                      by_cases hv : v < bl.f2
                      · have HKQ : Aside0 (∀ w', Below w.heap.size w w' → (Below w.heap.size w w' ∧ w'.cell? (ab.add (m * 3)) = some (.int .i64 bl.f0) ∧ w'.cell? ⟨(ab.add (m * 3)).block, (ab.add (m * 3)).off + 1, none⟩ = some (.int .i64 bl.f1) ∧ w'.cell? ⟨(ab.add (m * 3)).block, (ab.add (m * 3)).off + 2, none⟩ = some (.int .i64 bl.f2) ∧ w'.cell? (ad.add i) = some (.slice (some ai) (y + 1) ci) ∧ w'.cell? (ai.add k) = some (.int .i64 v))) := ⟨fun w' hb => by
                          obtain ⟨p0, p1, p2⟩ := HBC.out _ hb
                          obtain ⟨p3, p4⟩ := HCW.out _ hb
                          exact ⟨hb, p0, p1, p2, p3, p4⟩⟩
                        clear b0 b1 b2
                        go_wp2_with fail
                        go_region_held3 (fun w' => (Below w.heap.size w w' ∧ w'.cell? (ab.add (m * 3)) = some (.int .i64 bl.f0) ∧ w'.cell? ⟨(ab.add (m * 3)).block, (ab.add (m * 3)).off + 1, none⟩ = some (.int .i64 bl.f1) ∧ w'.cell? ⟨(ab.add (m * 3)).block, (ab.add (m * 3)).off + 2, none⟩ = some (.int .i64 bl.f2) ∧ w'.cell? (ad.add i) = some (.slice (some ai) (y + 1) ci) ∧ w'.cell? (ai.add k) = some (.int .i64 v)))
                          (first
                            | exact HKQ.out _ (below_drew HB.out)
                            | (go_split_ands; exact HKQ.out _ (below_on (by assumption) b9)))
                          (first
                            | (go_at_call 28; (with_reducible refine (HFt.out _).mono ?_); rintro e w1 ⟨rfl, b9⟩))
                        all_goals (go_wp2_with fail)
                        go_ret
                        exact BoundPost.no (by simp [go_sem]) (HFo.out (fun h => absurd (h hf.1 hf.2) (by omega))) (below_on (below_drew HB.out) b9)
                      · have HKQ : Aside0 (∀ w', Below w.heap.size w w' → (Below w.heap.size w w' ∧ w'.cell? (ab.add (m * 3)) = some (.int .i64 bl.f0) ∧ w'.cell? ⟨(ab.add (m * 3)).block, (ab.add (m * 3)).off + 1, none⟩ = some (.int .i64 bl.f1) ∧ w'.cell? ⟨(ab.add (m * 3)).block, (ab.add (m * 3)).off + 2, none⟩ = some (.int .i64 bl.f2) ∧ w'.cell? (ad.add i) = some (.slice (some ai) (y + 1) ci) ∧ w'.cell? (ai.add k) = some (.int .i64 v))) := ⟨fun w' hb => by
                          obtain ⟨p0, p1, p2⟩ := HBC.out _ hb
                          obtain ⟨p3, p4⟩ := HCW.out _ hb
                          exact ⟨hb, p0, p1, p2, p3, p4⟩⟩
                        clear b0 b1 b2
                        go_wp2_with fail
                        go_region_held3 (fun w' => (Below w.heap.size w w' ∧ w'.cell? (ab.add (m * 3)) = some (.int .i64 bl.f0) ∧ w'.cell? ⟨(ab.add (m * 3)).block, (ab.add (m * 3)).off + 1, none⟩ = some (.int .i64 bl.f1) ∧ w'.cell? ⟨(ab.add (m * 3)).block, (ab.add (m * 3)).off + 2, none⟩ = some (.int .i64 bl.f2) ∧ w'.cell? (ad.add i) = some (.slice (some ai) (y + 1) ci) ∧ w'.cell? (ai.add k) = some (.int .i64 v)))
                          (first
                            | exact HKQ.out _ (below_drew HB.out)
                            | (go_split_ands; exact HKQ.out _ (below_on (by assumption) b9)))
                          (first
                            | (go_at_call 28; (with_reducible refine (HFt.out _).mono ?_); rintro e w1 ⟨rfl, b9⟩))
                        all_goals (go_wp2_with fail)
                        go_roundg (L.length - m)
                        case measure => omega
                        case rel => exact ⟨m + 1, by omega, by omega, by go_num, ⟨HFn.out (fun _ _ => by omega)⟩, ⟨below_on (below_drew HB.out) b9⟩⟩
                    · have HFt := Aside0.mk (show ∀ W, Calls Try.prog 28 #[.agg #[.int .i64 bl.f0, .int .i64 bl.f1, .int .i64 bl.f2], .int .i64 (i : Int), .int .i64 (k : Int)] W fun e w' => e = .returned (.bool false) ∧ Below W.heap.size W w' from fun W => by
                        have h := fits_is bl (i : Int) (k : Int) W
                        rwa [decide_eq_false hf] at h)
                      generalize at2 b i k = v at *
                      have HKQ : Aside0 (∀ w', Below w.heap.size w w' → (Below w.heap.size w w' ∧ w'.cell? (ab.add (m * 3)) = some (.int .i64 bl.f0) ∧ w'.cell? ⟨(ab.add (m * 3)).block, (ab.add (m * 3)).off + 1, none⟩ = some (.int .i64 bl.f1) ∧ w'.cell? ⟨(ab.add (m * 3)).block, (ab.add (m * 3)).off + 2, none⟩ = some (.int .i64 bl.f2))) := ⟨fun w' hb => by
                          obtain ⟨p0, p1, p2⟩ := HBC.out _ hb
                          exact ⟨hb, p0, p1, p2⟩⟩
                      clear b0 b1 b2
                      go_wp2_with fail
                      refine wp_region_held_drew (S := fun w' => (Below w.heap.size w w' ∧ w'.cell? (ab.add (m * 3)) = some (.int .i64 bl.f0) ∧ w'.cell? ⟨(ab.add (m * 3)).block, (ab.add (m * 3)).off + 1, none⟩ = some (.int .i64 bl.f1) ∧ w'.cell? ⟨(ab.add (m * 3)).block, (ab.add (m * 3)).off + 2, none⟩ = some (.int .i64 bl.f2))) (by kernel_rfl) (HKQ.out _ (below_drew HB.out)) (fun hHeld => ?_)
                      refine wpAnyH_take (i := 0) (oi := { dst := some 73, op := Op.move (Operand.tmp 2), type := 22, pos := "ref.go:114", after := #[], guard := none }) (v := .slice (some ab) L.length c) rfl (by kernel_rfl) (by kernel_rfl) (by kernel_rfl) (fun _ _ _ h => h) (Or.inl ⟨by rfl, fun w' hSw => ?_⟩) (by assumption) ?_
                      · obtain ⟨_, g0, g1, g2⟩ := hSw
                        go_simp
                      try simp only [Act.put, List.setIfInBounds_toArray, List.set_cons_zero, List.set_cons_succ]
                      refine wpAnyH_take (i := 1) (oi := { dst := some 74, op := Op.move (Operand.tmp 13), type := 3, pos := "ref.go:114", after := #[], guard := none }) (v := .int .i64 (m : Int)) rfl (by kernel_rfl) (by kernel_rfl) (by kernel_rfl) (fun _ _ _ h => h) (Or.inl ⟨by rfl, fun w' hSw => ?_⟩) (by assumption) ?_
                      · obtain ⟨_, g0, g1, g2⟩ := hSw
                        go_simp
                      try simp only [Act.put, List.setIfInBounds_toArray, List.set_cons_zero, List.set_cons_succ]
                      refine wpAnyH_take (i := 2) (oi := { dst := some 75, op := Op.indexAddr 22 (Operand.tmp 73) (Operand.tmp 74), type := 0, pos := "ref.go:114", after := #[{ on := 0, ground := Ground.data }, { on := 1, ground := Ground.data }], guard := none }) (v := .pointer (some (ab.add (m * 3)))) rfl (by kernel_rfl) (by kernel_rfl) (by kernel_rfl) (fun _ _ _ h => h) (Or.inl ⟨by rfl, fun w' hSw => ?_⟩) (by assumption) ?_
                      · obtain ⟨_, g0, g1, g2⟩ := hSw
                        go_simp
                      try simp only [Act.put, List.setIfInBounds_toArray, List.set_cons_zero, List.set_cons_succ]
                      refine wpAnyH_take (i := 3) (oi := { dst := some 76, op := Op.load 52 (Operand.tmp 75), type := 52, pos := "ref.go:114", after := #[{ on := 2, ground := Ground.data }], guard := none }) (v := .agg #[.int .i64 bl.f0, .int .i64 bl.f1, .int .i64 bl.f2]) rfl (by kernel_rfl) (by kernel_rfl) (by kernel_rfl) (fun _ _ _ h => h) (Or.inl ⟨by rfl, fun w' hSw => ?_⟩) (by assumption) ?_
                      · obtain ⟨_, g0, g1, g2⟩ := hSw
                        go_simp
                      try simp only [Act.put, List.setIfInBounds_toArray, List.set_cons_zero, List.set_cons_succ]
                      refine wpAnyH_take (i := 4) (oi := { dst := some 77, op := Op.move (Operand.tmp 11), type := 3, pos := "ref.go:114", after := #[], guard := none }) (v := .int .i64 (i : Int)) rfl (by kernel_rfl) (by kernel_rfl) (by kernel_rfl) (fun _ _ _ h => h) (Or.inl ⟨by rfl, fun w' hSw => ?_⟩) (by assumption) ?_
                      · obtain ⟨_, g0, g1, g2⟩ := hSw
                        go_simp
                      try simp only [Act.put, List.setIfInBounds_toArray, List.set_cons_zero, List.set_cons_succ]
                      refine wpAnyH_take (i := 5) (oi := { dst := some 78, op := Op.move (Operand.tmp 12), type := 3, pos := "ref.go:114", after := #[], guard := none }) (v := .int .i64 (k : Int)) rfl (by kernel_rfl) (by kernel_rfl) (by kernel_rfl) (fun _ _ _ h => h) (Or.inl ⟨by rfl, fun w' hSw => ?_⟩) (by assumption) ?_
                      · obtain ⟨_, g0, g1, g2⟩ := hSw
                        go_simp
                      try simp only [Act.put, List.setIfInBounds_toArray, List.set_cons_zero, List.set_cons_succ]
                      refine wpAnyH_ready (rs := [6]) (by kernel_rfl) (by simp) (AllReadyH.cons (o := { dst := some 79, op := Op.call { callee := Callee.value (Operand.func 28), args := #[Operand.tmp 76, Operand.tmp 77, Operand.tmp 78], argTypes := #[52, 3, 3] }, type := 4, pos := "ref.go:114", after := #[{ on := 3, ground := Ground.data }, { on := 4, ground := Ground.data }, { on := 5, ground := Ground.data }], guard := none }) rfl (fun K hK => ?_) AllReadyH.nil)
                      go_simp
                      refine (HFt.out _).mono ?_
                      rintro e w1 ⟨rfl, b9⟩
                      refine hK.out _ _ (HKQ.out _ (below_on (below_drew HB.out) b9)) (fun hHeld => ?_)
                      clear hK K
                      try simp only [Act.put, List.setIfInBounds_toArray, List.set_cons_zero, List.set_cons_succ]
                      refine wpAnyH_take (i := 7) (oi := { dst := some 80, op := Op.move (Operand.tmp 79), type := 4, pos := "ref.go:114", after := #[{ on := 6, ground := Ground.data }, { on := 6, ground := Ground.chain }], guard := none }) (v := .bool false) rfl (by kernel_rfl) (by kernel_rfl) (by kernel_rfl) (fun _ _ _ h => h) (Or.inl ⟨by rfl, fun w' hSw => ?_⟩) (by assumption) ?_
                      · go_simp
                      try simp only [Act.put, List.setIfInBounds_toArray, List.set_cons_zero, List.set_cons_succ]
                      refine wpAnyH_take (i := 8) (oi := { dst := some 81, op := Op.move (Operand.tmp 3), type := 27, pos := "ref.go:114", after := #[{ on := 7, ground := Ground.guard }], guard := some (7, true) }) (v := undef) rfl (by kernel_rfl) (by kernel_rfl) (by kernel_rfl) (fun _ _ _ h => h) (Or.inr ⟨by kernel_rfl, rfl⟩) (by assumption) ?_
                      try simp only [Act.put, List.setIfInBounds_toArray, List.set_cons_zero, List.set_cons_succ]
                      refine wpAnyH_take (i := 9) (oi := { dst := some 82, op := Op.move (Operand.tmp 11), type := 3, pos := "ref.go:114", after := #[{ on := 7, ground := Ground.guard }], guard := some (7, true) }) (v := undef) rfl (by kernel_rfl) (by kernel_rfl) (by kernel_rfl) (fun _ _ _ h => h) (Or.inr ⟨by kernel_rfl, rfl⟩) (by assumption) ?_
                      try simp only [Act.put, List.setIfInBounds_toArray, List.set_cons_zero, List.set_cons_succ]
                      refine wpAnyH_take (i := 10) (oi := { dst := some 83, op := Op.indexAddr 27 (Operand.tmp 81) (Operand.tmp 82), type := 0, pos := "ref.go:114", after := #[{ on := 8, ground := Ground.data }, { on := 9, ground := Ground.data }, { on := 7, ground := Ground.guard }], guard := some (7, true) }) (v := undef) rfl (by kernel_rfl) (by kernel_rfl) (by kernel_rfl) (fun _ _ _ h => h) (Or.inr ⟨by kernel_rfl, rfl⟩) (by assumption) ?_
                      try simp only [Act.put, List.setIfInBounds_toArray, List.set_cons_zero, List.set_cons_succ]
                      refine wpAnyH_take (i := 11) (oi := { dst := some 84, op := Op.load 39 (Operand.tmp 83), type := 39, pos := "ref.go:114", after := #[{ on := 10, ground := Ground.data }, { on := 7, ground := Ground.guard }], guard := some (7, true) }) (v := undef) rfl (by kernel_rfl) (by kernel_rfl) (by kernel_rfl) (fun _ _ _ h => h) (Or.inr ⟨by kernel_rfl, rfl⟩) (by assumption) ?_
                      try simp only [Act.put, List.setIfInBounds_toArray, List.set_cons_zero, List.set_cons_succ]
                      refine wpAnyH_take (i := 12) (oi := { dst := some 85, op := Op.move (Operand.tmp 12), type := 3, pos := "ref.go:114", after := #[{ on := 7, ground := Ground.guard }], guard := some (7, true) }) (v := undef) rfl (by kernel_rfl) (by kernel_rfl) (by kernel_rfl) (fun _ _ _ h => h) (Or.inr ⟨by kernel_rfl, rfl⟩) (by assumption) ?_
                      try simp only [Act.put, List.setIfInBounds_toArray, List.set_cons_zero, List.set_cons_succ]
                      refine wpAnyH_take (i := 13) (oi := { dst := some 86, op := Op.indexAddr 39 (Operand.tmp 84) (Operand.tmp 85), type := 0, pos := "ref.go:114", after := #[{ on := 11, ground := Ground.data }, { on := 12, ground := Ground.data }, { on := 7, ground := Ground.guard }], guard := some (7, true) }) (v := undef) rfl (by kernel_rfl) (by kernel_rfl) (by kernel_rfl) (fun _ _ _ h => h) (Or.inr ⟨by kernel_rfl, rfl⟩) (by assumption) ?_
                      try simp only [Act.put, List.setIfInBounds_toArray, List.set_cons_zero, List.set_cons_succ]
                      refine wpAnyH_take (i := 14) (oi := { dst := some 87, op := Op.load 3 (Operand.tmp 86), type := 3, pos := "ref.go:114", after := #[{ on := 13, ground := Ground.data }, { on := 7, ground := Ground.guard }], guard := some (7, true) }) (v := undef) rfl (by kernel_rfl) (by kernel_rfl) (by kernel_rfl) (fun _ _ _ h => h) (Or.inr ⟨by kernel_rfl, rfl⟩) (by assumption) ?_
                      try simp only [Act.put, List.setIfInBounds_toArray, List.set_cons_zero, List.set_cons_succ]
                      refine wpAnyH_take (i := 15) (oi := { dst := some 88, op := Op.move (Operand.tmp 2), type := 22, pos := "ref.go:114", after := #[{ on := 7, ground := Ground.guard }], guard := some (7, true) }) (v := undef) rfl (by kernel_rfl) (by kernel_rfl) (by kernel_rfl) (fun _ _ _ h => h) (Or.inr ⟨by kernel_rfl, rfl⟩) (by assumption) ?_
                      try simp only [Act.put, List.setIfInBounds_toArray, List.set_cons_zero, List.set_cons_succ]
                      refine wpAnyH_take (i := 16) (oi := { dst := some 89, op := Op.move (Operand.tmp 13), type := 3, pos := "ref.go:114", after := #[{ on := 7, ground := Ground.guard }], guard := some (7, true) }) (v := undef) rfl (by kernel_rfl) (by kernel_rfl) (by kernel_rfl) (fun _ _ _ h => h) (Or.inr ⟨by kernel_rfl, rfl⟩) (by assumption) ?_
                      try simp only [Act.put, List.setIfInBounds_toArray, List.set_cons_zero, List.set_cons_succ]
                      refine wpAnyH_take (i := 17) (oi := { dst := some 90, op := Op.indexAddr 22 (Operand.tmp 88) (Operand.tmp 89), type := 0, pos := "ref.go:114", after := #[{ on := 15, ground := Ground.data }, { on := 16, ground := Ground.data }, { on := 7, ground := Ground.guard }], guard := some (7, true) }) (v := undef) rfl (by kernel_rfl) (by kernel_rfl) (by kernel_rfl) (fun _ _ _ h => h) (Or.inr ⟨by kernel_rfl, rfl⟩) (by assumption) ?_
                      try simp only [Act.put, List.setIfInBounds_toArray, List.set_cons_zero, List.set_cons_succ]
                      refine wpAnyH_take (i := 18) (oi := { dst := some 91, op := Op.fieldAddr 52 (Operand.tmp 90) 2, type := 0, pos := "ref.go:114", after := #[{ on := 17, ground := Ground.data }, { on := 7, ground := Ground.guard }], guard := some (7, true) }) (v := undef) rfl (by kernel_rfl) (by kernel_rfl) (by kernel_rfl) (fun _ _ _ h => h) (Or.inr ⟨by kernel_rfl, rfl⟩) (by assumption) ?_
                      try simp only [Act.put, List.setIfInBounds_toArray, List.set_cons_zero, List.set_cons_succ]
                      refine wpAnyH_take (i := 19) (oi := { dst := some 92, op := Op.load 3 (Operand.tmp 91), type := 3, pos := "ref.go:114", after := #[{ on := 18, ground := Ground.data }, { on := 7, ground := Ground.guard }], guard := some (7, true) }) (v := undef) rfl (by kernel_rfl) (by kernel_rfl) (by kernel_rfl) (fun _ _ _ h => h) (Or.inr ⟨by kernel_rfl, rfl⟩) (by assumption) ?_
                      try simp only [Act.put, List.setIfInBounds_toArray, List.set_cons_zero, List.set_cons_succ]
                      refine wpAnyH_take (i := 20) (oi := { dst := some 93, op := Op.binOp BinOp.lss 3 (Operand.tmp 87) (Operand.tmp 92) 3, type := 4, pos := "ref.go:114", after := #[{ on := 14, ground := Ground.data }, { on := 19, ground := Ground.data }, { on := 7, ground := Ground.guard }], guard := some (7, true) }) (v := undef) rfl (by kernel_rfl) (by kernel_rfl) (by kernel_rfl) (fun _ _ _ h => h) (Or.inr ⟨by kernel_rfl, rfl⟩) (by assumption) ?_
                      try simp only [Act.put, List.setIfInBounds_toArray, List.set_cons_zero, List.set_cons_succ]
                      refine wpAnyH_take (i := 21) (oi := { dst := some 94, op := Op.pick (Operand.tmp 80) (Operand.tmp 93) (Operand.const (Value.bool false)), type := 4, pos := "ref.go:114", after := #[{ on := 7, ground := Ground.data }, { on := 20, ground := Ground.data }], guard := none }) (v := .bool false) rfl (by kernel_rfl) (by kernel_rfl) (by kernel_rfl) (fun _ _ _ h => h) (Or.inl ⟨by rfl, fun w' hSw => ?_⟩) (by assumption) ?_
                      · go_simp
                      try simp only [Act.put, List.setIfInBounds_toArray, List.set_cons_zero, List.set_cons_succ]
                      refine wpAnyH_done (by kernel_rfl) ?_ _
                      go_wp2_with fail
                      go_roundg (L.length - m)
                      case measure => omega
                      case rel => exact ⟨m + 1, by omega, by omega, by go_num, ⟨HFn.out (fun h0 h1 => absurd ⟨h0, h1⟩ hf)⟩, ⟨below_on (below_drew HB.out) b9⟩⟩
                  · obtain rfl : m = L.length := by omega
                    go_wp2_with fail
                    clear hqm hm hltm
                    have HFF := Aside0.mk HF.out
                    clear HF
                    go_loopg [14] (i + 1) (fun q v14 W => ∃ z : Nat, q + z = i + 2 ∧ 1 ≤ z ∧ z ≤ i + 1 ∧ v14 = .int .i64 (z : Int) ∧ Aside0 (∀ z', 1 ≤ z' → z' < z → z' < i → at2 b z' k + at2 b (i - z') k ≤ at2 b i k) ∧ Aside0 (Below w.heap.size w W))
                    case atStart => exact ⟨1, by omega, by omega, by omega, rfl, ⟨fun z' h1 h2 => absurd h2 (by omega)⟩, HB⟩
                    case round =>
                      clear HB
                      obtain ⟨z, hqz, hz1, hz2, rfl, HX, HB⟩ := hrel
                      by_cases hltz : z < i
                      · obtain ⟨d, hd⟩ : ∃ d : Nat, d = i - z := ⟨_, rfl⟩
                        have hsub : IntKind.i64.wrap ((i : Int) - (z : Int)) = (d : Int) := by rw [i64_w]; unfold wrap64; omega
                        obtain ⟨az, cz, hz⟩ := HALL.out z (by omega)
                        obtain ⟨ae, ce, he⟩ := HALL.out d (by omega)
                        obtain ⟨p0, p1⟩ := HCW.out _ HB.out
                        obtain ⟨p2, p3'⟩ := hz _ HB.out
                        obtain ⟨p4, p5'⟩ := he _ HB.out
                        have p3 := p3' k hltk
                        have p5 := p5' k hltk
                        have hv1 := HS.out.2 z k (by omega) hltk
                        have hv2 := HS.out.2 d k (by omega) hltk
                        have HXn := Aside0.mk (show at2 b z k + at2 b d k ≤ at2 b i k → ∀ z', 1 ≤ z' → z' < z + 1 → z' < i → at2 b z' k + at2 b (i - z') k ≤ at2 b i k from fun h z' h1 h2 h3 => by
                          rcases Nat.lt_or_ge z' z with h4 | h4
                          · exact HX.out z' h1 h4 h3
                          · obtain rfl : z' = z := by omega
                            rw [← hd]
                            exact h)
                        have HXo := Aside0.mk (show ¬ at2 b z k + at2 b d k ≤ at2 b i k → ¬ IsBound x y L b from fun h => HNo.out (fun hE => h (by rw [hd]; exact hE.2.1 z hz1 hltz)))
                        have zi : (z : Int) < (i : Int) := by omega
                        have z0 : (0 : Int) ≤ (z : Int) := by omega
                        have zb : (z : Int) < (x : Int) + 1 := by omega
                        have d0 : (0 : Int) ≤ (d : Int) := by omega
                        have db : (d : Int) < (x : Int) + 1 := by omega
                        generalize at2 b z k = v1 at *
                        generalize at2 b d k = v2 at *
                        have hvs : IntKind.i64.wrap (v1 + v2) = v1 + v2 := by rw [i64_w]; unfold wrap64; omega
                        clear p3' p5' hz he hv1 hv2 hd
                        generalize hvv : at2 b i k = v at *
                        have HVV := Aside0.mk hvv
                        clear hvv
                        by_cases hc : v < v1 + v2
                        · go_wp2_with fail
                          go_still (by kernel_rfl)
                          have HBq := Aside0.mk (below_drew HB.out)
                          change Exit.then _ _ _ _ wr.drew
                          generalize wr.drew = wq at HBq ⊢
                          go_wp2_with fail
                          go_ret
                          exact BoundPost.no (by simp [go_sem]) (HXo.out (by omega)) HBq.out
                        · go_wp2_with fail
                          go_still (by kernel_rfl)
                          have HBq := Aside0.mk (below_drew HB.out)
                          change Exit.then _ _ _ _ wr.drew
                          generalize wr.drew = wq at HBq ⊢
                          go_wp2_with fail
                          go_roundg (i + 1 - z)
                          case measure => omega
                          case rel => exact ⟨z + 1, by omega, by omega, by omega, by go_num, ⟨HXn.out (by omega)⟩, HBq⟩
                      · go_wp2_with fail
                        have HXX := Aside0.mk (show ∀ z', 1 ≤ z' → z' < i → at2 b z' k + at2 b (i - z') k ≤ at2 b i k from fun z' h1 h2 => HX.out z' h1 (by omega) h2)
                        clear HX hqz hz1 hz2 hltz
                        go_loopg [15] (k + 1) (fun q v15 W => ∃ u : Nat, q + u = k + 2 ∧ 1 ≤ u ∧ u ≤ k + 1 ∧ v15 = .int .i64 (u : Int) ∧ Aside0 (∀ u', 1 ≤ u' → u' < u → u' < k → at2 b i u' + at2 b i (k - u') ≤ at2 b i k) ∧ Aside0 (Below w.heap.size w W))
                        case atStart => exact ⟨1, by omega, by omega, by omega, rfl, ⟨fun u' h1 h2 => absurd h2 (by omega)⟩, HB⟩
                        case round =>
                          clear HB
                          obtain ⟨u, hqu, hu1, hu2, rfl, HY, HB⟩ := hrel
                          by_cases hltu : u < k
                          · obtain ⟨d, hd⟩ : ∃ d : Nat, d = k - u := ⟨_, rfl⟩
                            have hsub : IntKind.i64.wrap ((k : Int) - (u : Int)) = (d : Int) := by rw [i64_w]; unfold wrap64; omega
                            obtain ⟨az, cz, hz⟩ := HALL.out i hlt
                            obtain ⟨p0, p1⟩ := HCW.out _ HB.out
                            obtain ⟨p2, p3'⟩ := hz _ HB.out
                            obtain ⟨rfl, rfl⟩ : az = ai ∧ cz = ci := by
                              rw [p0] at p2
                              simp at p2
                              exact ⟨p2.1.symm, p2.2.symm⟩
                            have p3 := p3' u (by omega)
                            have p5 := p3' d (by omega)
                            have hv1 := HS.out.2 i u hlt (by omega)
                            have hv2 := HS.out.2 i d hlt (by omega)
                            have HYn := Aside0.mk (show at2 b i u + at2 b i d ≤ at2 b i k → ∀ u', 1 ≤ u' → u' < u + 1 → u' < k → at2 b i u' + at2 b i (k - u') ≤ at2 b i k from fun h u' h1 h2 h3 => by
                              rcases Nat.lt_or_ge u' u with h4 | h4
                              · exact HY.out u' h1 h4 h3
                              · obtain rfl : u' = u := by omega
                                rw [← hd]
                                exact h)
                            have HYo := Aside0.mk (show ¬ at2 b i u + at2 b i d ≤ at2 b i k → ¬ IsBound x y L b from fun h => HNo.out (fun hE => h (by rw [hd]; exact hE.2.2 u hu1 hltu)))
                            have zi : (u : Int) < (k : Int) := by omega
                            have z0 : (0 : Int) ≤ (u : Int) := by omega
                            have zb : (u : Int) < (y : Int) + 1 := by omega
                            have d0 : (0 : Int) ≤ (d : Int) := by omega
                            have db : (d : Int) < (y : Int) + 1 := by omega
                            generalize at2 b i u = v1 at *
                            generalize at2 b i d = v2 at *
                            have hvs : IntKind.i64.wrap (v1 + v2) = v1 + v2 := by rw [i64_w]; unfold wrap64; omega
                            clear p3' hz hv1 hv2 hd p2
                            generalize hvv : at2 b i k = v at *
                            have HVV := Aside0.mk hvv
                            clear hvv
                            by_cases hc : v < v1 + v2
                            · go_wp2_with fail
                              go_still (by kernel_rfl)
                              have HBq := Aside0.mk (below_drew HB.out)
                              change Exit.then _ _ _ _ wr.drew
                              generalize wr.drew = wq at HBq ⊢
                              go_wp2_with fail
                              go_ret
                              exact BoundPost.no (by simp [go_sem]) (HYo.out (by omega)) HBq.out
                            · go_wp2_with fail
                              go_still (by kernel_rfl)
                              have HBq := Aside0.mk (below_drew HB.out)
                              change Exit.then _ _ _ _ wr.drew
                              generalize wr.drew = wq at HBq ⊢
                              go_wp2_with fail
                              go_roundg (k + 1 - u)
                              case measure => omega
                              case rel => exact ⟨u + 1, by omega, by omega, by omega, by go_num, ⟨HYn.out (by omega)⟩, HBq⟩

                          · go_wp2_with fail
                            go_roundg (y + 1 - k)
                            case measure => omega
                            case rel =>
                              exact ⟨k + 1, by omega, by omega, by go_num, ⟨fun j h => by
                                rcases Nat.lt_or_ge j k with h1 | h1
                                · exact HE2.out j h1
                                · obtain rfl : j = k := by omega
                                  exact ⟨HFF.out, HXX.out, fun u' h1 h2 => HY.out u' h1 (by omega) h2⟩⟩, HB⟩
              · obtain rfl : k = y + 1 := by omega
                go_wp2_with fail
                go_roundg (x + 1 - i)
                case measure => omega
                case rel =>
                  exact ⟨i + 1, by omega, by omega, by go_num, ⟨fun i' h => by
                    rcases Nat.lt_or_ge i' i with h1 | h1
                    · exact HE1.out i' h1
                    · obtain rfl : i' = i := by omega
                      exact fun j hj => HE2.out j (by omega)⟩, HB⟩
          · obtain rfl : i = x + 1 := by omega
            go_wp2_with fail
            go_ret
            exact BoundPost.yes (by simp [go_sem]) ⟨HS.out.1, HS.out.2, fun i j hi hj => HE1.out i (by omega) j hj⟩ HB.out
  · have hxx : (((b.length : Int)) != (x : Int) + 1) = true := by simp; omega
    have s1 : wrap64 ((x : Int) + 1) = (x : Int) + 1 := by unfold wrap64; omega
    have HLen := Aside0.mk hlen
    clear hr hb hok hbm hlen
    go_enter Try.func21, Try.ntmps21
    go_wp2_with fail
    go_ret
    exact BoundPost.no (by simp [go_sem]) (fun hB => absurd hB.1.1 HLen.out) (Below.refl _ _)

end Go.Proofs.Ytochbhndeboodaa
