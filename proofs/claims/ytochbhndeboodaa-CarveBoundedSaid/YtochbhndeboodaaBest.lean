/- The walk of Best: ErrArg, or the best plan and a bound, both read off the filled table. -/
import Derived.Test.YtochbhndeboodaaFill
import Derived.Test.YtochbhndeboodaaPlan
import Derived.Test.YtochbhndeboodaaTask
import Derived.Test.YtochbhndeboodaaPlainB
namespace Go.Proofs.Ytochbhndeboodaa
set_option linter.unusedVariables false
set_option linter.unusedSimpArgs false
open Go.RowKit Go.Proofs.YtochbhndeboodaaW.PrintWords Go.Proofs.YtochbhndeboodaaW.PrintLast Go.Proofs.YtochbhndeboodaaW.PrintMore
open Go.Proofs.Ytochbhndeboodaa.PCarveMore (S52 S56 k52 k56)

theorem TB.row {w : World} {g : Nat} {t : Tab} (h : TB w g t) (i n : Nat) (hi : i < 49) (hn : n ≤ 49) :
    ReadsRow (fun (x : Int) cs => cs = [.int .i64 x]) 1 w (some ⟨g, i * 49, none⟩) n ((List.range n).map fun j => t.T i j) := by
  refine ⟨by simp, by omega, fun _ => ⟨_, rfl, fun j p hj => ⟨[.int .i64 p], rfl, rfl, fun m u hu => ?_⟩⟩⟩
  have hl : j < n := by
    have := (List.getElem?_eq_some_iff.1 hj).1
    simpa using this
  have hp : t.T i j = p := by simpa [List.getElem?_range hl] using hj
  match m, hu with
  | 0, hu =>
    obtain rfl : Value.int .i64 p = u := by simpa using hu
    rw [← hp, add_at]
    simpa using (h.cells i j hi (by omega)).1

theorem slice64 (g o h : Nat) (hh : h ≤ 49) (x : Int) (hx : x = h) (w : World) :
    (Instr.sliceAt 64 (.pointer (some ⟨g, o, none⟩)) none (some (.int .i64 x)) none).run Try.prog w = .ok (.slice (some ⟨g, o, none⟩) h 49) w := by
  subst hx
  have hu := Try.underlying64
  have he : Try.prog.elem 64 = 3 := by kernel_rfl
  have hl : Try.prog.arrayLen 64 = 49 := by kernel_rfl
  have h2 := run_sliceAt_array_h (P := Try.prog) (t := 64) (a := ⟨g, o, none⟩) (w := w) (by rw [he, hl]; exact hu) .i64 (h : Int) (by omega) (by rw [hl]; omega)
  rw [h2, he, hl, Try.sizeOf3]
  simp [slicedAt, Result.andThen, Addr.add]

def BestBad (w : World) (e : Ending) (w' : World) : Prop := e = .returned (.tuple #[.slice none 0 0, .slice none 0 0, .int .i64 2]) ∧ Below w.heap.size w w'
def BestOk (L : List S52) (Wd Ht : Nat) (w : World) (e : Ending) (w' : World) : Prop :=
  ∃ pv bv, e = .returned (.tuple #[pv, bv, .int .i64 0]) ∧ Kd.R k56 56 w' w.heap.size (fun _ => True) pv (planP (fillP L Wd Ht) (Wd + Ht) Wd Ht) ∧
    Kd.S (Kd.slice 3 (Kd.int .i64)) 39 w' w.heap.size (fun _ => True) bv (rowsOf (fillP L Wd Ht) Ht (Wd + 1)) ∧ Below w.heap.size w w'

set_option maxHeartbeats 1000000 in
set_option maxRecDepth 100000 in
theorem best_bad (a0 a1 : Int) (A : Option Addr) (c : Nat) (L : List S52) (w : World) (hr : Kd.C k52 w A L.length L) (hno : ¬ isTask a0 a1 L) :
    Calls Try.prog 14 #[.int .i64 a0, .int .i64 a1, .slice A L.length c] w (BestBad w) := by
  have HR := Aside0.mk hr
  have HN := Aside0.mk hno
  clear hr hno
  have hu59 := Try.underlying59
  go_enter Try.func14, Try.ntmps14
  go_wp2_with (first | (go_at_call 29; (with_reducible refine (newTask_any _ _ _ _ _ _ HR.out).mono ?_); rintro e w' ⟨hres, hb⟩; obtain rfl := (hres.resolve_left (fun h => HN.out h.1)).2; clear hres))
  go_ret3
  exact ⟨rfl, below_alloc hb _⟩

set_option maxHeartbeats 2000000 in
set_option maxRecDepth 100000 in
theorem best_ok (a0 a1 : Int) (Wd Ht : Nat) (A : Option Addr) (c : Nat) (L : List S52) (w : World) (hr : Kd.C k52 w A L.length L) (hc : L.length ≤ c) (ht : isTask a0 a1 L) (h0 : a0 = Wd) (h1 : a1 = Ht) :
    Calls Try.prog 14 #[.int .i64 a0, .int .i64 a1, .slice A L.length c] w (BestOk L Wd Ht w) := by
  subst h0 h1
  obtain ⟨w1, w48⟩ := inB_iff.1 ht.1
  obtain ⟨h1, h48⟩ := inB_iff.1 ht.2.1
  have HR := Aside0.mk hr
  have HC := Aside0.mk hc
  have HT := Aside0.mk ht
  clear hr ht hc
  have hu59 := Try.underlying59
  have hu69 := Try.underlying69
  have hu65 := Try.underlying65
  have hu64 := Try.underlying64
  go_enter Try.func14, Try.ntmps14
  go_wp2_with (first
    | (go_at_call 29; (with_reducible refine (newTask_any _ _ _ _ _ _ HR.out).mono ?_); rintro e wa ⟨hres, hb⟩; obtain rfl := (hres.resolve_right (fun h => h.1 HT.out)).2; clear hres)
    | (go_at_call 30; go_must (refine (fill_any A c L Wd Ht _ (Kd.C_below HR.out (below_alloc hb _)) HC.out (by omega) (by omega) (by omega) (by omega)).mono ?_); rintro e wb ⟨g, rfl, hg1, hTB, hb2⟩))
  have hBB : Below w.heap.size w wb := below_then (below_alloc hb _) (by have := hb.size; simp; omega) hb2
  have hg2 : w.heap.size ≤ g := by have := hb.size; simp at hg1; omega
  clear hb hb2 hg1
  have hgw := hTB.lt
  generalize hTt : fillP L Wd Ht = t at hTB
  have HTt := Aside0.mk hTt
  clear hTt
  have HBB := Aside0.mk hBB
  clear hBB
  go_loopg [28, 12] (Wd + 2) (fun q v28 v12 W => ∃ i : Nat, q + i = Wd + 2 ∧ i ≤ Wd + 1 ∧ v28 = .int .i64 i ∧ Aside0 (Kd.S (Kd.slice 3 (Kd.int .i64)) 39 W wb.heap.size (fun _ => True) v12 (rowsOf t Ht i)) ∧ Aside0 (Below wb.heap.size wb W))
  case atStart => exact ⟨0, by omega, by omega, rfl, ⟨Kd.S_nil _ _ _ _ _⟩, ⟨Below.refl _ _⟩⟩
  case round =>
    obtain ⟨i, hq, hi, rfl, HS, HB⟩ := hrel
    by_cases hlt : i < Wd + 1
    · have hlt' : (i : Int) < (Wd : Int) + 1 := by omega
      have hi49 : (i : Int) < 49 := by omega
      have hTW := Aside0.mk (hTB.below HB.out)
      have hsl := slice64 g (i * 49) (Ht + 1) (by omega) ((Ht : Int) + 1) (by simp)
      obtain ⟨A0, c0, rfl⟩ := Kd.S_slice HS.out
      have hnew : Kd.R (Kd.int .i64) 3 (wr.alloc (.cells #[] 3)) wr.heap.size (fun k => wr.heap.size ≤ k) (.slice (some ⟨wr.heap.size, 0, none⟩) 0 0) [] :=
        Kd.R_of_own (own_lit wr wr.heap.size 3 .i64 [] (Nat.le_refl _) (by simp)) (fun k hk => by simp [Value.ownBlock] at hk; omega)
      have hrowR := (TB.alloc hTW.out (.cells #[] 3)).row i (Ht + 1) (by omega) (by omega)
      have hrs := rowsOf_succ t Ht i
      have hrl : ((List.range (Ht + 1)).map fun j => t.T i j).length = Ht + 1 := by simp
      generalize hrow : ((List.range (Ht + 1)).map fun j => t.T i j) = row at hrowR hrs hrl
      have hil : (rowsOf t Ht i).length ≤ 49 := by rw [rowsOf_length]; omega
      generalize hrows : rowsOf t Ht i = rows at HS hrs hil
      have HRS := Aside0.mk hrs
      have HRO := Aside0.mk hrowR
      have HRL := Aside0.mk hrl
      have HNEW := Aside0.mk hnew
      clear hrow hrows hrs hrowR hrl hnew
      go_wp2_with (first
        | (at_builtin; refine Kd.R_append_rows (Kd.int .i64) (Rr := fun (x : Int) cs => cs = [.int .i64 x]) (w0 := wr) wr.heap.size rfl (.tmp 32) (.tmp 40) 39 3 (.int .i64 0) 8 rfl Try.underlying39 inf3 rfl (by decide) (by decide) _ [] row _ _ _ (fun k => wr.heap.size ≤ k) (fun _ => False) rfl rfl HNEW.out HRO.out (fun x cs h => h) (fun _ h => h.elim) (fun k hk => by simp at hk; omega) (below_alloc (Below.refl _ _) _) (by simp) (by simp; omega) ?_; intro v1 w1' hR1 hb1 hq1 hq2; clear hq1 hq2; simp only [List.nil_append] at hR1; obtain ⟨A1, c1, rfl⟩ := Kd.R_slice hR1; have HR1 := Aside0.mk hR1; have HB1 := Aside0.mk hb1; clear hR1 hb1)
        | (at_builtin; refine Kd.S_append (Kd.slice 3 (Kd.int .i64)) (w0 := wb) wb.heap.size rfl (.tmp 31) (.tmp 42) 27 39 (.slice none 0 0) 24 rfl Try.underlying27 inf39 rfl (by decide) (by decide) _ rows row [.slice A1 row.length c1] (fun _ => True) (fun k => wr.heap.size ≤ k) rfl rfl ⟨_, rfl, Kd.R_lower HR1.out HB.out.size⟩ (fun k hk => ⟨trivial, fun e => by have := Kd.S_lt HS.out k e.symm; omega⟩) (fun _ _ => trivial) (Kd.S_below (Kd.S_mono (Kd.S_bound HS.out) (fun k hk => ⟨trivial, by omega⟩)) HB1.out) (HB.out.trans (HB1.out.mono HB.out.size)) (Nat.le_trans HB.out.size HB1.out.size) (by omega) ?_; intro v2 w2' hS2 hb2 hq1 hq2; clear hq1 hq2; have HS2 := Aside0.mk hS2; have HB2 := Aside0.mk hb2; clear hS2 hb2))
      go_roundg (Wd + 1 - i)
      case measure => omega
      case rel => exact ⟨i + 1, by omega, by omega, by go_num, ⟨by rw [HRS.out]; exact HS2.out⟩, HB2⟩
    · have hn : i = Wd + 1 := by omega
      subst hn
      have hTW := Aside0.mk (hTB.below HB.out)
      go_wp2_with (first | (go_at_call 31; go_must (refine (plan_any t Wd Ht g (by omega) (by omega) (HTt.out ▸ cuts_fillP L Wd Ht) (Wd + Ht) Wd Ht _ (Nat.le_refl _) (by omega) (Nat.le_refl _) (by omega) (Nat.le_refl _) hTW.out).mono ?_); rintro e wp ⟨pv, rfl, hp, hbp⟩))
      go_ret3
      refine ⟨pv, _, rfl, ?_, ?_, ?_⟩
      · rw [HTt.out]
        exact Kd.R_lower hp (Nat.le_trans HBB.out.size HB.out.size)
      · rw [HTt.out]
        exact Kd.S_lower (Kd.S_below HS.out hbp) HBB.out.size
      · exact below_then (below_then HBB.out HBB.out.size HB.out) (Nat.le_trans HBB.out.size HB.out.size) hbp

end Go.Proofs.Ytochbhndeboodaa
