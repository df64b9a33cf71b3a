/- The walk of the reference's Most: the table of the best worths. -/
import Derived.Test.YtochbhndeboodaaTbl
import Derived.Test.YtochbhndeboodaaPlainL
import Derived.Test.YtochbhndeboodaaRef
import Derived.StillTactics
import Derived.Deep.RegionHeld3
namespace Go.Proofs.Ytochbhndeboodaa
set_option linter.unusedVariables false
set_option linter.unusedSimpArgs false
open Go.RowKit Go.Proofs.YtochbhndeboodaaW.PrintWords Go.Proofs.YtochbhndeboodaaW.PrintLast Go.Proofs.YtochbhndeboodaaW.PrintMore
open Go.Proofs.Ytochbhndeboodaa.PCarveMore (S52 S56 k52 k56)
attribute [local go_sem] max2_int min2_int max_two min_two max_three min_three max_four min_four   -- for this text's walks alone

/-- A block of ints that holds f. -/
def RowHas (W : World) (g m : Nat) (f : Nat → Int) : Prop := ∃ cur, W.heap[g]? = some (.cells cur 3 (0, 0)) ∧ ∀ j, j < m → cur[j]? = some (.int .i64 (f j))
theorem RowHas.below {W W' : World} {g m : Nat} {f : Nat → Int} (h : RowHas W g m f) (hb : W'.heap[g]? = W.heap[g]?) : RowHas W' g m f := by
  obtain ⟨cur, h1, h2⟩ := h
  exact ⟨cur, hb.trans h1, h2⟩
theorem RowHas.cell {W : World} {g m : Nat} {f : Nat → Int} (h : RowHas W g m f) (j : Nat) (hj : j < m) : W.cell? ⟨g, j, none⟩ = some (.int .i64 (f j)) ∧ W.frozen? ⟨g, j, none⟩ = false ∧ g < W.heap.size := by
  obtain ⟨cur, h1, h2⟩ := h
  exact ⟨(blk_cell h1 j).trans (h2 j hj), blk_frozen h1 j, blk_lt h1⟩
theorem RowHas.put {W : World} {g m : Nat} {f : Nat → Int} (h : RowHas W g m f) (k : Nat) (hk : k < m) (x : Int) : RowHas (W.setCell ⟨g, k, none⟩ (.int .i64 x)) g m (fun j => if j = k then x else f j) := by
  obtain ⟨cur, h1, h2⟩ := h
  refine ⟨_, blk_set h1 k _, fun j hj => ?_⟩
  have hkl : k < cur.size := (Array.getElem?_eq_some_iff.1 (h2 k hk)).1
  by_cases e : j = k
  · subst e
    simp [Array.getElem?_setIfInBounds, hkl]
  · simp only [if_neg e]
    rw [Array.getElem?_setIfInBounds_ne (by omega)]
    exact h2 j hj

def header (g m c : Nat) : List Value := [.slice (some ⟨g, 0, none⟩) m c]
/-- The table as it stands: n rows, each in a block of its own, that hold F. -/
structure Tabl (W : World) (B : Nat) (vo : Value) (n m : Nat) (F : Nat → Nat → Int) (gs cs : Nat → Nat) : Prop where
  out : Kd.R (Kd.raw 1) 39 W B (fun _ => True) vo ((List.range n).map fun i => header (gs i) m (cs i))
  cap : ∀ i, i < n → m ≤ cs i
  base : ∀ i, i < n → B ≤ gs i
  row : ∀ i, i < n → RowHas W (gs i) m (F i)
  apart : ∀ i j, i < n → j < n → gs i = gs j → i = j

theorem Tabl.nil (W : World) (B m : Nat) (F : Nat → Nat → Int) (gs cs : Nat → Nat) : Tabl W B (.slice none 0 0) 0 m F gs cs :=
  ⟨Kd.R_nil _ _ _ _ _, fun i h => absurd h (by omega), fun i h => absurd h (by omega), fun i h => absurd h (by omega), fun i j h => absurd h (by omega)⟩
theorem Tabl.below {W W' : World} {B : Nat} {vo : Value} {n m : Nat} {F : Nat → Nat → Int} {gs cs : Nat → Nat} (h : Tabl W B vo n m F gs cs) (hb : Below W.heap.size W W') : Tabl W' B vo n m F gs cs :=
  ⟨Kd.R_below h.out hb, h.cap, h.base, fun i hi => (h.row i hi).below (hb.block _ (by obtain ⟨cur, h1, _⟩ := h.row i hi; exact blk_lt h1)), h.apart⟩
theorem Tabl.slice {W : World} {B : Nat} {vo : Value} {n m : Nat} {F : Nat → Nat → Int} {gs cs : Nat → Nat} (h : Tabl W B vo n m F gs cs) : ∃ A c, vo = .slice A n c := by
  obtain ⟨A, c, e⟩ := Kd.R_slice h.out
  exact ⟨A, c, by simpa using e⟩
/-- What is read of it. -/
theorem Tabl.at {W : World} {B : Nat} {A : Option Addr} {c n m : Nat} {F : Nat → Nat → Int} {gs cs : Nat → Nat} (h : Tabl W B (.slice A n c) n m F gs cs) (i : Nat) (hi : i < n) :
    ∃ ad, A = some ad ∧ W.cell? (ad.add i) = some (.slice (some ⟨gs i, 0, none⟩) m (cs i)) := by
  obtain ⟨_, _, hC⟩ := Kd.R_reads' h.out
  obtain ⟨ad, e, hc⟩ := hC.2.2 (by omega)
  refine ⟨ad, e, ?_⟩
  obtain ⟨c', _, hK, hu⟩ := hc i (header (gs i) m (cs i)) (by simp [List.getElem?_map, List.getElem?_range hi])
  have hu0 := hu 0 (.slice (some ⟨gs i, 0, none⟩) m (cs i)) (by rw [hK.1]; rfl)
  simpa [Kd.raw] using hu0
theorem Tabl.congr {W : World} {B : Nat} {vo : Value} {n m : Nat} {F G : Nat → Nat → Int} {gs cs : Nat → Nat} (h : Tabl W B vo n m F gs cs) (e : ∀ i j, i < n → j < m → F i j = G i j) : Tabl W B vo n m G gs cs :=
  ⟨h.out, h.cap, h.base, fun i hi => by
    obtain ⟨cur, h1, h2⟩ := h.row i hi
    exact ⟨cur, h1, fun j hj => by rw [h2 j hj, e i j hi hj]⟩, h.apart⟩
/-- A cell is written. -/
theorem Tabl.put {W : World} {B : Nat} {vo : Value} {n m : Nat} {F : Nat → Nat → Int} {gs cs : Nat → Nat} (h : Tabl W B vo n m F gs cs) (i k : Nat) (hi : i < n) (hk : k < m) (x : Int) :
    Tabl (W.setCell ⟨gs i, k, none⟩ (.int .i64 x)) B vo n m (fun a b => if a = i ∧ b = k then x else F a b) gs cs := by
  obtain ⟨cur, h1, _⟩ := h.row i hi
  refine ⟨Kd.R_mono (Kd.R_far (p := ⟨gs i, k, none⟩) (Kd.R_types h.out h1 (by decide)) (fun _ hk => hk.2) _) (fun _ _ => trivial), h.cap, h.base, fun a ha => ?_, h.apart⟩
  by_cases e : a = i
  · subst e
    obtain ⟨c2, q1, q2⟩ := (h.row a ha).put k hk x
    refine ⟨c2, q1, fun j hj => ?_⟩
    rw [q2 j hj]
    by_cases e2 : j = k <;> simp [e2]
  · obtain ⟨c2, q1, q2⟩ := h.row a ha
    refine ⟨c2, blk_far q1 (fun e2 => e (h.apart a i ha hi e2)) _, fun j hj => ?_⟩
    rw [q2 j hj]
    simp [e]

/-- A new row of zeros is appended. -/
theorem Tabl.grow {wr w1 : World} {B : Nat} {vo v1 : Value} {n m : Nat} {F : Nat → Nat → Int} {gs cs : Nat → Nat} {Z : Array Value} (h : Tabl wr B vo n m F gs cs) (hZ : ∀ j, j < m → Z[j]? = some (.int .i64 0)) (hB : B ≤ wr.heap.size)
    (ho : Kd.R (Kd.raw 1) 39 w1 B (fun _ => True) v1 (((List.range n).map fun i => header (gs i) m (cs i)) ++ [header wr.heap.size m m])) (hg : (wr.alloc (.cells Z 3)).grownBy w1 vo.ownBlock) :
    Tabl w1 B v1 (n + 1) m (fun a b => if a = n then 0 else F a b) (fun a => if a = n then wr.heap.size else gs a) (fun a => if a = n then m else cs a) := by
  have hlt : ∀ i, i < n → gs i < wr.heap.size := fun i hi => by
    obtain ⟨cur, h1, _⟩ := h.row i hi
    exact blk_lt h1
  refine ⟨?_, fun i hi => ?_, fun i hi => ?_, fun i hi => ?_, fun i j hi hj e => ?_⟩
  · have e : ((List.range (n + 1)).map fun i => header ((fun a => if a = n then wr.heap.size else gs a) i) m ((fun a => if a = n then m else cs a) i)) = ((List.range n).map fun i => header (gs i) m (cs i)) ++ [header wr.heap.size m m] := by
      rw [List.range_succ, List.map_append]
      congr 1
      · refine List.map_congr_left fun a ha => ?_
        have : a < n := List.mem_range.1 ha
        simp [show ¬ a = n by omega]
      · simp
    rw [e]
    exact ho
  · by_cases e : i = n
    · simp [e]
    · simp only [if_neg e]
      exact h.cap i (by omega)
  · by_cases e : i = n
    · simp only [if_pos e]
      exact hB
    · simp only [if_neg e]
      exact h.base i (by omega)
  · by_cases e : i = n
    · simp only [if_pos e]
      exact ⟨Z, blk_grown (heap_alloc_new wr _) hg (fun e2 => by have := Kd.R_lt h.out _ e2.symm; omega), hZ⟩
    · simp only [if_neg e]
      obtain ⟨cur, h1, h2⟩ := h.row i (by omega)
      exact ⟨cur, blk_grown (blk_alloc h1 _) hg (Kd.R_ne h.out h1 (by decide)), h2⟩
  · by_cases e1 : i = n <;> by_cases e2 : j = n
    · omega
    · simp only [if_pos e1, if_neg e2] at e
      have := hlt j (by omega)
      omega
    · simp only [if_neg e1, if_pos e2] at e
      have := hlt i (by omega)
      omega
    · simp only [if_neg e1, if_neg e2] at e
      exact h.apart i j (by omega) (by omega) e

theorem info3m : (Try.prog.info? 3).map (fun i => (i.zero, i.size, i.bytes)) = some (some (.int .i64 0), 1, 8) := by kernel_rfl
theorem make_row (m : Nat) (hm : m ≤ 100) : ∃ Z : Array Value, (∀ j, j < m → Z[j]? = some (.int .i64 0)) ∧ ∀ W : World, (Instr.makeSlice 39 (.int .i64 (m : Int)) (.int .i64 (m : Int))).run Try.prog W = .ok (.slice (some ⟨W.heap.size, 0, none⟩) m m) (W.alloc (.cells Z 3)) := by
  obtain ⟨i0, hi, hzz⟩ := Option.map_eq_some_iff.1 info3m
  simp only [Prod.mk.injEq] at hzz
  obtain ⟨hz0, hz1, hz2⟩ := hzz
  refine ⟨madeCells (Value.int .i64 0).cells (m * 1), fun j hj => ?_, fun W => ?_⟩
  · have h := Kd.reps_made (R := fun (p : Int) cs => cs = [.int .i64 p]) (z := .int .i64 0) (size := 1) (z0 := 0) rfl (by decide) rfl m
    have h2 := h.2 j 0 (by simp [List.getElem?_replicate, hj])
    have h3 : (((madeCells (Value.int .i64 0).cells (m * 1)).toList.drop (j * 1)).take 1) = [.int .i64 0] := h2
    have h4 : (((madeCells (Value.int .i64 0).cells (m * 1)).toList.drop (j * 1)).take 1)[0]? = some (.int .i64 0) := by rw [h3]; rfl
    simpa using h4
  · have hr := run_make (P := Try.prog) W 39 3 i0 (.int .i64 0) Try.underlying39 hi hz0 .i64 .i64 (m : Int) (m : Int) (by omega) (Int.le_refl _) (by rw [hz2]; omega) (by omega)
    simp only [Int.toNat_natCast] at hr
    rw [hz1] at hr
    exact hr

set_option maxHeartbeats 4000000 in
set_option maxRecDepth 100000 in
theorem most_any {x y : Nat} {L : List S52} {A : Option Addr} {c : Nat} {w : World} (hr : Kd.C k52 w A L.length L) (hL : L.length ≤ 16) (hok : OkL L) (x1 : 1 ≤ x) (x2 : x ≤ 48) (y1 : 1 ≤ y) (y2 : y ≤ 48) :
    Calls Try.prog 22 #[.int .i64 (x : Int), .int .i64 (y : Int), .slice A L.length c] w fun e w' => ∃ vo gs cs, e = .returned vo ∧ Tabl w' w.heap.size vo (x + 1) (y + 1) (bestV L) gs cs ∧ Below w.heap.size w w' := by
  have HR := Aside0.mk hr
  have HOK := Aside0.mk hok
  clear hr hok
  have hu52 := Try.underlying52
  go_enter Try.func22, Try.ntmps22
  go_wp2_with fail
  have hs2 : wrap64 ((y : Int) + 1) = ((y + 1 : Nat) : Int) := by unfold wrap64; omega
  have HS2 := Aside0.mk hs2
  clear hs2
  go_loopg [7, 8] (x + 2) (fun q v7 v8 W => ∃ (i : Nat) (gs cs : Nat → Nat), q + i = x + 2 ∧ i ≤ x + 1 ∧ v8 = .int .i64 (i : Int) ∧ Aside0 (Tabl W w.heap.size v7 i (y + 1) (bestV L) gs cs) ∧ Aside0 (Below w.heap.size w W))
  case atStart => exact ⟨0, fun _ => 0, fun _ => 0, by omega, by omega, rfl, ⟨Tabl.nil _ _ _ _ _ _⟩, ⟨Below.refl _ _⟩⟩
  case round =>
    obtain ⟨i, gs, cs, hq, hi, rfl, HT, HB⟩ := hrel
    by_cases hlt : i ≤ x
    · have d1 : (i : Int) ≤ (x : Int) := by omega
      obtain ⟨Z, hZ, hmk⟩ := make_row (y + 1) (by omega)
      have hmk' : ∀ W : World, (Instr.makeSlice 39 (.int .i64 ((y : Int) + 1)) (.int .i64 ((y : Int) + 1))).run Try.prog W = .ok (.slice (some ⟨W.heap.size, 0, none⟩) (y + 1) (y + 1)) (W.alloc (.cells Z 3)) := fun W => by
        have h := hmk W
        simpa using h
      have HZ := Aside0.mk hZ
      clear hmk hZ
      obtain ⟨Ao, co, rfl⟩ := HT.out.slice
      go_wp2_with (first
        | ((with_reducible refine gate_builtin (b := .append) (xs := _) rfl ?_)
           at_builtin
           (refine Kd.R_append (Kd.raw 1) (w0 := w) w.heap.size rfl (.tmp 23) _ 27 39 (.slice none 0 0) 24 rfl Try.underlying27 inf39 rfl (by decide) (by decide) _ ((List.range i).map fun a => header (gs a) (y + 1) (cs a)) (header wr.heap.size (y + 1) (y + 1)) [.slice (some ⟨wr.heap.size, 0, none⟩) (y + 1) (y + 1)] (fun _ => True) (fun _ => False) rfl (by simp [go_sem]) ⟨rfl, rfl, fun u hu => by rw [List.mem_singleton.1 hu]; rfl⟩ (fun _ hk => hk.elim) (fun _ _ => trivial) (Kd.R_alloc HT.out.out _) (below_alloc HB.out _) (below_alloc HB.out _).size (by simp; omega) ?_)
           intro v1 w1 ho hb hg hat
           have HG := Aside0.mk (HT.out.grow HZ.out HB.out.size ho hg)
           have HB1 := Aside0.mk hb
           clear ho hb hg hat))
      obtain ⟨gs', cs', hgs, hG⟩ : ∃ gs' cs' : Nat → Nat, gs' i = wr.heap.size ∧ Tabl w1 w.heap.size v1 (i + 1) (y + 1) (fun a b => if a = i then 0 else bestV L a b) gs' cs' := ⟨_, _, by simp, HG.out⟩
      obtain ⟨A1, c1, rfl⟩ := hG.slice
      have HGS := Aside0.mk hgs
      have HG1 := Aside0.mk (hG.congr (G := fun a b => if a = i then (if b < 1 then bestV L i b else 0) else bestV L a b) (fun a b ha hb => by
        by_cases e : a = i
        · simp only [if_pos e]
          by_cases e2 : b < 1
          · rw [if_pos e2, bestV_zero HOK.out (by omega) (by omega) (by omega)]
          · rw [if_neg e2]
        · simp only [if_neg e]))
      generalize wr.heap.size = gr at *
      clear hgs hG HG HT HZ hmk'
      go_loopg [10] (y + 1) (fun q v10 W => ∃ k : Nat, q + k = y + 2 ∧ 1 ≤ k ∧ k ≤ y + 1 ∧ v10 = .int .i64 (k : Int) ∧ Aside0 (Tabl W w.heap.size (.slice A1 (i + 1) c1) (i + 1) (y + 1) (fun a b => if a = i then (if b < k then bestV L i b else 0) else bestV L a b) gs' cs') ∧ Aside0 (Below w.heap.size w W))
      case atStart => exact ⟨1, by omega, by omega, by omega, rfl, HG1, HB1⟩
      case round =>
        obtain ⟨k, hqk, hk1, hk2, rfl, HT, HBk⟩ := hrel
        by_cases hltk : k ≤ y
        · have d2 : (k : Int) ≤ (y : Int) := by omega
          by_cases hi0 : 0 < i
          · have d3 : (0 : Int) < (i : Int) := by omega
            have HV0 := Aside0.mk (bestV_nonneg HOK.out (i := i) (j := k) (by omega) (by omega))
            have HVS := Aside0.mk (bestV_small HOK.out (i := i) (j := k) (by omega) (by omega))
            go_wp2_with fail
            go_loopg [11, 12] (L.length + 1) (fun q v11 v12 W => ∃ (j : Nat) (bb : Int), q + j = L.length + 1 ∧ j ≤ L.length ∧ v12 = .int .i64 (j : Int) ∧ v11 = .int .i64 bb ∧ Aside0 (0 ≤ bb ∧ bb ≤ bestV L i k) ∧ Aside0 (∀ j', j' < j → (blankAt L j').f0 ≤ i → (blankAt L j').f1 ≤ k → (blankAt L j').f2 ≤ bb) ∧ Aside0 (Tabl W w.heap.size (.slice A1 (i + 1) c1) (i + 1) (y + 1) (fun a b => if a = i then (if b < k then bestV L i b else 0) else bestV L a b) gs' cs') ∧ Aside0 (Below w.heap.size w W))
            case atStart => exact ⟨0, 0, by omega, by omega, rfl, rfl, ⟨Int.le_refl _, HV0.out⟩, ⟨fun j' h => absurd h (by omega)⟩, HT, HBk⟩
            case round =>
              clear HT HBk
              obtain ⟨j, bb, hqj, hj, rfl, rfl, HBB, HF, HT, HBj⟩ := hrel
              by_cases hltj : j < L.length
              · obtain ⟨ab, rfl, b0, b1, b2⟩ := blank_cells HR.out HBj.out j hltj
                have hjl : (j : Int) < (L.length : Int) := by omega
                have hj0 : (0 : Int) ≤ (j : Int) := by omega
                have HBC := Aside0.mk (show ∀ W', Below w.heap.size w W' → W'.cell? (ab.add (j * 3)) = some (.int .i64 (blankAt L j).f0) ∧ W'.cell? ⟨(ab.add (j * 3)).block, (ab.add (j * 3)).off + 1, none⟩ = some (.int .i64 (blankAt L j).f1) ∧ W'.cell? ⟨(ab.add (j * 3)).block, (ab.add (j * 3)).off + 2, none⟩ = some (.int .i64 (blankAt L j).f2) from fun W' hW' => by
                  obtain ⟨ab', e', h⟩ := blank_cells HR.out hW' j hltj
                  cases e'
                  exact h)
                have HBL := Aside0.mk (show (blankAt L j).f0 ≤ i → (blankAt L j).f1 ≤ k → (blankAt L j).f2 ≤ bestV L i k from fun h0 h1 => (bestV_lower HOK.out).blank i k hi0 (by omega) hk1 (by omega) j ⟨hltj, h0, h1⟩)
                have HFn := Aside0.mk (show ∀ b' : Int, bb ≤ b' → ((blankAt L j).f0 ≤ i → (blankAt L j).f1 ≤ k → (blankAt L j).f2 ≤ b') → ∀ j', j' < j + 1 → (blankAt L j').f0 ≤ i → (blankAt L j').f1 ≤ k → (blankAt L j').f2 ≤ b' from fun b' hb h j' hj' => by
                  rcases Nat.lt_or_ge j' j with h1 | h1
                  · exact fun p0 p1 => Int.le_trans (HF.out j' h1 p0 p1) hb
                  · obtain rfl : j' = j := by omega
                    exact h)
                generalize blankAt L j = bl at *
                by_cases hf : bl.f0 ≤ (i : Int) ∧ bl.f1 ≤ (k : Int)
                · have HFt := Aside0.mk (show ∀ W, Calls Try.prog 28 #[.agg #[.int .i64 bl.f0, .int .i64 bl.f1, .int .i64 bl.f2], .int .i64 (i : Int), .int .i64 (k : Int)] W fun e w' => e = .returned (.bool true) ∧ Below W.heap.size W w' from fun W => by
                    have h := fits_is bl (i : Int) (k : Int) W
                    rwa [decide_eq_true hf] at h)
                  have HFF := Aside0.mk hf
                  clear hf
                  go_wp2_with fail
                  refine (HFt.out _).mono ?_
                  rintro e w2 ⟨rfl, b9⟩
                  obtain ⟨b0', b1', b2'⟩ := HBC.out w2 (below_on HBj.out b9)
                  have HB9 := Aside0.mk b9
                  clear b0 b1 b2 b9
                  by_cases hm : bb < bl.f2
                  · go_wp2_with fail
                    go_roundg (L.length - j)
                    case measure => omega
                    case rel => exact ⟨j + 1, bl.f2, by omega, by omega, by go_num, rfl, ⟨⟨by have := HBB.out.1; omega, HBL.out HFF.out.1 HFF.out.2⟩⟩, ⟨HFn.out bl.f2 (by omega) (fun _ _ => Int.le_refl _)⟩, ⟨HT.out.below HB9.out⟩, ⟨below_on HBj.out HB9.out⟩⟩
                  · go_wp2_with fail
                    go_roundg (L.length - j)
                    case measure => omega
                    case rel => exact ⟨j + 1, bb, by omega, by omega, by go_num, rfl, HBB, ⟨HFn.out bb (Int.le_refl _) (fun _ _ => by omega)⟩, ⟨HT.out.below HB9.out⟩, ⟨below_on HBj.out HB9.out⟩⟩
                · have HFt := Aside0.mk (show ∀ W, Calls Try.prog 28 #[.agg #[.int .i64 bl.f0, .int .i64 bl.f1, .int .i64 bl.f2], .int .i64 (i : Int), .int .i64 (k : Int)] W fun e w' => e = .returned (.bool false) ∧ Below W.heap.size W w' from fun W => by
                    have h := fits_is bl (i : Int) (k : Int) W
                    rwa [decide_eq_false hf] at h)
                  have HFF := Aside0.mk hf
                  clear hf
                  go_wp2_with fail
                  refine (HFt.out _).mono ?_
                  rintro e w2 ⟨rfl, b9⟩
                  have HB9 := Aside0.mk b9
                  clear b0 b1 b2 b9
                  go_wp2_with fail
                  go_roundg (L.length - j)
                  case measure => omega
                  case rel => exact ⟨j + 1, bb, by omega, by omega, by go_num, rfl, HBB, ⟨HFn.out bb (Int.le_refl _) (fun h0 h1 => absurd ⟨h0, h1⟩ HFF.out)⟩, ⟨HT.out.below HB9.out⟩, ⟨below_on HBj.out HB9.out⟩⟩
              · obtain rfl : j = L.length := by omega
                go_wp2_with fail
                have HFA := Aside0.mk (show ∀ b' : Int, bb ≤ b' → ∀ j', Fit L j' i k → (blankAt L j').f2 ≤ b' from fun b' hb j' hf => Int.le_trans (HF.out j' hf.1 hf.2.1 hf.2.2) hb)
                clear HF hqj hj hltj
                obtain ⟨b0, hb0⟩ : ∃ b0, b0 = bb := ⟨_, rfl⟩
                rw [← hb0] at HFA
                have HBB0 := Aside0.mk (show b0 ≤ bb by omega)
                clear hb0
                go_loopg [11, 13] (i + 1) (fun q v11 v13 W => ∃ (z : Nat) (bb : Int), q + z = i + 2 ∧ 1 ≤ z ∧ z ≤ i + 1 ∧ v13 = .int .i64 (z : Int) ∧ v11 = .int .i64 bb ∧ Aside0 (0 ≤ bb ∧ bb ≤ bestV L i k) ∧ Aside0 (b0 ≤ bb) ∧ Aside0 (∀ z', 1 ≤ z' → z' < z → z' < i → bestV L z' k + bestV L (i - z') k ≤ bb) ∧ Aside0 (Tabl W w.heap.size (.slice A1 (i + 1) c1) (i + 1) (y + 1) (fun a b => if a = i then (if b < k then bestV L i b else 0) else bestV L a b) gs' cs') ∧ Aside0 (Below w.heap.size w W))
                case atStart => exact ⟨1, bb, by omega, by omega, by omega, rfl, rfl, HBB, HBB0, ⟨fun z' h1 h2 => absurd h2 (by omega)⟩, HT, HBj⟩
                case round =>
                  clear HT HBj HBB HBB0 bb
                  obtain ⟨z, bb, hqz, hz1, hz2, rfl, rfl, HBB, HBB0, HX, HT, HBz⟩ := hrel
                  by_cases hltz : z < i
                  · obtain ⟨d, hd⟩ : ∃ d : Nat, d = i - z := ⟨_, rfl⟩
                    have hsub : IntKind.i64.wrap ((i : Int) - (z : Int)) = (d : Int) := by rw [i64_w]; unfold wrap64; omega
                    obtain ⟨ad, rfl, o0⟩ := HT.out.at z (by omega)
                    obtain ⟨ad', e', o1⟩ := HT.out.at d (by omega)
                    cases e'
                    have r0 := ((HT.out.row z (by omega)).cell k (by omega)).1
                    have r1 := ((HT.out.row d (by omega)).cell k (by omega)).1
                    simp only [if_neg (show ¬ z = i by omega)] at r0
                    simp only [if_neg (show ¬ d = i by omega)] at r1
                    have hv1 := bestV_nonneg HOK.out (i := z) (j := k) (by omega) (by omega)
                    have hv2 := bestV_nonneg HOK.out (i := d) (j := k) (by omega) (by omega)
                    have hv3 := bestV_small HOK.out (i := z) (j := k) (by omega) (by omega)
                    have hv4 := bestV_small HOK.out (i := d) (j := k) (by omega) (by omega)
                    have HAC := Aside0.mk (show bestV L z k + bestV L d k ≤ bestV L i k from by rw [hd]; exact (bestV_lower HOK.out).across i k hi0 (by omega) hk1 (by omega) z hz1 hltz)
                    have HXn := Aside0.mk (show ∀ b' : Int, bb ≤ b' → bestV L z k + bestV L d k ≤ b' → ∀ z', 1 ≤ z' → z' < z + 1 → z' < i → bestV L z' k + bestV L (i - z') k ≤ b' from fun b' hb h z' h1 h2 h3 => by
                      rcases Nat.lt_or_ge z' z with h4 | h4
                      · exact Int.le_trans (HX.out z' h1 h4 h3) hb
                      · obtain rfl : z' = z := by omega
                        rw [← hd]
                        exact h)
                    have zi : (z : Int) < (i : Int) := by omega
                    have z0 : (0 : Int) ≤ (z : Int) := by omega
                    have zb : (z : Int) < (i : Int) + 1 := by omega
                    have d0 : (0 : Int) ≤ (d : Int) := by omega
                    have db : (d : Int) < (i : Int) + 1 := by omega
                    have kb : (k : Int) < (y : Int) + 1 := by omega
                    have k0 : (0 : Int) ≤ (k : Int) := by omega
                    generalize bestV L z k = v1 at *
                    generalize bestV L d k = v2 at *
                    have hvs : IntKind.i64.wrap (v1 + v2) = v1 + v2 := by rw [i64_w]; unfold wrap64; omega
                    clear hv1 hv2 hv3 hv4 hd
                    have HKP : Aside0 (∀ w', Below wr.heap.size wr w' → w'.cell? (ad.add z) = some (.slice (some ⟨gs' z, 0, none⟩) (y + 1) (cs' z)) ∧ w'.cell? (ad.add d) = some (.slice (some ⟨gs' d, 0, none⟩) (y + 1) (cs' d)) ∧ w'.cell? ⟨gs' z, k, none⟩ = some (.int .i64 v1) ∧ w'.cell? ⟨gs' d, k, none⟩ = some (.int .i64 v2)) := ⟨fun w' hb => ⟨pw_cell_below hb o0, pw_cell_below hb o1, pw_cell_below hb r0, pw_cell_below hb r1⟩⟩
                    by_cases hm : bb < v1 + v2
                    · go_wp2_with fail
                      go_region_held3 (fun w' => w'.cell? (ad.add z) = some (.slice (some ⟨gs' z, 0, none⟩) (y + 1) (cs' z)) ∧ w'.cell? (ad.add d) = some (.slice (some ⟨gs' d, 0, none⟩) (y + 1) (cs' d)) ∧ w'.cell? ⟨gs' z, k, none⟩ = some (.int .i64 v1) ∧ w'.cell? ⟨gs' d, k, none⟩ = some (.int .i64 v2))
                        (exact HKP.out _ (below_drew (Below.refl _ _)))
                        (fail)
                      all_goals (go_wp2_with fail)
                      go_roundg (i + 1 - z)
                      case measure => omega
                      case rel => exact ⟨z + 1, v1 + v2, by omega, by omega, by omega, by go_num, rfl, ⟨⟨by have := HBB.out.1; omega, HAC.out⟩⟩, ⟨by have := HBB0.out; omega⟩, ⟨HXn.out _ (by omega) (Int.le_refl _)⟩, ⟨HT.out.below (below_drew (Below.refl _ _))⟩, ⟨below_drew HBz.out⟩⟩
                    · go_wp2_with fail
                      go_region_held3 (fun w' => w'.cell? (ad.add z) = some (.slice (some ⟨gs' z, 0, none⟩) (y + 1) (cs' z)) ∧ w'.cell? (ad.add d) = some (.slice (some ⟨gs' d, 0, none⟩) (y + 1) (cs' d)) ∧ w'.cell? ⟨gs' z, k, none⟩ = some (.int .i64 v1) ∧ w'.cell? ⟨gs' d, k, none⟩ = some (.int .i64 v2))
                        (exact HKP.out _ (below_drew (Below.refl _ _)))
                        (fail)
                      all_goals (go_wp2_with fail)
                      go_roundg (i + 1 - z)
                      case measure => omega
                      case rel => exact ⟨z + 1, bb, by omega, by omega, by omega, by go_num, rfl, HBB, HBB0, ⟨HXn.out _ (Int.le_refl _) (by omega)⟩, ⟨HT.out.below (below_drew (Below.refl _ _))⟩, ⟨below_drew HBz.out⟩⟩
                  · go_wp2_with fail
                    have HXA := Aside0.mk (show ∀ b' : Int, bb ≤ b' → ∀ z', 1 ≤ z' → z' < i → bestV L z' k + bestV L (i - z') k ≤ b' from fun b' hb z' h1 h2 => Int.le_trans (HX.out z' h1 (by omega) h2) hb)
                    have HBB1 := HBB0
                    clear HX hqz hz1 hz2 hltz
                    obtain ⟨b1, hb1⟩ : ∃ b1, b1 = bb := ⟨_, rfl⟩
                    rw [← hb1] at HXA
                    have HBB2 := Aside0.mk (show b0 ≤ bb ∧ b1 ≤ bb from ⟨HBB0.out, by omega⟩)
                    clear hb1 HBB0 HBB1
                    go_loopg [11, 14] (k + 1) (fun q v11 v14 W => ∃ (u : Nat) (bb : Int), q + u = k + 2 ∧ 1 ≤ u ∧ u ≤ k + 1 ∧ v14 = .int .i64 (u : Int) ∧ v11 = .int .i64 bb ∧ Aside0 (0 ≤ bb ∧ bb ≤ bestV L i k) ∧ Aside0 (b0 ≤ bb ∧ b1 ≤ bb) ∧ Aside0 (∀ u', 1 ≤ u' → u' < u → u' < k → bestV L i u' + bestV L i (k - u') ≤ bb) ∧ Aside0 (Tabl W w.heap.size (.slice A1 (i + 1) c1) (i + 1) (y + 1) (fun a b => if a = i then (if b < k then bestV L i b else 0) else bestV L a b) gs' cs') ∧ Aside0 (Below w.heap.size w W))
                    case atStart => exact ⟨1, bb, by omega, by omega, by omega, rfl, rfl, HBB, HBB2, ⟨fun u' h1 h2 => absurd h2 (by omega)⟩, HT, HBz⟩
                    case round =>
                      clear HT HBz HBB HBB2 bb
                      obtain ⟨u, bb, hqu, hu1, hu2, rfl, rfl, HBB, HBB2, HY, HT, HBu⟩ := hrel
                      by_cases hltu : u < k
                      · obtain ⟨d, hd⟩ : ∃ d : Nat, d = k - u := ⟨_, rfl⟩
                        have hsub : IntKind.i64.wrap ((k : Int) - (u : Int)) = (d : Int) := by rw [i64_w]; unfold wrap64; omega
                        have r0 := ((HT.out.row i (by omega)).cell u (by omega)).1
                        have r1 := ((HT.out.row i (by omega)).cell d (by omega)).1
                        simp only [if_true, if_pos hltu] at r0
                        simp only [if_true, if_pos (show d < k by omega)] at r1
                        rw [HGS.out] at r0 r1
                        have hv1 := bestV_nonneg HOK.out (i := i) (j := u) (by omega) (by omega)
                        have hv2 := bestV_nonneg HOK.out (i := i) (j := d) (by omega) (by omega)
                        have hv3 := bestV_small HOK.out (i := i) (j := u) (by omega) (by omega)
                        have hv4 := bestV_small HOK.out (i := i) (j := d) (by omega) (by omega)
                        have HAC := Aside0.mk (show bestV L i u + bestV L i d ≤ bestV L i k from by rw [hd]; exact (bestV_lower HOK.out).along i k hi0 (by omega) hk1 (by omega) u hu1 hltu)
                        have HYn := Aside0.mk (show ∀ b' : Int, bb ≤ b' → bestV L i u + bestV L i d ≤ b' → ∀ u', 1 ≤ u' → u' < u + 1 → u' < k → bestV L i u' + bestV L i (k - u') ≤ b' from fun b' hb h u' h1 h2 h3 => by
                          rcases Nat.lt_or_ge u' u with h4 | h4
                          · exact Int.le_trans (HY.out u' h1 h4 h3) hb
                          · obtain rfl : u' = u := by omega
                            rw [← hd]
                            exact h)
                        have ui : (u : Int) < (k : Int) := by omega
                        have u0 : (0 : Int) ≤ (u : Int) := by omega
                        have ub : (u : Int) < (y : Int) + 1 := by omega
                        have d0 : (0 : Int) ≤ (d : Int) := by omega
                        have db : (d : Int) < (y : Int) + 1 := by omega
                        generalize bestV L i u = v1 at *
                        generalize bestV L i d = v2 at *
                        have hvs : IntKind.i64.wrap (v1 + v2) = v1 + v2 := by rw [i64_w]; unfold wrap64; omega
                        clear hv1 hv2 hv3 hv4 hd
                        have HKP : Aside0 (∀ w', Below wr.heap.size wr w' → w'.cell? ⟨gr, u, none⟩ = some (.int .i64 v1) ∧ w'.cell? ⟨gr, d, none⟩ = some (.int .i64 v2)) := ⟨fun w' hb => ⟨pw_cell_below hb r0, pw_cell_below hb r1⟩⟩
                        by_cases hm : bb < v1 + v2
                        · go_wp2_with fail
                          go_region_held3 (fun w' => w'.cell? ⟨gr, u, none⟩ = some (.int .i64 v1) ∧ w'.cell? ⟨gr, d, none⟩ = some (.int .i64 v2))
                            (exact HKP.out _ (below_drew (Below.refl _ _)))
                            (fail)
                          all_goals (go_wp2_with fail)
                          go_roundg (k + 1 - u)
                          case measure => omega
                          case rel => exact ⟨u + 1, v1 + v2, by omega, by omega, by omega, by go_num, rfl, ⟨⟨by have := HBB.out.1; omega, HAC.out⟩⟩, ⟨by have := HBB2.out; omega⟩, ⟨HYn.out _ (by omega) (Int.le_refl _)⟩, ⟨HT.out.below (below_drew (Below.refl _ _))⟩, ⟨below_drew HBu.out⟩⟩
                        · go_wp2_with fail
                          go_region_held3 (fun w' => w'.cell? ⟨gr, u, none⟩ = some (.int .i64 v1) ∧ w'.cell? ⟨gr, d, none⟩ = some (.int .i64 v2))
                            (exact HKP.out _ (below_drew (Below.refl _ _)))
                            (fail)
                          all_goals (go_wp2_with fail)
                          go_roundg (k + 1 - u)
                          case measure => omega
                          case rel => exact ⟨u + 1, bb, by omega, by omega, by omega, by go_num, rfl, HBB, HBB2, ⟨HYn.out _ (Int.le_refl _) (by omega)⟩, ⟨HT.out.below (below_drew (Below.refl _ _))⟩, ⟨below_drew HBu.out⟩⟩
                      · have hbe : bb = bestV L i k := by
                          have h0 := HBB.out
                          have h2 := HBB2.out
                          rcases bestV_upper HOK.out i k hi0 (by omega) hk1 (by omega) with e | ⟨j', hf, e⟩ | ⟨z', h1, h3, e⟩ | ⟨u', h1, h3, e⟩
                          · omega
                          · have := HFA.out bb h2.1 j' hf
                            omega
                          · have := HXA.out bb h2.2 z' h1 h3
                            omega
                          · have := HY.out u' h1 (by omega) h3
                            omega
                        have hcell := (HT.out.row i (by omega)).cell k (by omega)
                        rw [HGS.out] at hcell
                        obtain ⟨r0, rf0, rlt⟩ := hcell
                        have HBE := Aside0.mk hbe
                        have kb : (k : Int) < (y : Int) + 1 := by omega
                        have k0 : (0 : Int) ≤ (k : Int) := by omega
                        have HPU := Aside0.mk (show Tabl (wr.setCell ⟨gr, k, none⟩ (.int .i64 bb)) w.heap.size (.slice A1 (i + 1) c1) (i + 1) (y + 1) (fun a b => if a = i then (if b < k + 1 then bestV L i b else 0) else bestV L a b) gs' cs' from by
                          have h := HT.out.put i k (by omega) (by omega) bb
                          rw [HGS.out] at h
                          refine h.congr (fun a b ha hb => ?_)
                          by_cases e : a = i
                          · by_cases e2 : b = k
                            · simp [e, e2, hbe]
                            · by_cases e3 : b < k
                              · simp [e, e2, e3, show b < k + 1 by omega]
                              · simp [e, e2, e3, show ¬ b < k + 1 by omega]
                          · simp [e])
                        have HGB := Aside0.mk (show w.heap.size ≤ gr from by rw [← HGS.out]; exact HT.out.base i (by omega))
                        clear hbe
                        go_wp2_with fail
                        go_roundg (y + 1 - k)
                        case measure => omega
                        case rel => exact ⟨k + 1, by omega, by omega, by omega, by go_num, HPU, ⟨HBu.out.setCell HGB.out _⟩⟩
          · obtain rfl : i = 0 := by omega
            go_wp2_with fail
            go_roundg (x + 1 - 0)
            case measure => omega
            case rel =>
              refine ⟨0 + 1, gs', cs', by omega, by omega, by go_num, ⟨HT.out.congr (fun a b ha hb => ?_)⟩, HBk⟩
              obtain rfl : a = 0 := by omega
              have hz := bestV_zero HOK.out (w := 0) (h := b) (by omega) (by omega) (.inl rfl)
              simp only [if_true]
              split
              · rfl
              · exact hz.symm
        · obtain rfl : k = y + 1 := by omega
          go_wp2_with fail
          go_roundg (x + 1 - i)
          case measure => omega
          case rel =>
            refine ⟨i + 1, gs', cs', by omega, by omega, by go_num, ⟨HT.out.congr (fun a b ha hb => ?_)⟩, HBk⟩
            by_cases e : a = i
            · simp only [if_pos e, if_pos hb]
              rw [e]
            · simp only [if_neg e]
    · obtain rfl : i = x + 1 := by omega
      go_wp2_with fail
      go_ret
      exact ⟨_, gs, cs, by simp [go_sem], HT.out, HB.out⟩

end Go.Proofs.Ytochbhndeboodaa
