/- The walk of CarveMore. -/
import Derived.Test.YtochbhndeboodaaOut
import Derived.Test.YtochbhndeboodaaHelps
import Derived.Test.YtochbhndeboodaaPCarveMorex6
import Derived.Deep.RegionHeld3
namespace Go.Proofs.Ytochbhndeboodaa
set_option linter.unusedVariables false
set_option linter.unusedSimpArgs false
open Go.RowKit Go.Proofs.YtochbhndeboodaaW.PrintWords Go.Proofs.YtochbhndeboodaaW.PrintLast Go.Proofs.YtochbhndeboodaaW.PrintMore
open Go.Proofs.Ytochbhndeboodaa.PCarveMore (S52 S56 k52 k56 k52_mkM info52)

theorem blankAt_left {T : List S52} {b : S52} {k : Nat} (hk : k < T.length) : blankAt (T ++ [b]) k = blankAt T k := by
  simp [blankAt, List.getD_eq_getElem?_getD, List.getElem?_append_left hk]
theorem blankAt_last {T : List S52} {b : S52} : blankAt (T ++ [b]) T.length = b := by
  simp [blankAt, List.getD_eq_getElem?_getD]
theorem more_ok {T : List S52} {b : S52} (hT : OkL T) (hb : okB b) : OkL (T ++ [b]) := fun k hk => by
  have hk' : k < T.length + 1 := by simpa using hk
  by_cases h : k < T.length
  · rw [blankAt_left h]; exact hT k h
  · obtain rfl : k = T.length := by omega
    rw [blankAt_last]; exact hb
theorem more_ge {T : List S52} {b : S52} (hT : OkL T) (hb : okB b) {i j : Nat} (hi : i ≤ 48) (hj : j ≤ 48) : bestV T i j ≤ bestV (T ++ [b]) i j :=
  bestV_blanks hT (more_ok hT hb) (Nat.le_refl 48) (Nat.le_refl 48) (fun k i j _ _ _ _ hf => ⟨k, ⟨by have := hf.1; simp; omega, by rw [blankAt_left hf.1]; exact hf.2⟩, by rw [blankAt_left hf.1]; exact Int.le_refl _⟩) hi hj
theorem more_fit {T : List S52} {b : S52} (hT : OkL T) (hb : okB b) {i j : Nat} (i1 : 1 ≤ i) (hi : i ≤ 48) (j1 : 1 ≤ j) (hj : j ≤ 48) (h0 : b.f0 ≤ i) (h1 : b.f1 ≤ j) : b.f2 ≤ bestV (T ++ [b]) i j := by
  have h := (bestV_lower (more_ok hT hb)).blank i j i1 hi j1 hj T.length ⟨by simp, by rw [blankAt_last]; exact ⟨h0, h1⟩⟩
  rwa [blankAt_last] at h
theorem more_eq {T : List S52} {b : S52} (hT : OkL T) (hb : okB b) {w h : Nat} (hw : w ≤ 48) (hh : h ≤ 48) (hn : ¬ (b.f0 ≤ w ∧ b.f1 ≤ h)) : bestV (T ++ [b]) w h = bestV T w h := by
  have a := more_ge hT hb hw hh
  have c := bestV_blanks (more_ok hT hb) hT hw hh (fun k i j _ hi _ hj hf => by
    have hk' : k < T.length + 1 := by simpa using hf.1
    by_cases e : k < T.length
    · have hf2 := hf.2
      rw [blankAt_left e] at hf2 ⊢
      exact ⟨k, ⟨e, hf2⟩, Int.le_refl _⟩
    · obtain rfl : k = T.length := by omega
      have hf2 := hf.2
      rw [blankAt_last] at hf2
      exact absurd ⟨by have := hf2.1; omega, by have := hf2.2; omega⟩ hn) (Nat.le_refl w) (Nat.le_refl h)
  omega

theorem tame_same {W H m : Nat} {A : Option Addr} {c : Nat} {T : List S52} {w : World} (hr : Kd.C k52 w A T.length T) (hc : T.length ≤ c) (hT : OkL T) (hn : T.length ≤ 16) (w1 : 1 ≤ W) (w2 : W ≤ m) (h1 : 1 ≤ H) (h2 : H ≤ m) (hm : m ≤ 1000) :
    Calls Try.prog 25 #[.agg #[.int .i64 W, .int .i64 H, .slice A T.length c], .int .i64 (m : Int)] w fun e w' => ∃ A2 c2, e = .returned (.agg #[.int .i64 W, .int .i64 H, .slice A2 T.length c2]) ∧ Kd.R k52 52 w' w.heap.size (fun _ => True) (.slice A2 T.length c2) T ∧ T.length ≤ c2 ∧ Below w.heap.size w w' := by
  refine (tame_out W H m A c T w hr hc (by omega) hm).mono ?_
  rintro e w' ⟨Wd, Ht, T', Ao, co, rfl, h⟩
  have e1 := h.tw
  have e2 := h.th
  have e3 := h.tl
  rw [tN_same (by omega) (by omega)] at e1 e2
  rw [tL_same hn hT] at e3
  obtain rfl : W = Wd := by omega
  obtain rfl : H = Ht := by omega
  subst e3
  exact ⟨Ao, co, rfl, h.own, h.c, h.below⟩
theorem tame_one {A : Option Addr} {c : Nat} {b : S52} {w : World} (hr : Kd.C k52 w A [b].length [b]) (hc : [b].length ≤ c) :
    Calls Try.prog 25 #[.agg #[.int .i64 0, .int .i64 0, .slice A 1 c], .int .i64 1] w fun e w' => ∃ A2 c2, e = .returned (.agg #[.int .i64 1, .int .i64 1, .slice A2 1 c2]) ∧ Kd.C k52 w' A2 [tB b].length [tB b] ∧ 1 ≤ c2 ∧ Below w.heap.size w w' := by
  refine (tame_out 0 0 1 A c [b] w hr hc (by omega) (by omega)).mono ?_
  rintro e w' ⟨Wd, Ht, T', Ao, co, rfl, h⟩
  have e3 := h.tl
  obtain rfl : Wd = 1 := by have := h.w1; have := h.wm; omega
  obtain rfl : Ht = 1 := by have := h.h1; have := h.hm; omega
  have e4 : tL [b] = [tB b] := rfl
  rw [e4] at e3
  subst e3
  exact ⟨Ao, co, rfl, h.cells, h.c, h.below⟩
theorem blanks_any {A : Option Addr} {c : Nat} {T : List S52} {w : World} (hr : Kd.C k52 w A T.length T) (hc : T.length ≤ c) (hn : T.length ≤ 16) :
    Calls Try.prog 13 #[.slice A T.length c] w fun e w' => ∃ v, e = .returned v ∧ Kd.R k52 52 w' w.heap.size (fun _ => True) v T ∧ Below w.heap.size w w' := by
  refine PCarveMore.silversidelaw02_blanks.calls A c T T w hr hc ?_
  unfold PCarveMore.silversidelaw02_blanks.f
  have e : mn (T.length : Int) 17 = T.length := by unfold mn; split <;> omega
  rw [e, if_pos (by omega), if_pos (by omega)]
  simp
  omega
theorem fits_any (b : S52) (x y : Int) (w : World) : Calls Try.prog 28 #[.agg #[.int .i64 b.f0, .int .i64 b.f1, .int .i64 b.f2], .int .i64 x, .int .i64 y] w fun e w' => e = .returned (.bool (decide (b.f0 ≤ x ∧ b.f1 ≤ y))) ∧ Below w.heap.size w w' := by
  refine PCarveMore.silversideref02_Fits.calls _ _ _ _ _ _ w ?_
  unfold PCarveMore.silversideref02_Fits.f
  by_cases h : b.f0 ≤ x <;> simp [h]

theorem alloc_keep {wx w' : World} {cs : Array Value} {t : TypeId} (b : Below (wx.alloc (.cells cs t)).heap.size (wx.alloc (.cells cs t)) w') : w'.heap[wx.heap.size]? = some (.cells cs t (0, 0)) := (b.block _ (by simp)).trans (heap_alloc_new wx _)
theorem alloc_keep' {wx w' : World} {cs : Array Value} {t : TypeId} (b : Below (wx.alloc (.cells cs t)).drew.heap.size (wx.alloc (.cells cs t)).drew w') : w'.heap[wx.heap.size]? = some (.cells cs t (0, 0)) := (b.block _ (by simp)).trans (heap_alloc_new wx _)
theorem World.alloc_size' (w : World) (o : Obj) : (w.alloc o).heap.size = w.heap.size + 1 := by simp
theorem below_un {wx w' : World} {o : Obj} (b : Below (wx.alloc o).heap.size (wx.alloc o) w') : Below wx.heap.size wx w' := below_then (below_alloc (Below.refl wx.heap.size wx) o) (by simp) b
theorem below_un' {wx w' : World} {o : Obj} (b : Below (wx.alloc o).drew.heap.size (wx.alloc o).drew w') : Below wx.heap.size wx w' := below_then (below_drew (below_alloc (Below.refl wx.heap.size wx) o)) (by simp) b
theorem blk_keep {W w' : World} {g : Nat} {o : Obj} (h : W.heap[g]? = some o) (b : Below W.heap.size W w') : w'.heap[g]? = some o := (b.block _ (blk_lt h)).trans h

theorem set3_keep {w3 : World} {g base : Nat} {v0 v1 v2 a b c : Value} {A2 : Option Addr} {c2 : Nat} {T : List S52} (hG : w3.heap[g]? = some (.cells #[v0, v1, v2] 24 (0, 0))) (hR : Kd.R k52 52 w3 base (fun _ => True) (.slice A2 T.length c2) T) :
    (((w3.setCell ⟨g, 0, none⟩ a).setCell ⟨g, 1, none⟩ b).setCell ⟨g, 2, none⟩ c).heap[g]? = some (.cells #[a, b, c] 24 (0, 0)) ∧ Kd.C k52 (((w3.setCell ⟨g, 0, none⟩ a).setCell ⟨g, 1, none⟩ b).setCell ⟨g, 2, none⟩ c) A2 T.length T := by
  refine ⟨blk_put (blk_put (blk_put hG 0 a rfl) 1 b rfl) 2 c rfl, ?_⟩
  have h1 := Kd.R_types hR hG (by decide)
  have h2 := Kd.R_far (p := ⟨g, 2, none⟩) (Kd.R_far (p := ⟨g, 1, none⟩) (Kd.R_far (p := ⟨g, 0, none⟩) h1 (fun _ hk => hk.2) a) (fun _ hk => hk.2) b) (fun _ hk => hk.2) c
  obtain ⟨A', c', e, _, hC⟩ := Kd.R_reads h2
  cases e
  exact hC
theorem below_set3 {wq w3 : World} {g : Nat} {a b c : Value} (h : Below wq.heap.size wq w3) (hg : wq.heap.size ≤ g) : Below wq.heap.size wq (((w3.setCell ⟨g, 0, none⟩ a).setCell ⟨g, 1, none⟩ b).setCell ⟨g, 2, none⟩ c) :=
  Below.setCell (Below.setCell (Below.setCell h hg _) hg _) hg _

theorem one_cells {W : World} {g : Nat} {b : S52} (h : W.heap[g]? = some (.cells #[.int .i64 b.f0, .int .i64 b.f1, .int .i64 b.f2] 52 (0, 0))) : Kd.C k52 W (some ⟨g, 0, none⟩) [b].length [b] := by
  refine ⟨rfl, by simp, fun _ => ⟨_, rfl, fun j p hj => ?_⟩⟩
  match j, hj with
  | 0, hj =>
    obtain rfl : b = p := by simpa using hj
    refine ⟨_, rfl, PCarveMore.k52_mk _ _, fun i u hu => ?_⟩
    rw [add_plain]
    match i, hu with
    | 0, hu => rw [← hu]; exact blk_cell h 0
    | 1, hu => rw [← hu]; exact blk_cell h 1
    | 2, hu => rw [← hu]; exact blk_cell h 2

set_option maxHeartbeats 8000000 in
set_option maxRecDepth 100000 in
theorem more_any (x y p q : Int) (bm : S52) (A : Option Addr) (c : Nat) (L : List S52) (w : World) (hr : Kd.C k52 w A L.length L) (hc : L.length ≤ c) :
    Calls Try.prog 7 #[.agg #[.int .i64 x, .int .i64 y, .slice A L.length c], .agg #[.int .i64 p, .int .i64 q], .agg #[.int .i64 bm.f0, .int .i64 bm.f1, .int .i64 bm.f2]] w fun e w' => e = .returned (.bool true) ∧ Below w.heap.size w w' := by
  have HR := Aside0.mk hr
  have HC := Aside0.mk hc
  clear hr hc
  have hu24 := Try.underlying24
  have hu52 := Try.underlying52
  have hu22 := Try.underlying22
  have hu50 := Try.underlying50
  go_enter Try.func7, Try.ntmps7
  go_wp2_with (first
    | (go_at_call 25
       go_must (refine (tame_out x y 20 _ _ L _ (Kd.C_alloc (Kd.C_alloc (Kd.C_alloc HR.out _) _) _) HC.out (by decide) (by decide)).mono ?_)
       rintro e wa ⟨Wd, Ht, T, Ao, co, rfl, hT⟩
       have HT := Aside0.mk hT
       clear hT))
  have hsz : w.heap.size + 1 + 1 < wa.heap.size := by have := HT.out.below.size; simp at this; omega
  have HX := Aside0.mk (heap_alloc_new wa (.cells #[.int .i64 (Wd : Int), .int .i64 (Ht : Int), .slice Ao T.length co] 24))
  have hby : wa.heap[w.heap.size + 1]? = some (.cells #[.int .i64 p, .int .i64 q] 50) := by
    refine (HT.out.below.block (w.heap.size + 1) (by simp)).trans ?_
    exact (Below.heap_alloc _ _ _ (by simp)).trans (blk_second w _ _)
  have HBY := Aside0.mk (blk_alloc hby (.cells #[.int .i64 (Wd : Int), .int .i64 (Ht : Int), .slice Ao T.length co] 24))
  have hbm : wa.heap[w.heap.size + 1 + 1]? = some (.cells #[.int .i64 bm.f0, .int .i64 bm.f1, .int .i64 bm.f2] 52) := by
    refine (HT.out.below.block (w.heap.size + 1 + 1) (by simp)).trans ?_
    have h := heap_alloc_new ((w.alloc (.cells #[.int .i64 x, .int .i64 y, .slice A L.length c] 24)).alloc (.cells #[.int .i64 p, .int .i64 q] 50)) (.cells #[.int .i64 bm.f0, .int .i64 bm.f1, .int .i64 bm.f2] 52)
    rwa [show ((w.alloc (.cells #[.int .i64 x, .int .i64 y, .slice A L.length c] 24)).alloc (.cells #[.int .i64 p, .int .i64 q] 50)).heap.size = w.heap.size + 1 + 1 by simp] at h
  have HBM := Aside0.mk (blk_alloc hbm (.cells #[.int .i64 (Wd : Int), .int .i64 (Ht : Int), .slice Ao T.length co] 24))
  have HB0 := Aside0.mk (below_then (below_alloc (below_alloc (below_alloc (Below.refl w.heap.size w) (.cells #[.int .i64 x, .int .i64 y, .slice A L.length c] 24)) (.cells #[.int .i64 p, .int .i64 q] 50)) (.cells #[.int .i64 bm.f0, .int .i64 bm.f1, .int .i64 bm.f2] 52)) (by simp; omega) HT.out.below)
  have HCq := Aside0.mk (Kd.C_alloc HT.out.cells (.cells #[.int .i64 (Wd : Int), .int .i64 (Ht : Int), .slice Ao T.length co] 24))
  have HBq := Aside0.mk (below_alloc (Below.refl wa.heap.size wa) (.cells #[.int .i64 (Wd : Int), .int .i64 (Ht : Int), .slice Ao T.length co] 24))
  clear hby hbm
  have hlx := blk_lt HX.out
  have hlb := blk_lt HBY.out
  have hlm := blk_lt HBM.out
  generalize wa.alloc (.cells #[.int .i64 (Wd : Int), .int .i64 (Ht : Int), .slice Ao T.length co] 24) = wq at HX HBY HBM HCq HBq hlx hlb hlm ⊢
  have q0 := (blk_cell HX.out 0).trans rfl
  have q1 := (blk_cell HX.out 1).trans rfl
  have q2 := (blk_cell HX.out 2).trans rfl
  have y0 := (blk_cell HBY.out 0).trans rfl
  have y1 := (blk_cell HBY.out 1).trans rfl
  have HKQ : Aside0 (∀ w', Below wq.heap.size wq w' → (Below wq.heap.size wq w' ∧ wq.heap.size ≤ w'.heap.size ∧ w'.cell? ⟨wa.heap.size, 0, none⟩ = some (.int .i64 (Wd : Int)) ∧ w'.cell? ⟨wa.heap.size, 1, none⟩ = some (.int .i64 (Ht : Int)) ∧ w'.cell? ⟨wa.heap.size, 2, none⟩ = some (.slice Ao T.length co) ∧ w'.cell? ⟨w.heap.size + 1, 0, none⟩ = some (.int .i64 p) ∧ w'.cell? ⟨w.heap.size + 1, 1, none⟩ = some (.int .i64 q))) := ⟨fun w' hb => ⟨hb, hb.size, pw_cell_below hb q0, pw_cell_below hb q1, pw_cell_below hb q2, pw_cell_below hb y0, pw_cell_below hb y1⟩⟩
  have ha0 := modI_in p (n := 4) (by omega)
  have hb0 := modI_in q (n := 4) (by omega)
  obtain ⟨a, hA⟩ : ∃ a : Nat, modI p 4 = a := ⟨(modI p 4).toNat, by omega⟩
  obtain ⟨b, hB⟩ : ∃ b : Nat, modI q 4 = b := ⟨(modI q 4).toNat, by omega⟩
  rw [hA] at ha0
  rw [hB] at hb0
  have M0 : Aside0 (∀ W, Calls Try.prog 26 #[.int .i64 p, .int .i64 4] W fun e w' => e = .returned (.int .i64 a) ∧ Below W.heap.size W w') := ⟨fun W => hA ▸ mod_any p 4 W (by omega) (by omega)⟩
  have M1 : Aside0 (∀ W, Calls Try.prog 26 #[.int .i64 q, .int .i64 4] W fun e w' => e = .returned (.int .i64 b) ∧ Below W.heap.size W w') := ⟨fun W => hB ▸ mod_any q 4 W (by omega) (by omega)⟩
  clear hA hB
  obtain ⟨WW, hWW⟩ : ∃ WW, WW = Wd + a := ⟨_, rfl⟩
  obtain ⟨HH, hHH⟩ : ∃ HH, HH = Ht + b := ⟨_, rfl⟩
  have hwm := HT.out.wm
  have hhm := HT.out.hm
  have hw1 := HT.out.w1
  have hh1 := HT.out.h1
  have s1 : IntKind.i64.wrap ((Wd : Int) + a) = (WW : Int) := by rw [i64_w, hWW]; unfold wrap64; omega
  have s2 : IntKind.i64.wrap ((Ht : Int) + b) = (HH : Int) := by rw [i64_w, hHH]; unfold wrap64; omega
  have M2 : Aside0 (∀ W, Below wq.heap.size wq W → Calls Try.prog 25 #[.agg #[.int .i64 WW, .int .i64 HH, .slice Ao T.length co], .int .i64 48] W fun e w' => ∃ A2 c2, e = .returned (.agg #[.int .i64 WW, .int .i64 HH, .slice A2 T.length c2]) ∧ Kd.R k52 52 w' W.heap.size (fun _ => True) (.slice A2 T.length c2) T ∧ T.length ≤ c2 ∧ Below W.heap.size W w') := ⟨fun W hW => tame_same (m := 48) (Kd.C_below HCq.out hW) HT.out.c HT.out.ok HT.out.n (by omega) (by omega) (by omega) (by omega) (by omega)⟩
  have HWW := Aside0.mk hWW
  have HHH := Aside0.mk hHH
  clear q0 q1 q2 y0 y1 hWW hHH hwm hhm hw1 hh1
  go_region_held3 (fun w' => (Below wq.heap.size wq w' ∧ wq.heap.size ≤ w'.heap.size ∧ w'.cell? ⟨wa.heap.size, 0, none⟩ = some (.int .i64 (Wd : Int)) ∧ w'.cell? ⟨wa.heap.size, 1, none⟩ = some (.int .i64 (Ht : Int)) ∧ w'.cell? ⟨wa.heap.size, 2, none⟩ = some (.slice Ao T.length co) ∧ w'.cell? ⟨w.heap.size + 1, 0, none⟩ = some (.int .i64 p) ∧ w'.cell? ⟨w.heap.size + 1, 1, none⟩ = some (.int .i64 q)))
    (first
      | exact HKQ.out _ (below_drew (Below.refl _ _))
      | (go_split_ands; exact HKQ.out _ (below_on (by assumption) b3))
      | (go_split_ands; exact HKQ.out _ (below_on (by assumption) b2))
      | (go_split_ands; exact HKQ.out _ (below_on (by assumption) b1))
      | (go_split_ands; exact HKQ.out _ (below_on (by assumption) (below_alloc (Below.refl _ _) _)))
      | exact HKQ.out _ (below_alloc (below_on (below_on (below_on (below_drew (Below.refl _ _)) b1) b2) b3) _)
      | (go_split_ands; exact HKQ.out _ (Below.setCell (Below.setCell (Below.setCell (by assumption) (by first | (simp; done) | (have s1 := b1.size; simp at s1 ⊢; omega) | (have s1 := b1.size; have s2 := b2.size; simp at s1 s2 ⊢; omega) | (have s1 := b1.size; have s2 := b2.size; have s3 := b3.size; simp at s1 s2 s3 ⊢; omega)) _) (by first | (simp; done) | (have s1 := b1.size; simp at s1 ⊢; omega) | (have s1 := b1.size; have s2 := b2.size; simp at s1 s2 ⊢; omega) | (have s1 := b1.size; have s2 := b2.size; have s3 := b3.size; simp at s1 s2 s3 ⊢; omega)) _) (by first | (simp; done) | (have s1 := b1.size; simp at s1 ⊢; omega) | (have s1 := b1.size; have s2 := b2.size; simp at s1 s2 ⊢; omega) | (have s1 := b1.size; have s2 := b2.size; have s3 := b3.size; simp at s1 s2 s3 ⊢; omega)) _)))
    (first
      | (go_at_call 26; (with_reducible refine (M0.out _).mono ?_); rintro e w1 ⟨rfl, b1⟩; (first | (have HG := Aside0.mk (alloc_keep' b1)) | (have HG := Aside0.mk (alloc_keep b1)) | (replace HG := Aside0.mk (blk_keep HG.out b1)) | skip))
      | (go_at_call 26; (with_reducible refine (M1.out _).mono ?_); rintro e w2 ⟨rfl, b2⟩; (first | (have HG := Aside0.mk (alloc_keep b2)) | (replace HG := Aside0.mk (blk_keep HG.out b2)) | skip))
      | (go_at_call 25; (with_reducible refine (M2.out _ ?_).mono ?_); (focus (first | exact below_drew (Below.refl _ _) | (go_split_ands; assumption))); rintro e w3 ⟨A2, c2, rfl, hR3, hc2, b3⟩; (first | (have HG := Aside0.mk (alloc_keep b3)) | (replace HG := Aside0.mk (blk_keep HG.out b3)) | skip); try (have z0 := (blk_cell HG.out 0).trans rfl; have z1 := (blk_cell HG.out 1).trans rfl; have z2 := (blk_cell HG.out 2).trans rfl; have f0 := blk_frozen HG.out 0; have f1 := blk_frozen HG.out 1; have f2 := blk_frozen HG.out 2; have lG := blk_lt HG.out)))
  all_goals (go_wp2_with fail)
  all_goals
    have c1 : Below wq.heap.size wq w1 := by first | exact below_on (below_drew (Below.refl wq.heap.size wq)) b1 | exact below_un' b1
    have c2' : Below w1.heap.size w1 w2 := by first | exact b2 | exact below_un b2
    have c3 : Below w2.heap.size w2 w3 := by first | exact b3 | exact below_un b3
    have HS1 := c1.size
    have HS2 := (below_on c1 c2').size
    have hB3 := below_on (below_on c1 c2') c3
  have h5 : (w3.alloc (.cells #[.int .i64 (WW : Int), .int .i64 (HH : Int), .slice A2 T.length c2] 24)).heap[w3.heap.size]? = some (.cells #[.int .i64 (WW : Int), .int .i64 (HH : Int), .slice A2 T.length c2] 24 (0, 0)) ∧ Kd.C k52 (w3.alloc (.cells #[.int .i64 (WW : Int), .int .i64 (HH : Int), .slice A2 T.length c2] 24)) A2 T.length T := ⟨heap_alloc_new w3 _, by
    obtain ⟨A', c', e, _, hC⟩ := Kd.R_reads hR3
    cases e
    exact Kd.C_alloc hC _⟩
  have hBW := below_alloc hB3 (.cells #[.int .i64 (WW : Int), .int .i64 (HH : Int), .slice A2 T.length c2] 24)
  generalize w3.alloc (.cells #[.int .i64 (WW : Int), .int .i64 (HH : Int), .slice A2 T.length c2] 24) = W5 at h5 hBW ⊢
  generalize w3.heap.size = gw at h5 ⊢
  rotate_left
  have h5 := set3_keep (a := .int .i64 (WW : Int)) (b := .int .i64 (HH : Int)) (c := .slice A2 T.length c2) HG.out hR3
  have hBW := below_set3 (a := .int .i64 (WW : Int)) (b := .int .i64 (HH : Int)) (c := .slice A2 T.length c2) hB3 (show wq.heap.size ≤ w2.heap.size by have := HS1; have := HS2; omega)
  generalize (((w3.setCell ⟨w2.heap.size, 0, none⟩ (.int .i64 (WW : Int))).setCell ⟨w2.heap.size, 1, none⟩ (.int .i64 (HH : Int))).setCell ⟨w2.heap.size, 2, none⟩ (.slice A2 T.length c2)) = W5 at h5 hBW ⊢
  generalize w2.heap.size = gw at h5 ⊢
  rotate_left
  have h5 := set3_keep (a := .int .i64 (WW : Int)) (b := .int .i64 (HH : Int)) (c := .slice A2 T.length c2) HG.out hR3
  have hBW := below_set3 (a := .int .i64 (WW : Int)) (b := .int .i64 (HH : Int)) (c := .slice A2 T.length c2) hB3 (show wq.heap.size ≤ w1.heap.size by have := HS1; have := HS2; omega)
  generalize (((w3.setCell ⟨w1.heap.size, 0, none⟩ (.int .i64 (WW : Int))).setCell ⟨w1.heap.size, 1, none⟩ (.int .i64 (HH : Int))).setCell ⟨w1.heap.size, 2, none⟩ (.slice A2 T.length c2)) = W5 at h5 hBW ⊢
  generalize w1.heap.size = gw at h5 ⊢
  rotate_left
  have h5 := set3_keep (a := .int .i64 (WW : Int)) (b := .int .i64 (HH : Int)) (c := .slice A2 T.length c2) HG.out hR3
  have hBW := below_set3 (a := .int .i64 (WW : Int)) (b := .int .i64 (HH : Int)) (c := .slice A2 T.length c2) hB3 (show wq.heap.size ≤ wq.heap.size by have := HS1; have := HS2; omega)
  generalize (((w3.setCell ⟨wq.heap.size, 0, none⟩ (.int .i64 (WW : Int))).setCell ⟨wq.heap.size, 1, none⟩ (.int .i64 (HH : Int))).setCell ⟨wq.heap.size, 2, none⟩ (.slice A2 T.length c2)) = W5 at h5 hBW ⊢
  generalize wq.heap.size = gw at h5 ⊢
  rotate_left
  all_goals
    have HBW := Aside0.mk hBW
    have HGW := Aside0.mk h5.1
    have hCW := h5.2
    have hX5 := blk_keep HX.out hBW
    have HX5 := Aside0.mk hX5
    have HBM5 := Aside0.mk (blk_keep HBM.out hBW)
    have hc5 := hc2
    have q0 := (blk_cell hX5 0).trans rfl
    have q1 := (blk_cell hX5 1).trans rfl
    have q2 := (blk_cell hX5 2).trans rfl
    have z0 := (blk_cell h5.1 0).trans rfl
    have z1 := (blk_cell h5.1 1).trans rfl
    have z2 := (blk_cell h5.1 2).trans rfl
    have hC5 := Kd.C_below HCq.out hBW
    clear hR3 hc2 b1 b2 b3 c1 c2' c3 HS1 HS2 hB3 hBW h5 hX5
    try clear HG
    try clear lG f0 f1 f2
    clear HKQ M0 M1 M2 s1 s2
    have HCO := Aside0.mk (show ∀ W, Below W5.heap.size W5 W → Calls Try.prog 27 #[.agg #[.int .i64 (Wd : Int), .int .i64 (Ht : Int), .slice Ao T.length co]] W fun e w' => e = .returned (.int .i64 (bestV T Wd Ht)) ∧ Below W.heap.size W w' from fun W hW => best_of (Kd.C_below hC5 hW) HT.out.c HT.out.w1 (by have := HT.out.wm; omega) HT.out.h1 (by have := HT.out.hm; omega) HT.out.n HT.out.ok)
    have HCD := Aside0.mk (show ∀ W, Below W5.heap.size W5 W → Calls Try.prog 27 #[.agg #[.int .i64 (WW : Int), .int .i64 (HH : Int), .slice A2 T.length c2]] W fun e w' => e = .returned (.int .i64 (bestV T WW HH)) ∧ Below W.heap.size W w' from fun W hW => best_of (Kd.C_below hCW hW) hc5 (by have := HT.out.w1; have := HWW.out; omega) (by have := HT.out.wm; have := HWW.out; omega) (by have := HT.out.h1; have := HHH.out; omega) (by have := HT.out.hm; have := HHH.out; omega) HT.out.n HT.out.ok)
    have hge := bestV_larger HT.out.ok (i := Wd) (j := Ht) (i' := WW) (j' := HH) (by have := HWW.out; omega) (by have := HHH.out; omega) (by have := HT.out.wm; have := HWW.out; omega) (by have := HT.out.hm; have := HHH.out; omega)
    have hnn := bestV_nonneg HT.out.ok (i := Wd) (j := Ht) (by have := HT.out.wm; omega) (by have := HT.out.hm; omega)
    obtain ⟨bv, hbv⟩ : ∃ bv, bv = bestV T Wd Ht := ⟨_, rfl⟩
    obtain ⟨bw, hbw⟩ : ∃ bw, bw = bestV T WW HH := ⟨_, rfl⟩
    rw [← hbv] at HCO hge hnn
    rw [← hbw] at HCD hge
    have HBV := Aside0.mk hbv
    clear hbv hbw hCW hc5
    have HC5 := Aside0.mk hC5
    clear hC5
    have HKQ : Aside0 (∀ w', Below W5.heap.size W5 w' → (Below W5.heap.size W5 w' ∧ w'.cell? ⟨wa.heap.size, 0, none⟩ = some (.int .i64 (Wd : Int)) ∧ w'.cell? ⟨wa.heap.size, 1, none⟩ = some (.int .i64 (Ht : Int)) ∧ w'.cell? ⟨wa.heap.size, 2, none⟩ = some (.slice Ao T.length co) ∧ w'.cell? ⟨gw, 0, none⟩ = some (.int .i64 (WW : Int)) ∧ w'.cell? ⟨gw, 1, none⟩ = some (.int .i64 (HH : Int)) ∧ w'.cell? ⟨gw, 2, none⟩ = some (.slice A2 T.length c2))) := ⟨fun w' hb => ⟨hb, pw_cell_below hb q0, pw_cell_below hb q1, pw_cell_below hb q2, pw_cell_below hb z0, pw_cell_below hb z1, pw_cell_below hb z2⟩⟩
    go_region_held3 (fun w' => (Below W5.heap.size W5 w' ∧ w'.cell? ⟨wa.heap.size, 0, none⟩ = some (.int .i64 (Wd : Int)) ∧ w'.cell? ⟨wa.heap.size, 1, none⟩ = some (.int .i64 (Ht : Int)) ∧ w'.cell? ⟨wa.heap.size, 2, none⟩ = some (.slice Ao T.length co) ∧ w'.cell? ⟨gw, 0, none⟩ = some (.int .i64 (WW : Int)) ∧ w'.cell? ⟨gw, 1, none⟩ = some (.int .i64 (HH : Int)) ∧ w'.cell? ⟨gw, 2, none⟩ = some (.slice A2 T.length c2)))
      (first
        | exact HKQ.out _ (below_drew (Below.refl _ _))
        | (go_split_ands; exact HKQ.out _ (below_on (by assumption) b7))
        | (go_split_ands; exact HKQ.out _ (below_on (by assumption) b6)))
      (first
        | (go_at_call 27; (with_reducible refine (HCO.out _ ?_).mono ?_); (focus (first | exact below_drew (Below.refl _ _) | (go_split_ands; assumption))); rintro e w6 ⟨rfl, b6⟩)
        | (go_at_call 27; (with_reducible refine (HCD.out _ ?_).mono ?_); (focus (first | exact below_drew (Below.refl _ _) | (go_split_ands; assumption))); rintro e w7 ⟨rfl, b7⟩))
    all_goals (go_wp2_with fail)
    all_goals
      have hB7 := below_on (below_on (below_drew (Below.refl W5.heap.size W5)) b6) b7
      have HX7 := Aside0.mk (blk_keep HX5.out hB7)
      have HBM7 := Aside0.mk (blk_keep HBM5.out hB7)
      have HGW7 := Aside0.mk (blk_keep HGW.out hB7)
      have HB7 := Aside0.mk (below_on HBW.out hB7)
      have hC7 := Kd.C_below HC5.out hB7
      have HF8 := Aside0.mk (heap_alloc_new w7 (.cells #[.int .i64 (Wd : Int), .int .i64 (Ht : Int), .slice Ao T.length co] 24))
      clear b6 b7 hB7 HKQ HCO HCD q0 q1 q2 z0 z1 z2 HC5 HX5 HBM5 HGW HBW
      have q0 := (blk_cell HX7.out 0).trans rfl
      have q1 := (blk_cell HX7.out 1).trans rfl
      have q2 := (blk_cell HX7.out 2).trans rfl
      have m0 := (blk_cell HBM7.out 0).trans rfl
      have m1 := (blk_cell HBM7.out 1).trans rfl
      have m2 := (blk_cell HBM7.out 2).trans rfl
      have hTn := HT.out.n
      have hfd : ∀ (A4 : Option Addr) (c4 : Nat) (w : World), (Instr.field 24 (.agg #[.int .i64 1, .int .i64 1, .slice A4 1 c4]) 2).run Try.prog w = .ok (.slice A4 1 c4) w := fun _ _ _ => by kernel_rfl
      have M3 := Aside0.mk (show ∀ W, Below w7.heap.size w7 W → Calls Try.prog 13 #[.slice Ao T.length co] W fun e w' => ∃ v, e = .returned v ∧ Kd.R k52 52 w' W.heap.size (fun _ => True) v T ∧ Below W.heap.size W w' from fun W hW => blanks_any (Kd.C_below hC7 hW) HT.out.c HT.out.n)
      have HC7 := Aside0.mk hC7
      clear hC7
      have HKF : Aside0 (∀ w', Below w7.heap.size w7 w' → (Below w7.heap.size w7 w' ∧ w'.cell? ⟨wa.heap.size, 0, none⟩ = some (.int .i64 (Wd : Int)) ∧ w'.cell? ⟨wa.heap.size, 1, none⟩ = some (.int .i64 (Ht : Int)) ∧ w'.cell? ⟨wa.heap.size, 2, none⟩ = some (.slice Ao T.length co) ∧ w'.cell? ⟨w.heap.size + 1 + 1, 0, none⟩ = some (.int .i64 bm.f0) ∧ w'.cell? ⟨w.heap.size + 1 + 1, 1, none⟩ = some (.int .i64 bm.f1) ∧ w'.cell? ⟨w.heap.size + 1 + 1, 2, none⟩ = some (.int .i64 bm.f2))) := ⟨fun w' hb => ⟨hb, pw_cell_below hb q0, pw_cell_below hb q1, pw_cell_below hb q2, pw_cell_below hb m0, pw_cell_below hb m1, pw_cell_below hb m2⟩⟩
      go_region_held3 (fun w' => (Below w7.heap.size w7 w' ∧ w'.cell? ⟨wa.heap.size, 0, none⟩ = some (.int .i64 (Wd : Int)) ∧ w'.cell? ⟨wa.heap.size, 1, none⟩ = some (.int .i64 (Ht : Int)) ∧ w'.cell? ⟨wa.heap.size, 2, none⟩ = some (.slice Ao T.length co) ∧ w'.cell? ⟨w.heap.size + 1 + 1, 0, none⟩ = some (.int .i64 bm.f0) ∧ w'.cell? ⟨w.heap.size + 1 + 1, 1, none⟩ = some (.int .i64 bm.f1) ∧ w'.cell? ⟨w.heap.size + 1 + 1, 2, none⟩ = some (.int .i64 bm.f2)))
        (first
          | exact HKF.out _ (below_drew (below_alloc (Below.refl _ _) _))
          | exact HKF.out _ (Below.setCell HB11.out (Nat.le_refl _) _)
          | exact HKF.out _ HB11.out
          | (go_split_ands; exact HKF.out _ (below_on (by assumption) b10))
          | (go_split_ands; exact HKF.out _ (below_on (by assumption) b9))
          | (go_split_ands; exact HKF.out _ (below_on (by assumption) (below_alloc (Below.refl _ _) _))))
        (first
          | (go_at_call 13; (with_reducible refine (M3.out _ ?_).mono ?_); (focus (first | exact below_drew (below_alloc (Below.refl _ _) _) | (go_split_ands; assumption))); rintro e w9 ⟨vb, rfl, hR9, b9⟩; have HF9 := Aside0.mk (blk_keep (by first | exact HF8.out | exact blk_alloc HF8.out _) b9); have HO9 : Aside0 (Kd.R k52 52 w9 w7.heap.size (fun _ => True) vb T) := ⟨Kd.R_lower hR9 (by first | omega | (simp; done) | (simp; omega))⟩)
          | (go_at_call 25; (refine (tame_one (b := bm) (c := 1) ?_ (by simp)).mono ?_); (focus (first | exact one_cells (heap_alloc_new _ _) | exact one_cells (alloc_keep b9) | exact one_cells (alloc_keep' b9) | (have hbb := alloc_keep' b9; rw [World.alloc_size'] at hbb; exact one_cells hbb))); rintro e w10 ⟨A4, c4, rfl, hC10, hc4, b10⟩; have HF10 := Aside0.mk (blk_keep (by first | exact HF9.out | exact blk_alloc HF9.out _) b10); have HO10 : Kd.R k52 52 w10 w7.heap.size (fun _ => True) vb T := (by first | exact Kd.R_below HO9.out b10 | exact Kd.R_below (Kd.R_alloc HO9.out _) b10))
          | (refine Kd.R_append_rows_step k52 (w0 := w7) w7.heap.size (by rfl) (.tmp 46) (.tmp 51) 22 52 (.agg #[(.int .i64 0), (.int .i64 0), (.int .i64 0)]) 24 rfl Try.underlying22 info52 rfl (by decide) (by decide) vb T [tB bm] _ _ _ (fun _ => True) (fun _ => False) rfl rfl HO10 hC10 (fun _ _ h => h) (fun _ hk => hk.elim) (fun _ _ => trivial) (by go_split_ands; assumption) (by have hhh : Below w7.heap.size w7 w10 := (by go_split_ands; assumption); exact hhh.size) (by omega) ?_
             intro v1 w11 ho11 hb11 hg11 hat11
             have HF11 := Aside0.mk (blk_grown HF10.out hg11 (Kd.R_ne HO10 HF10.out (by decide)))
             obtain ⟨T5, hT5⟩ : ∃ T5, T5 = T ++ [tB bm] := ⟨_, rfl⟩
             rw [← hT5] at ho11
             have HT5 := Aside0.mk hT5
             clear hT5
             obtain ⟨A5, c5, rfl⟩ := Kd.R_slice ho11
             have HO11 := Aside0.mk ho11
             have HB11 := Aside0.mk hb11
             have t2 := (blk_cell HF11.out 2).trans rfl
             have hft2 := blk_frozen HF11.out 2
             have hlt2 := blk_lt HF11.out
             clear ho11 hb11 hg11 hat11))
      all_goals
        have hF12 := blk_put HF11.out 2 (.slice A5 T5.length c5) rfl
        have h12 := Kd.R_reads (Kd.R_far (p := ⟨w7.heap.size, 2, none⟩) (Kd.R_types HO11.out HF11.out (by decide)) (fun _ hk => hk.2) (.slice A5 T5.length c5))
        have hB12 := HB11.out.setCell (p := ⟨w7.heap.size, 2, none⟩) (Nat.le_refl w7.heap.size) (.slice A5 T5.length c5)
        have hX12 := blk_keep HX7.out hB12
        have HB12 := Aside0.mk (below_on HB7.out hB12)
        clear hB12
        clear HF11 HO11 HB11 t2 hft2 hlt2 q0 q1 q2 m0 m1 m2 HKF M3 HF8 HF9 HF10 HO9 HO10 hC10 hR9 b9 b10 HX7 HBM7 HGW7 HB7 HC7
        generalize w11.setCell ⟨w7.heap.size, 2, none⟩ (.slice A5 T5.length c5) = w12 at hF12 h12 hX12 HB12 ⊢
        generalize w7.heap.size = gf at hF12 ⊢
        obtain ⟨A', c', e5, hc6, hC12⟩ := h12
        cases e5
        have l5 : T5.length = T.length + 1 := by rw [HT5.out]; simp
        have hbok := tB_ok bm
        have h5ok : OkL T5 := HT5.out ▸ more_ok HT.out.ok hbok
        have q0 := (blk_cell hX12 0).trans rfl
        have q1 := (blk_cell hX12 1).trans rfl
        have q2 := (blk_cell hX12 2).trans rfl
        have t0 := (blk_cell hF12 0).trans rfl
        have t1 := (blk_cell hF12 1).trans rfl
        have t2 := (blk_cell hF12 2).trans rfl
        have hlx := blk_lt hX12
        have hlf := blk_lt hF12
        have HX12 := Aside0.mk hX12
        have HF12 := Aside0.mk hF12
        clear hX12 hF12
        by_cases h16 : 16 < T5.length
        · have h16' : (16 : Int) < (T5.length : Int) := by omega
          have H5 := Aside0.mk h5ok
          have HBO := Aside0.mk hbok
          have HC12 := Aside0.mk hC12
          clear h5ok hbok hC12
          go_wp2_with (first
            | (go_at_call 19
               (with_reducible refine (awake_any _).mono ?_)
               rintro e w14 ⟨rfl, b14⟩))
          go_ret
          exact ⟨by simp [go_sem], below_on (below_on HB0.out (below_on HBq.out HB12.out)) b14⟩
        · have h16' : ¬ (16 : Int) < (T5.length : Int) := by omega
          have HCF := Aside0.mk (show Calls Try.prog 27 #[.agg #[.int .i64 (Wd : Int), .int .i64 (Ht : Int), .slice A5 T5.length c5]] w12 fun e w' => e = .returned (.int .i64 (bestV T5 Wd Ht)) ∧ Below w12.heap.size w12 w' from best_of hC12 hc6 HT.out.w1 (by have := HT.out.wm; omega) HT.out.h1 (by have := HT.out.hm; omega) (by omega) h5ok)
          have k1 := more_ge (b := tB bm) HT.out.ok hbok (i := Wd) (j := Ht) (by have := HT.out.wm; omega) (by have := HT.out.hm; omega)
          have k2 := fun h0 h1 => more_fit (b := tB bm) HT.out.ok hbok (i := Wd) (j := Ht) HT.out.w1 (by have := HT.out.wm; omega) HT.out.h1 (by have := HT.out.hm; omega) h0 h1
          have k3 := fun hn => more_eq (b := tB bm) HT.out.ok hbok (w := Wd) (h := Ht) (by have := HT.out.wm; omega) (by have := HT.out.hm; omega) hn
          rw [← HT5.out, ← HBV.out] at k1 k3
          rw [← HT5.out] at k2
          have hlast : blankAt T5 (T5.length - 1) = tB bm := by rw [l5, Nat.add_sub_cancel, HT5.out]; exact blankAt_last
          generalize tB bm = bb at *
          generalize hk : bestV T5 Wd Ht = kv at *
          clear hk
          have hix1 : 0 < T5.length := by omega
          have H5 := Aside0.mk h5ok
          have HBO := Aside0.mk hbok
          have HC12 := Aside0.mk hC12
          have HLA := Aside0.mk hlast
          have HK2 := Aside0.mk k2
          have HK3 := Aside0.mk k3
          have HL5 := Aside0.mk l5
          clear h5ok hbok hC12 hlast k2 k3 l5
          by_cases hf : bb.f0 ≤ (Wd : Int) ∧ bb.f1 ≤ (Ht : Int)
          · have kk := HK2.out hf.1 hf.2
            have HFt := Aside0.mk (show ∀ W, Calls Try.prog 28 #[.agg #[.int .i64 bb.f0, .int .i64 bb.f1, .int .i64 bb.f2], .int .i64 (Wd : Int), .int .i64 (Ht : Int)] W fun e w' => e = .returned (.bool true) ∧ Below W.heap.size W w' from fun W => by
              have h := fits_any bb (Wd : Int) (Ht : Int) W
              rwa [decide_eq_true hf] at h)
            clear hf
            go_wp2_with (first
                | (go_at_call 27
                   (with_reducible refine HCF.out.mono ?_)
                   rintro e w13 ⟨rfl, b13⟩
                   have hX13 := blk_keep HX12.out b13
                   have hF13 := blk_keep HF12.out b13
                   obtain ⟨ad, rfl, u0, u1, u2⟩ := blank_cells HC12.out b13 (T5.length - 1) (by have := HL5.out; omega)
                   rw [HLA.out] at u0 u1 u2
                   have HX13 := Aside0.mk hX13
                   have q0' := (blk_cell hX13 0).trans rfl
                   have q1' := (blk_cell hX13 1).trans rfl
                   have t2' := (blk_cell hF13 2).trans rfl
                   have hlx' := blk_lt hX13
                   have HB13 := Aside0.mk b13
                   clear hX13 hF13 b13)
                | (go_at_call 28
                   (with_reducible refine (HFt.out _).mono ?_)
                   rintro e w15 ⟨rfl, b15⟩
                   have hXx := blk_keep (blk_alloc HX13.out _) b15
                   have hbx := blk_keep (heap_alloc_new w13 _) b15
                   have qq0 := (blk_cell hXx 0).trans rfl
                   have qq1 := (blk_cell hXx 1).trans rfl
                   have bb0 := (blk_cell hbx 0).trans rfl
                   have bb1 := (blk_cell hbx 1).trans rfl
                   have bb2 := (blk_cell hbx 2).trans rfl
                   have hlxx := blk_lt hXx
                   have hlbb := blk_lt hbx
                   have HB15 := Aside0.mk (below_on (below_alloc (below_on (below_on HB0.out (below_on HBq.out HB12.out)) HB13.out) _) b15)
                   clear hXx hbx b15)
                | (go_at_call 19
                   (with_reducible refine (awake_any _).mono ?_)
                   rintro e w14 ⟨rfl, b14⟩))
            go_ret
            exact ⟨by simp [go_sem], below_on HB15.out b14⟩
          · have kk := HK3.out hf
            subst kk
            have HFt := Aside0.mk (show ∀ W, Calls Try.prog 28 #[.agg #[.int .i64 bb.f0, .int .i64 bb.f1, .int .i64 bb.f2], .int .i64 (Wd : Int), .int .i64 (Ht : Int)] W fun e w' => e = .returned (.bool false) ∧ Below W.heap.size W w' from fun W => by
              have h := fits_any bb (Wd : Int) (Ht : Int) W
              rwa [decide_eq_false hf] at h)
            clear hf
            go_wp2_with (first
                | (go_at_call 27
                   (with_reducible refine HCF.out.mono ?_)
                   rintro e w13 ⟨rfl, b13⟩
                   have hX13 := blk_keep HX12.out b13
                   have hF13 := blk_keep HF12.out b13
                   obtain ⟨ad, rfl, u0, u1, u2⟩ := blank_cells HC12.out b13 (T5.length - 1) (by have := HL5.out; omega)
                   rw [HLA.out] at u0 u1 u2
                   have HX13 := Aside0.mk hX13
                   have q0' := (blk_cell hX13 0).trans rfl
                   have q1' := (blk_cell hX13 1).trans rfl
                   have t2' := (blk_cell hF13 2).trans rfl
                   have hlx' := blk_lt hX13
                   have HB13 := Aside0.mk b13
                   clear hX13 hF13 b13)
                | (go_at_call 28
                   (with_reducible refine (HFt.out w15).mono ?_)
                   rintro e w16 ⟨rfl, b16⟩
                   have HB16 := Aside0.mk (below_on HB15.out b16))
                | (go_at_call 28
                   (with_reducible refine (HFt.out _).mono ?_)
                   rintro e w15 ⟨rfl, b15⟩
                   have hXx := blk_keep (blk_alloc HX13.out _) b15
                   have hbx := blk_keep (heap_alloc_new w13 _) b15
                   have qq0 := (blk_cell hXx 0).trans rfl
                   have qq1 := (blk_cell hXx 1).trans rfl
                   have bb0 := (blk_cell hbx 0).trans rfl
                   have bb1 := (blk_cell hbx 1).trans rfl
                   have bb2 := (blk_cell hbx 2).trans rfl
                   have hlxx := blk_lt hXx
                   have hlbb := blk_lt hbx
                   have HB15 := Aside0.mk (below_on (below_alloc (below_on (below_on HB0.out (below_on HBq.out HB12.out)) HB13.out) _) b15)
                   clear hXx hbx b15)
                | (go_at_call 19
                   (with_reducible refine (awake_any _).mono ?_)
                   rintro e w14 ⟨rfl, b14⟩))
            go_ret
            exact ⟨by simp [go_sem], below_on HB16.out b14⟩

end Go.Proofs.Ytochbhndeboodaa
