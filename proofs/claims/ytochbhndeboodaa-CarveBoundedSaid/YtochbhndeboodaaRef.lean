/- The walks of the reference's read, two and Read: a plan is read as the plain function reads it. -/
import Derived.Test.YtochbhndeboodaaPiece
import Derived.Test.YtochbhndeboodaaPlainH
import Derived.Test.YtochbhndeboodaaPCarveMorex6
import Derived.StillTailTactics
namespace Go.Proofs.Ytochbhndeboodaa
set_option linter.unusedVariables false
set_option linter.unusedSimpArgs false
open Go.RowKit Go.Proofs.YtochbhndeboodaaW.PrintWords Go.Proofs.YtochbhndeboodaaW.PrintLast Go.Proofs.YtochbhndeboodaaW.PrintMore
open Go.Proofs.Ytochbhndeboodaa.PCarveMore (S52 S56 k52 k56)

theorem fits_is (b : S52) (x y : Int) (w : World) : Calls Try.prog 28 #[.agg #[.int .i64 b.f0, .int .i64 b.f1, .int .i64 b.f2], .int .i64 x, .int .i64 y] w fun e w' => e = .returned (.bool (decide (b.f0 ≤ x ∧ b.f1 ≤ y))) ∧ Below w.heap.size w w' := by
  refine PCarveMore.silversideref02_Fits.calls _ _ _ _ _ _ w ?_
  unfold PCarveMore.silversideref02_Fits.f
  by_cases h : b.f0 ≤ x <;> simp [h]

theorem blk_keep {W w' : World} {g : Nat} {o : Obj} (h : W.heap[g]? = some o) (b : Below W.heap.size W w') : w'.heap[g]? = some o := (b.block _ (blk_lt h)).trans h
theorem below_on {w a b : World} (h : Below w.heap.size w a) (hb : Below a.heap.size a b) : Below w.heap.size w b := below_then h h.size hb

theorem below_set4 {W w2 : World} {a b c d : Value} {o : Obj} (h : Below W.heap.size W w2) : Below W.heap.size W (((((w2.setCell ⟨W.heap.size, 0, none⟩ a).setCell ⟨W.heap.size, 1, none⟩ b).setCell ⟨W.heap.size, 2, none⟩ c).setCell ⟨W.heap.size, 3, none⟩ d).alloc o) :=
  below_alloc (Below.setCell (Below.setCell (Below.setCell (Below.setCell h (Nat.le_refl _) _) (Nat.le_refl _) _) (Nat.le_refl _) _) (Nat.le_refl _) _) o

def cutV (s v a : Int) (bad : Bool) : Value := .agg #[.int .i64 s, .int .i64 v, .int .i64 a, .bool bad]
/-- What read answers of the plan's rest. -/
def CutPost (x : Option (Int × Int × List S56)) (p : List S56) (k : Nat) (w : World) (e : Ending) (w' : World) : Prop :=
  Below w.heap.size w w' ∧ ((∃ (v a : Int) (m : Nat), x = some (v, a, p.drop (k + m)) ∧ k + m ≤ p.length ∧ e = .returned (cutV m v a false)) ∨ (∃ s v a, x = none ∧ e = .returned (cutV s v a true)))

def RefSpec (L : List S52) (p : List S56) (A Ap : Option Addr) (c cp : Nat) (w0 : World) (n : Nat) : Prop :=
  ∀ (k : Nat) (x y : Int) (W : World), p.length ≤ k + n → k ≤ p.length → 1 ≤ x → x ≤ 48 → 1 ≤ y → y ≤ 48 → Below w0.heap.size w0 W →
    Calls Try.prog 35 #[.int .i64 x, .int .i64 y, .slice A L.length c, .slice Ap p.length cp, .int .i64 k] W (CutPost (parseP L n x y (p.drop k)) p k W)

theorem parse_small {L : List S52} (hL : ∀ k, k < L.length → okB (blankAt L k)) {n : Nat} {x y : Int} {l : List S56} {v a : Int} {r : List S56} (x1 : 1 ≤ x) (x2 : x ≤ 48) (y1 : 1 ≤ y) (y2 : y ≤ 48) (h : parseP L n x y l = some (v, a, r)) : 0 ≤ v ∧ v ≤ 2415919104 ∧ 0 ≤ a ∧ a ≤ 2304 := by
  obtain ⟨h1, h2, h3, h4⟩ := parseP_area L hL _ _ _ _ _ _ _ x1 y1 h
  have := area_le (w := 48) (h := 48) (by omega) (by omega) x2 y2
  generalize x * y = z at *
  omega

set_option maxHeartbeats 1000000 in
set_option maxRecDepth 100000 in
theorem two_of {L : List S52} {p : List S56} {A Ap : Option Addr} {c cp : Nat} {w0 : World} {n : Nat} (hL : ∀ k, k < L.length → okB (blankAt L k)) (hp : p.length ≤ 8192) (ih : RefSpec L p A Ap c cp w0 n) (k : Nat) (x1 y1 x2 y2 : Int) (W : World)
    (hk : p.length ≤ k + n) (hk2 : k ≤ p.length) (a1 : 1 ≤ x1) (a2 : x1 ≤ 48) (b1 : 1 ≤ y1) (b2 : y1 ≤ 48) (c1 : 1 ≤ x2) (c2 : x2 ≤ 48) (d1 : 1 ≤ y2) (d2 : y2 ≤ 48) (hW : Below w0.heap.size w0 W) :
    Calls Try.prog 41 #[.int .i64 x1, .int .i64 y1, .int .i64 x2, .int .i64 y2, .slice A L.length c, .slice Ap p.length cp, .int .i64 k] W fun e w' =>
      Below W.heap.size W w' ∧ ((∃ (v a : Int) (m : Nat), twoP (parseP L n x1 y1 (p.drop k)) (fun r => parseP L n x2 y2 r) = some (v, a, p.drop (k + m)) ∧ k + m ≤ p.length ∧ e = .returned (cutV (1 + m) v a false)) ∨ (∃ s v a, twoP (parseP L n x1 y1 (p.drop k)) (fun r => parseP L n x2 y2 r) = none ∧ e = .returned (cutV s v a true))) := by
  have hu78 := Try.underlying78
  have HIH := Aside0.mk ih
  have HW := Aside0.mk hW
  have HL := Aside0.mk hL
  clear ih hW hL
  go_enter Try.func41, Try.ntmps41
  go_wp2_with fail
  refine (HIH.out k x1 y1 _ hk hk2 a1 a2 b1 b2 (below_alloc HW.out _)).mono ?_
  rintro e w1 ⟨hB1, ⟨v1, ar1, m1, e1, hm1, rfl⟩ | ⟨s1, v1, ar1, e1, rfl⟩⟩
  · have hX := (hB1.block W.heap.size (by simp)).trans (heap_alloc_new W (.cells #[.int .i64 0, .int .i64 0, .int .i64 0, .bool false] 78))
    have HX := Aside0.mk hX
    have HB1 := Aside0.mk (below_then (below_alloc (Below.refl W.heap.size W) _) (by simp) hB1)
    have HS1 := Aside0.mk (parse_small HL.out a1 a2 b1 b2 e1)
    have HM1 := Aside0.mk hm1
    have HE1 := Aside0.mk e1
    unfold cutV
    clear e1 hB1 hX hm1
    have HA := Aside0.mk (And.intro a1 (And.intro a2 (And.intro b1 (And.intro b2 (And.intro c1 (And.intro c2 (And.intro d1 (And.intro d2 (And.intro hk hk2)))))))))
    have HP := Aside0.mk hp
    clear a1 a2 b1 b2 c1 c2 d1 d2 hk hk2 hp
    go_wp2_with fail
    obtain ⟨a1, a2, b1, b2, c1, c2, d1, d2, hk, hk2⟩ := HA.out
    have hm1 := HM1.out
    have hq : wrap64 ((k : Int) + m1) = ((k + m1 : Nat) : Int) := by have := HP.out; unfold wrap64; omega
    rw [hq]
    refine (HIH.out (k + m1) x2 y2 _ (by omega) hm1 c1 c2 d1 d2 (below_alloc (below_on HW.out HB1.out) _)).mono ?_
    clear hq a1 a2 b1 b2 c1 c2 d1 d2 hk hk2 hm1
    rintro e w2 ⟨hB2, h2⟩
    have hY := (hB2.block w1.heap.size (by simp)).trans (heap_alloc_new w1 (.cells #[.int .i64 (m1 : Int), .int .i64 v1, .int .i64 ar1, .bool false] 78))
    have HB2 := Aside0.mk (below_on HB1.out (below_then (below_alloc (Below.refl w1.heap.size w1) _) (by simp) hB2))
    have hX2 := blk_keep HX.out (below_then (below_alloc (Below.refl w1.heap.size w1) (.cells #[.int .i64 (m1 : Int), .int .i64 v1, .int .i64 ar1, .bool false] 78)) (by simp) hB2)
    have r0 := (blk_cell hX2 0).trans rfl
    have r1 := (blk_cell hX2 1).trans rfl
    have r2 := (blk_cell hX2 2).trans rfl
    have r3 := (blk_cell hX2 3).trans rfl
    have rf0 := blk_frozen hX2 0
    have rf1 := blk_frozen hX2 1
    have rf2 := blk_frozen hX2 2
    have rf3 := blk_frozen hX2 3
    have rlt := blk_lt hX2
    have y0 := (blk_cell hY 0).trans rfl
    have y1' := (blk_cell hY 1).trans rfl
    have y2' := (blk_cell hY 2).trans rfl
    have hly := blk_lt hY
    clear hB2 hY hX2
    rcases h2 with ⟨v2, ar2, m2, e2, hm2, rfl⟩ | ⟨s2, v2, ar2, e2, rfl⟩
    · have HS2 := Aside0.mk (show 0 ≤ v2 ∧ v2 ≤ 2415919104 ∧ 0 ≤ ar2 ∧ ar2 ≤ 2304 from by
        obtain ⟨a1, a2, b1, b2, c1, c2, d1, d2, hk, hk2⟩ := HA.out
        exact parse_small HL.out c1 c2 d1 d2 e2)
      have HE2 := Aside0.mk e2
      have HM2 := Aside0.mk hm2
      unfold cutV
      clear e2 hm2
      go_wp2_with fail
      have g1 : wrap64 (wrap64 (1 + (m1 : Int)) + (m2 : Int)) = 1 + ((m1 + m2 : Nat) : Int) := by have := HP.out; have := HM2.out; unfold wrap64; omega
      have g2 : wrap64 (v1 + v2) = v1 + v2 := by have := HS1.out; have := HS2.out; unfold wrap64; omega
      have g3 : wrap64 (ar1 + ar2) = ar1 + ar2 := by have := HS1.out; have := HS2.out; unfold wrap64; omega
      refine bodyPost_ret (v := .agg #[.int .i64 (wrap64 (wrap64 (1 + (m1 : Int)) + (m2 : Int))), .int .i64 (wrap64 (v1 + v2)), .int .i64 (wrap64 (ar1 + ar2)), .bool false]) (by simp [results, Try.results41, go_sem, r0, r1, r2, r3, rlt]) rfl ⟨below_set4 HB2.out, .inl ⟨v1 + v2, ar1 + ar2, m1 + m2, ?_, ?_, ?_⟩⟩
      · rw [twoP_some HE1.out, HE2.out, show k + (m1 + m2) = k + m1 + m2 by omega]
      · have := HM2.out
        omega
      · rw [g1, g2, g3]
        rfl
    · unfold cutV
      have HE2 := Aside0.mk e2
      clear e2
      go_wp2_with fail
      refine bodyPost_ret (v := .agg #[.int .i64 (wrap64 (wrap64 (1 + (m1 : Int)) + s2)), .int .i64 (wrap64 (v1 + v2)), .int .i64 (wrap64 (ar1 + ar2)), .bool true]) (by simp [results, Try.results41, go_sem, r0, r1, r2, r3, rlt]) rfl ⟨below_set4 HB2.out, .inr ⟨_, _, _, ?_, rfl⟩⟩
      rw [twoP_some HE1.out, HE2.out]
  · unfold cutV
    have hX := (hB1.block W.heap.size (by simp)).trans (heap_alloc_new W (.cells #[.int .i64 0, .int .i64 0, .int .i64 0, .bool false] 78))
    have r0 := (blk_cell hX 0).trans rfl
    have r1 := (blk_cell hX 1).trans rfl
    have r2 := (blk_cell hX 2).trans rfl
    have r3 := (blk_cell hX 3).trans rfl
    have rf0 := blk_frozen hX 0
    have rf1 := blk_frozen hX 1
    have rf2 := blk_frozen hX 2
    have rf3 := blk_frozen hX 3
    have rlt := blk_lt hX
    have HB1 := Aside0.mk (below_then (below_alloc (Below.refl W.heap.size W) _) (by simp) hB1)
    have HE1 := Aside0.mk e1
    have HA := Aside0.mk (And.intro a1 (And.intro a2 (And.intro b1 (And.intro b2 (And.intro c1 (And.intro c2 (And.intro d1 (And.intro d2 (And.intro hk hk2)))))))))
    have HP := Aside0.mk hp
    clear a1 a2 b1 b2 c1 c2 d1 d2 hk hk2 hp hX hB1 e1
    go_wp2_with fail
    refine bodyPost_ret (v := .agg #[.int .i64 s1, .int .i64 v1, .int .i64 ar1, .bool true]) (by simp [results, Try.results41, go_sem, r0, r1, r2, r3, rlt]) rfl ⟨below_set4 HB1.out, .inr ⟨_, _, _, twoP_none HE1.out, rfl⟩⟩

theorem alloc_one (w : World) (o1 o2 : Obj) : ((w.alloc o1).alloc o2).heap[w.heap.size]? = some o1 := (Below.heap_alloc _ _ _ (by simp)).trans (heap_alloc_new w o1)
theorem alloc_two (w : World) (o1 o2 : Obj) : ((w.alloc o1).alloc o2).heap[w.heap.size + 1]? = some o2 := by
  have h := heap_alloc_new (w.alloc o1) o2
  rwa [show (w.alloc o1).heap.size = w.heap.size + 1 by simp] at h
theorem below_set4' {W w2 : World} {a b c d : Value} (h : Below W.heap.size W w2) : Below W.heap.size W ((((w2.setCell ⟨W.heap.size, 0, none⟩ a).setCell ⟨W.heap.size, 1, none⟩ b).setCell ⟨W.heap.size, 2, none⟩ c).setCell ⟨W.heap.size, 3, none⟩ d) :=
  Below.setCell (Below.setCell (Below.setCell (Below.setCell h (Nat.le_refl _) _) (Nat.le_refl _) _) (Nat.le_refl _) _) (Nat.le_refl _) _
theorem parse_nil {L : List S52} {n : Nat} {x y : Int} : parseP L n x y [] = none := by
  cases n <;> rfl

set_option maxHeartbeats 1000000 in
set_option maxRecDepth 100000 in
theorem read_of {L : List S52} {p : List S56} {A Ap : Option Addr} {c cp : Nat} {w0 : World} (hL : ∀ k, k < L.length → okB (blankAt L k)) (hl : L.length ≤ 16) (hp : p.length ≤ 8192) (hr : Kd.C k52 w0 A L.length L) (hpl : Kd.C k56 w0 Ap p.length p) :
    ∀ n, RefSpec L p A Ap c cp w0 n := by
  intro n
  induction n with
  | zero =>
    intro k x y W hk hk2 x1 x2 y1 y2 hW
    obtain rfl : k = p.length := by omega
    have HP := Aside0.mk hp
    clear x1 x2 y1 y2 hp hr hpl hL hl hk
    have hu78 := Try.underlying78
    go_enter Try.func35, Try.ntmps35
    go_wp2_with fail
    refine bodyPost_ret (v := .agg #[.int .i64 0, .int .i64 0, .int .i64 0, .bool true]) (by simp [results, Try.results35, go_sem]) rfl ⟨?_, .inr ⟨_, _, _, by rw [List.drop_length]; exact parse_nil, rfl⟩⟩
    exact below_alloc (Below.refl _ _) _
  | succ n ih =>
    intro k x y W hk hk2 x1 x2 y1 y2 hW
    have hu78 := Try.underlying78
    have hu56 := Try.underlying56
    have hu52 := Try.underlying52
    rcases Nat.lt_or_ge k p.length with hlt | hge
    · obtain ⟨ap, rfl, s0, s1⟩ := step_cells hpl (below_alloc hW (.cells #[.int .i64 0, .int .i64 0, .int .i64 0, .bool false] 78)) k hlt
      have hd : p.drop k = p.getD k ⟨0, 0⟩ :: p.drop (k + 1) := by
        rw [List.drop_eq_getElem_cons hlt]
        simp [List.getD_eq_getElem?_getD, List.getElem?_eq_getElem hlt]
      rw [hd]
      generalize p.getD k ⟨0, 0⟩ = st at *
      have hki : (k : Int) < p.length := by omega
      have hk0 : (0 : Int) ≤ k := by omega
      have H1 := Aside0.mk (And.intro hp (And.intro hl (And.intro hk (And.intro x1 (And.intro x2 (And.intro y1 (And.intro y2 (And.intro hlt hk2))))))))
      have HL := Aside0.mk hL
      have HR := Aside0.mk hr
      have HW := Aside0.mk hW
      have HPL := Aside0.mk hpl
      have HIH := Aside0.mk ih
      clear hp hl hk x1 x2 y1 y2 hlt hk2 hL hr hW hpl ih hd
      by_cases k0 : st.f0 = 0
      · rw [k0] at s0
        rw [parseP_waste k0]
        by_cases k1 : st.f1 = 0
        · rw [k1] at s1
          rw [if_pos k1]
          go_enter Try.func35, Try.ntmps35
          go_wp2_with fail
          refine bodyPost_ret (v := .agg #[.int .i64 1, .int .i64 0, .int .i64 0, .bool false]) (by simp [results, Try.results35, go_sem]) rfl ⟨below_alloc (below_alloc (Below.refl _ _) _) _, .inl ⟨0, 0, 1, rfl, by have := H1.out; omega, rfl⟩⟩
        · rw [if_neg k1]
          have kb : (st.f1 != 0) = true := by simpa using k1
          go_enter Try.func35, Try.ntmps35
          go_wp2_with fail
          refine bodyPost_ret (v := .agg #[.int .i64 1, .int .i64 0, .int .i64 0, .bool true]) (by simp [results, Try.results35, go_sem]) rfl ⟨below_alloc (below_alloc (Below.refl _ _) _) _, .inr ⟨_, _, _, rfl, rfl⟩⟩
      · by_cases k1 : st.f0 = 1
        · rw [k1] at s0
          by_cases hin : inB st.f1 0 ((L.length : Int) - 1) = true
          · rw [parseP_make k1 hin]
            obtain ⟨m, hm⟩ : ∃ m : Nat, st.f1 = m := ⟨st.f1.toNat, by have := inB_iff.1 hin; omega⟩
            rw [hm] at s1 hin
            have hin' := inB_iff.1 hin
            rw [hm, Int.toNat_natCast]
            obtain ⟨ab, rfl, b0, b1, b2⟩ := blank_cells HR.out (below_alloc (below_alloc HW.out (.cells #[.int .i64 0, .int .i64 0, .int .i64 0, .bool false] 78)) (.cells #[.int .i64 1, .int .i64 (m : Int)] 56)) m (by omega)
            have HBC := Aside0.mk (show ∀ W', Below w0.heap.size w0 W' → W'.cell? (ab.add (m * 3)) = some (.int .i64 (blankAt L m).f0) ∧ W'.cell? ⟨(ab.add (m * 3)).block, (ab.add (m * 3)).off + 1, none⟩ = some (.int .i64 (blankAt L m).f1) ∧ W'.cell? ⟨(ab.add (m * 3)).block, (ab.add (m * 3)).off + 2, none⟩ = some (.int .i64 (blankAt L m).f2) from fun W' hW' => by
              obtain ⟨ab', e', h⟩ := blank_cells HR.out hW' m (by omega)
              cases e'
              exact h)
            have d1 : (m : Int) < L.length := by omega
            have d2 : ¬ (m : Int) < 0 := by omega
            have d3 : (0 : Int) ≤ m := by omega
            have d4 : ¬ (L.length : Int) ≤ m := by omega
            have HOK := Aside0.mk (HL.out m (by omega))
            generalize blankAt L m = b at *
            clear hin hin'
            by_cases hf : b.f0 ≤ x ∧ b.f1 ≤ y
            · have HFt := Aside0.mk (show ∀ W, Calls Try.prog 28 #[.agg #[.int .i64 b.f0, .int .i64 b.f1, .int .i64 b.f2], .int .i64 x, .int .i64 y] W fun e w' => e = .returned (.bool true) ∧ Below W.heap.size W w' from fun W => by
                have h := fits_is b x y W
                rwa [decide_eq_true hf] at h)
              rw [if_pos hf]
              clear hf
              go_enter Try.func35, Try.ntmps35
              go_wp2_with fail
              refine (HFt.out _).mono ?_
              rintro e w1 ⟨rfl, hB⟩
              have HB1 := Aside0.mk (below_then (below_alloc (below_alloc (Below.refl W.heap.size W) (.cells #[.int .i64 0, .int .i64 0, .int .i64 0, .bool false] 78)) (.cells #[.int .i64 1, .int .i64 (m : Int)] 56)) (by simp; omega) hB)
              have hX := blk_keep (alloc_one W (.cells #[.int .i64 0, .int .i64 0, .int .i64 0, .bool false] 78) (.cells #[.int .i64 1, .int .i64 (m : Int)] 56)) hB
              have hS := blk_keep (alloc_two W (.cells #[.int .i64 0, .int .i64 0, .int .i64 0, .bool false] 78) (.cells #[.int .i64 1, .int .i64 (m : Int)] 56)) hB
              have r0 := (blk_cell hX 0).trans rfl
              have r1 := (blk_cell hX 1).trans rfl
              have r2 := (blk_cell hX 2).trans rfl
              have r3 := (blk_cell hX 3).trans rfl
              have rf0 := blk_frozen hX 0
              have rf1 := blk_frozen hX 1
              have rf2 := blk_frozen hX 2
              have rf3 := blk_frozen hX 3
              have rlt := blk_lt hX
              have t0 := (blk_cell hS 0).trans rfl
              have t1 := (blk_cell hS 1).trans rfl
              have tlt := blk_lt hS
              obtain ⟨b0', b1', b2'⟩ := HBC.out w1 (below_on HW.out HB1.out)
              clear hS hB b0 b1 b2 s0 s1
              have HX1 := Aside0.mk hX
              clear hX
              go_wp2_with fail
              go_still_tail 20, (by kernel_rfl)
              change wpList _ _ _ _ _ w1.drew
              have hXq := blk_drew HX1.out
              have HBq := Aside0.mk (below_drew HB1.out)
              clear r0 r1 r2 r3 rf0 rf1 rf2 rf3 rlt t0 t1 tlt b0' b1' b2'
              generalize w1.drew = wq at hXq HBq ⊢
              have r0 := (blk_cell hXq 0).trans rfl
              have r1 := (blk_cell hXq 1).trans rfl
              have r2 := (blk_cell hXq 2).trans rfl
              have r3 := (blk_cell hXq 3).trans rfl
              have rf0 := blk_frozen hXq 0
              have rf1 := blk_frozen hXq 1
              have rf2 := blk_frozen hXq 2
              have rf3 := blk_frozen hXq 3
              have rlt := blk_lt hXq
              clear hXq
              go_wp2_with fail
              have e9 : wrap64 (b.f0 * b.f1) = b.f0 * b.f1 := by
                have h := HOK.out
                have h0 := inB_iff.1 h.1
                have h1 := inB_iff.1 h.2.1
                have := area_le (w := 48) (h := 48) (by omega) (by omega) h0.2 h1.2
                generalize b.f0 * b.f1 = z at *
                unfold wrap64
                omega
              refine bodyPost_ret (v := .agg #[.int .i64 1, .int .i64 b.f2, .int .i64 (wrap64 (b.f0 * b.f1)), .bool false]) (by simp [results, Try.results35, go_sem, r0, r1, r2, r3, rlt]) rfl ⟨below_set4' HBq.out, .inl ⟨b.f2, b.f0 * b.f1, 1, rfl, by have := H1.out; omega, ?_⟩⟩
              rw [e9]
              rfl
            · have HFt := Aside0.mk (show ∀ W, Calls Try.prog 28 #[.agg #[.int .i64 b.f0, .int .i64 b.f1, .int .i64 b.f2], .int .i64 x, .int .i64 y] W fun e w' => e = .returned (.bool false) ∧ Below W.heap.size W w' from fun W => by
                have h := fits_is b x y W
                rwa [decide_eq_false hf] at h)
              rw [if_neg hf]
              clear hf
              go_enter Try.func35, Try.ntmps35
              go_wp2_with fail
              refine (HFt.out _).mono ?_
              rintro e w1 ⟨rfl, hB⟩
              have HB1 := Aside0.mk (below_then (below_alloc (below_alloc (Below.refl W.heap.size W) (.cells #[.int .i64 0, .int .i64 0, .int .i64 0, .bool false] 78)) (.cells #[.int .i64 1, .int .i64 (m : Int)] 56)) (by simp; omega) hB)
              have hX := blk_keep (alloc_one W (.cells #[.int .i64 0, .int .i64 0, .int .i64 0, .bool false] 78) (.cells #[.int .i64 1, .int .i64 (m : Int)] 56)) hB
              have hS := blk_keep (alloc_two W (.cells #[.int .i64 0, .int .i64 0, .int .i64 0, .bool false] 78) (.cells #[.int .i64 1, .int .i64 (m : Int)] 56)) hB
              have r0 := (blk_cell hX 0).trans rfl
              have r1 := (blk_cell hX 1).trans rfl
              have r2 := (blk_cell hX 2).trans rfl
              have r3 := (blk_cell hX 3).trans rfl
              have rf0 := blk_frozen hX 0
              have rf1 := blk_frozen hX 1
              have rf2 := blk_frozen hX 2
              have rf3 := blk_frozen hX 3
              have rlt := blk_lt hX
              have t0 := (blk_cell hS 0).trans rfl
              have t1 := (blk_cell hS 1).trans rfl
              have tlt := blk_lt hS
              obtain ⟨b0', b1', b2'⟩ := HBC.out w1 (below_on HW.out HB1.out)
              clear hX hS hB b0 b1 b2 s0 s1
              go_wp2_with fail
              exact bodyPost_ret (v := .agg #[.int .i64 0, .int .i64 0, .int .i64 0, .bool true]) (by simp [results, Try.results35, go_sem, r0, r1, r2, r3, rlt]) rfl ⟨below_set4' HB1.out, .inr ⟨_, _, _, rfl, rfl⟩⟩
          · rw [parseP_bad k0 (fun h => hin h.2) (fun h => by omega) (fun h => by omega)]
            have hin' : st.f1 < 0 ∨ (¬ st.f1 < 0 ∧ (L.length : Int) ≤ st.f1) := by
              rcases Int.lt_or_le st.f1 0 with h | h
              · exact .inl h
              · exact .inr ⟨by omega, Int.not_lt.1 (fun h2 => hin (inB_iff.2 ⟨h, by omega⟩))⟩
            clear hin
            rcases hin' with d | ⟨d, d'⟩
            · go_enter Try.func35, Try.ntmps35
              go_wp2_with fail
              refine bodyPost_ret (v := .agg #[.int .i64 0, .int .i64 0, .int .i64 0, .bool true]) (by simp [results, Try.results35, go_sem]) rfl ⟨below_alloc (below_alloc (Below.refl _ _) _) _, .inr ⟨_, _, _, rfl, rfl⟩⟩
            · go_enter Try.func35, Try.ntmps35
              go_wp2_with fail
              refine bodyPost_ret (v := .agg #[.int .i64 0, .int .i64 0, .int .i64 0, .bool true]) (by simp [results, Try.results35, go_sem]) rfl ⟨below_alloc (below_alloc (Below.refl _ _) _) _, .inr ⟨_, _, _, rfl, rfl⟩⟩
        · by_cases k2 : st.f0 = 2
          · rw [k2] at s0
            by_cases hin : inB st.f1 1 (x - 1) = true
            · rw [parseP_across k2 hin]
              have hin' := inB_iff.1 hin
              have d1 : 1 ≤ st.f1 := by omega
              have d2 : st.f1 < x := by omega
              have HD := Aside0.mk hin'
              clear hin hin'
              go_enter Try.func35, Try.ntmps35
              go_wp2_with fail
              obtain ⟨hp, hl, hk, x1, x2, y1, y2, hlt, hk2⟩ := H1.out
              have hin' := HD.out
              have e1 : wrap64 ((k : Int) + 1) = ((k + 1 : Nat) : Int) := by unfold wrap64; omega
              have e2 : wrap64 (x - st.f1) = x - st.f1 := by unfold wrap64; omega
              rw [e1, e2]
              refine (two_of HL.out hp HIH.out (k + 1) st.f1 y (x - st.f1) y _ (by omega) (by omega) (by omega) (by omega) (by omega) (by omega) (by omega) (by omega) (by omega) (by omega) (below_alloc (below_alloc HW.out _) _)).mono ?_
              clear e1 e2 hp hl hk x1 x2 y1 y2 hlt hk2 hin'
              rintro e w1 ⟨hB, h2⟩
              have HB1 := Aside0.mk (below_then (below_alloc (below_alloc (Below.refl W.heap.size W) (.cells #[.int .i64 0, .int .i64 0, .int .i64 0, .bool false] 78)) (.cells #[.int .i64 2, .int .i64 st.f1] 56)) (by simp; omega) hB)
              have hX := blk_keep (alloc_one W (.cells #[.int .i64 0, .int .i64 0, .int .i64 0, .bool false] 78) (.cells #[.int .i64 2, .int .i64 st.f1] 56)) hB
              have r0 := (blk_cell hX 0).trans rfl
              have r1 := (blk_cell hX 1).trans rfl
              have r2 := (blk_cell hX 2).trans rfl
              have r3 := (blk_cell hX 3).trans rfl
              have rf0 := blk_frozen hX 0
              have rf1 := blk_frozen hX 1
              have rf2 := blk_frozen hX 2
              have rf3 := blk_frozen hX 3
              have rlt := blk_lt hX
              clear hX hB s0 s1
              rcases h2 with ⟨v2, ar2, m2, e2, hm2, rfl⟩ | ⟨s2, v2, ar2, e2, rfl⟩
              · have HE2 := Aside0.mk e2
                have HM2 := Aside0.mk hm2
                unfold cutV
                clear e2 hm2
                go_wp2_with fail
                refine bodyPost_ret (v := .agg #[.int .i64 (1 + (m2 : Int)), .int .i64 v2, .int .i64 ar2, .bool false]) (by simp [results, Try.results35, go_sem, r0, r1, r2, r3, rlt]) rfl ⟨below_set4' HB1.out, .inl ⟨v2, ar2, 1 + m2, ?_, ?_, ?_⟩⟩
                · rw [HE2.out, Nat.add_assoc]
                · have := HM2.out
                  omega
                · simp [cutV]
              · have HE2 := Aside0.mk e2
                unfold cutV
                clear e2
                go_wp2_with fail
                exact bodyPost_ret (v := .agg #[.int .i64 s2, .int .i64 v2, .int .i64 ar2, .bool true]) (by simp [results, Try.results35, go_sem, r0, r1, r2, r3, rlt]) rfl ⟨below_set4' HB1.out, .inr ⟨_, _, _, HE2.out, rfl⟩⟩
            · rw [parseP_bad k0 (fun h => by omega) (fun h => hin h.2) (fun h => by omega)]
              have hin' : st.f1 < 1 ∨ (1 ≤ st.f1 ∧ ¬ st.f1 < x) := by
                rcases Int.lt_or_le st.f1 1 with h | h
                · exact .inl h
                · exact .inr ⟨h, fun h2 => hin (inB_iff.2 ⟨h, by omega⟩)⟩
              clear hin
              rcases hin' with d | ⟨d, d'⟩
              · have d' : ¬ 1 ≤ st.f1 := by omega
                go_enter Try.func35, Try.ntmps35
                go_wp2_with fail
                refine bodyPost_ret (v := .agg #[.int .i64 0, .int .i64 0, .int .i64 0, .bool true]) (by simp [results, Try.results35, go_sem]) rfl ⟨below_alloc (below_alloc (Below.refl _ _) _) _, .inr ⟨_, _, _, rfl, rfl⟩⟩
              · go_enter Try.func35, Try.ntmps35
                go_wp2_with fail
                refine bodyPost_ret (v := .agg #[.int .i64 0, .int .i64 0, .int .i64 0, .bool true]) (by simp [results, Try.results35, go_sem]) rfl ⟨below_alloc (below_alloc (Below.refl _ _) _) _, .inr ⟨_, _, _, rfl, rfl⟩⟩
          · by_cases k3 : st.f0 = 3
            · rw [k3] at s0
              by_cases hin : inB st.f1 1 (y - 1) = true
              · rw [parseP_along k3 hin]
                have hin' := inB_iff.1 hin
                have d1 : 1 ≤ st.f1 := by omega
                have d2 : st.f1 < y := by omega
                have HD := Aside0.mk hin'
                clear hin hin'
                go_enter Try.func35, Try.ntmps35
                go_wp2_with fail
                obtain ⟨hp, hl, hk, x1, x2, y1, y2, hlt, hk2⟩ := H1.out
                have hin' := HD.out
                have e1 : wrap64 ((k : Int) + 1) = ((k + 1 : Nat) : Int) := by unfold wrap64; omega
                have e2 : wrap64 (y - st.f1) = y - st.f1 := by unfold wrap64; omega
                rw [e1, e2]
                refine (two_of HL.out hp HIH.out (k + 1) x st.f1 x (y - st.f1) _ (by omega) (by omega) (by omega) (by omega) (by omega) (by omega) (by omega) (by omega) (by omega) (by omega) (below_alloc (below_alloc HW.out _) _)).mono ?_
                clear e1 e2 hp hl hk x1 x2 y1 y2 hlt hk2 hin'
                rintro e w1 ⟨hB, h2⟩
                have HB1 := Aside0.mk (below_then (below_alloc (below_alloc (Below.refl W.heap.size W) (.cells #[.int .i64 0, .int .i64 0, .int .i64 0, .bool false] 78)) (.cells #[.int .i64 3, .int .i64 st.f1] 56)) (by simp; omega) hB)
                have hX := blk_keep (alloc_one W (.cells #[.int .i64 0, .int .i64 0, .int .i64 0, .bool false] 78) (.cells #[.int .i64 3, .int .i64 st.f1] 56)) hB
                have r0 := (blk_cell hX 0).trans rfl
                have r1 := (blk_cell hX 1).trans rfl
                have r2 := (blk_cell hX 2).trans rfl
                have r3 := (blk_cell hX 3).trans rfl
                have rf0 := blk_frozen hX 0
                have rf1 := blk_frozen hX 1
                have rf2 := blk_frozen hX 2
                have rf3 := blk_frozen hX 3
                have rlt := blk_lt hX
                clear hX hB s0 s1
                rcases h2 with ⟨v2, ar2, m2, e2, hm2, rfl⟩ | ⟨s2, v2, ar2, e2, rfl⟩
                · have HE2 := Aside0.mk e2
                  have HM2 := Aside0.mk hm2
                  unfold cutV
                  clear e2 hm2
                  go_wp2_with fail
                  refine bodyPost_ret (v := .agg #[.int .i64 (1 + (m2 : Int)), .int .i64 v2, .int .i64 ar2, .bool false]) (by simp [results, Try.results35, go_sem, r0, r1, r2, r3, rlt]) rfl ⟨below_set4' HB1.out, .inl ⟨v2, ar2, 1 + m2, ?_, ?_, ?_⟩⟩
                  · rw [HE2.out, Nat.add_assoc]
                  · have := HM2.out
                    omega
                  · simp [cutV]
                · have HE2 := Aside0.mk e2
                  unfold cutV
                  clear e2
                  go_wp2_with fail
                  exact bodyPost_ret (v := .agg #[.int .i64 s2, .int .i64 v2, .int .i64 ar2, .bool true]) (by simp [results, Try.results35, go_sem, r0, r1, r2, r3, rlt]) rfl ⟨below_set4' HB1.out, .inr ⟨_, _, _, HE2.out, rfl⟩⟩
              · rw [parseP_bad k0 (fun h => by omega) (fun h => by omega) (fun h => hin h.2)]
                have hin' : st.f1 < 1 ∨ (1 ≤ st.f1 ∧ ¬ st.f1 < y) := by
                  rcases Int.lt_or_le st.f1 1 with h | h
                  · exact .inl h
                  · exact .inr ⟨h, fun h2 => hin (inB_iff.2 ⟨h, by omega⟩)⟩
                clear hin
                rcases hin' with d | ⟨d, d'⟩
                · have d' : ¬ 1 ≤ st.f1 := by omega
                  go_enter Try.func35, Try.ntmps35
                  go_wp2_with fail
                  refine bodyPost_ret (v := .agg #[.int .i64 0, .int .i64 0, .int .i64 0, .bool true]) (by simp [results, Try.results35, go_sem]) rfl ⟨below_alloc (below_alloc (Below.refl _ _) _) _, .inr ⟨_, _, _, rfl, rfl⟩⟩
                · go_enter Try.func35, Try.ntmps35
                  go_wp2_with fail
                  refine bodyPost_ret (v := .agg #[.int .i64 0, .int .i64 0, .int .i64 0, .bool true]) (by simp [results, Try.results35, go_sem]) rfl ⟨below_alloc (below_alloc (Below.refl _ _) _) _, .inr ⟨_, _, _, rfl, rfl⟩⟩

            · rw [parseP_bad k0 (fun h => k1 h.1) (fun h => k2 h.1) (fun h => k3 h.1)]
              have e0 : (st.f0 == 0) = false := by simpa using k0
              have e1 : (st.f0 == 1) = false := by simpa using k1
              have e2 : (st.f0 == 2) = false := by simpa using k2
              have e3 : (st.f0 == 3) = false := by simpa using k3
              go_enter Try.func35, Try.ntmps35
              go_wp2_with fail
              refine bodyPost_ret (v := .agg #[.int .i64 0, .int .i64 0, .int .i64 0, .bool true]) (by simp [results, Try.results35, go_sem]) rfl ⟨below_alloc (below_alloc (Below.refl _ _) _) _, .inr ⟨_, _, _, rfl, rfl⟩⟩
    · obtain rfl : k = p.length := by omega
      have HP := Aside0.mk hp
      clear x1 x2 y1 y2 hp hr hpl hL hl hk ih
      go_enter Try.func35, Try.ntmps35
      go_wp2_with fail
      refine bodyPost_ret (v := .agg #[.int .i64 0, .int .i64 0, .int .i64 0, .bool true]) (by simp [results, Try.results35, go_sem]) rfl ⟨?_, .inr ⟨_, _, _, by rw [List.drop_length]; exact parse_nil, rfl⟩⟩
      exact below_alloc (Below.refl _ _) _


end Go.Proofs.Ytochbhndeboodaa
