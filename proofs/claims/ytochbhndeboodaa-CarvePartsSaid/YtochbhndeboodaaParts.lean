/- The walk of CarveParts. -/
import Derived.Test.YtochbhndeboodaaOut
import Derived.Test.YtochbhndeboodaaPlainL
import Derived.Deep.RegionHeld3
namespace Go.Proofs.Ytochbhndeboodaa
set_option linter.unusedVariables false
set_option linter.unusedSimpArgs false
open Go.RowKit Go.Proofs.YtochbhndeboodaaW.PrintWords Go.Proofs.YtochbhndeboodaaW.PrintLast Go.Proofs.YtochbhndeboodaaW.PrintMore
open Go.Proofs.Ytochbhndeboodaa.PCarveMore (S52 S56 k52 k56)

theorem blk_second (w : World) (o1 o2 : Obj) : ((w.alloc o1).alloc o2).heap[w.heap.size + 1]? = some o2 := by
  have h := heap_alloc_new (w.alloc o1) o2
  rwa [show (w.alloc o1).heap.size = w.heap.size + 1 by simp] at h
theorem blk_first (w : World) (o1 o2 : Obj) : ((w.alloc o1).alloc o2).heap[w.heap.size]? = some o1 := (Below.heap_alloc _ _ _ (by simp)).trans (heap_alloc_new w o1)
theorem mod_any (x n : Int) (w : World) (h : 0 < n) (h2 : n ≤ 1000000) : Calls Try.prog 26 #[.int .i64 x, .int .i64 n] w fun e w' => e = .returned (.int .i64 (modI x n)) ∧ Below w.heap.size w w' :=
  (PCarveMore.silversidelaw02_mod.calls x n _ w (mod_eq x h h2)).mono fun _ _ h => ⟨h.1, h.2.below⟩

theorem below_on {w a b : World} (h : Below w.heap.size w a) (hb : Below a.heap.size a b) : Below w.heap.size w b := below_then h h.size hb
theorem step_lit (W : World) (a b : Int) : Kd.R k56 56 (W.alloc (.cells #[.int .i64 a, .int .i64 b] 56)) W.heap.size (fun _ => True) (.slice (some ⟨W.heap.size, 0, none⟩) 1 1) [(⟨a, b⟩ : S56)] := by
  refine ⟨fun _ _ => trivial, [.int .i64 a, .int .i64 b], ?_, Reps.c2 (PCarveMore.k56_mkM _ _ _ (⟨a, b⟩ : S56)) (Reps.none _ _)⟩
  have h2 := World.ownsRow_lit (base := W.heap.size) (e := 56) (size := k56.sz) W #[.int .i64 a, .int .i64 b] 1 (Nat.le_refl _) (by decide) (by rfl)
  exact h2
theorem bestPlan_len {L : List S52} {w h : Nat} (hw1 : 1 ≤ w) (hw : w ≤ 48) (hh1 : 1 ≤ h) (hh : h ≤ 48) : (bestPlan L w h).length ≤ 4607 :=
  planP_len' (cuts_fillP L w h) hw hh (w + h) w h hw1 (Nat.le_refl _) hh1 (Nat.le_refl _)

set_option maxHeartbeats 1000000 in
set_option maxRecDepth 100000 in
theorem parts_any (x y cut : Int) (A : Option Addr) (c : Nat) (L : List S52) (w : World) (hr : Kd.C k52 w A L.length L) (hc : L.length ≤ c) :
    Calls Try.prog 9 #[.agg #[.int .i64 x, .int .i64 y, .slice A L.length c], .int .i64 cut] w fun e w' => e = .returned (.bool true) ∧ Below w.heap.size w w' := by
  have HR := Aside0.mk hr
  have HC := Aside0.mk hc
  clear hr hc
  have hu24 := Try.underlying24
  have hu52 := Try.underlying52
  have hu22 := Try.underlying22
  have hu56 := Try.underlying56
  have hu26 := Try.underlying26
  go_enter Try.func9, Try.ntmps9
  go_wp2_with (first
    | (go_at_call 25
       go_must (refine (tame_out x y 20 _ _ L _ (Kd.C_alloc HR.out _) HC.out (by decide) (by decide)).mono ?_)
       rintro e wa ⟨Wd, Ht, T, Ao, co, rfl, hT⟩
       have HT := Aside0.mk hT
       have HK := Aside0.mk (task_of (Wd := Wd) (Ht := Ht) (L := T) hT.w1 (by have := hT.wm; omega) hT.h1 (by have := hT.hm; omega) hT.n hT.ok)
       have HB0 := Aside0.mk (below_then (below_alloc (Below.refl w.heap.size w) _) (by simp) hT.below)
       clear hT)
    | (go_at_call 19
       (with_reducible refine (awake_any _).mono ?_)
       rintro e we ⟨rfl, hB⟩
       have HB5 := Aside0.mk hB
       clear hB))
  · go_ret
    exact ⟨by simp [go_sem], below_then HB0.out HB0.out.size (below_then (below_alloc (Below.refl _ _) _) (by simp) HB5.out)⟩
  · rename_i hw2
    have hw20 := HT.out.wm
    have hs : wrap64 ((Wd : Int) - 1) = (Wd : Int) - 1 := by unfold wrap64; omega
    rw [hs]
    clear hs
    refine (mod_any cut ((Wd : Int) - 1) _ (by omega) (by omega)).mono ?_
    rintro e wm ⟨rfl, hB⟩
    have hmi := modI_in cut (n := (Wd : Int) - 1) (by omega)
    obtain ⟨X, hX⟩ : ∃ X : Nat, modI cut ((Wd : Int) - 1) = (X : Int) - 1 := ⟨(modI cut ((Wd : Int) - 1)).toNat + 1, by omega⟩
    rw [hX] at hmi ⊢
    clear hX
    have hs : wrap64 (1 + ((X : Int) - 1)) = (X : Int) := by unfold wrap64; omega
    have hs0 : 1 + ((X : Int) - 1) = X := by omega
    have hs2 : IntKind.i64.wrap ((Wd : Int) - X) = ((Wd - X : Nat) : Int) := by rw [i64_w]; unfold wrap64; omega
    have hX := (hB.block wa.heap.size (by simp)).trans (heap_alloc_new wa (.cells #[.int .i64 (Wd : Int), .int .i64 (Ht : Int), .slice Ao T.length co] 24))
    have q0 := (blk_cell hX 0).trans rfl
    have q1 := (blk_cell hX 1).trans rfl
    have q2 := (blk_cell hX 2).trans rfl
    have hlx := blk_lt hX
    have HX := Aside0.mk hX
    have HB1 := Aside0.mk (below_then (below_alloc (Below.refl wa.heap.size wa) _) (by simp) hB)
    clear hX hB
    go_wp2_with fail
    have HKP : Aside0 (∀ w', Below wm.heap.size wm w' → w'.cell? ⟨wa.heap.size, 0, none⟩ = some (.int .i64 (Wd : Int)) ∧ w'.cell? ⟨wa.heap.size, 1, none⟩ = some (.int .i64 (Ht : Int)) ∧ w'.cell? ⟨wa.heap.size, 2, none⟩ = some (.slice Ao T.length co)) := ⟨fun w' hb => ⟨pw_cell_below hb q0, pw_cell_below hb q1, pw_cell_below hb q2⟩⟩
    go_region_held3 (fun w' => w'.cell? ⟨wa.heap.size, 0, none⟩ = some (.int .i64 (Wd : Int)) ∧ w'.cell? ⟨wa.heap.size, 1, none⟩ = some (.int .i64 (Ht : Int)) ∧ w'.cell? ⟨wa.heap.size, 2, none⟩ = some (.slice Ao T.length co))
      (exact HKP.out _ (by repeat (first | exact below_drew (Below.refl _ _) | refine below_drew ?_ | exact Below.refl _ _ | apply below_alloc | refine Below.setCell ?_ (by simp) _)))
      (fail)
    all_goals (go_wp2_with fail)
    have HLft := Aside0.mk (blk_first wm (.cells #[.int .i64 (X : Int), .int .i64 (Ht : Int), .slice Ao T.length co] 24) (.cells #[.int .i64 ((Wd - X : Nat) : Int), .int .i64 (Ht : Int), .slice Ao T.length co] 24))
    have HRgt := Aside0.mk (blk_second wm (.cells #[.int .i64 (X : Int), .int .i64 (Ht : Int), .slice Ao T.length co] 24) (.cells #[.int .i64 ((Wd - X : Nat) : Int), .int .i64 (Ht : Int), .slice Ao T.length co] 24))
    have HWm := Aside0.mk (below_drew (below_alloc (below_alloc (Below.refl wm.heap.size wm) (.cells #[.int .i64 (X : Int), .int .i64 (Ht : Int), .slice Ao T.length co] 24)) (.cells #[.int .i64 ((Wd - X : Nat) : Int), .int .i64 (Ht : Int), .slice Ao T.length co] 24)))
    have hgl : wm.heap.size < (((wm.alloc (.cells #[.int .i64 (X : Int), .int .i64 (Ht : Int), .slice Ao T.length co] 24)).alloc (.cells #[.int .i64 ((Wd - X : Nat) : Int), .int .i64 (Ht : Int), .slice Ao T.length co] 24)).drew).heap.size := blk_lt HLft.out
    have hgr : wm.heap.size + 1 < (((wm.alloc (.cells #[.int .i64 (X : Int), .int .i64 (Ht : Int), .slice Ao T.length co] 24)).alloc (.cells #[.int .i64 ((Wd - X : Nat) : Int), .int .i64 (Ht : Int), .slice Ao T.length co] 24)).drew).heap.size := blk_lt HRgt.out
    change Aside0 (((wm.alloc (.cells #[.int .i64 (X : Int), .int .i64 (Ht : Int), .slice Ao T.length co] 24)).alloc (.cells #[.int .i64 ((Wd - X : Nat) : Int), .int .i64 (Ht : Int), .slice Ao T.length co] 24)).drew.heap[wm.heap.size]? = _) at HLft
    change Aside0 (((wm.alloc (.cells #[.int .i64 (X : Int), .int .i64 (Ht : Int), .slice Ao T.length co] 24)).alloc (.cells #[.int .i64 ((Wd - X : Nat) : Int), .int .i64 (Ht : Int), .slice Ao T.length co] 24)).drew.heap[wm.heap.size + 1]? = _) at HRgt
    generalize ((wm.alloc (.cells #[.int .i64 (X : Int), .int .i64 (Ht : Int), .slice Ao T.length co] 24)).alloc (.cells #[.int .i64 ((Wd - X : Nat) : Int), .int .i64 (Ht : Int), .slice Ao T.length co] 24)).drew = W0 at HLft HRgt HWm hgl hgr ⊢
    generalize wm.heap.size + 1 = gr at HRgt hgr ⊢
    generalize hg0 : wm.heap.size = gl at HLft hgl ⊢
    clear hg0
    rotate_left
    have HLft := Aside0.mk (blk_second wm (.cells #[.int .i64 ((Wd - X : Nat) : Int), .int .i64 (Ht : Int), .slice Ao T.length co] 24) (.cells #[.int .i64 (X : Int), .int .i64 (Ht : Int), .slice Ao T.length co] 24))
    have HRgt := Aside0.mk (blk_first wm (.cells #[.int .i64 ((Wd - X : Nat) : Int), .int .i64 (Ht : Int), .slice Ao T.length co] 24) (.cells #[.int .i64 (X : Int), .int .i64 (Ht : Int), .slice Ao T.length co] 24))
    have HWm := Aside0.mk (below_drew (below_alloc (below_alloc (Below.refl wm.heap.size wm) (.cells #[.int .i64 ((Wd - X : Nat) : Int), .int .i64 (Ht : Int), .slice Ao T.length co] 24)) (.cells #[.int .i64 (X : Int), .int .i64 (Ht : Int), .slice Ao T.length co] 24)))
    have hgl : wm.heap.size + 1 < (((wm.alloc (.cells #[.int .i64 ((Wd - X : Nat) : Int), .int .i64 (Ht : Int), .slice Ao T.length co] 24)).alloc (.cells #[.int .i64 (X : Int), .int .i64 (Ht : Int), .slice Ao T.length co] 24)).drew).heap.size := blk_lt HLft.out
    have hgr : wm.heap.size < (((wm.alloc (.cells #[.int .i64 ((Wd - X : Nat) : Int), .int .i64 (Ht : Int), .slice Ao T.length co] 24)).alloc (.cells #[.int .i64 (X : Int), .int .i64 (Ht : Int), .slice Ao T.length co] 24)).drew).heap.size := blk_lt HRgt.out
    change Aside0 (((wm.alloc (.cells #[.int .i64 ((Wd - X : Nat) : Int), .int .i64 (Ht : Int), .slice Ao T.length co] 24)).alloc (.cells #[.int .i64 (X : Int), .int .i64 (Ht : Int), .slice Ao T.length co] 24)).drew.heap[wm.heap.size + 1]? = _) at HLft
    change Aside0 (((wm.alloc (.cells #[.int .i64 ((Wd - X : Nat) : Int), .int .i64 (Ht : Int), .slice Ao T.length co] 24)).alloc (.cells #[.int .i64 (X : Int), .int .i64 (Ht : Int), .slice Ao T.length co] 24)).drew.heap[wm.heap.size]? = _) at HRgt
    generalize ((wm.alloc (.cells #[.int .i64 ((Wd - X : Nat) : Int), .int .i64 (Ht : Int), .slice Ao T.length co] 24)).alloc (.cells #[.int .i64 (X : Int), .int .i64 (Ht : Int), .slice Ao T.length co] 24)).drew = W0 at HLft HRgt HWm hgl hgr ⊢
    generalize wm.heap.size + 1 = gl at HLft hgl ⊢
    generalize hg0 : wm.heap.size = gr at HRgt hgr ⊢
    clear hg0
    rotate_left
    all_goals
      have HCw := Aside0.mk (Kd.C_below (Kd.C_below HT.out.cells HB1.out) HWm.out)
      have HX0 := Aside0.mk ((HWm.out.block wa.heap.size hlx).trans HX.out)
      have HB2 := Aside0.mk (below_then HB1.out HB1.out.size HWm.out)
      have hX1 : 1 ≤ X := by omega
      have hX2 : X < Wd := by omega
      have tl := HT.out.tl
      clear q0 q1 q2 HX HB1 HWm hmi tl
      have h1 := best_rd (a0 := (X : Int)) (a1 := (Ht : Int)) (Wd := X) (Ht := Ht) (L := T) (c := co) HCw.out HT.out.c (task_of hX1 (by omega) HT.out.h1 (by have := HT.out.hm; omega) HT.out.n HT.out.ok) rfl rfl
      refine h1.mono ?_
      rintro e wb ⟨Ap, cp, Ab, cb, rfl, hp, hb, hcb, hB⟩
      have HP := Aside0.mk hp
      have HXb := Aside0.mk ((hB.block wa.heap.size (blk_lt HX0.out)).trans HX0.out)
      have HLb := Aside0.mk ((hB.block _ hgl).trans HLft.out)
      have HRb := Aside0.mk ((hB.block _ hgr).trans HRgt.out)
      have HCb := Aside0.mk (Kd.C_below HCw.out hB)
      have HB3 := Aside0.mk (below_then HB2.out HB2.out.size hB)
      have q0 := (blk_cell HXb.out 0).trans rfl
      have q1 := (blk_cell HXb.out 1).trans rfl
      have q2 := (blk_cell HXb.out 2).trans rfl
      have r0 := (blk_cell HRb.out 0).trans rfl
      have r1 := (blk_cell HRb.out 1).trans rfl
      clear hp hb hcb hB h1 hgl hgr HLft HRgt HX0 HCw HB2
      go_wp2_with fail
      have h2 := best_rd (a0 := ((Wd - X : Nat) : Int)) (a1 := (Ht : Int)) (Wd := Wd - X) (Ht := Ht) (L := T) (c := co) HCb.out HT.out.c (task_of (by omega) (by omega) HT.out.h1 (by have := HT.out.hm; omega) HT.out.n HT.out.ok) rfl rfl
      refine h2.mono ?_
      rintro e wc ⟨Aq, cq, Ab2, cb2, rfl, hq, hb, hcb, hB⟩
      have HQ := Aside0.mk hq
      have HPc := Aside0.mk (Kd.C_below HP.out hB)
      have HXc := Aside0.mk ((hB.block wa.heap.size (blk_lt HXb.out)).trans HXb.out)
      have HLc := Aside0.mk ((hB.block _ (blk_lt HLb.out)).trans HLb.out)
      have HRc := Aside0.mk ((hB.block _ (blk_lt HRb.out)).trans HRb.out)
      have HCc := Aside0.mk (Kd.C_below HCb.out hB)
      have HB4 := Aside0.mk (below_then HB3.out HB3.out.size hB)
      have hlp : (bestPlan T X Ht).length ≤ 4607 := bestPlan_len hX1 (by omega) HT.out.h1 (by have := HT.out.hm; omega)
      have hlq : (bestPlan T (Wd - X) Ht).length ≤ 4607 := bestPlan_len (by omega) (by omega) HT.out.h1 (by have := HT.out.hm; omega)
      obtain ⟨ar, hread⟩ := read_parts HT.out.ok (w := Wd) (h := Ht) (x := X) (by omega) HT.out.h1 (by have := HT.out.hm; omega) hX1 hX2
      have HRD := Aside0.mk hread
      have hcross := (bestV_lower HT.out.ok).across Wd Ht (by omega) (by omega) HT.out.h1 (by have := HT.out.hm; omega) X hX1 hX2
      have hn1 := bestV_nonneg HT.out.ok (i := X) (j := Ht) (by omega) (by have := HT.out.hm; omega)
      have hn2 := bestV_nonneg HT.out.ok (i := Wd - X) (j := Ht) (by omega) (by have := HT.out.hm; omega)
      clear hq hb hcb hB h2 q0 q1 q2 r0 r1 HLb HRb HXb HCb HB3 hread
      generalize bestPlan T X Ht = p at *
      generalize bestPlan T (Wd - X) Ht = q at *
      have HO1 := Aside0.mk (step_lit wc 2 (X : Int))
      have hlp2 := hlp
      have hlq2 := hlq
      have HP1 := Aside0.mk (Kd.C_alloc HPc.out (.cells #[.int .i64 2, .int .i64 (X : Int)] 56))
      have HQ1 := Aside0.mk (Kd.C_alloc HQ.out (.cells #[.int .i64 2, .int .i64 (X : Int)] 56))
      obtain ⟨PQ, hPQ⟩ : ∃ PQ, PQ = (⟨2, (X : Int)⟩ : S56) :: (p ++ q) := ⟨_, rfl⟩
      have HPQ := Aside0.mk hPQ
      have hlpq : PQ.length = 1 + p.length + q.length := by rw [hPQ]; simp; omega
      clear hPQ
      go_wp2_with (first
        | ((with_reducible refine gate_builtin (b := .append) (xs := _) rfl ?_)
           at_builtin
           (refine Kd.R_append_rows k56 (w0 := wc) wc.heap.size rfl (.tmp 72) _ 26 56 (.agg #[(.int .i64 0), (.int .i64 0)]) 16 rfl Try.underlying26 PCarveMore.info56 rfl (by decide) (by decide) _ [(⟨2, (X : Int)⟩ : S56)] p _ _ _ (fun _ => True) (fun _ => False) rfl rfl HO1.out HP1.out (fun _ _ h => h) (fun _ hk => hk.elim) (fun _ _ => trivial) (below_alloc (Below.refl _ _) _) (by simp) (by simp; omega) ?_)
           intro v1 w1 ho1 hb1 hg_ hat_
           have hsl := Kd.R_slice ho1
           have HO2 := Aside0.mk ho1
           have HBa := Aside0.mk hb1
           have HQ2 := Aside0.mk (Kd.C_below HQ.out hb1)
           clear hg_ hat_ ho1 hb1
           obtain ⟨A1, c1, rfl⟩ := hsl)
        | ((with_reducible refine gate_builtin (b := .append) (xs := _) rfl ?_)
           at_builtin
           (refine Kd.R_append_rows k56 (w0 := wc) wc.heap.size rfl _ _ 26 56 (.agg #[(.int .i64 0), (.int .i64 0)]) 16 rfl Try.underlying26 PCarveMore.info56 rfl (by decide) (by decide) _ ([(⟨2, (X : Int)⟩ : S56)] ++ p) q _ _ _ (fun _ => True) (fun _ => False) rfl rfl HO2.out HQ2.out (fun _ _ h => h) (fun _ hk => hk.elim) (fun _ _ => trivial) HBa.out HBa.out.size (by simp; omega) ?_)
           intro v2 w2 ho2 hb2 hg_ hat_
           rw [show [(⟨2, (X : Int)⟩ : S56)] ++ p ++ q = PQ from HPQ.out.symm] at ho2
           have HW := Aside0.mk (Kd.R_reads ho2)
           have HBb := Aside0.mk hb2
           have HXd := Aside0.mk ((hb2.block _ (blk_lt HXc.out)).trans HXc.out)
           have HLd := Aside0.mk ((hb2.block _ (blk_lt HLc.out)).trans HLc.out)
           have HRd := Aside0.mk ((hb2.block _ (blk_lt HRc.out)).trans HRc.out)
           have HCd := Aside0.mk (Kd.C_below HCc.out hb2)
           have hlx2 := blk_lt HXd.out
           have hll2 := blk_lt HLd.out
           have hlr2 := blk_lt HRd.out
           have q0 := (blk_cell HXd.out 0).trans rfl
           have q1 := (blk_cell HXd.out 1).trans rfl
           have q2 := (blk_cell HXd.out 2).trans rfl
           have z0 := (blk_cell HLd.out 0).trans rfl
           have z1 := (blk_cell HLd.out 1).trans rfl
           have z2 := (blk_cell HLd.out 2).trans rfl
           have r0 := (blk_cell HRd.out 0).trans rfl
           have r1 := (blk_cell HRd.out 1).trans rfl
           have r2 := (blk_cell HRd.out 2).trans rfl
           have HB5 := Aside0.mk (below_then HB4.out HB4.out.size hb2)
           clear hg_ hat_ ho2 hb2 HO2 HBa HQ2 HO1 HP1 HQ1 HXc HLc HRc HCc
           obtain ⟨A2, c2, rfl, hc2, hC2⟩ := HW.out
           have HPW := Aside0.mk hC2
           clear hC2 hc2 HW))
      have h3 := worth_is (c := co) (cp := c2) HCd.out HPW.out HK.out (by rw [HPQ.out]; exact HRD.out)
      rw [hlpq] at h3
      refine h3.mono ?_
      rintro e wd ⟨rfl, hB⟩
      have hCe := Kd.C_below HCd.out hB
      have HXe := Aside0.mk ((hB.block _ hlx2).trans HXd.out)
      have HLe := Aside0.mk ((hB.block _ hll2).trans HLd.out)
      have HRe := Aside0.mk ((hB.block _ hlr2).trans HRd.out)
      have hB6 := below_then HB5.out HB5.out.size hB
      have hlx3 := blk_lt HXe.out
      have hll3 := blk_lt HLe.out
      have hlr3 := blk_lt HRe.out
      have HCL := Aside0.mk (show ∀ W, Below wd.heap.size wd W → Calls Try.prog 27 #[.agg #[.int .i64 (X : Int), .int .i64 (Ht : Int), .slice Ao T.length co]] W fun e w' => e = .returned (.int .i64 (bestV T X Ht)) ∧ Below W.heap.size W w' from fun W hW => best_of (Kd.C_below hCe hW) HT.out.c hX1 (by omega) HT.out.h1 (by have := HT.out.hm; omega) HT.out.n HT.out.ok)
      have HCR := Aside0.mk (show ∀ W, Below wd.heap.size wd W → Calls Try.prog 27 #[.agg #[.int .i64 ((Wd - X : Nat) : Int), .int .i64 (Ht : Int), .slice Ao T.length co]] W fun e w' => e = .returned (.int .i64 (bestV T (Wd - X) Ht)) ∧ Below W.heap.size W w' from fun W hW => best_of (Kd.C_below hCe hW) HT.out.c (by omega) (by omega) HT.out.h1 (by have := HT.out.hm; omega) HT.out.n HT.out.ok)
      have HCO := Aside0.mk (show ∀ W, Below wd.heap.size wd W → Calls Try.prog 27 #[.agg #[.int .i64 (Wd : Int), .int .i64 (Ht : Int), .slice Ao T.length co]] W fun e w' => e = .returned (.int .i64 (bestV T Wd Ht)) ∧ Below W.heap.size W w' from fun W hW => best_of (Kd.C_below hCe hW) HT.out.c HT.out.w1 (by have := HT.out.wm; omega) HT.out.h1 (by have := HT.out.hm; omega) HT.out.n HT.out.ok)
      have hup := bestV_small HT.out.ok (i := Wd) (j := Ht) (by omega) (by have := HT.out.hm; omega)
      generalize bestV T X Ht = vx at *
      generalize bestV T (Wd - X) Ht = vy at *
      generalize bestV T Wd Ht = vo at *
      clear hCe q0 q1 q2 r0 r1 r2 z0 z1 z2 HXd HLd HRd HCd HPW h3 hlx2 hll2 hlr2 HRD HPQ
      have q0 := (blk_cell HXe.out 0).trans rfl
      have q1 := (blk_cell HXe.out 1).trans rfl
      have q2 := (blk_cell HXe.out 2).trans rfl
      have z0 := (blk_cell HLe.out 0).trans rfl
      have z1 := (blk_cell HLe.out 1).trans rfl
      have z2 := (blk_cell HLe.out 2).trans rfl
      go_wp2_with fail
      have r0 := (blk_cell HRe.out 0).trans rfl
      have r1 := (blk_cell HRe.out 1).trans rfl
      have r2 := (blk_cell HRe.out 2).trans rfl
      have HKQ : Aside0 (∀ w', Below wd.heap.size wd w' → Below wd.heap.size wd w' ∧ w'.cell? ⟨gl, 0, none⟩ = some (.int .i64 (X : Int)) ∧ w'.cell? ⟨gl, 1, none⟩ = some (.int .i64 (Ht : Int)) ∧ w'.cell? ⟨gl, 2, none⟩ = some (.slice Ao T.length co) ∧ w'.cell? ⟨gr, 0, none⟩ = some (.int .i64 ((Wd - X : Nat) : Int)) ∧ w'.cell? ⟨gr, 1, none⟩ = some (.int .i64 (Ht : Int)) ∧ w'.cell? ⟨gr, 2, none⟩ = some (.slice Ao T.length co)) := ⟨fun w' hb => ⟨hb, pw_cell_below hb z0, pw_cell_below hb z1, pw_cell_below hb z2, pw_cell_below hb r0, pw_cell_below hb r1, pw_cell_below hb r2⟩⟩
      have HB6 := Aside0.mk hB6
      clear q0 q1 q2 z0 z1 z2 r0 r1 r2 hB6 hB
      go_region_held3 (fun w' => Below wd.heap.size wd w' ∧ w'.cell? ⟨gl, 0, none⟩ = some (.int .i64 (X : Int)) ∧ w'.cell? ⟨gl, 1, none⟩ = some (.int .i64 (Ht : Int)) ∧ w'.cell? ⟨gl, 2, none⟩ = some (.slice Ao T.length co) ∧ w'.cell? ⟨gr, 0, none⟩ = some (.int .i64 ((Wd - X : Nat) : Int)) ∧ w'.cell? ⟨gr, 1, none⟩ = some (.int .i64 (Ht : Int)) ∧ w'.cell? ⟨gr, 2, none⟩ = some (.slice Ao T.length co))
        (first
          | exact HKQ.out _ (below_drew (Below.refl _ _))
          | (go_split_ands; exact HKQ.out _ (below_on (by assumption) b2))
          | (go_split_ands; exact HKQ.out _ (below_on (by assumption) b1)))
        (first
          | (go_at_call 27; (with_reducible refine (HCL.out _ ?_).mono ?_); (focus (first | exact below_drew (Below.refl _ _) | (go_split_ands; assumption))); rintro e w1 ⟨rfl, b1⟩)
          | (go_at_call 27; (with_reducible refine (HCR.out _ ?_).mono ?_); (focus (first | exact below_drew (Below.refl _ _) | (go_split_ands; assumption))); rintro e w2 ⟨rfl, b2⟩))
      all_goals
        have hBw : Below wd.heap.size wd w2 := below_on (below_on (below_drew (Below.refl _ _)) b1) b2
        have HXw := (hBw.block _ hlx3).trans HXe.out
        have q0 := (blk_cell HXw 0).trans rfl
        have q1 := (blk_cell HXw 1).trans rfl
        have q2 := (blk_cell HXw 2).trans rfl
        have HBw := Aside0.mk hBw
        have e1 : IntKind.i64.wrap (vx + vy) = vx + vy := by rw [i64_w]; unfold wrap64; omega
        clear hBw b1 b2 HXw
        go_wp2_with (first
          | (go_at_call 27
             (with_reducible refine (HCO.out _ HBw.out).mono ?_)
             rintro e w3 ⟨rfl, b3⟩)
          | (go_at_call 19
             (with_reducible refine (awake_any _).mono ?_)
             rintro e w4 ⟨rfl, b4⟩))
        go_ret
        exact ⟨by simp [go_sem], below_on HB0.out (below_on (below_on (below_on HB6.out HBw.out) b3) b4)⟩

end Go.Proofs.Ytochbhndeboodaa
