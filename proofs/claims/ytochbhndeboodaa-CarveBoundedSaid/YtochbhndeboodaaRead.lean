/- The walks of read, made, Worth and Rest: a plan is read, or ErrPlan. -/
import Derived.Test.YtochbhndeboodaaPiece
import Derived.Test.YtochbhndeboodaaPlainH
import Derived.Laws.EntriesVeiled
namespace Go.Proofs.Ytochbhndeboodaa
set_option linter.unusedVariables false
set_option linter.unusedSimpArgs false
open Go.RowKit Go.Proofs.YtochbhndeboodaaW.PrintWords Go.Proofs.YtochbhndeboodaaW.PrintLast Go.Proofs.YtochbhndeboodaaW.PrintMore
open Go.Proofs.Ytochbhndeboodaa.PCarveMore (S52 S56 k52 k56)

def RDPost (L : List S52) (a0 a1 : Int) (p : List S56) (w : World) (e : Ending) (w' : World) : Prop :=
  Below w.heap.size w w' ∧ ((∃ v a, readP L a0 a1 p = some (v, a) ∧ e = .returned (.tuple #[.agg #[.int .i64 v, .int .i64 a], .bool true])) ∨ (∃ v a, readP L a0 a1 p = none ∧ e = .returned (.tuple #[.agg #[.int .i64 v, .int .i64 a], .bool false])))

theorem RS_start (w : World) (X : Array Value) (pl : Value) :
    RS w w.heap.size X pl ((((((w.alloc (.cells X 59)).alloc (.cells #[pl] 26)).alloc (.cells #[.int .i64 0, .int .i64 0] 73)).alloc (.cells #[.int .i64 0, .int .i64 0] 73)).alloc (.cells #[.int .i64 0] 3)).alloc (.cells #[pieceFn w.heap.size] 89)) 0 0 0 := by
  have hp : ∀ (W : World) (o : Obj) (i : Nat) (x : Obj), W.heap[i]? = some x → (W.alloc o).heap[i]? = some x := fun W o i x h => (Below.heap_alloc W o i (blk_lt h)).trans h
  have hn : ∀ (W : World) (o : Obj) (n : Nat), W.heap.size = n → (W.alloc o).heap[n]? = some o := fun W o n h => h ▸ heap_alloc_new W o
  refine ⟨rfl, ?_, ?_, ?_, ?_, ?_, ?_, ?_⟩
  · exact below_alloc (below_alloc (below_alloc (below_alloc (below_alloc (below_alloc (Below.refl _ _) _) _) _) _) _) _
  · exact hp _ _ _ _ (hp _ _ _ _ (hp _ _ _ _ (hp _ _ _ _ (hp _ _ _ _ (hn _ _ _ rfl)))))
  · exact hp _ _ _ _ (hp _ _ _ _ (hp _ _ _ _ (hp _ _ _ _ (hn _ _ _ (by simp)))))
  · exact hp _ _ _ _ (hp _ _ _ _ (hp _ _ _ _ (hn _ _ _ (by simp))))
  · exact hp _ _ _ _ (hp _ _ _ _ (hn _ _ _ (by simp)))
  · exact hp _ _ _ _ (hn _ _ _ (by simp))
  · exact hn _ _ _ (by simp)

set_option maxHeartbeats 2000000 in
set_option maxRecDepth 100000 in
theorem read_any (a0 a1 : Int) (L : List S52) (p : List S56) (A Ap : Option Addr) (c cp : Nat) (w : World) (hr : Kd.C k52 w A L.length L) (hp : Kd.C k56 w Ap p.length p) (ht : isTask a0 a1 L) :
    Calls Try.prog 39 #[.agg #[.int .i64 a0, .int .i64 a1, .slice A L.length c], .slice Ap p.length cp] w (RDPost L a0 a1 p w) := by
  obtain ⟨w1, w48⟩ := inB_iff.1 ht.1
  obtain ⟨h1, h48⟩ := inB_iff.1 ht.2.1
  have HR := Aside0.mk hr
  have HP := Aside0.mk hp
  have HT := Aside0.mk ht
  have hpm : p.length ≤ 9223372036854775807 := Kd.C_max hp
  clear hr hp ht
  have hu59 := Try.underlying59
  have hu73 := Try.underlying73
  have hmf : ∀ (fn : Fn) (first cap : Array Value) (w : World), (Instr.makeFunc fn first cap).run Try.prog w = .ok (.func fn first cap) w := fun _ _ _ _ => rfl
  by_cases hl : p.length ≤ 8192
  · have hfair : Fair p 0 0 0 := ⟨Nat.zero_le _, by omega, by omega, by omega, by omega⟩
    have HFA := Aside0.mk hfair
    clear hfair
    go_enter Try.func39, Try.ntmps39
    go_wp2_with (first
      | (go_at_call 42
         go_must (refine (piece_any L p A Ap c cp w w.heap.size (.int .i64 a0) (.int .i64 a1) HR.out HP.out HT.out.2.2.2 HT.out.2.2.1 hl p.length 0 a0 a1 0 0 _ (by omega) w1 w48 h1 h48 HFA.out (RS_start w _ _)).mono ?_)
         intro e wa hP
         obtain ⟨hK', hP⟩ := hP.cases
         clear hK'
         rcases hP with ⟨k', wo', ar', rfl, hR', hF', hn'⟩ | ⟨k', v, a, rfl, hR', hF', hn'⟩
         (have cs0 : wa.cell? ⟨w.heap.size + 1 + 1 + 1, 0, none⟩ = some (.int .i64 wo') := (blk_cell hR'.hs 0).trans rfl
          have cs1 : wa.cell? ⟨w.heap.size + 1 + 1 + 1, 1, none⟩ = some (.int .i64 ar') := (blk_cell hR'.hs 1).trans rfl
          have cr0 : wa.cell? ⟨w.heap.size + 1 + 1, 0, none⟩ = some (.int .i64 0) := (blk_cell hR'.hr 0).trans rfl
          have cr1 : wa.cell? ⟨w.heap.size + 1 + 1, 1, none⟩ = some (.int .i64 0) := (blk_cell hR'.hr 1).trans rfl
          have fr0 : wa.frozen? ⟨w.heap.size + 1 + 1, 0, none⟩ = false := blk_frozen hR'.hr 0
          have fr1 : wa.frozen? ⟨w.heap.size + 1 + 1, 1, none⟩ = false := blk_frozen hR'.hr 1
          have HRa := Aside0.mk hR'
          have HNa := Aside0.mk hn'
          clear hR' hF' hn'
          rotate_left
          have ca0 : wa.cell? ⟨w.heap.size + 1 + 1 + 1 + 1, 0, none⟩ = some (.int .i64 k') := (blk_cell hR'.ha 0).trans rfl
          have cp0 : wa.cell? ⟨w.heap.size + 1, 0, none⟩ = some (.slice Ap p.length cp) := (blk_cell hR'.hp 0).trans rfl
          have cs0 : wa.cell? ⟨w.heap.size + 1 + 1 + 1, 0, none⟩ = some (.int .i64 (0 + v)) := (blk_cell hR'.hs 0).trans rfl
          have cs1 : wa.cell? ⟨w.heap.size + 1 + 1 + 1, 1, none⟩ = some (.int .i64 (0 + a)) := (blk_cell hR'.hs 1).trans rfl
          have cr0 : wa.cell? ⟨w.heap.size + 1 + 1, 0, none⟩ = some (.int .i64 0) := (blk_cell hR'.hr 0).trans rfl
          have cr1 : wa.cell? ⟨w.heap.size + 1 + 1, 1, none⟩ = some (.int .i64 0) := (blk_cell hR'.hr 1).trans rfl
          have fr0 : wa.frozen? ⟨w.heap.size + 1 + 1, 0, none⟩ = false := blk_frozen hR'.hr 0
          have fr1 : wa.frozen? ⟨w.heap.size + 1 + 1, 1, none⟩ = false := blk_frozen hR'.hr 1
          have HRb := Aside0.mk hR'
          have HNb := Aside0.mk hn'
          have HFb := Aside0.mk hF'
          clear hR' hF' hn'
          rotate_left)))
    · have hN : parseP L p.length a0 a1 p = none := by have := HNa.out; simpa using this
      refine bodyPost_ret (v := .tuple #[.agg #[.int .i64 wo', .int .i64 ar'], .bool false]) (by simp [results, Try.results39, go_sem, cr0, cr1]) rfl ⟨?_, .inr ⟨wo', ar', ?_, rfl⟩⟩
      · exact (HRa.out.below.setCell (by simp; omega) _).setCell (by simp; omega) _
      · unfold readP
        rw [if_pos hl, hN]
    · have hN : parseP L p.length a0 a1 p = some (v, a, p.drop k') := by have := HNb.out; simpa using this
      have hk' : k' ≤ p.length := HFb.out.1
      by_cases hk : k' = p.length
      · refine bodyPost_ret (v := .tuple #[.agg #[.int .i64 v, .int .i64 a], .bool true]) (by simp [results, Try.results39, go_sem, cr0, cr1, hk]) rfl ⟨?_, .inl ⟨v, a, ?_, rfl⟩⟩
        · exact (HRb.out.below.setCell (by simp; omega) _).setCell (by simp; omega) _
        · unfold readP
          rw [if_pos hl, hN, hk, List.drop_length]
      · have hkf : ((k' : Int) == (p.length : Int)) = false := by simp; omega
        refine bodyPost_ret (v := .tuple #[.agg #[.int .i64 v, .int .i64 a], .bool false]) (by simp [results, Try.results39, go_sem, cr0, cr1, hkf]) rfl ⟨?_, .inr ⟨v, a, ?_, rfl⟩⟩
        · exact (HRb.out.below.setCell (by simp; omega) _).setCell (by simp; omega) _
        · unfold readP
          rw [if_pos hl, hN]
          obtain ⟨x, y, e⟩ : ∃ x y, p.drop k' = x :: y := ⟨_, _, List.drop_eq_getElem_cons (by omega)⟩
          rw [e]
  · have hli : ¬ (p.length : Int) ≤ 8192 := by omega
    have hd : decide ((p.length : Int) ≤ 8192) = false := decide_eq_false hli
    have HL := Aside0.mk hl
    clear hl
    go_enter Try.func39, Try.ntmps39
    go_wp2
    refine bodyPost_ret (v := .tuple #[.agg #[.int .i64 0, .int .i64 0], .bool false]) (by simp [results, Try.results39, go_sem]) rfl ⟨?_, .inr ⟨0, 0, ?_, rfl⟩⟩
    · exact below_alloc (below_alloc (below_alloc (below_alloc (below_alloc (below_alloc (Below.refl _ _) _) _) _) _) _) _
    · unfold readP
      rw [if_neg (by have := HL.out; omega)]

theorem readP_bd {L : List S52} {a0 a1 : Int} {p : List S56} {v a : Int} (ht : isTask a0 a1 L) (h : readP L a0 a1 p = some (v, a)) : 0 ≤ v ∧ v ≤ a0 * a1 * 1048576 ∧ 0 ≤ a ∧ a ≤ a0 * a1 := by
  unfold readP at h
  split at h
  · split at h
    · rename_i e
      simp only [Option.some.injEq, Prod.mk.injEq] at h
      obtain ⟨rfl, rfl⟩ := h
      exact parseP_area L ht.2.2.2 _ _ _ _ _ _ _ (inB_iff.1 ht.1).1 (inB_iff.1 ht.2.1).1 e
    · cases h
  · cases h

theorem rest_bd {L : List S52} {a0 a1 : Int} {p : List S56} {v a : Int} (ht : isTask a0 a1 L) (h : readP L a0 a1 p = some (v, a)) : 0 ≤ a ∧ a ≤ a0 * a1 ∧ 0 ≤ a0 * a1 ∧ a0 * a1 ≤ 2304 := by
  obtain ⟨_, _, h3, h4⟩ := readP_bd ht h
  obtain ⟨w1, w48⟩ := inB_iff.1 ht.1
  obtain ⟨h1, h48⟩ := inB_iff.1 ht.2.1
  have := area_le (w := 48) (h := 48) (by omega) (by omega) w48 h48
  omega

def MDPost (L : List S52) (a0 a1 : Int) (p : List S56) (w : World) (e : Ending) (w' : World) : Prop :=
  Below w.heap.size w w' ∧ ((¬ isTask a0 a1 L ∧ e = .returned (.tuple #[.agg #[.int .i64 0, .int .i64 0], .int .i64 2])) ∨
    (isTask a0 a1 L ∧ readP L a0 a1 p = none ∧ e = .returned (.tuple #[.agg #[.int .i64 0, .int .i64 0], .int .i64 20])) ∨
    (∃ v a, isTask a0 a1 L ∧ readP L a0 a1 p = some (v, a) ∧ e = .returned (.tuple #[.agg #[.int .i64 v, .int .i64 a], .int .i64 0])))

set_option maxHeartbeats 2000000 in
set_option maxRecDepth 100000 in
theorem made_any (a0 a1 : Int) (L : List S52) (p : List S56) (A Ap : Option Addr) (c cp : Nat) (w : World) (hr : Kd.C k52 w A L.length L) (hp : Kd.C k56 w Ap p.length p) :
    Calls Try.prog 33 #[.int .i64 a0, .int .i64 a1, .slice A L.length c, .slice Ap p.length cp] w (MDPost L a0 a1 p w) := by
  have HR := Aside0.mk hr
  have HP := Aside0.mk hp
  clear hr hp
  have hu59 := Try.underlying59
  have hu73 := Try.underlying73
  by_cases ht : isTask a0 a1 L
  · have HT := Aside0.mk ht
    clear ht
    go_enter Try.func33, Try.ntmps33
    go_wp2_with (first
      | (go_at_call 29
         (with_reducible refine (newTask_any _ _ _ _ _ _ (Kd.C_alloc HR.out _)).mono ?_)
         rintro e wa ⟨hres, hb⟩
         obtain rfl := (hres.resolve_right (fun h => h.1 HT.out)).2
         clear hres
         have hX := (hb.block w.heap.size (by simp)).trans (heap_alloc_new w (.cells #[.int .i64 0, .int .i64 0] 73))
         have hB := below_then (below_alloc (Below.refl w.heap.size w) (.cells #[.int .i64 0, .int .i64 0] 73)) (by simp) hb
         have HX := Aside0.mk hX
         have HB := Aside0.mk hB
         clear hX hB hb)
      | (go_at_call 39
         (with_reducible refine (read_any a0 a1 L p A Ap c cp _ (Kd.C_alloc (Kd.C_below HR.out HB.out) _) (Kd.C_alloc (Kd.C_below HP.out HB.out) _) HT.out).mono ?_)
         rintro e wb ⟨hb, hres⟩
         have hX := (hb.block w.heap.size (by have := blk_lt HX.out; simp; omega)).trans ((Below.heap_alloc _ _ _ (blk_lt HX.out)).trans HX.out)
         have hB := below_then (below_alloc HB.out _) (by have := HB.out.size; simp; omega) hb
         have q0 := (blk_cell hX 0).trans rfl
         have q1 := (blk_cell hX 1).trans rfl
         have q2 := blk_frozen hX 0
         have q3 := blk_frozen hX 1
         have q4 := blk_lt hX
         have HB2 := Aside0.mk hB
         clear hX hB hb
         rcases hres with ⟨v, a, hv, rfl⟩ | ⟨v, a, hv, rfl⟩
         (have HV := Aside0.mk hv
          clear hv
          rotate_left
          have HV := Aside0.mk hv
          clear hv
          rotate_left)))
    · refine bodyPost_ret (v := .tuple #[.agg #[.int .i64 v, .int .i64 a], .int .i64 0]) (by simp [results, Try.results33, go_sem, q0, q1, q4]) rfl ⟨?_, .inr (.inr ⟨v, a, HT.out, HV.out, rfl⟩)⟩
      exact below_alloc ((HB2.out.setCell (Nat.le_refl _) _).setCell (Nat.le_refl _) _) _
    · refine bodyPost_ret (v := .tuple #[.agg #[.int .i64 0, .int .i64 0], .int .i64 20]) (by simp [results, Try.results33, go_sem, q0, q1, q4]) rfl ⟨?_, .inr (.inl ⟨HT.out, HV.out, rfl⟩)⟩
      exact below_alloc ((HB2.out.setCell (Nat.le_refl _) _).setCell (Nat.le_refl _) _) _
  · have HT := Aside0.mk ht
    clear ht
    go_enter Try.func33, Try.ntmps33
    go_wp2_with (first
      | (go_at_call 29
         (with_reducible refine (newTask_any _ _ _ _ _ _ (Kd.C_alloc HR.out _)).mono ?_)
         rintro e wa ⟨hres, hb⟩
         obtain rfl := (hres.resolve_left (fun h => HT.out h.1)).2
         clear hres
         have hX := (hb.block w.heap.size (by simp)).trans (heap_alloc_new w (.cells #[.int .i64 0, .int .i64 0] 73))
         have hB := below_then (below_alloc (Below.refl w.heap.size w) (.cells #[.int .i64 0, .int .i64 0] 73)) (by simp) hb
         have q0 := (blk_cell hX 0).trans rfl
         have q1 := (blk_cell hX 1).trans rfl
         have q2 := blk_frozen hX 0
         have q3 := blk_frozen hX 1
         have q4 := blk_lt hX
         have HB := Aside0.mk hB
         clear hX hB hb))
    refine bodyPost_ret (v := .tuple #[.agg #[.int .i64 0, .int .i64 0], .int .i64 2]) (by simp [results, Try.results33, go_sem, q0, q1, q4]) rfl ⟨?_, .inl ⟨HT.out, rfl⟩⟩
    exact below_alloc ((HB.out.setCell (Nat.le_refl _) _).setCell (Nat.le_refl _) _) _

/-- What Worth and Rest return: the two numbers are the worth and the waste. -/
def WPost (f : Int → Int → Int) (L : List S52) (a0 a1 : Int) (p : List S56) (w : World) (e : Ending) (w' : World) : Prop :=
  Below w.heap.size w w' ∧ ((¬ isTask a0 a1 L ∧ e = .returned (.tuple #[.int .i64 0, .int .i64 2])) ∨
    (isTask a0 a1 L ∧ readP L a0 a1 p = none ∧ e = .returned (.tuple #[.int .i64 0, .int .i64 20])) ∨
    (∃ v a, isTask a0 a1 L ∧ readP L a0 a1 p = some (v, a) ∧ e = .returned (.tuple #[.int .i64 (f v a), .int .i64 0])))

set_option maxHeartbeats 1000000 in
set_option maxRecDepth 100000 in
theorem worth_any (a0 a1 : Int) (L : List S52) (p : List S56) (A Ap : Option Addr) (c cp : Nat) (w : World) (hr : Kd.C k52 w A L.length L) (hp : Kd.C k56 w Ap p.length p) :
    Calls Try.prog 16 #[.int .i64 a0, .int .i64 a1, .slice A L.length c, .slice Ap p.length cp] w (WPost (fun v _ => v) L a0 a1 p w) := by
  have HR := Aside0.mk hr
  have HP := Aside0.mk hp
  clear hr hp
  have hu73 := Try.underlying73
  go_enter Try.func16, Try.ntmps16
  go_wp2_with (first
    | (go_at_call 33
       (with_reducible refine (made_any a0 a1 L p A Ap c cp _ HR.out HP.out).mono ?_)
       rintro e wa ⟨hb, ⟨h1, rfl⟩ | ⟨h1, h2, rfl⟩ | ⟨v, a, h1, h2, rfl⟩⟩
       (have H1 := Aside0.mk h1
        have HB := Aside0.mk hb
        clear h1 hb
        rotate_left
        have H1 := Aside0.mk h1
        have H2 := Aside0.mk h2
        have HB := Aside0.mk hb
        clear h1 h2 hb
        rotate_left
        have H1 := Aside0.mk h1
        have H2 := Aside0.mk h2
        have HB := Aside0.mk hb
        clear h1 h2 hb
        rotate_left)))
  · go_ret2
    exact ⟨below_alloc HB.out _, .inl ⟨H1.out, rfl⟩⟩
  · go_ret2
    exact ⟨below_alloc HB.out _, .inr (.inl ⟨H1.out, H2.out, rfl⟩)⟩
  · go_ret2
    exact ⟨below_alloc HB.out _, .inr (.inr ⟨v, a, H1.out, H2.out, rfl⟩)⟩

set_option maxHeartbeats 1000000 in
set_option maxRecDepth 100000 in
theorem rest_any (a0 a1 : Int) (L : List S52) (p : List S56) (A Ap : Option Addr) (c cp : Nat) (w : World) (hr : Kd.C k52 w A L.length L) (hp : Kd.C k56 w Ap p.length p) :
    Calls Try.prog 17 #[.int .i64 a0, .int .i64 a1, .slice A L.length c, .slice Ap p.length cp] w (WPost (fun _ a => a0 * a1 - a) L a0 a1 p w) := by
  have HR := Aside0.mk hr
  have HP := Aside0.mk hp
  clear hr hp
  have hu73 := Try.underlying73
  go_enter Try.func17, Try.ntmps17
  go_wp2_with (first
    | (go_at_call 33
       (with_reducible refine (made_any a0 a1 L p A Ap c cp _ HR.out HP.out).mono ?_)
       rintro e wa ⟨hb, ⟨h1, rfl⟩ | ⟨h1, h2, rfl⟩ | ⟨v, a, h1, h2, rfl⟩⟩
       (have H1 := Aside0.mk h1
        have HB := Aside0.mk hb
        clear h1 hb
        rotate_left
        have H1 := Aside0.mk h1
        have H2 := Aside0.mk h2
        have HB := Aside0.mk hb
        clear h1 h2 hb
        rotate_left
        obtain ⟨ba0, ba1, ba2, ba3⟩ := rest_bd h1 h2
        have H1 := Aside0.mk h1
        have H2 := Aside0.mk h2
        have HB := Aside0.mk hb
        clear h1 h2 hb
        rotate_left)))
  · go_ret2
    exact ⟨below_alloc HB.out _, .inl ⟨H1.out, rfl⟩⟩
  · go_ret2
    exact ⟨below_alloc HB.out _, .inr (.inl ⟨H1.out, H2.out, rfl⟩)⟩
  · go_ret2
    exact ⟨below_alloc HB.out _, .inr (.inr ⟨v, a, H1.out, H2.out, rfl⟩)⟩

end Go.Proofs.Ytochbhndeboodaa
