/- The walk of the closure that reads a plan piece by piece. -/
import Derived.Test.YtochbhndeboodaaTask
namespace Go.Proofs.Ytochbhndeboodaa
set_option linter.unusedVariables false
set_option linter.unusedSimpArgs false
open Go.RowKit Go.Proofs.YtochbhndeboodaaW.PrintWords Go.Proofs.YtochbhndeboodaaW.PrintLast Go.Proofs.YtochbhndeboodaaW.PrintMore
open Go.Proofs.Ytochbhndeboodaa.PCarveMore (S52 S56 k52 k56)

def pieceFn (B : Nat) : Value := .func (.func 42) #[] #[.pointer (some ⟨B + 4, 0, none⟩), .pointer (some ⟨B + 1, 0, none⟩), .pointer (some ⟨B, 0, none⟩), .pointer (some ⟨B + 3, 0, none⟩), .pointer (some ⟨B + 5, 0, none⟩)]

/-- What the closure captured: the task, the plan, what was made so far, where it stands, itself. -/
structure RS (W0 : World) (B : Nat) (X : Array Value) (pl : Value) (W : World) (k : Nat) (wo ar : Int) : Prop where
  hB : W0.heap.size = B
  below : Below B W0 W
  hx : W.heap[B]? = some (.cells X 59 (0, 0))
  hp : W.heap[B + 1]? = some (.cells #[pl] 26 (0, 0))
  hr : W.heap[B + 2]? = some (.cells #[.int .i64 0, .int .i64 0] 73 (0, 0))
  hs : W.heap[B + 3]? = some (.cells #[.int .i64 wo, .int .i64 ar] 73 (0, 0))
  ha : W.heap[B + 4]? = some (.cells #[.int .i64 k] 3 (0, 0))
  hc : W.heap[B + 5]? = some (.cells #[pieceFn B] 89 (0, 0))

theorem RS.step {W0 W W1 : World} {B : Nat} {X : Array Value} {pl : Value} {k : Nat} {wo ar : Int} (h : RS W0 B X pl W k wo ar) (hb : Below W.heap.size W W1) : RS W0 B X pl W1 k wo ar :=
  ⟨h.hB, h.below.trans (hb.mono (by have := blk_lt h.hx; omega)), (hb.block _ (blk_lt h.hx)).trans h.hx, (hb.block _ (blk_lt h.hp)).trans h.hp, (hb.block _ (blk_lt h.hr)).trans h.hr, (hb.block _ (blk_lt h.hs)).trans h.hs, (hb.block _ (blk_lt h.ha)).trans h.ha, (hb.block _ (blk_lt h.hc)).trans h.hc⟩
theorem RS.alloc {W0 W : World} {B : Nat} {X : Array Value} {pl : Value} {k : Nat} {wo ar : Int} (h : RS W0 B X pl W k wo ar) (o : Obj) : RS W0 B X pl (W.alloc o) k wo ar := h.step (below_alloc (Below.refl _ _) o)
theorem RS.setAt {W0 W : World} {B : Nat} {X : Array Value} {pl : Value} {k : Nat} {wo ar : Int} (h : RS W0 B X pl W k wo ar) (k' : Nat) (x : Int) (hk : x = k') : RS W0 B X pl (W.setCell ⟨B + 4, 0, none⟩ (.int .i64 x)) k' wo ar := by
  subst hk
  exact ⟨h.hB, h.below.setCell (by simp) _, blk_far h.hx (by simp) _, blk_far h.hp (by simp) _, blk_far h.hr (by simp) _, blk_far h.hs (by simp) _, blk_set h.ha 0 _, blk_far h.hc (by simp) _⟩
theorem RS.setW {W0 W : World} {B : Nat} {X : Array Value} {pl : Value} {k : Nat} {wo ar : Int} (h : RS W0 B X pl W k wo ar) (wo' : Int) : RS W0 B X pl (W.setCell ⟨B + 3, 0, none⟩ (.int .i64 wo')) k wo' ar :=
  ⟨h.hB, h.below.setCell (by simp) _, blk_far h.hx (by simp) _, blk_far h.hp (by simp) _, blk_far h.hr (by simp) _, blk_set h.hs 0 _, blk_far h.ha (by simp) _, blk_far h.hc (by simp) _⟩
theorem RS.setA {W0 W : World} {B : Nat} {X : Array Value} {pl : Value} {k : Nat} {wo ar : Int} (h : RS W0 B X pl W k wo ar) (ar' : Int) : RS W0 B X pl (W.setCell ⟨B + 3, 1, none⟩ (.int .i64 ar')) k wo ar' :=
  ⟨h.hB, h.below.setCell (by simp) _, blk_far h.hx (by simp) _, blk_far h.hp (by simp) _, blk_far h.hr (by simp) _, blk_set h.hs 1 _, blk_far h.ha (by simp) _, blk_far h.hc (by simp) _⟩

/-- So far, so much at most. -/
def Fair (p : List S56) (k : Nat) (wo ar : Int) : Prop := k ≤ p.length ∧ 0 ≤ wo ∧ wo ≤ k * 1048576 ∧ 0 ≤ ar ∧ ar ≤ k * 2304

/-- Of what was there the closure turns its two counters' blocks alone. -/
def KP (B : Nat) (W W' : World) : Prop := W.heap.size ≤ W'.heap.size ∧ ∀ i, i < W.heap.size → i ≠ B + 3 → i ≠ B + 4 → W'.heap[i]? = W.heap[i]?
theorem KP.refl (B : Nat) (W : World) : KP B W W := ⟨Nat.le_refl _, fun _ _ _ _ => rfl⟩
theorem KP.trans {B : Nat} {W W' W2 : World} (h : KP B W W') (k : KP B W' W2) : KP B W W2 := ⟨Nat.le_trans h.1 k.1, fun i hi h3 h4 => (k.2 i (Nat.lt_of_lt_of_le hi h.1) h3 h4).trans (h.2 i hi h3 h4)⟩
theorem KP.alloc {B : Nat} {W W' : World} (h : KP B W W') (o : Obj) : KP B W (W'.alloc o) := h.trans ⟨by simp, fun i hi _ _ => Below.heap_alloc _ _ _ hi⟩
theorem KP.set {B : Nat} {W W' : World} (h : KP B W W') {g : Nat} (hg : g = B + 3 ∨ g = B + 4) (o : Nat) (u : Value) : KP B W (W'.setCell ⟨g, o, none⟩ u) :=
  h.trans ⟨by simp [World.setCell], fun i _ h3 h4 => Below.heap_setCell _ _ _ _ (by show i ≠ g; rcases hg with rfl | rfl <;> assumption)⟩
theorem KP.step {B : Nat} (W : World) (u : Value) (o : Obj) : KP B W ((W.setCell ⟨B + 4, 0, none⟩ u).alloc o) := ((KP.refl B W).set (.inr rfl) 0 u).alloc o
theorem KP.make {B : Nat} (W : World) (u u1 u2 : Value) (o o2 : Obj) : KP B W (((((W.setCell ⟨B + 4, 0, none⟩ u).setCell ⟨B + 3, 0, none⟩ u1).setCell ⟨B + 3, 1, none⟩ u2).alloc o).alloc o2) :=
  (((((KP.refl B W).set (.inr rfl) 0 u).set (.inl rfl) 0 u1).set (.inl rfl) 1 u2).alloc o).alloc o2

theorem kp_new {B : Nat} {W wa : World} {u : Value} {cs : Array Value} {t : TypeId} (hK : KP B ((W.setCell ⟨B + 4, 0, none⟩ u).alloc (.cells cs t)) wa) (h5 : B + 5 < W.heap.size) (i : Nat) : wa.cell? ⟨W.heap.size, i, none⟩ = cs[i]? := by
  have h1 := heap_alloc_new (W.setCell ⟨B + 4, 0, none⟩ u) (.cells cs t)
  rw [World.size_setCell] at h1
  exact blk_cell ((hK.2 W.heap.size (by simp) (by omega) (by omega)).trans h1) i

/-- What a call of the closure leaves. -/
def PPost (L : List S52) (p : List S56) (W0 : World) (B : Nat) (X : Array Value) (pl : Value) (n k : Nat) (w h wo ar : Int) (W : World) (e : Ending) (W' : World) : Prop :=
  ∃ b k' wo' ar', e = .returned (.bool b) ∧ RS W0 B X pl W' k' wo' ar' ∧ Fair p k' wo' ar' ∧ KP B W W' ∧
    match parseP L n w h (p.drop k) with
    | none => b = false
    | some (v, a, r) => b = true ∧ wo' = wo + v ∧ ar' = ar + a ∧ r = p.drop k'

theorem step_cells {A : Option Addr} {n : Nat} {p : List S56} {w W : World} (hr : Kd.C k56 w A n p) (hb : Below w.heap.size w W) (k : Nat) (hk : k < n) :
    ∃ ad, A = some ad ∧ W.cell? (ad.add (k * 2)) = some (.int .i64 (p.getD k ⟨0, 0⟩).f0) ∧ W.cell? ⟨(ad.add (k * 2)).block, (ad.add (k * 2)).off + 1, none⟩ = some (.int .i64 (p.getD k ⟨0, 0⟩).f1) := by
  obtain ⟨ad, c, e, _, hK, hc0⟩ := Kd.C_get hr (⟨0, 0⟩ : S56) (k : Int) (by omega) (by omega)
  have hc : ∀ j u, c[j]? = some u → w.cell? (ad.add (k * 2 + j)) = some u := hc0
  rw [Int.toNat_natCast] at hK
  obtain rfl := PCarveMore.k56_open hK
  exact ⟨ad, e, pw_cell_below hb (hc 0 _ rfl), by rw [← add_field _ _ 1 (by omega)]; exact pw_cell_below hb (hc 1 _ rfl)⟩

theorem pp_none {L : List S52} {p : List S56} {W0 W W' : World} {B : Nat} {X : Array Value} {pl : Value} {n k k' : Nat} {w h wo ar wo' ar' : Int} (hn : parseP L n w h (p.drop k) = none) (hR : RS W0 B X pl W' k' wo' ar') (hF : Fair p k' wo' ar') (hK : KP B W W') : PPost L p W0 B X pl n k w h wo ar W (.returned (.bool false)) W' :=
  ⟨false, k', wo', ar', rfl, hR, hF, hK, by rw [hn]⟩
theorem pp_some {L : List S52} {p : List S56} {W0 W W' : World} {B : Nat} {X : Array Value} {pl : Value} {n k k' : Nat} {w h wo ar wo' ar' v a : Int} {r : List S56} (hn : parseP L n w h (p.drop k) = some (v, a, r)) (hR : RS W0 B X pl W' k' wo' ar') (hF : Fair p k' wo' ar') (hK : KP B W W') (h1 : wo' = wo + v) (h2 : ar' = ar + a) (h3 : r = p.drop k') : PPost L p W0 B X pl n k w h wo ar W (.returned (.bool true)) W' :=
  ⟨true, k', wo', ar', rfl, hR, hF, hK, by rw [hn]; exact ⟨rfl, h1, h2, h3⟩⟩
theorem pp_bool {L : List S52} {p : List S56} {W0 W W' : World} {B : Nat} {X : Array Value} {pl : Value} {n k : Nat} {w h wo ar : Int} {e e' : Ending} (he : e = e') (hP : PPost L p W0 B X pl n k w h wo ar W e' W') : PPost L p W0 B X pl n k w h wo ar W e W' := he ▸ hP
theorem PPost.cases {L : List S52} {p : List S56} {W0 W W' : World} {B : Nat} {X : Array Value} {pl : Value} {n k : Nat} {w h wo ar : Int} {e : Ending} (hP : PPost L p W0 B X pl n k w h wo ar W e W') : KP B W W' ∧ (
    (∃ k' wo' ar', e = .returned (.bool false) ∧ RS W0 B X pl W' k' wo' ar' ∧ Fair p k' wo' ar' ∧ parseP L n w h (p.drop k) = none) ∨
    (∃ k' v a, e = .returned (.bool true) ∧ RS W0 B X pl W' k' (wo + v) (ar + a) ∧ Fair p k' (wo + v) (ar + a) ∧ parseP L n w h (p.drop k) = some (v, a, p.drop k'))) := by
  obtain ⟨b, k', wo', ar', rfl, hR, hF, hK, hm⟩ := hP
  refine ⟨hK, ?_⟩
  cases hp : parseP L n w h (p.drop k) with
  | none =>
    rw [hp] at hm
    obtain rfl : b = false := hm
    exact .inl ⟨k', wo', ar', rfl, hR, hF, rfl⟩
  | some x =>
    obtain ⟨v, a, r⟩ := x
    rw [hp] at hm
    obtain ⟨rfl, rfl, rfl, rfl⟩ := hm
    exact .inr ⟨k', v, a, rfl, hR, hF, rfl⟩
theorem le_of_parse {L : List S52} {p : List S56} {n k k' : Nat} {w h v a : Int} (he : parseP L n w h (p.drop k) = some (v, a, p.drop k')) (hk : k ≤ p.length) (hk' : k' ≤ p.length) : k < k' := by
  obtain ⟨m, h1, h2, h3⟩ := parseP_drop L n w h _ _ _ _ he
  have := congrArg List.length h3
  simp only [List.length_drop] at this h2
  omega
theorem Fair.next {p : List S56} {k : Nat} {wo ar : Int} (h : Fair p k wo ar) (hk : k < p.length) (v a : Int) (v0 : 0 ≤ v) (v1 : v ≤ 1048576) (a0 : 0 ≤ a) (a1 : a ≤ 2304) : Fair p (k + 1) (wo + v) (ar + a) := by
  obtain ⟨_, h1, h2, h3, h4⟩ := h
  exact ⟨hk, by omega, by simp; omega, by omega, by simp; omega⟩
theorem Fair.next0 {p : List S56} {k : Nat} {wo ar : Int} (h : Fair p k wo ar) (hk : k < p.length) : Fair p (k + 1) wo ar := by
  have := h.next hk 0 0 (by omega) (by omega) (by omega) (by omega)
  simpa using this

theorem cell_past {W : World} {a : Addr} {v : Value} (g o : Nat) (u : Value) (x : Obj) (h : W.cell? a = some v) (hne : a.block ≠ g) : ((W.setCell ⟨g, o, none⟩ u).alloc x).cell? a = some v :=
  pw_cell_below (below_alloc (Below.refl _ _) x) ((World.cell?_of_block (w := W) (Below.heap_setCell W _ u a.block hne)).trans h)

theorem drop_at {p : List S56} {k : Nat} (hk : k < p.length) : p.drop k = p.getD k ⟨0, 0⟩ :: p.drop (k + 1) := by
  rw [List.drop_eq_getElem_cons hk, List.getD_eq_getElem?_getD, List.getElem?_eq_getElem hk]; rfl

set_option maxHeartbeats 1000000 in
set_option maxRecDepth 100000 in
theorem piece_end (L : List S52) (p : List S56) (A Ap : Option Addr) (c cp : Nat) (W0 : World) (B : Nat) (x0 x1 : Value) (hlen : p.length ≤ 8192)
    (n k : Nat) (w h wo ar : Int) (W : World) (hk : k = p.length) (hF : Fair p k wo ar) (hRS : RS W0 B #[x0, x1, .slice A L.length c] (.slice Ap p.length cp) W k wo ar) :
    Calls Try.prog 42 #[.int .i64 w, .int .i64 h, .pointer (some ⟨B + 4, 0, none⟩), .pointer (some ⟨B + 1, 0, none⟩), .pointer (some ⟨B, 0, none⟩), .pointer (some ⟨B + 3, 0, none⟩), .pointer (some ⟨B + 5, 0, none⟩)] W
      (PPost L p W0 B #[x0, x1, .slice A L.length c] (.slice Ap p.length cp) n k w h wo ar W) := by
  have c4 := (blk_cell hRS.ha 0).trans rfl
  have c1 := (blk_cell hRS.hp 0).trans rfl
  have HR := Aside0.mk hRS
  have HF := Aside0.mk hF
  clear hRS hF
  subst hk
  go_enter Try.func42, Try.ntmps42
  go_wp2
  go_ret
  exact pp_none (by rw [List.drop_length]; cases n <;> rfl) HR.out HF.out (KP.refl _ _)

set_option maxHeartbeats 2000000 in
set_option maxRecDepth 100000 in
theorem piece_any (L : List S52) (p : List S56) (A Ap : Option Addr) (c cp : Nat) (W0 : World) (B : Nat) (x0 x1 : Value) (hr : Kd.C k52 W0 A L.length L) (hp : Kd.C k56 W0 Ap p.length p) (hL : ∀ k, k < L.length → okB (blankAt L k)) (hL16 : L.length ≤ 16) (hlen : p.length ≤ 8192)
    (n : Nat) : ∀ (k : Nat) (w h wo ar : Int) (W : World), p.length ≤ n + k → 1 ≤ w → w ≤ 48 → 1 ≤ h → h ≤ 48 → Fair p k wo ar → RS W0 B #[x0, x1, .slice A L.length c] (.slice Ap p.length cp) W k wo ar →
    Calls Try.prog 42 #[.int .i64 w, .int .i64 h, .pointer (some ⟨B + 4, 0, none⟩), .pointer (some ⟨B + 1, 0, none⟩), .pointer (some ⟨B, 0, none⟩), .pointer (some ⟨B + 3, 0, none⟩), .pointer (some ⟨B + 5, 0, none⟩)] W
      (PPost L p W0 B #[x0, x1, .slice A L.length c] (.slice Ap p.length cp) n k w h wo ar W) := by
  induction n with
  | zero =>
    intro k w h wo ar W hn _ _ _ _ hF hRS
    exact piece_end L p A Ap c cp W0 B x0 x1 hlen 0 k w h wo ar W (by have := hF.1; omega) hF hRS
  | succ n ih =>
    intro k w h wo ar W hn w1 w48 h1 h48 hF hRS
    by_cases hk : k = p.length
    · exact piece_end L p A Ap c cp W0 B x0 x1 hlen (n + 1) k w h wo ar W hk hF hRS
    · have hkl : k < p.length := by have := hF.1; omega
      have c4 := (blk_cell hRS.ha 0).trans rfl
      have c1 := (blk_cell hRS.hp 0).trans rfl
      have f4 := blk_frozen hRS.ha 0
      have l4 := blk_lt hRS.ha
      obtain ⟨ad, rfl, s0, s1⟩ := step_cells hp (hRS.hB ▸ hRS.below) k hkl
      have hd := drop_at hkl
      generalize hs : p.getD k ⟨0, 0⟩ = st at s0 s1 hd
      have HD := Aside0.mk hd
      have HR := Aside0.mk hRS
      have HF := Aside0.mk hF
      have HIH := Aside0.mk ih
      have hF1 := hF.1
      have c2 := (blk_cell hRS.hx 2).trans rfl
      have c30 := (blk_cell hRS.hs 0).trans rfl
      have c31 := (blk_cell hRS.hs 1).trans rfl
      have c5 : W.cell? ⟨B + 5, 0, none⟩ = some (.func (.func 42) #[] #[.pointer (some ⟨B + 4, 0, none⟩), .pointer (some ⟨B + 1, 0, none⟩), .pointer (some ⟨B, 0, none⟩), .pointer (some ⟨B + 3, 0, none⟩), .pointer (some ⟨B + 5, 0, none⟩)]) := (blk_cell hRS.hc 0).trans rfl
      have f30 := blk_frozen hRS.hs 0
      have f31 := blk_frozen hRS.hs 1
      have l5 := blk_lt hRS.hc
      have l0 := blk_lt hRS.hx
      have l1 := blk_lt hRS.hp
      have l3 := blk_lt hRS.hs
      have HL := Aside0.mk hL
      have HRL := Aside0.mk hr
      have hkl1 : k + 1 ≤ p.length := hkl
      clear hd hs hRS hF ih hk hr hp hL
      obtain ⟨kd, aa⟩ := st
      dsimp only at s0 s1
      have hu56 := Try.underlying56
      by_cases k0 : kd = 0
      · by_cases k1 : aa = 0
        · go_enter Try.func42, Try.ntmps42
          go_wp2
          go_ret
          refine pp_bool ?_ (pp_some (by rw [HD.out, parseP_waste k0, if_pos k1]) ((HR.out.setAt (k + 1) _ (by simp)).alloc _) (HF.out.next0 hkl) (KP.step _ _ _) (by omega) (by omega) rfl)
          simp [go_sem, k1]
        · have k1f : (aa == 0) = false := by simpa using k1
          have K1 := Aside0.mk k1
          clear k1
          go_enter Try.func42, Try.ntmps42
          go_wp2
          go_ret
          refine pp_bool ?_ (pp_none (by rw [HD.out, parseP_waste k0, if_neg K1.out]) ((HR.out.setAt (k + 1) _ (by simp)).alloc _) (HF.out.next0 hkl) (KP.step _ _ _))
          simp [go_sem, k1f]
      · have e0 : (kd == 0) = false := by simpa using k0
        have K0 := Aside0.mk k0
        clear k0
        by_cases k1 : kd = 1
        · subst k1
          by_cases i1 : inB aa 0 ((L.length : Int) - 1) = true
          · obtain ⟨i10, i11⟩ := inB_iff.1 i1
            obtain ⟨m, rfl⟩ : ∃ m : Nat, aa = (m : Int) := ⟨aa.toNat, by omega⟩
            have hml : m < L.length := by omega
            obtain ⟨ad2, rfl, b0, b1, b2⟩ := blank_cells HRL.out (HR.out.hB ▸ HR.out.below) m hml
            have HI := Aside0.mk i1
            have hok := HL.out m hml
            have n4 : (ad2.add (m * 3)).block < B := by
              have := World.block_lt_of_cell? W0 _ (blank_cells HRL.out (Below.refl _ W0) m hml).choose_spec.2.1
              have e := Option.some.inj (blank_cells HRL.out (Below.refl _ W0) m hml).choose_spec.1
              rwa [← e, HR.out.hB] at this
            have b0' := cell_past (B + 4) 0 (.int .i64 ((k : Int) + 1)) (.cells #[.int .i64 1, .int .i64 m] 56) b0 (by omega)
            have b1' := cell_past (B + 4) 0 (.int .i64 ((k : Int) + 1)) (.cells #[.int .i64 1, .int .i64 m] 56) b1 (by show (ad2.add (m * 3)).block ≠ _; omega)
            have b2' := cell_past (B + 4) 0 (.int .i64 ((k : Int) + 1)) (.cells #[.int .i64 1, .int .i64 m] 56) b2 (by show (ad2.add (m * 3)).block ≠ _; omega)
            clear b0 b1 b2
            obtain ⟨q0, q1, q2⟩ := hok
            obtain ⟨q00, q01⟩ := inB_iff.1 q0
            obtain ⟨q10, q11⟩ := inB_iff.1 q1
            obtain ⟨q20, q21⟩ := inB_iff.1 q2
            clear q0 q1 q2
            have ar0 : 0 ≤ (blankAt L m).f0 * (blankAt L m).f1 := Int.mul_nonneg (by omega) (by omega)
            have ar1 : (blankAt L m).f0 * (blankAt L m).f1 ≤ 2304 := by
              have h1 : (blankAt L m).f0 * (blankAt L m).f1 ≤ 48 * (blankAt L m).f1 := Int.mul_le_mul_of_nonneg_right q01 (by omega)
              omega
            obtain ⟨hfk, hwo0, hwo1, har0, har1⟩ := HF.out
            have hu52 := Try.underlying52
            have hu73 := Try.underlying73
            have hu59 := Try.underlying59
            have RSn : Aside0 (RS W0 B #[x0, x1, .slice (some ad2) L.length c] (.slice (some ad) p.length cp) (((W.setCell ⟨B + 4, 0, none⟩ (.int .i64 ((k : Int) + 1))).setCell ⟨B + 3, 0, none⟩ (.int .i64 (wo + (blankAt L m).f2))).setCell ⟨B + 3, 1, none⟩ (.int .i64 (ar + (blankAt L m).f0 * (blankAt L m).f1))) (k + 1) (wo + (blankAt L m).f2) (ar + (blankAt L m).f0 * (blankAt L m).f1)) := ⟨(((HR.out.setAt (k + 1) _ (by simp)).setW _).setA _)⟩
            by_cases g0 : (blankAt L m).f0 ≤ w
            · by_cases g1 : (blankAt L m).f1 ≤ h
              · go_enter Try.func42, Try.ntmps42
                go_wp2_with (first | (go_at_call 36; (with_reducible refine (within_any _ _ _ _).mono ?_); rintro e w' ⟨rfl, rfl⟩))
                go_ret
                refine pp_bool ?_ (pp_some (by rw [HD.out, parseP_make rfl HI.out, Int.toNat_natCast, if_pos ⟨g0, g1⟩]) ?_ (HF.out.next hkl _ _ q20 q21 ar0 ar1) (KP.make _ _ _ _ _ _) rfl rfl rfl)
                · simp [go_sem]
                · exact (RSn.out.alloc _).alloc _
              · have G1 := Aside0.mk g1
                go_enter Try.func42, Try.ntmps42
                go_wp2_with (first | (go_at_call 36; (with_reducible refine (within_any _ _ _ _).mono ?_); rintro e w' ⟨rfl, rfl⟩))
                go_ret
                refine pp_bool ?_ (pp_none (by rw [HD.out, parseP_make rfl HI.out, Int.toNat_natCast, if_neg (fun x => by have := G1.out; omega)]) ?_ (HF.out.next hkl _ _ q20 q21 ar0 ar1) (KP.make _ _ _ _ _ _))
                · simp [go_sem]; have := G1.out; omega
                · exact (RSn.out.alloc _).alloc _
            · have G0 := Aside0.mk g0
              go_enter Try.func42, Try.ntmps42
              go_wp2_with (first | (go_at_call 36; (with_reducible refine (within_any _ _ _ _).mono ?_); rintro e w' ⟨rfl, rfl⟩))
              go_ret
              refine pp_bool ?_ (pp_none (by rw [HD.out, parseP_make rfl HI.out, Int.toNat_natCast, if_neg (fun x => by have := G0.out; omega)]) ?_ (HF.out.next hkl _ _ q20 q21 ar0 ar1) (KP.make _ _ _ _ _ _))
              · simp [go_sem]
              · exact (RSn.out.alloc _).alloc _
          · have i1f : inB aa 0 ((L.length : Int) - 1) = false := by simpa using i1
            have I1 := Aside0.mk i1
            clear i1
            go_enter Try.func42, Try.ntmps42
            go_wp2_with (first | (go_at_call 36; (with_reducible refine (within_any _ _ _ _).mono ?_); rintro e w' ⟨rfl, rfl⟩))
            go_ret
            refine pp_bool ?_ (pp_none (by rw [HD.out, parseP_bad K0.out (fun h => I1.out h.2) (fun h => by simp at h) (fun h => by simp at h)]) ((HR.out.setAt (k + 1) _ (by simp)).alloc _) (HF.out.next0 hkl) (KP.step _ _ _))
            simp [go_sem]
        · have e1 : (kd == 1) = false := by simpa using k1
          have K1 := Aside0.mk k1
          clear k1
          by_cases k2 : kd = 2
          · subst k2
            by_cases i1 : inB aa 1 (w - 1) = true
            · obtain ⟨i10, i11⟩ := inB_iff.1 i1
              obtain ⟨d, hd⟩ : ∃ d : Int, d = w - aa := ⟨_, rfl⟩
              have hsub : IntKind.i64.wrap (w - aa) = d := by rw [i64_w]; unfold wrap64; omega
              have hsub2 : w - aa = d := hd.symm
              have d1 : 1 ≤ d := by omega
              have d48 : d ≤ 48 := by omega
              have a48 : aa ≤ 48 := by omega
              have P1 : Aside0 (∀ W', RS W0 B #[x0, x1, .slice A L.length c] (.slice (some ad) p.length cp) W' (k + 1) wo ar → Calls Try.prog 42 #[.int .i64 aa, .int .i64 h, .pointer (some ⟨B + 4, 0, none⟩), .pointer (some ⟨B + 1, 0, none⟩), .pointer (some ⟨B, 0, none⟩), .pointer (some ⟨B + 3, 0, none⟩), .pointer (some ⟨B + 5, 0, none⟩)] W'
                  (PPost L p W0 B #[x0, x1, .slice A L.length c] (.slice (some ad) p.length cp) n (k + 1) aa h wo ar W')) :=
                ⟨fun W' h => HIH.out (k + 1) _ _ wo ar W' (by omega) (by omega) (by omega) (by omega) (by omega) (HF.out.next0 hkl) h⟩
              have P2 : Aside0 (∀ W' k' v a, parseP L n aa h (p.drop (k + 1)) = some (v, a, p.drop k') → Fair p k' (wo + v) (ar + a) → RS W0 B #[x0, x1, .slice A L.length c] (.slice (some ad) p.length cp) W' k' (wo + v) (ar + a) → Calls Try.prog 42 #[.int .i64 d, .int .i64 h, .pointer (some ⟨B + 4, 0, none⟩), .pointer (some ⟨B + 1, 0, none⟩), .pointer (some ⟨B, 0, none⟩), .pointer (some ⟨B + 3, 0, none⟩), .pointer (some ⟨B + 5, 0, none⟩)] W'
                  (PPost L p W0 B #[x0, x1, .slice A L.length c] (.slice (some ad) p.length cp) n k' d h (wo + v) (ar + a) W')) :=
                ⟨fun W' k' v a hk hf h => HIH.out k' _ _ _ _ W' (by have := le_of_parse hk hkl1 hf.1; omega) (by omega) (by omega) (by omega) (by omega) hf h⟩
              have I1 := Aside0.mk i1
              have HSB := Aside0.mk hsub2
              clear hd hsub2
              go_enter Try.func42, Try.ntmps42
              go_wp2_with (first
                | (go_at_call 36; (with_reducible refine (within_any _ _ _ _).mono ?_); rintro e w' ⟨rfl, rfl⟩)
                | (go_at_call 42; (with_reducible refine (P1.out _ ?_).mono ?_); (focus exact (HR.out.setAt (k + 1) _ (by simp)).alloc _); intro e wa hP; obtain ⟨hK', hP⟩ := hP.cases; rcases hP with ⟨k', wo', ar', rfl, hR', hF', hn'⟩ | ⟨k', v, a, rfl, hR', hF', hn'⟩; (have HRa := Aside0.mk hR'; have HFa := Aside0.mk hF'; have HNa := Aside0.mk hn'; have HKa := Aside0.mk hK'; clear hR' hF' hn' hK'; rotate_left; have c5' : wa.cell? ⟨B + 5, 0, none⟩ = some (.func (.func 42) #[] #[.pointer (some ⟨B + 4, 0, none⟩), .pointer (some ⟨B + 1, 0, none⟩), .pointer (some ⟨B, 0, none⟩), .pointer (some ⟨B + 3, 0, none⟩), .pointer (some ⟨B + 5, 0, none⟩)]) := (blk_cell hR'.hc 0).trans rfl; have st1 := (kp_new hK' l5 1).trans rfl; have HRb := Aside0.mk hR'; have HFb := Aside0.mk hF'; have HNb := Aside0.mk hn'; have HKb := Aside0.mk hK'; clear hR' hF' hn' hK'; rotate_left))
                | (go_at_call 42; go_must (with_reducible refine (P2.out _ k' v a HNb.out HFb.out HRb.out).mono ?_); intro e wb hP; obtain ⟨hK2, hP⟩ := hP.cases; rcases hP with ⟨k2, wo2, ar2, rfl, hR2, hF2, hn2⟩ | ⟨k2, v2, a2, rfl, hR2, hF2, hn2⟩; (have HR2 := Aside0.mk hR2; have HF2 := Aside0.mk hF2; have HN2 := Aside0.mk hn2; have HK2 := Aside0.mk hK2; clear hR2 hF2 hn2 hK2; rotate_left; have HR3 := Aside0.mk hR2; have HF3 := Aside0.mk hF2; have HN3 := Aside0.mk hn2; have HK3 := Aside0.mk hK2; clear hR2 hF2 hn2 hK2; rotate_left)))
              all_goals go_ret
              all_goals first
                | exact pp_bool (by simp [go_sem]) (pp_none (by rw [HD.out, parseP_across rfl I1.out]; exact twoP_none HNa.out) HRa.out HFa.out ((KP.step _ _ _).trans HKa.out))
                | exact pp_bool (by simp [go_sem]) (pp_none (by rw [HD.out, parseP_across rfl I1.out]; dsimp only; rw [twoP_some HNb.out, HSB.out, HN2.out]) HR2.out HF2.out (((KP.step _ _ _).trans HKb.out).trans HK2.out))
                | exact pp_bool (by simp [go_sem]) (pp_some (by rw [HD.out, parseP_across rfl I1.out]; dsimp only; rw [twoP_some HNb.out, HSB.out, HN3.out]) HR3.out HF3.out (((KP.step _ _ _).trans HKb.out).trans HK3.out) (by omega) (by omega) rfl)
            · have i1f : inB aa 1 (w - 1) = false := by simpa using i1
              have I1 := Aside0.mk i1
              clear i1
              go_enter Try.func42, Try.ntmps42
              go_wp2_with (first | (go_at_call 36; (with_reducible refine (within_any _ _ _ _).mono ?_); rintro e w' ⟨rfl, rfl⟩))
              go_ret
              refine pp_bool ?_ (pp_none (by rw [HD.out, parseP_bad K0.out (fun h => by simp at h) (fun h => I1.out h.2) (fun h => by simp at h)]) ((HR.out.setAt (k + 1) _ (by simp)).alloc _) (HF.out.next0 hkl) (KP.step _ _ _))
              simp [go_sem]
          · have e2 : (kd == 2) = false := by simpa using k2
            have K2 := Aside0.mk k2
            clear k2
            by_cases k3 : kd = 3
            · subst k3
              by_cases i1 : inB aa 1 (h - 1) = true
              · obtain ⟨i10, i11⟩ := inB_iff.1 i1
                obtain ⟨d, hd⟩ : ∃ d : Int, d = h - aa := ⟨_, rfl⟩
                have hsub : IntKind.i64.wrap (h - aa) = d := by rw [i64_w]; unfold wrap64; omega
                have hsub2 : h - aa = d := hd.symm
                have d1 : 1 ≤ d := by omega
                have d48 : d ≤ 48 := by omega
                have a48 : aa ≤ 48 := by omega
                have P1 : Aside0 (∀ W', RS W0 B #[x0, x1, .slice A L.length c] (.slice (some ad) p.length cp) W' (k + 1) wo ar → Calls Try.prog 42 #[.int .i64 w, .int .i64 aa, .pointer (some ⟨B + 4, 0, none⟩), .pointer (some ⟨B + 1, 0, none⟩), .pointer (some ⟨B, 0, none⟩), .pointer (some ⟨B + 3, 0, none⟩), .pointer (some ⟨B + 5, 0, none⟩)] W'
                    (PPost L p W0 B #[x0, x1, .slice A L.length c] (.slice (some ad) p.length cp) n (k + 1) w aa wo ar W')) :=
                  ⟨fun W' h => HIH.out (k + 1) _ _ wo ar W' (by omega) (by omega) (by omega) (by omega) (by omega) (HF.out.next0 hkl) h⟩
                have P2 : Aside0 (∀ W' k' v a, parseP L n w aa (p.drop (k + 1)) = some (v, a, p.drop k') → Fair p k' (wo + v) (ar + a) → RS W0 B #[x0, x1, .slice A L.length c] (.slice (some ad) p.length cp) W' k' (wo + v) (ar + a) → Calls Try.prog 42 #[.int .i64 w, .int .i64 d, .pointer (some ⟨B + 4, 0, none⟩), .pointer (some ⟨B + 1, 0, none⟩), .pointer (some ⟨B, 0, none⟩), .pointer (some ⟨B + 3, 0, none⟩), .pointer (some ⟨B + 5, 0, none⟩)] W'
                    (PPost L p W0 B #[x0, x1, .slice A L.length c] (.slice (some ad) p.length cp) n k' w d (wo + v) (ar + a) W')) :=
                  ⟨fun W' k' v a hk hf h => HIH.out k' _ _ _ _ W' (by have := le_of_parse hk hkl1 hf.1; omega) (by omega) (by omega) (by omega) (by omega) hf h⟩
                have I1 := Aside0.mk i1
                have HSB := Aside0.mk hsub2
                clear hd hsub2
                go_enter Try.func42, Try.ntmps42
                go_wp2_with (first
                  | (go_at_call 36; (with_reducible refine (within_any _ _ _ _).mono ?_); rintro e w' ⟨rfl, rfl⟩)
                  | (go_at_call 42; (with_reducible refine (P1.out _ ?_).mono ?_); (focus exact (HR.out.setAt (k + 1) _ (by simp)).alloc _); intro e wa hP; obtain ⟨hK', hP⟩ := hP.cases; rcases hP with ⟨k', wo', ar', rfl, hR', hF', hn'⟩ | ⟨k', v, a, rfl, hR', hF', hn'⟩; (have HRa := Aside0.mk hR'; have HFa := Aside0.mk hF'; have HNa := Aside0.mk hn'; have HKa := Aside0.mk hK'; clear hR' hF' hn' hK'; rotate_left; have c5' : wa.cell? ⟨B + 5, 0, none⟩ = some (.func (.func 42) #[] #[.pointer (some ⟨B + 4, 0, none⟩), .pointer (some ⟨B + 1, 0, none⟩), .pointer (some ⟨B, 0, none⟩), .pointer (some ⟨B + 3, 0, none⟩), .pointer (some ⟨B + 5, 0, none⟩)]) := (blk_cell hR'.hc 0).trans rfl; have st1 := (kp_new hK' l5 1).trans rfl; have HRb := Aside0.mk hR'; have HFb := Aside0.mk hF'; have HNb := Aside0.mk hn'; have HKb := Aside0.mk hK'; clear hR' hF' hn' hK'; rotate_left))
                  | (go_at_call 42; go_must (with_reducible refine (P2.out _ k' v a HNb.out HFb.out HRb.out).mono ?_); intro e wb hP; obtain ⟨hK2, hP⟩ := hP.cases; rcases hP with ⟨k2, wo2, ar2, rfl, hR2, hF2, hn2⟩ | ⟨k2, v2, a2, rfl, hR2, hF2, hn2⟩; (have HR2 := Aside0.mk hR2; have HF2 := Aside0.mk hF2; have HN2 := Aside0.mk hn2; have HK2 := Aside0.mk hK2; clear hR2 hF2 hn2 hK2; rotate_left; have HR3 := Aside0.mk hR2; have HF3 := Aside0.mk hF2; have HN3 := Aside0.mk hn2; have HK3 := Aside0.mk hK2; clear hR2 hF2 hn2 hK2; rotate_left)))
                all_goals go_ret
                all_goals first
                  | exact pp_bool (by simp [go_sem]) (pp_none (by rw [HD.out, parseP_along rfl I1.out]; exact twoP_none HNa.out) HRa.out HFa.out ((KP.step _ _ _).trans HKa.out))
                  | exact pp_bool (by simp [go_sem]) (pp_none (by rw [HD.out, parseP_along rfl I1.out]; dsimp only; rw [twoP_some HNb.out, HSB.out, HN2.out]) HR2.out HF2.out (((KP.step _ _ _).trans HKb.out).trans HK2.out))
                  | exact pp_bool (by simp [go_sem]) (pp_some (by rw [HD.out, parseP_along rfl I1.out]; dsimp only; rw [twoP_some HNb.out, HSB.out, HN3.out]) HR3.out HF3.out (((KP.step _ _ _).trans HKb.out).trans HK3.out) (by omega) (by omega) rfl)
              · have i1f : inB aa 1 (h - 1) = false := by simpa using i1
                have I1 := Aside0.mk i1
                clear i1
                go_enter Try.func42, Try.ntmps42
                go_wp2_with (first | (go_at_call 36; (with_reducible refine (within_any _ _ _ _).mono ?_); rintro e w' ⟨rfl, rfl⟩))
                go_ret
                refine pp_bool ?_ (pp_none (by rw [HD.out, parseP_bad K0.out (fun h => by simp at h) (fun h => by simp at h) (fun h => I1.out h.2)]) ((HR.out.setAt (k + 1) _ (by simp)).alloc _) (HF.out.next0 hkl) (KP.step _ _ _))
                simp [go_sem]
            · have e3 : (kd == 3) = false := by simpa using k3
              have K3 := Aside0.mk k3
              clear k3
              go_enter Try.func42, Try.ntmps42
              go_wp2
              go_ret
              refine pp_bool ?_ (pp_none (by rw [HD.out, parseP_bad K0.out (fun h => K1.out h.1) (fun h => K2.out h.1) (fun h => K3.out h.1)]) ((HR.out.setAt (k + 1) _ (by simp)).alloc _) (HF.out.next0 hkl) (KP.step _ _ _))
              simp [go_sem]

end Go.Proofs.Ytochbhndeboodaa
