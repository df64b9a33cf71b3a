/- What tame answers, and the worth that best reads off a task in memory, in the form that the walks of the statements use. -/
import Derived.Test.YtochbhndeboodaaVal
import Derived.Test.YtochbhndeboodaaPlainI
import Derived.Test.YtochbhndeboodaaTame
import Derived.Test.YtochbhndeboodaaPlainJ
namespace Go.Proofs.Ytochbhndeboodaa
set_option linter.unusedVariables false
set_option linter.unusedSimpArgs false
open Go.RowKit Go.Proofs.YtochbhndeboodaaW.PrintWords Go.Proofs.YtochbhndeboodaaW.PrintLast Go.Proofs.YtochbhndeboodaaW.PrintMore
open Go.Proofs.Ytochbhndeboodaa.PCarveMore (S52 S56 k52 k56 k52_mkM info52)

/-- A task that tame has made. -/
structure Tamed (m : Nat) (x y : Int) (L : List S52) (w w' : World) (Wd Ht : Nat) (T : List S52) (Ao : Option Addr) (co : Nat) : Prop where
  tw : tN m x = Wd
  th : tN m y = Ht
  tl : tL L = T
  w1 : 1 ≤ Wd
  wm : Wd ≤ m
  h1 : 1 ≤ Ht
  hm : Ht ≤ m
  n : T.length ≤ 16
  ok : OkL T
  c : T.length ≤ co
  own : Kd.R k52 52 w' w.heap.size (fun _ => True) (.slice Ao T.length co) T
  cells : Kd.C k52 w' Ao T.length T
  below : Below w.heap.size w w'

theorem tame_out (x y : Int) (m : Nat) (A : Option Addr) (c : Nat) (L : List S52) (w : World) (hr : Kd.C k52 w A L.length L) (hc : L.length ≤ c) (hm : 0 < m) (hm2 : m ≤ 1000) :
    Calls Try.prog 25 #[.agg #[.int .i64 x, .int .i64 y, .slice A L.length c], .int .i64 (m : Int)] w fun e w' => ∃ (Wd Ht : Nat) (T : List S52) (Ao : Option Addr) (co : Nat), e = .returned (.agg #[.int .i64 (Wd : Int), .int .i64 (Ht : Int), .slice Ao T.length co]) ∧ Tamed m x y L w w' Wd Ht T Ao co := by
  refine (tame_any x y m A c L w hr hc (by omega) (by omega)).mono ?_
  rintro e wa ⟨v, rfl, hv, hB⟩
  obtain ⟨Ao, co, rfl, hco, hOc⟩ := Kd.R_reads hv
  have hx := tN_in x (m := m) (by omega)
  have hy := tN_in y (m := m) (by omega)
  refine ⟨(tN m x).toNat, (tN m y).toNat, tL L, Ao, co, by rw [Int.toNat_of_nonneg (by omega), Int.toNat_of_nonneg (by omega)], ?_⟩
  exact ⟨(Int.toNat_of_nonneg (by omega)).symm, (Int.toNat_of_nonneg (by omega)).symm, rfl, by omega, by omega, by omega, by omega, tL_le L, tL_ok L, hco, hv, hOc, hB⟩

theorem best_of {Wd Ht : Nat} {A : Option Addr} {c : Nat} {T : List S52} {w : World} (hr : Kd.C k52 w A T.length T) (hc : T.length ≤ c) (w1 : 1 ≤ Wd) (w2 : Wd ≤ 48) (h1 : 1 ≤ Ht) (h2 : Ht ≤ 48) (hn : T.length ≤ 16) (ho : OkL T) :
    Calls Try.prog 27 #[.agg #[.int .i64 Wd, .int .i64 Ht, .slice A T.length c]] w fun e w' => e = .returned (.int .i64 (bestV T Wd Ht)) ∧ Below w.heap.size w w' :=
  best_val Wd Ht A c T w hr hc (task_of w1 w2 h1 h2 hn ho)

end Go.Proofs.Ytochbhndeboodaa
