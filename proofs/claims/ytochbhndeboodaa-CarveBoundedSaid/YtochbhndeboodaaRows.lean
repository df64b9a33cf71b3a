/-
  No cell of these rows narrows 'for every input' (looked for: loops, veiled, ifaces, maps, wideKeys, modest, calm, conditions, laid).
  DERIVED. THE GIVEN ROWS OF THIS SEAT. 10 by the template 'for every input the law returns true; each argument reads behind the call as it read before'; 0 by the template 'total and deterministic' (their statements: YtochbhndeboodaaTotals.lean).
  GIVEN WITH THE SEED: the statements are not yours to turn. If you find one false, say at which input.
  Laid BY PROGRAM, IN A SANDBOX (cutbox-rows.mjs): the forced cells as the released guide's own fill.sh prints them over the translation 5d3c173c1e61c554… (all of the seat's roots in one cut). By AI agents, Wed Nov 11 2026. No macro, syntax, notation, axiom, sorry.
-/
import Derived.Test.YtochbhndeboodaaChecked
import GoSem.Claim
import GoSem.ClaimJoined
import GoSem.ClaimMapViews
import Derived.JoinedTies
import Derived.KernelRfl
namespace Go.Proofs.Ytochbhndeboodaa
/- THE CELL 'sum', in the pinned program and in every row, IS THE sha256 OF THE DUMP (.gsa) THAT YtochbhndeboodaaProg.lean LOADS. Nothing in Lean hashes anything: it is a label: what it is worth is what the hold of that sum in a sandbox is worth. -/
noncomputable def Try.pinned : Pinned := { name := "ytochbhndeboodaa", sum := "5d3c173c1e61c554626032988112ca3b52b668d7d92f4be66ae36fe29c49a955", checked := Try.checked }
namespace Rows
def none {H : Type} : Left H := { results := [], args := [] }

/-- 'silversidelaw02.CarveBest': WHATEVER THE INPUT: true; the input reads as it did. -/
def carveBestSpec : ChangeSpec := { name := "carveBest", fn := fun _ => fun
  | [d] => { results := [.lit (.bool true)], args := [d] }
  | _ => none }
def carveBestRow : OpenClaim := { program := "ytochbhndeboodaa", sum := "5d3c173c1e61c554626032988112ca3b52b668d7d92f4be66ae36fe29c49a955", func := "silverside/silversidelaw02.CarveBest", spec := "carveBest", unfollowed := true, recurses := true, apart := false }
def CarveBestSaid : Prop := carveBestRow.holds Try.pinned (OpenSpec.ofChange carveBestSpec)

/-- ITS FALSE NEIGHBOUR: 'it returns false'. Refute it at one input. -/
def carveBestWrong : ChangeSpec := { name := "carveBest", fn := fun _ => fun
  | [d] => { results := [.lit (.bool false)], args := [d] }
  | _ => none }
def CarveBestWrongFalsely : Prop := carveBestRow.holds Try.pinned (OpenSpec.ofChange carveBestWrong)

/-- 'silversidelaw02.CarvePlans': WHATEVER THE INPUT: true; the input reads as it did. -/
def carvePlansSpec : ChangeSpec := { name := "carvePlans", fn := fun _ => fun
  | [d1, d2] => { results := [.lit (.bool true)], args := [d1, d2] }
  | _ => none }
def carvePlansRow : OpenClaim := { program := "ytochbhndeboodaa", sum := "5d3c173c1e61c554626032988112ca3b52b668d7d92f4be66ae36fe29c49a955", func := "silverside/silversidelaw02.CarvePlans", spec := "carvePlans", unfollowed := true, recurses := true, apart := false }
def CarvePlansSaid : Prop := carvePlansRow.holds Try.pinned (OpenSpec.ofChange carvePlansSpec)

/-- ITS FALSE NEIGHBOUR: 'it returns false'. Refute it at one input. -/
def carvePlansWrong : ChangeSpec := { name := "carvePlans", fn := fun _ => fun
  | [d1, d2] => { results := [.lit (.bool false)], args := [d1, d2] }
  | _ => none }
def CarvePlansWrongFalsely : Prop := carvePlansRow.holds Try.pinned (OpenSpec.ofChange carvePlansWrong)

/-- 'silversidelaw02.CarveBounds': WHATEVER THE INPUT: true; the input reads as it did. -/
def carveBoundsSpec : ChangeSpec := { name := "carveBounds", fn := fun _ => fun
  | [d1, d2] => { results := [.lit (.bool true)], args := [d1, d2] }
  | _ => none }
def carveBoundsRow : OpenClaim := { program := "ytochbhndeboodaa", sum := "5d3c173c1e61c554626032988112ca3b52b668d7d92f4be66ae36fe29c49a955", func := "silverside/silversidelaw02.CarveBounds", spec := "carveBounds", unfollowed := true, recurses := true, apart := false }
def CarveBoundsSaid : Prop := carveBoundsRow.holds Try.pinned (OpenSpec.ofChange carveBoundsSpec)

/-- ITS FALSE NEIGHBOUR: 'it returns false'. Refute it at one input. -/
def carveBoundsWrong : ChangeSpec := { name := "carveBounds", fn := fun _ => fun
  | [d1, d2] => { results := [.lit (.bool false)], args := [d1, d2] }
  | _ => none }
def CarveBoundsWrongFalsely : Prop := carveBoundsRow.holds Try.pinned (OpenSpec.ofChange carveBoundsWrong)

/-- 'silversidelaw02.CarveBounded': WHATEVER THE INPUT: true; the input reads as it did. -/
def carveBoundedSpec : ChangeSpec := { name := "carveBounded", fn := fun _ => fun
  | [d1, d2, d3] => { results := [.lit (.bool true)], args := [d1, d2, d3] }
  | _ => none }
def carveBoundedRow : OpenClaim := { program := "ytochbhndeboodaa", sum := "5d3c173c1e61c554626032988112ca3b52b668d7d92f4be66ae36fe29c49a955", func := "silverside/silversidelaw02.CarveBounded", spec := "carveBounded", unfollowed := true, recurses := true, apart := false }
def CarveBoundedSaid : Prop := carveBoundedRow.holds Try.pinned (OpenSpec.ofChange carveBoundedSpec)

/-- ITS FALSE NEIGHBOUR: 'it returns false'. Refute it at one input. -/
def carveBoundedWrong : ChangeSpec := { name := "carveBounded", fn := fun _ => fun
  | [d1, d2, d3] => { results := [.lit (.bool false)], args := [d1, d2, d3] }
  | _ => none }
def CarveBoundedWrongFalsely : Prop := carveBoundedRow.holds Try.pinned (OpenSpec.ofChange carveBoundedWrong)

/-- 'silversidelaw02.CarveMore': WHATEVER THE INPUT: true; the input reads as it did. -/
def carveMoreSpec : ChangeSpec := { name := "carveMore", fn := fun _ => fun
  | [d1, d2, d3] => { results := [.lit (.bool true)], args := [d1, d2, d3] }
  | _ => none }
def carveMoreRow : OpenClaim := { program := "ytochbhndeboodaa", sum := "5d3c173c1e61c554626032988112ca3b52b668d7d92f4be66ae36fe29c49a955", func := "silverside/silversidelaw02.CarveMore", spec := "carveMore", unfollowed := true, recurses := true, apart := false }
def CarveMoreSaid : Prop := carveMoreRow.holds Try.pinned (OpenSpec.ofChange carveMoreSpec)

/-- ITS FALSE NEIGHBOUR: 'it returns false'. Refute it at one input. -/
def carveMoreWrong : ChangeSpec := { name := "carveMore", fn := fun _ => fun
  | [d1, d2, d3] => { results := [.lit (.bool false)], args := [d1, d2, d3] }
  | _ => none }
def CarveMoreWrongFalsely : Prop := carveMoreRow.holds Try.pinned (OpenSpec.ofChange carveMoreWrong)

/-- 'silversidelaw02.CarveTurns': WHATEVER THE INPUT: true; the input reads as it did. -/
def carveTurnsSpec : ChangeSpec := { name := "carveTurns", fn := fun _ => fun
  | [d] => { results := [.lit (.bool true)], args := [d] }
  | _ => none }
def carveTurnsRow : OpenClaim := { program := "ytochbhndeboodaa", sum := "5d3c173c1e61c554626032988112ca3b52b668d7d92f4be66ae36fe29c49a955", func := "silverside/silversidelaw02.CarveTurns", spec := "carveTurns", unfollowed := true, recurses := true, apart := false }
def CarveTurnsSaid : Prop := carveTurnsRow.holds Try.pinned (OpenSpec.ofChange carveTurnsSpec)

/-- ITS FALSE NEIGHBOUR: 'it returns false'. Refute it at one input. -/
def carveTurnsWrong : ChangeSpec := { name := "carveTurns", fn := fun _ => fun
  | [d] => { results := [.lit (.bool false)], args := [d] }
  | _ => none }
def CarveTurnsWrongFalsely : Prop := carveTurnsRow.holds Try.pinned (OpenSpec.ofChange carveTurnsWrong)

/-- 'silversidelaw02.CarveParts': WHATEVER THE INPUT: true; the input reads as it did. -/
def carvePartsSpec : ChangeSpec := { name := "carveParts", fn := fun _ => fun
  | [d1, d2] => { results := [.lit (.bool true)], args := [d1, d2] }
  | _ => none }
def carvePartsRow : OpenClaim := { program := "ytochbhndeboodaa", sum := "5d3c173c1e61c554626032988112ca3b52b668d7d92f4be66ae36fe29c49a955", func := "silverside/silversidelaw02.CarveParts", spec := "carveParts", unfollowed := true, recurses := true, apart := false }
def CarvePartsSaid : Prop := carvePartsRow.holds Try.pinned (OpenSpec.ofChange carvePartsSpec)

/-- ITS FALSE NEIGHBOUR: 'it returns false'. Refute it at one input. -/
def carvePartsWrong : ChangeSpec := { name := "carveParts", fn := fun _ => fun
  | [d1, d2] => { results := [.lit (.bool false)], args := [d1, d2] }
  | _ => none }
def CarvePartsWrongFalsely : Prop := carvePartsRow.holds Try.pinned (OpenSpec.ofChange carvePartsWrong)

/-- 'silversidelaw02.CarveTimes': WHATEVER THE INPUT: true; the input reads as it did. -/
def carveTimesSpec : ChangeSpec := { name := "carveTimes", fn := fun _ => fun
  | [d1, d2] => { results := [.lit (.bool true)], args := [d1, d2] }
  | _ => none }
def carveTimesRow : OpenClaim := { program := "ytochbhndeboodaa", sum := "5d3c173c1e61c554626032988112ca3b52b668d7d92f4be66ae36fe29c49a955", func := "silverside/silversidelaw02.CarveTimes", spec := "carveTimes", unfollowed := true, recurses := true, apart := false }
def CarveTimesSaid : Prop := carveTimesRow.holds Try.pinned (OpenSpec.ofChange carveTimesSpec)

/-- ITS FALSE NEIGHBOUR: 'it returns false'. Refute it at one input. -/
def carveTimesWrong : ChangeSpec := { name := "carveTimes", fn := fun _ => fun
  | [d1, d2] => { results := [.lit (.bool false)], args := [d1, d2] }
  | _ => none }
def CarveTimesWrongFalsely : Prop := carveTimesRow.holds Try.pinned (OpenSpec.ofChange carveTimesWrong)

/-- 'silversidelaw02.CarveRests': WHATEVER THE INPUT: true; the input reads as it did. -/
def carveRestsSpec : ChangeSpec := { name := "carveRests", fn := fun _ => fun
  | [d] => { results := [.lit (.bool true)], args := [d] }
  | _ => none }
def carveRestsRow : OpenClaim := { program := "ytochbhndeboodaa", sum := "5d3c173c1e61c554626032988112ca3b52b668d7d92f4be66ae36fe29c49a955", func := "silverside/silversidelaw02.CarveRests", spec := "carveRests", unfollowed := true, recurses := true, apart := false }
def CarveRestsSaid : Prop := carveRestsRow.holds Try.pinned (OpenSpec.ofChange carveRestsSpec)

/-- ITS FALSE NEIGHBOUR: 'it returns false'. Refute it at one input. -/
def carveRestsWrong : ChangeSpec := { name := "carveRests", fn := fun _ => fun
  | [d] => { results := [.lit (.bool false)], args := [d] }
  | _ => none }
def CarveRestsWrongFalsely : Prop := carveRestsRow.holds Try.pinned (OpenSpec.ofChange carveRestsWrong)

/-- 'silversidelaw02.CarveOwn': WHATEVER THE INPUT: true; the input reads as it did. -/
def carveOwnSpec : ChangeSpec := { name := "carveOwn", fn := fun _ => fun
  | [d] => { results := [.lit (.bool true)], args := [d] }
  | _ => none }
def carveOwnRow : OpenClaim := { program := "ytochbhndeboodaa", sum := "5d3c173c1e61c554626032988112ca3b52b668d7d92f4be66ae36fe29c49a955", func := "silverside/silversidelaw02.CarveOwn", spec := "carveOwn", unfollowed := true, recurses := true, apart := false }
def CarveOwnSaid : Prop := carveOwnRow.holds Try.pinned (OpenSpec.ofChange carveOwnSpec)

/-- ITS FALSE NEIGHBOUR: 'it returns false'. Refute it at one input. -/
def carveOwnWrong : ChangeSpec := { name := "carveOwn", fn := fun _ => fun
  | [d] => { results := [.lit (.bool false)], args := [d] }
  | _ => none }
def CarveOwnWrongFalsely : Prop := carveOwnRow.holds Try.pinned (OpenSpec.ofChange carveOwnWrong)

/- THE SECOND FORM. 'bulk': how many values and letters a reading holds, each counted each time it is reached (what is shared counts as often as it is met; a slice's spare places count too). A statement '..UptoSaid' is the law's where the arguments, and the package variables that the reading takes, are together of bulk at most 1048576: NARROWER than '..Said'. Prove '..Said' where nothing that the law and all that it calls make is longer than what came in: it says more and counts as full. Else prove '..UptoSaid'. A law counts once. -/
mutual
def uptoBulk {H : Type} : DataW H → Nat
  | .lit (.string bytes) => bytes.length + 1
  | .lit _ => 1
  | .nil => 1
  | .ptr d => uptoBulk d + 1
  | .slice elems spare => uptoBulkAll elems + uptoBulkAll spare + 1
  | .agg parts => uptoBulkAll parts + 1
  | .iface _ d => uptoBulk d + 1
  | .map entries => uptoBulkEntries entries + 1
  | .held _ => 1
def uptoBulkAll {H : Type} : List (DataW H) → Nat
  | [] => 0
  | d :: r => uptoBulk d + uptoBulkAll r
def uptoBulkEntries {H : Type} : List (Lit × DataW H) → Nat
  | [] => 0
  | x :: r => uptoBulkEntry x + uptoBulkEntries r
def uptoBulkEntry {H : Type} : Lit × DataW H → Nat
  | (.string bytes, d) => bytes.length + uptoBulk d + 1
  | (_, d) => uptoBulk d + 1
 end
def uptoSmall : (H : Type) → List (DataW H) → Bool := fun _ ds => decide (uptoBulkAll ds ≤ 1048576)
def OpenSpec.upto (s : _root_.Go.ChangeSpec) : _root_.Go.OpenSpec := { _root_.Go.OpenSpec.ofChange s with cond := some uptoSmall }

/-- 'silversidelaw02.CarveBest', WHERE WHAT IT READS IS OF BULK AT MOST 1048576: true; the input reads as it did. -/
def carveBestUptoRow : OpenClaim := { program := "ytochbhndeboodaa", sum := "5d3c173c1e61c554626032988112ca3b52b668d7d92f4be66ae36fe29c49a955", func := "silverside/silversidelaw02.CarveBest", spec := "carveBest", unfollowed := true, recurses := true, apart := false, narrowed := true }
def CarveBestUptoSaid : Prop := carveBestUptoRow.holds Try.pinned (OpenSpec.upto carveBestSpec)

/-- 'silversidelaw02.CarvePlans', WHERE WHAT IT READS IS OF BULK AT MOST 1048576: true; the input reads as it did. -/
def carvePlansUptoRow : OpenClaim := { program := "ytochbhndeboodaa", sum := "5d3c173c1e61c554626032988112ca3b52b668d7d92f4be66ae36fe29c49a955", func := "silverside/silversidelaw02.CarvePlans", spec := "carvePlans", unfollowed := true, recurses := true, apart := false, narrowed := true }
def CarvePlansUptoSaid : Prop := carvePlansUptoRow.holds Try.pinned (OpenSpec.upto carvePlansSpec)

/-- 'silversidelaw02.CarveBounds', WHERE WHAT IT READS IS OF BULK AT MOST 1048576: true; the input reads as it did. -/
def carveBoundsUptoRow : OpenClaim := { program := "ytochbhndeboodaa", sum := "5d3c173c1e61c554626032988112ca3b52b668d7d92f4be66ae36fe29c49a955", func := "silverside/silversidelaw02.CarveBounds", spec := "carveBounds", unfollowed := true, recurses := true, apart := false, narrowed := true }
def CarveBoundsUptoSaid : Prop := carveBoundsUptoRow.holds Try.pinned (OpenSpec.upto carveBoundsSpec)

/-- 'silversidelaw02.CarveBounded', WHERE WHAT IT READS IS OF BULK AT MOST 1048576: true; the input reads as it did. -/
def carveBoundedUptoRow : OpenClaim := { program := "ytochbhndeboodaa", sum := "5d3c173c1e61c554626032988112ca3b52b668d7d92f4be66ae36fe29c49a955", func := "silverside/silversidelaw02.CarveBounded", spec := "carveBounded", unfollowed := true, recurses := true, apart := false, narrowed := true }
def CarveBoundedUptoSaid : Prop := carveBoundedUptoRow.holds Try.pinned (OpenSpec.upto carveBoundedSpec)

/-- 'silversidelaw02.CarveMore', WHERE WHAT IT READS IS OF BULK AT MOST 1048576: true; the input reads as it did. -/
def carveMoreUptoRow : OpenClaim := { program := "ytochbhndeboodaa", sum := "5d3c173c1e61c554626032988112ca3b52b668d7d92f4be66ae36fe29c49a955", func := "silverside/silversidelaw02.CarveMore", spec := "carveMore", unfollowed := true, recurses := true, apart := false, narrowed := true }
def CarveMoreUptoSaid : Prop := carveMoreUptoRow.holds Try.pinned (OpenSpec.upto carveMoreSpec)

/-- 'silversidelaw02.CarveTurns', WHERE WHAT IT READS IS OF BULK AT MOST 1048576: true; the input reads as it did. -/
def carveTurnsUptoRow : OpenClaim := { program := "ytochbhndeboodaa", sum := "5d3c173c1e61c554626032988112ca3b52b668d7d92f4be66ae36fe29c49a955", func := "silverside/silversidelaw02.CarveTurns", spec := "carveTurns", unfollowed := true, recurses := true, apart := false, narrowed := true }
def CarveTurnsUptoSaid : Prop := carveTurnsUptoRow.holds Try.pinned (OpenSpec.upto carveTurnsSpec)

/-- 'silversidelaw02.CarveParts', WHERE WHAT IT READS IS OF BULK AT MOST 1048576: true; the input reads as it did. -/
def carvePartsUptoRow : OpenClaim := { program := "ytochbhndeboodaa", sum := "5d3c173c1e61c554626032988112ca3b52b668d7d92f4be66ae36fe29c49a955", func := "silverside/silversidelaw02.CarveParts", spec := "carveParts", unfollowed := true, recurses := true, apart := false, narrowed := true }
def CarvePartsUptoSaid : Prop := carvePartsUptoRow.holds Try.pinned (OpenSpec.upto carvePartsSpec)

/-- 'silversidelaw02.CarveTimes', WHERE WHAT IT READS IS OF BULK AT MOST 1048576: true; the input reads as it did. -/
def carveTimesUptoRow : OpenClaim := { program := "ytochbhndeboodaa", sum := "5d3c173c1e61c554626032988112ca3b52b668d7d92f4be66ae36fe29c49a955", func := "silverside/silversidelaw02.CarveTimes", spec := "carveTimes", unfollowed := true, recurses := true, apart := false, narrowed := true }
def CarveTimesUptoSaid : Prop := carveTimesUptoRow.holds Try.pinned (OpenSpec.upto carveTimesSpec)

/-- 'silversidelaw02.CarveRests', WHERE WHAT IT READS IS OF BULK AT MOST 1048576: true; the input reads as it did. -/
def carveRestsUptoRow : OpenClaim := { program := "ytochbhndeboodaa", sum := "5d3c173c1e61c554626032988112ca3b52b668d7d92f4be66ae36fe29c49a955", func := "silverside/silversidelaw02.CarveRests", spec := "carveRests", unfollowed := true, recurses := true, apart := false, narrowed := true }
def CarveRestsUptoSaid : Prop := carveRestsUptoRow.holds Try.pinned (OpenSpec.upto carveRestsSpec)

/-- 'silversidelaw02.CarveOwn', WHERE WHAT IT READS IS OF BULK AT MOST 1048576: true; the input reads as it did. -/
def carveOwnUptoRow : OpenClaim := { program := "ytochbhndeboodaa", sum := "5d3c173c1e61c554626032988112ca3b52b668d7d92f4be66ae36fe29c49a955", func := "silverside/silversidelaw02.CarveOwn", spec := "carveOwn", unfollowed := true, recurses := true, apart := false, narrowed := true }
def CarveOwnUptoSaid : Prop := carveOwnUptoRow.holds Try.pinned (OpenSpec.upto carveOwnSpec)

end Rows
end Go.Proofs.Ytochbhndeboodaa
