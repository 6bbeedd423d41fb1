/-
  No cell of these rows narrows 'for every input' (looked for: loops, veiled, ifaces, maps, wideKeys, modest, calm, conditions, laid).
  DERIVED. THE GIVEN ROWS OF THIS SEAT. 7 by the template 'for every input the law returns true; each argument reads behind the call as it read before'; 0 by the template 'total and deterministic' (their statements: YthacnhidipeckaaGreatTotals.lean).
  GIVEN WITH THE SEED: the statements are not yours to turn. If you find one false, say at which input.
  Laid BY PROGRAM, IN A SANDBOX (cutbox-rows.mjs): the forced cells as the released guide's own fill.sh prints them over the translation b982406ebc83d16d… (all of the seat's roots in one cut). By AI agents, Wed Nov 11 2026. No macro, syntax, notation, axiom, sorry.
-/
import Derived.Test.YthacnhidipeckaaGreatChecked
import GoSem.Claim
import GoSem.ClaimJoined
import GoSem.ClaimMapViews
import Derived.JoinedTies
import Derived.KernelRfl
namespace Go.Proofs.YthacnhidipeckaaGreat
/- THE CELL 'sum', in the pinned program and in every row, IS THE sha256 OF THE DUMP (.gsa) THAT YthacnhidipeckaaGreatProg.lean LOADS. Nothing in Lean hashes anything: it is a label: what it is worth is what the hold of that sum in a sandbox is worth. -/
noncomputable def Tryz.pinned : Pinned := { name := "ythacnhidipeckaagreat", sum := "b982406ebc83d16dc256ccdec06ae5fd6382a12b286cee844aff38e05e7b5705", checked := Tryz.checked }
namespace Rows
def none {H : Type} : Left H := { results := [], args := [] }

/-- 'sewershedlaw35.RoutingParts': WHATEVER THE INPUT: true; the input reads as it did. -/
def routingPartsSpec : ChangeSpec := { name := "routingParts", fn := fun _ => fun
  | [d1, d2, d3, d4, d5, d6, d7] => { results := [.lit (.bool true)], args := [d1, d2, d3, d4, d5, d6, d7] }
  | _ => none }
def routingPartsRow : OpenClaim := { program := "ythacnhidipeckaagreat", sum := "b982406ebc83d16dc256ccdec06ae5fd6382a12b286cee844aff38e05e7b5705", func := "sewershed/sewershedlaw35.RoutingParts", spec := "routingParts", inPlace := ["math/bits.Sub64", "math/bits.Add64"], unfollowed := true, recurses := true, named := ["math/bits.divideError", "math/bits.overflowError"], apart := false }
def RoutingPartsSaid : Prop := routingPartsRow.holds Tryz.pinned (OpenSpec.ofChange routingPartsSpec)

/-- ITS FALSE NEIGHBOUR: 'it returns false'. Refute it at one input. -/
def routingPartsWrong : ChangeSpec := { name := "routingParts", fn := fun _ => fun
  | [d1, d2, d3, d4, d5, d6, d7] => { results := [.lit (.bool false)], args := [d1, d2, d3, d4, d5, d6, d7] }
  | _ => none }
def RoutingPartsWrongFalsely : Prop := routingPartsRow.holds Tryz.pinned (OpenSpec.ofChange routingPartsWrong)

/-- 'sewershedlaw37.SimulateUntil': WHATEVER THE INPUT: true; the input reads as it did. -/
def simulateUntilSpec : ChangeSpec := { name := "simulateUntil", fn := fun _ => fun
  | [d1, d2, d3, d4, d5] => { results := [.lit (.bool true)], args := [d1, d2, d3, d4, d5] }
  | _ => none }
def simulateUntilRow : OpenClaim := { program := "ythacnhidipeckaagreat", sum := "b982406ebc83d16dc256ccdec06ae5fd6382a12b286cee844aff38e05e7b5705", func := "sewershed/sewershedlaw37.SimulateUntil", spec := "simulateUntil", inPlace := ["math/bits.Sub64", "math/bits.Add64"], unfollowed := true, recurses := true, named := ["math/bits.divideError", "math/bits.overflowError"], apart := false }
def SimulateUntilSaid : Prop := simulateUntilRow.holds Tryz.pinned (OpenSpec.ofChange simulateUntilSpec)

/-- ITS FALSE NEIGHBOUR: 'it returns false'. Refute it at one input. -/
def simulateUntilWrong : ChangeSpec := { name := "simulateUntil", fn := fun _ => fun
  | [d1, d2, d3, d4, d5] => { results := [.lit (.bool false)], args := [d1, d2, d3, d4, d5] }
  | _ => none }
def SimulateUntilWrongFalsely : Prop := simulateUntilRow.holds Tryz.pinned (OpenSpec.ofChange simulateUntilWrong)

/-- 'sewershedlaw37.SimulateAt': WHATEVER THE INPUT: true; the input reads as it did. -/
def simulateAtSpec : ChangeSpec := { name := "simulateAt", fn := fun _ => fun
  | [d1, d2, d3] => { results := [.lit (.bool true)], args := [d1, d2, d3] }
  | _ => none }
def simulateAtRow : OpenClaim := { program := "ythacnhidipeckaagreat", sum := "b982406ebc83d16dc256ccdec06ae5fd6382a12b286cee844aff38e05e7b5705", func := "sewershed/sewershedlaw37.SimulateAt", spec := "simulateAt", inPlace := ["math/bits.Sub64", "math/bits.Add64"], unfollowed := true, recurses := true, named := ["math/bits.divideError", "math/bits.overflowError"], apart := false }
def SimulateAtSaid : Prop := simulateAtRow.holds Tryz.pinned (OpenSpec.ofChange simulateAtSpec)

/-- ITS FALSE NEIGHBOUR: 'it returns false'. Refute it at one input. -/
def simulateAtWrong : ChangeSpec := { name := "simulateAt", fn := fun _ => fun
  | [d1, d2, d3] => { results := [.lit (.bool false)], args := [d1, d2, d3] }
  | _ => none }
def SimulateAtWrongFalsely : Prop := simulateAtRow.holds Tryz.pinned (OpenSpec.ofChange simulateAtWrong)

/-- 'sewershedlaw37.SimulateParts': WHATEVER THE INPUT: true; the input reads as it did. -/
def simulatePartsSpec : ChangeSpec := { name := "simulateParts", fn := fun _ => fun
  | [d1, d2, d3, d4, d5, d6, d7] => { results := [.lit (.bool true)], args := [d1, d2, d3, d4, d5, d6, d7] }
  | _ => none }
def simulatePartsRow : OpenClaim := { program := "ythacnhidipeckaagreat", sum := "b982406ebc83d16dc256ccdec06ae5fd6382a12b286cee844aff38e05e7b5705", func := "sewershed/sewershedlaw37.SimulateParts", spec := "simulateParts", inPlace := ["math/bits.Sub64", "math/bits.Add64"], unfollowed := true, recurses := true, named := ["math/bits.divideError", "math/bits.overflowError"], apart := false }
def SimulatePartsSaid : Prop := simulatePartsRow.holds Tryz.pinned (OpenSpec.ofChange simulatePartsSpec)

/-- ITS FALSE NEIGHBOUR: 'it returns false'. Refute it at one input. -/
def simulatePartsWrong : ChangeSpec := { name := "simulateParts", fn := fun _ => fun
  | [d1, d2, d3, d4, d5, d6, d7] => { results := [.lit (.bool false)], args := [d1, d2, d3, d4, d5, d6, d7] }
  | _ => none }
def SimulatePartsWrongFalsely : Prop := simulatePartsRow.holds Tryz.pinned (OpenSpec.ofChange simulatePartsWrong)

/-- 'sewershedlaw37.SimulateOrder': WHATEVER THE INPUT: true; the input reads as it did. -/
def simulateOrderSpec : ChangeSpec := { name := "simulateOrder", fn := fun _ => fun
  | [d1, d2, d3, d4, d5, d6] => { results := [.lit (.bool true)], args := [d1, d2, d3, d4, d5, d6] }
  | _ => none }
def simulateOrderRow : OpenClaim := { program := "ythacnhidipeckaagreat", sum := "b982406ebc83d16dc256ccdec06ae5fd6382a12b286cee844aff38e05e7b5705", func := "sewershed/sewershedlaw37.SimulateOrder", spec := "simulateOrder", inPlace := ["math/bits.Sub64", "math/bits.Add64"], unfollowed := true, recurses := true, named := ["math/bits.divideError", "math/bits.overflowError"], apart := false }
def SimulateOrderSaid : Prop := simulateOrderRow.holds Tryz.pinned (OpenSpec.ofChange simulateOrderSpec)

/-- ITS FALSE NEIGHBOUR: 'it returns false'. Refute it at one input. -/
def simulateOrderWrong : ChangeSpec := { name := "simulateOrder", fn := fun _ => fun
  | [d1, d2, d3, d4, d5, d6] => { results := [.lit (.bool false)], args := [d1, d2, d3, d4, d5, d6] }
  | _ => none }
def SimulateOrderWrongFalsely : Prop := simulateOrderRow.holds Tryz.pinned (OpenSpec.ofChange simulateOrderWrong)

/-- 'sewershedlaw37.SimulatePeaks': WHATEVER THE INPUT: true; the input reads as it did. -/
def simulatePeaksSpec : ChangeSpec := { name := "simulatePeaks", fn := fun _ => fun
  | [d1, d2] => { results := [.lit (.bool true)], args := [d1, d2] }
  | _ => none }
def simulatePeaksRow : OpenClaim := { program := "ythacnhidipeckaagreat", sum := "b982406ebc83d16dc256ccdec06ae5fd6382a12b286cee844aff38e05e7b5705", func := "sewershed/sewershedlaw37.SimulatePeaks", spec := "simulatePeaks", inPlace := ["math/bits.Sub64", "math/bits.Add64"], unfollowed := true, recurses := true, named := ["math/bits.divideError", "math/bits.overflowError"], apart := false }
def SimulatePeaksSaid : Prop := simulatePeaksRow.holds Tryz.pinned (OpenSpec.ofChange simulatePeaksSpec)

/-- ITS FALSE NEIGHBOUR: 'it returns false'. Refute it at one input. -/
def simulatePeaksWrong : ChangeSpec := { name := "simulatePeaks", fn := fun _ => fun
  | [d1, d2] => { results := [.lit (.bool false)], args := [d1, d2] }
  | _ => none }
def SimulatePeaksWrongFalsely : Prop := simulatePeaksRow.holds Tryz.pinned (OpenSpec.ofChange simulatePeaksWrong)

/-- 'sewershedlaw37.SimulateLevels': WHATEVER THE INPUT: true; the input reads as it did. -/
def simulateLevelsSpec : ChangeSpec := { name := "simulateLevels", fn := fun _ => fun
  | [d1, d2] => { results := [.lit (.bool true)], args := [d1, d2] }
  | _ => none }
def simulateLevelsRow : OpenClaim := { program := "ythacnhidipeckaagreat", sum := "b982406ebc83d16dc256ccdec06ae5fd6382a12b286cee844aff38e05e7b5705", func := "sewershed/sewershedlaw37.SimulateLevels", spec := "simulateLevels", inPlace := ["math/bits.Sub64", "math/bits.Add64"], unfollowed := true, recurses := true, named := ["math/bits.divideError", "math/bits.overflowError"], apart := false }
def SimulateLevelsSaid : Prop := simulateLevelsRow.holds Tryz.pinned (OpenSpec.ofChange simulateLevelsSpec)

/-- ITS FALSE NEIGHBOUR: 'it returns false'. Refute it at one input. -/
def simulateLevelsWrong : ChangeSpec := { name := "simulateLevels", fn := fun _ => fun
  | [d1, d2] => { results := [.lit (.bool false)], args := [d1, d2] }
  | _ => none }
def SimulateLevelsWrongFalsely : Prop := simulateLevelsRow.holds Tryz.pinned (OpenSpec.ofChange simulateLevelsWrong)

/- THE SECOND FORM. 'bulk': how many values and letters a reading holds, each counted each time it is reached (what is shared counts as often as it is met; a slice's spare places count too). A statement '..UptoSaid' is the law's where the arguments, and the package variables that the reading takes, are together of bulk at most 1048576: NARROWER than '..Said'. Prove '..Said' where nothing that the law and all that it calls make is longer than what came in: it says more and counts as full. Else prove '..UptoSaid'. A law counts once. -/
mutual
def uptoBulk {H : Type} : DataW H → Nat
  | .lit (.string bytes) => bytes.length + 1
  | .lit _ => 1
  | .nil => 1
  | .ptr d => uptoBulk d + 1
  | .slice elems spare => uptoBulkAll elems + uptoBulkAll spare + 1
  | .agg parts => uptoBulkAll parts + 1
  | .iface _ d => uptoBulk d + 1
  | .map entries => uptoBulkEntries entries + 1
  | .held _ => 1
def uptoBulkAll {H : Type} : List (DataW H) → Nat
  | [] => 0
  | d :: r => uptoBulk d + uptoBulkAll r
def uptoBulkEntries {H : Type} : List (Lit × DataW H) → Nat
  | [] => 0
  | x :: r => uptoBulkEntry x + uptoBulkEntries r
def uptoBulkEntry {H : Type} : Lit × DataW H → Nat
  | (.string bytes, d) => bytes.length + uptoBulk d + 1
  | (_, d) => uptoBulk d + 1
 end
def uptoSmall : (H : Type) → List (DataW H) → Bool := fun _ ds => decide (uptoBulkAll ds ≤ 1048576)
def OpenSpec.upto (s : _root_.Go.ChangeSpec) : _root_.Go.OpenSpec := { _root_.Go.OpenSpec.ofChange s with cond := some uptoSmall }

/-- 'sewershedlaw35.RoutingParts', WHERE WHAT IT READS IS OF BULK AT MOST 1048576: true; the input reads as it did. -/
def routingPartsUptoRow : OpenClaim := { program := "ythacnhidipeckaagreat", sum := "b982406ebc83d16dc256ccdec06ae5fd6382a12b286cee844aff38e05e7b5705", func := "sewershed/sewershedlaw35.RoutingParts", spec := "routingParts", inPlace := ["math/bits.Sub64", "math/bits.Add64"], unfollowed := true, recurses := true, named := ["math/bits.divideError", "math/bits.overflowError"], apart := false, narrowed := true }
def RoutingPartsUptoSaid : Prop := routingPartsUptoRow.holds Tryz.pinned (OpenSpec.upto routingPartsSpec)

/-- 'sewershedlaw37.SimulateUntil', WHERE WHAT IT READS IS OF BULK AT MOST 1048576: true; the input reads as it did. -/
def simulateUntilUptoRow : OpenClaim := { program := "ythacnhidipeckaagreat", sum := "b982406ebc83d16dc256ccdec06ae5fd6382a12b286cee844aff38e05e7b5705", func := "sewershed/sewershedlaw37.SimulateUntil", spec := "simulateUntil", inPlace := ["math/bits.Sub64", "math/bits.Add64"], unfollowed := true, recurses := true, named := ["math/bits.divideError", "math/bits.overflowError"], apart := false, narrowed := true }
def SimulateUntilUptoSaid : Prop := simulateUntilUptoRow.holds Tryz.pinned (OpenSpec.upto simulateUntilSpec)

/-- 'sewershedlaw37.SimulateAt', WHERE WHAT IT READS IS OF BULK AT MOST 1048576: true; the input reads as it did. -/
def simulateAtUptoRow : OpenClaim := { program := "ythacnhidipeckaagreat", sum := "b982406ebc83d16dc256ccdec06ae5fd6382a12b286cee844aff38e05e7b5705", func := "sewershed/sewershedlaw37.SimulateAt", spec := "simulateAt", inPlace := ["math/bits.Sub64", "math/bits.Add64"], unfollowed := true, recurses := true, named := ["math/bits.divideError", "math/bits.overflowError"], apart := false, narrowed := true }
def SimulateAtUptoSaid : Prop := simulateAtUptoRow.holds Tryz.pinned (OpenSpec.upto simulateAtSpec)

/-- 'sewershedlaw37.SimulateParts', WHERE WHAT IT READS IS OF BULK AT MOST 1048576: true; the input reads as it did. -/
def simulatePartsUptoRow : OpenClaim := { program := "ythacnhidipeckaagreat", sum := "b982406ebc83d16dc256ccdec06ae5fd6382a12b286cee844aff38e05e7b5705", func := "sewershed/sewershedlaw37.SimulateParts", spec := "simulateParts", inPlace := ["math/bits.Sub64", "math/bits.Add64"], unfollowed := true, recurses := true, named := ["math/bits.divideError", "math/bits.overflowError"], apart := false, narrowed := true }
def SimulatePartsUptoSaid : Prop := simulatePartsUptoRow.holds Tryz.pinned (OpenSpec.upto simulatePartsSpec)

/-- 'sewershedlaw37.SimulateOrder', WHERE WHAT IT READS IS OF BULK AT MOST 1048576: true; the input reads as it did. -/
def simulateOrderUptoRow : OpenClaim := { program := "ythacnhidipeckaagreat", sum := "b982406ebc83d16dc256ccdec06ae5fd6382a12b286cee844aff38e05e7b5705", func := "sewershed/sewershedlaw37.SimulateOrder", spec := "simulateOrder", inPlace := ["math/bits.Sub64", "math/bits.Add64"], unfollowed := true, recurses := true, named := ["math/bits.divideError", "math/bits.overflowError"], apart := false, narrowed := true }
def SimulateOrderUptoSaid : Prop := simulateOrderUptoRow.holds Tryz.pinned (OpenSpec.upto simulateOrderSpec)

/-- 'sewershedlaw37.SimulatePeaks', WHERE WHAT IT READS IS OF BULK AT MOST 1048576: true; the input reads as it did. -/
def simulatePeaksUptoRow : OpenClaim := { program := "ythacnhidipeckaagreat", sum := "b982406ebc83d16dc256ccdec06ae5fd6382a12b286cee844aff38e05e7b5705", func := "sewershed/sewershedlaw37.SimulatePeaks", spec := "simulatePeaks", inPlace := ["math/bits.Sub64", "math/bits.Add64"], unfollowed := true, recurses := true, named := ["math/bits.divideError", "math/bits.overflowError"], apart := false, narrowed := true }
def SimulatePeaksUptoSaid : Prop := simulatePeaksUptoRow.holds Tryz.pinned (OpenSpec.upto simulatePeaksSpec)

/-- 'sewershedlaw37.SimulateLevels', WHERE WHAT IT READS IS OF BULK AT MOST 1048576: true; the input reads as it did. -/
def simulateLevelsUptoRow : OpenClaim := { program := "ythacnhidipeckaagreat", sum := "b982406ebc83d16dc256ccdec06ae5fd6382a12b286cee844aff38e05e7b5705", func := "sewershed/sewershedlaw37.SimulateLevels", spec := "simulateLevels", inPlace := ["math/bits.Sub64", "math/bits.Add64"], unfollowed := true, recurses := true, named := ["math/bits.divideError", "math/bits.overflowError"], apart := false, narrowed := true }
def SimulateLevelsUptoSaid : Prop := simulateLevelsUptoRow.holds Tryz.pinned (OpenSpec.upto simulateLevelsSpec)

end Rows
end Go.Proofs.YthacnhidipeckaaGreat
