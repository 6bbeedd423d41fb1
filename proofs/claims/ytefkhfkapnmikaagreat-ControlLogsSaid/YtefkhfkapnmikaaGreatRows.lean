/-
  No cell of these rows narrows 'for every input' (looked for: loops, veiled, ifaces, maps, wideKeys, modest, calm, conditions, laid).
  DERIVED. THE GIVEN ROWS OF THIS SEAT. 4 by the template 'for every input the law returns true; each argument reads behind the call as it read before'; 0 by the template 'total and deterministic' (their statements: YtefkhfkapnmikaaGreatTotals.lean).
  GIVEN WITH THE SEED: the statements are not yours to turn. If you find one false, say at which input.
  Laid BY PROGRAM, IN A SANDBOX (cutbox-rows.mjs): the forced cells as the released guide's own fill.sh prints them over the translation 42226bc87e08e18b… (all of the seat's roots in one cut). By AI agents, Wed Nov 11 2026. No macro, syntax, notation, axiom, sorry.
-/
import Derived.Test.YtefkhfkapnmikaaGreatChecked
import GoSem.Claim
import GoSem.ClaimJoined
import GoSem.ClaimMapViews
import Derived.JoinedTies
import Derived.KernelRfl
namespace Go.Proofs.YtefkhfkapnmikaaGreat
/- THE CELL 'sum', in the pinned program and in every row, IS THE sha256 OF THE DUMP (.gsa) THAT YtefkhfkapnmikaaGreatProg.lean LOADS. Nothing in Lean hashes anything: it is a label: what it is worth is what the hold of that sum in a sandbox is worth. -/
noncomputable def Tryz.pinned : Pinned := { name := "ytefkhfkapnmikaagreat", sum := "42226bc87e08e18b6e875b6771be8e4e98773dc9d1be03548985886788676c70", checked := Tryz.checked }
namespace Rows
def none {H : Type} : Left H := { results := [], args := [] }

/-- 'sewershedlaw44.ControlFollows': WHATEVER THE INPUT: true; the input reads as it did. -/
def controlFollowsSpec : ChangeSpec := { name := "controlFollows", fn := fun _ => fun
  | [d1, d2] => { results := [.lit (.bool true)], args := [d1, d2] }
  | _ => none }
def controlFollowsRow : OpenClaim := { program := "ytefkhfkapnmikaagreat", sum := "42226bc87e08e18b6e875b6771be8e4e98773dc9d1be03548985886788676c70", func := "sewershed/sewershedlaw44.ControlFollows", spec := "controlFollows", inPlace := ["math/bits.Sub64", "math/bits.Add64"], unfollowed := true, recurses := true, named := ["math/bits.divideError", "math/bits.overflowError"], apart := false }
def ControlFollowsSaid : Prop := controlFollowsRow.holds Tryz.pinned (OpenSpec.ofChange controlFollowsSpec)

/-- ITS FALSE NEIGHBOUR: 'it returns false'. Refute it at one input. -/
def controlFollowsWrong : ChangeSpec := { name := "controlFollows", fn := fun _ => fun
  | [d1, d2] => { results := [.lit (.bool false)], args := [d1, d2] }
  | _ => none }
def ControlFollowsWrongFalsely : Prop := controlFollowsRow.holds Tryz.pinned (OpenSpec.ofChange controlFollowsWrong)

/-- 'sewershedlaw44.ControlRuns': WHATEVER THE INPUT: true; the input reads as it did. -/
def controlRunsSpec : ChangeSpec := { name := "controlRuns", fn := fun _ => fun
  | [d1, d2, d3] => { results := [.lit (.bool true)], args := [d1, d2, d3] }
  | _ => none }
def controlRunsRow : OpenClaim := { program := "ytefkhfkapnmikaagreat", sum := "42226bc87e08e18b6e875b6771be8e4e98773dc9d1be03548985886788676c70", func := "sewershed/sewershedlaw44.ControlRuns", spec := "controlRuns", inPlace := ["math/bits.Sub64", "math/bits.Add64"], unfollowed := true, recurses := true, named := ["math/bits.divideError", "math/bits.overflowError"], apart := false }
def ControlRunsSaid : Prop := controlRunsRow.holds Tryz.pinned (OpenSpec.ofChange controlRunsSpec)

/-- ITS FALSE NEIGHBOUR: 'it returns false'. Refute it at one input. -/
def controlRunsWrong : ChangeSpec := { name := "controlRuns", fn := fun _ => fun
  | [d1, d2, d3] => { results := [.lit (.bool false)], args := [d1, d2, d3] }
  | _ => none }
def ControlRunsWrongFalsely : Prop := controlRunsRow.holds Tryz.pinned (OpenSpec.ofChange controlRunsWrong)

/-- 'sewershedlaw44.ControlParts': WHATEVER THE INPUT: true; the input reads as it did. -/
def controlPartsSpec : ChangeSpec := { name := "controlParts", fn := fun _ => fun
  | [d1, d2, d3, d4] => { results := [.lit (.bool true)], args := [d1, d2, d3, d4] }
  | _ => none }
def controlPartsRow : OpenClaim := { program := "ytefkhfkapnmikaagreat", sum := "42226bc87e08e18b6e875b6771be8e4e98773dc9d1be03548985886788676c70", func := "sewershed/sewershedlaw44.ControlParts", spec := "controlParts", inPlace := ["math/bits.Sub64", "math/bits.Add64"], unfollowed := true, recurses := true, named := ["math/bits.divideError", "math/bits.overflowError"], apart := false }
def ControlPartsSaid : Prop := controlPartsRow.holds Tryz.pinned (OpenSpec.ofChange controlPartsSpec)

/-- ITS FALSE NEIGHBOUR: 'it returns false'. Refute it at one input. -/
def controlPartsWrong : ChangeSpec := { name := "controlParts", fn := fun _ => fun
  | [d1, d2, d3, d4] => { results := [.lit (.bool false)], args := [d1, d2, d3, d4] }
  | _ => none }
def ControlPartsWrongFalsely : Prop := controlPartsRow.holds Tryz.pinned (OpenSpec.ofChange controlPartsWrong)

/-- 'sewershedlaw44.ControlLogs': WHATEVER THE INPUT: true; the input reads as it did. -/
def controlLogsSpec : ChangeSpec := { name := "controlLogs", fn := fun _ => fun
  | [d1, d2, d3] => { results := [.lit (.bool true)], args := [d1, d2, d3] }
  | _ => none }
def controlLogsRow : OpenClaim := { program := "ytefkhfkapnmikaagreat", sum := "42226bc87e08e18b6e875b6771be8e4e98773dc9d1be03548985886788676c70", func := "sewershed/sewershedlaw44.ControlLogs", spec := "controlLogs", inPlace := ["math/bits.Sub64", "math/bits.Add64"], unfollowed := true, recurses := true, named := ["math/bits.divideError", "math/bits.overflowError"], apart := false }
def ControlLogsSaid : Prop := controlLogsRow.holds Tryz.pinned (OpenSpec.ofChange controlLogsSpec)

/-- ITS FALSE NEIGHBOUR: 'it returns false'. Refute it at one input. -/
def controlLogsWrong : ChangeSpec := { name := "controlLogs", fn := fun _ => fun
  | [d1, d2, d3] => { results := [.lit (.bool false)], args := [d1, d2, d3] }
  | _ => none }
def ControlLogsWrongFalsely : Prop := controlLogsRow.holds Tryz.pinned (OpenSpec.ofChange controlLogsWrong)

/- THE SECOND FORM. 'bulk': how many values and letters a reading holds, each counted each time it is reached (what is shared counts as often as it is met; a slice's spare places count too). A statement '..UptoSaid' is the law's where the arguments, and the package variables that the reading takes, are together of bulk at most 1048576: NARROWER than '..Said'. Prove '..Said' where nothing that the law and all that it calls make is longer than what came in: it says more and counts as full. Else prove '..UptoSaid'. A law counts once. -/
mutual
def uptoBulk {H : Type} : DataW H → Nat
  | .lit (.string bytes) => bytes.length + 1
  | .lit _ => 1
  | .nil => 1
  | .ptr d => uptoBulk d + 1
  | .slice elems spare => uptoBulkAll elems + uptoBulkAll spare + 1
  | .agg parts => uptoBulkAll parts + 1
  | .iface _ d => uptoBulk d + 1
  | .map entries => uptoBulkEntries entries + 1
  | .held _ => 1
def uptoBulkAll {H : Type} : List (DataW H) → Nat
  | [] => 0
  | d :: r => uptoBulk d + uptoBulkAll r
def uptoBulkEntries {H : Type} : List (Lit × DataW H) → Nat
  | [] => 0
  | x :: r => uptoBulkEntry x + uptoBulkEntries r
def uptoBulkEntry {H : Type} : Lit × DataW H → Nat
  | (.string bytes, d) => bytes.length + uptoBulk d + 1
  | (_, d) => uptoBulk d + 1
 end
def uptoSmall : (H : Type) → List (DataW H) → Bool := fun _ ds => decide (uptoBulkAll ds ≤ 1048576)
def OpenSpec.upto (s : _root_.Go.ChangeSpec) : _root_.Go.OpenSpec := { _root_.Go.OpenSpec.ofChange s with cond := some uptoSmall }

/-- 'sewershedlaw44.ControlFollows', WHERE WHAT IT READS IS OF BULK AT MOST 1048576: true; the input reads as it did. -/
def controlFollowsUptoRow : OpenClaim := { program := "ytefkhfkapnmikaagreat", sum := "42226bc87e08e18b6e875b6771be8e4e98773dc9d1be03548985886788676c70", func := "sewershed/sewershedlaw44.ControlFollows", spec := "controlFollows", inPlace := ["math/bits.Sub64", "math/bits.Add64"], unfollowed := true, recurses := true, named := ["math/bits.divideError", "math/bits.overflowError"], apart := false, narrowed := true }
def ControlFollowsUptoSaid : Prop := controlFollowsUptoRow.holds Tryz.pinned (OpenSpec.upto controlFollowsSpec)

/-- 'sewershedlaw44.ControlRuns', WHERE WHAT IT READS IS OF BULK AT MOST 1048576: true; the input reads as it did. -/
def controlRunsUptoRow : OpenClaim := { program := "ytefkhfkapnmikaagreat", sum := "42226bc87e08e18b6e875b6771be8e4e98773dc9d1be03548985886788676c70", func := "sewershed/sewershedlaw44.ControlRuns", spec := "controlRuns", inPlace := ["math/bits.Sub64", "math/bits.Add64"], unfollowed := true, recurses := true, named := ["math/bits.divideError", "math/bits.overflowError"], apart := false, narrowed := true }
def ControlRunsUptoSaid : Prop := controlRunsUptoRow.holds Tryz.pinned (OpenSpec.upto controlRunsSpec)

/-- 'sewershedlaw44.ControlParts', WHERE WHAT IT READS IS OF BULK AT MOST 1048576: true; the input reads as it did. -/
def controlPartsUptoRow : OpenClaim := { program := "ytefkhfkapnmikaagreat", sum := "42226bc87e08e18b6e875b6771be8e4e98773dc9d1be03548985886788676c70", func := "sewershed/sewershedlaw44.ControlParts", spec := "controlParts", inPlace := ["math/bits.Sub64", "math/bits.Add64"], unfollowed := true, recurses := true, named := ["math/bits.divideError", "math/bits.overflowError"], apart := false, narrowed := true }
def ControlPartsUptoSaid : Prop := controlPartsUptoRow.holds Tryz.pinned (OpenSpec.upto controlPartsSpec)

/-- 'sewershedlaw44.ControlLogs', WHERE WHAT IT READS IS OF BULK AT MOST 1048576: true; the input reads as it did. -/
def controlLogsUptoRow : OpenClaim := { program := "ytefkhfkapnmikaagreat", sum := "42226bc87e08e18b6e875b6771be8e4e98773dc9d1be03548985886788676c70", func := "sewershed/sewershedlaw44.ControlLogs", spec := "controlLogs", inPlace := ["math/bits.Sub64", "math/bits.Add64"], unfollowed := true, recurses := true, named := ["math/bits.divideError", "math/bits.overflowError"], apart := false, narrowed := true }
def ControlLogsUptoSaid : Prop := controlLogsUptoRow.holds Tryz.pinned (OpenSpec.upto controlLogsSpec)

end Rows
end Go.Proofs.YtefkhfkapnmikaaGreat
