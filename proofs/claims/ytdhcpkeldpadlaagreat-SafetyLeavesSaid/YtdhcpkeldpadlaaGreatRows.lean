/-
  No cell of these rows narrows 'for every input' (looked for: loops, veiled, ifaces, maps, wideKeys, modest, calm, conditions, laid).
  DERIVED. THE GIVEN ROWS OF THIS SEAT. 2 by the template 'for every input the law returns true; each argument reads behind the call as it read before'; 0 by the template 'total and deterministic' (their statements: YtdhcpkeldpadlaaGreatTotals.lean).
  GIVEN WITH THE SEED: the statements are not yours to turn. If you find one false, say at which input.
  Laid BY PROGRAM, IN A SANDBOX (cutbox-rows.mjs): the forced cells as the released guide's own fill.sh prints them over the translation 1fadd4a881394e8f… (all of the seat's roots in one cut). By AI agents, Wed Nov 11 2026. No macro, syntax, notation, axiom, sorry.
-/
import Derived.Test.YtdhcpkeldpadlaaGreatChecked
import GoSem.Claim
import GoSem.ClaimJoined
import GoSem.ClaimMapViews
import Derived.JoinedTies
import Derived.KernelRfl
namespace Go.Proofs.YtdhcpkeldpadlaaGreat
/- THE CELL 'sum', in the pinned program and in every row, IS THE sha256 OF THE DUMP (.gsa) THAT YtdhcpkeldpadlaaGreatProg.lean LOADS. Nothing in Lean hashes anything: it is a label: what it is worth is what the hold of that sum in a sandbox is worth. -/
noncomputable def Tryz.pinned : Pinned := { name := "ytdhcpkeldpadlaagreat", sum := "1fadd4a881394e8f455af01acfe33513d46220ed3caba817dc345ad198484c6e", checked := Tryz.checked }
namespace Rows
def none {H : Type} : Left H := { results := [], args := [] }

/-- 'sewershedlaw43.SafetyLeaves': WHATEVER THE INPUT: true; the input reads as it did. -/
def safetyLeavesSpec : ChangeSpec := { name := "safetyLeaves", fn := fun _ => fun
  | [d1, d2, d3, d4, d5, d6, d7] => { results := [.lit (.bool true)], args := [d1, d2, d3, d4, d5, d6, d7] }
  | _ => none }
def safetyLeavesRow : OpenClaim := { program := "ytdhcpkeldpadlaagreat", sum := "1fadd4a881394e8f455af01acfe33513d46220ed3caba817dc345ad198484c6e", func := "sewershed/sewershedlaw43.SafetyLeaves", spec := "safetyLeaves", inPlace := ["math/bits.Sub64", "math/bits.Add64"], unfollowed := true, recurses := true, named := ["math/bits.divideError", "math/bits.overflowError"], apart := false }
def SafetyLeavesSaid : Prop := safetyLeavesRow.holds Tryz.pinned (OpenSpec.ofChange safetyLeavesSpec)

/-- ITS FALSE NEIGHBOUR: 'it returns false'. Refute it at one input. -/
def safetyLeavesWrong : ChangeSpec := { name := "safetyLeaves", fn := fun _ => fun
  | [d1, d2, d3, d4, d5, d6, d7] => { results := [.lit (.bool false)], args := [d1, d2, d3, d4, d5, d6, d7] }
  | _ => none }
def SafetyLeavesWrongFalsely : Prop := safetyLeavesRow.holds Tryz.pinned (OpenSpec.ofChange safetyLeavesWrong)

/-- 'sewershedlaw43.SafetyHolds': WHATEVER THE INPUT: true; the input reads as it did. -/
def safetyHoldsSpec : ChangeSpec := { name := "safetyHolds", fn := fun _ => fun
  | [d1, d2, d3, d4, d5, d6] => { results := [.lit (.bool true)], args := [d1, d2, d3, d4, d5, d6] }
  | _ => none }
def safetyHoldsRow : OpenClaim := { program := "ytdhcpkeldpadlaagreat", sum := "1fadd4a881394e8f455af01acfe33513d46220ed3caba817dc345ad198484c6e", func := "sewershed/sewershedlaw43.SafetyHolds", spec := "safetyHolds", inPlace := ["math/bits.Sub64", "math/bits.Add64"], unfollowed := true, recurses := true, named := ["math/bits.divideError", "math/bits.overflowError"], apart := false }
def SafetyHoldsSaid : Prop := safetyHoldsRow.holds Tryz.pinned (OpenSpec.ofChange safetyHoldsSpec)

/-- ITS FALSE NEIGHBOUR: 'it returns false'. Refute it at one input. -/
def safetyHoldsWrong : ChangeSpec := { name := "safetyHolds", fn := fun _ => fun
  | [d1, d2, d3, d4, d5, d6] => { results := [.lit (.bool false)], args := [d1, d2, d3, d4, d5, d6] }
  | _ => none }
def SafetyHoldsWrongFalsely : Prop := safetyHoldsRow.holds Tryz.pinned (OpenSpec.ofChange safetyHoldsWrong)

/- THE SECOND FORM. 'bulk': how many values and letters a reading holds, each counted each time it is reached (what is shared counts as often as it is met; a slice's spare places count too). A statement '..UptoSaid' is the law's where the arguments, and the package variables that the reading takes, are together of bulk at most 1048576: NARROWER than '..Said'. Prove '..Said' where nothing that the law and all that it calls make is longer than what came in: it says more and counts as full. Else prove '..UptoSaid'. A law counts once. -/
mutual
def uptoBulk {H : Type} : DataW H → Nat
  | .lit (.string bytes) => bytes.length + 1
  | .lit _ => 1
  | .nil => 1
  | .ptr d => uptoBulk d + 1
  | .slice elems spare => uptoBulkAll elems + uptoBulkAll spare + 1
  | .agg parts => uptoBulkAll parts + 1
  | .iface _ d => uptoBulk d + 1
  | .map entries => uptoBulkEntries entries + 1
  | .held _ => 1
def uptoBulkAll {H : Type} : List (DataW H) → Nat
  | [] => 0
  | d :: r => uptoBulk d + uptoBulkAll r
def uptoBulkEntries {H : Type} : List (Lit × DataW H) → Nat
  | [] => 0
  | x :: r => uptoBulkEntry x + uptoBulkEntries r
def uptoBulkEntry {H : Type} : Lit × DataW H → Nat
  | (.string bytes, d) => bytes.length + uptoBulk d + 1
  | (_, d) => uptoBulk d + 1
 end
def uptoSmall : (H : Type) → List (DataW H) → Bool := fun _ ds => decide (uptoBulkAll ds ≤ 1048576)
def OpenSpec.upto (s : _root_.Go.ChangeSpec) : _root_.Go.OpenSpec := { _root_.Go.OpenSpec.ofChange s with cond := some uptoSmall }

/-- 'sewershedlaw43.SafetyLeaves', WHERE WHAT IT READS IS OF BULK AT MOST 1048576: true; the input reads as it did. -/
def safetyLeavesUptoRow : OpenClaim := { program := "ytdhcpkeldpadlaagreat", sum := "1fadd4a881394e8f455af01acfe33513d46220ed3caba817dc345ad198484c6e", func := "sewershed/sewershedlaw43.SafetyLeaves", spec := "safetyLeaves", inPlace := ["math/bits.Sub64", "math/bits.Add64"], unfollowed := true, recurses := true, named := ["math/bits.divideError", "math/bits.overflowError"], apart := false, narrowed := true }
def SafetyLeavesUptoSaid : Prop := safetyLeavesUptoRow.holds Tryz.pinned (OpenSpec.upto safetyLeavesSpec)

/-- 'sewershedlaw43.SafetyHolds', WHERE WHAT IT READS IS OF BULK AT MOST 1048576: true; the input reads as it did. -/
def safetyHoldsUptoRow : OpenClaim := { program := "ytdhcpkeldpadlaagreat", sum := "1fadd4a881394e8f455af01acfe33513d46220ed3caba817dc345ad198484c6e", func := "sewershed/sewershedlaw43.SafetyHolds", spec := "safetyHolds", inPlace := ["math/bits.Sub64", "math/bits.Add64"], unfollowed := true, recurses := true, named := ["math/bits.divideError", "math/bits.overflowError"], apart := false, narrowed := true }
def SafetyHoldsUptoSaid : Prop := safetyHoldsUptoRow.holds Tryz.pinned (OpenSpec.upto safetyHoldsSpec)

end Rows
end Go.Proofs.YtdhcpkeldpadlaaGreat
