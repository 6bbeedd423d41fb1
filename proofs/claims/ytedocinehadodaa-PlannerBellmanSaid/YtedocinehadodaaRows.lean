/-
  No cell of these rows narrows 'for every input' (looked for: loops, veiled, ifaces, maps, wideKeys, modest, calm, conditions, laid).
  DERIVED. THE GIVEN ROWS OF THIS SEAT. 9 by the template 'for every input the law returns true; each argument reads behind the call as it read before'; 0 by the template 'total and deterministic' (their statements: YtedocinehadodaaTotals.lean).
  GIVEN WITH THE SEED: the statements are not yours to turn. If you find one false, say at which input.
  Laid BY PROGRAM, IN A SANDBOX (cutbox-rows.mjs): the forced cells as the released guide's own fill.sh prints them over the translation edba90ebacdf167f… (all of the seat's roots in one cut). By AI agents, Wed Nov 11 2026. No macro, syntax, notation, axiom, sorry.
-/
import Derived.Test.YtedocinehadodaaChecked
import GoSem.Claim
import GoSem.ClaimJoined
import GoSem.ClaimMapViews
import Derived.JoinedTies
import Derived.KernelRfl
namespace Go.Proofs.Ytedocinehadodaa
/- THE CELL 'sum', in the pinned program and in every row, IS THE sha256 OF THE DUMP (.gsa) THAT YtedocinehadodaaProg.lean LOADS. Nothing in Lean hashes anything: it is a label: what it is worth is what the hold of that sum in a sandbox is worth. -/
noncomputable def Try.pinned : Pinned := { name := "ytedocinehadodaa", sum := "edba90ebacdf167fd7a78217a81590af9bf401644258134c751dd645c5654677", checked := Try.checked }
namespace Rows
def none {H : Type} : Left H := { results := [], args := [] }

/-- 'sewershedlaw45.PlannerSolves': WHATEVER THE INPUT: true; the input reads as it did. -/
def plannerSolvesSpec : ChangeSpec := { name := "plannerSolves", fn := fun _ => fun
  | [d] => { results := [.lit (.bool true)], args := [d] }
  | _ => none }
def plannerSolvesRow : OpenClaim := { program := "ytedocinehadodaa", sum := "edba90ebacdf167fd7a78217a81590af9bf401644258134c751dd645c5654677", func := "sewershed/sewershedlaw45.PlannerSolves", spec := "plannerSolves", inPlace := ["math/bits.Sub64", "math/bits.Add64"], unfollowed := true, recurses := true, named := ["math/bits.divideError", "math/bits.overflowError"], apart := false }
def PlannerSolvesSaid : Prop := plannerSolvesRow.holds Try.pinned (OpenSpec.ofChange plannerSolvesSpec)

/-- ITS FALSE NEIGHBOUR: 'it returns false'. Refute it at one input. -/
def plannerSolvesWrong : ChangeSpec := { name := "plannerSolves", fn := fun _ => fun
  | [d] => { results := [.lit (.bool false)], args := [d] }
  | _ => none }
def PlannerSolvesWrongFalsely : Prop := plannerSolvesRow.holds Try.pinned (OpenSpec.ofChange plannerSolvesWrong)

/-- 'sewershedlaw45.PlannerAll': WHATEVER THE INPUT: true; the input reads as it did. -/
def plannerAllSpec : ChangeSpec := { name := "plannerAll", fn := fun _ => fun
  | [d] => { results := [.lit (.bool true)], args := [d] }
  | _ => none }
def plannerAllRow : OpenClaim := { program := "ytedocinehadodaa", sum := "edba90ebacdf167fd7a78217a81590af9bf401644258134c751dd645c5654677", func := "sewershed/sewershedlaw45.PlannerAll", spec := "plannerAll", inPlace := ["math/bits.Sub64", "math/bits.Add64"], unfollowed := true, recurses := true, named := ["math/bits.divideError", "math/bits.overflowError"], apart := false }
def PlannerAllSaid : Prop := plannerAllRow.holds Try.pinned (OpenSpec.ofChange plannerAllSpec)

/-- ITS FALSE NEIGHBOUR: 'it returns false'. Refute it at one input. -/
def plannerAllWrong : ChangeSpec := { name := "plannerAll", fn := fun _ => fun
  | [d] => { results := [.lit (.bool false)], args := [d] }
  | _ => none }
def PlannerAllWrongFalsely : Prop := plannerAllRow.holds Try.pinned (OpenSpec.ofChange plannerAllWrong)

/-- 'sewershedlaw45.PlannerGoes': WHATEVER THE INPUT: true; the input reads as it did. -/
def plannerGoesSpec : ChangeSpec := { name := "plannerGoes", fn := fun _ => fun
  | [d] => { results := [.lit (.bool true)], args := [d] }
  | _ => none }
def plannerGoesRow : OpenClaim := { program := "ytedocinehadodaa", sum := "edba90ebacdf167fd7a78217a81590af9bf401644258134c751dd645c5654677", func := "sewershed/sewershedlaw45.PlannerGoes", spec := "plannerGoes", inPlace := ["math/bits.Sub64", "math/bits.Add64"], unfollowed := true, recurses := true, named := ["math/bits.divideError", "math/bits.overflowError"], apart := false }
def PlannerGoesSaid : Prop := plannerGoesRow.holds Try.pinned (OpenSpec.ofChange plannerGoesSpec)

/-- ITS FALSE NEIGHBOUR: 'it returns false'. Refute it at one input. -/
def plannerGoesWrong : ChangeSpec := { name := "plannerGoes", fn := fun _ => fun
  | [d] => { results := [.lit (.bool false)], args := [d] }
  | _ => none }
def PlannerGoesWrongFalsely : Prop := plannerGoesRow.holds Try.pinned (OpenSpec.ofChange plannerGoesWrong)

/-- 'sewershedlaw45.PlannerBellman': WHATEVER THE INPUT: true; the input reads as it did. -/
def plannerBellmanSpec : ChangeSpec := { name := "plannerBellman", fn := fun _ => fun
  | [d] => { results := [.lit (.bool true)], args := [d] }
  | _ => none }
def plannerBellmanRow : OpenClaim := { program := "ytedocinehadodaa", sum := "edba90ebacdf167fd7a78217a81590af9bf401644258134c751dd645c5654677", func := "sewershed/sewershedlaw45.PlannerBellman", spec := "plannerBellman", inPlace := ["math/bits.Sub64", "math/bits.Add64"], unfollowed := true, recurses := true, named := ["math/bits.divideError", "math/bits.overflowError"], apart := false }
def PlannerBellmanSaid : Prop := plannerBellmanRow.holds Try.pinned (OpenSpec.ofChange plannerBellmanSpec)

/-- ITS FALSE NEIGHBOUR: 'it returns false'. Refute it at one input. -/
def plannerBellmanWrong : ChangeSpec := { name := "plannerBellman", fn := fun _ => fun
  | [d] => { results := [.lit (.bool false)], args := [d] }
  | _ => none }
def PlannerBellmanWrongFalsely : Prop := plannerBellmanRow.holds Try.pinned (OpenSpec.ofChange plannerBellmanWrong)

/-- 'sewershedlaw45.PlannerLeast': WHATEVER THE INPUT: true; the input reads as it did. -/
def plannerLeastSpec : ChangeSpec := { name := "plannerLeast", fn := fun _ => fun
  | [d1, d2] => { results := [.lit (.bool true)], args := [d1, d2] }
  | _ => none }
def plannerLeastRow : OpenClaim := { program := "ytedocinehadodaa", sum := "edba90ebacdf167fd7a78217a81590af9bf401644258134c751dd645c5654677", func := "sewershed/sewershedlaw45.PlannerLeast", spec := "plannerLeast", inPlace := ["math/bits.Sub64", "math/bits.Add64"], unfollowed := true, recurses := true, named := ["math/bits.divideError", "math/bits.overflowError"], apart := false }
def PlannerLeastSaid : Prop := plannerLeastRow.holds Try.pinned (OpenSpec.ofChange plannerLeastSpec)

/-- ITS FALSE NEIGHBOUR: 'it returns false'. Refute it at one input. -/
def plannerLeastWrong : ChangeSpec := { name := "plannerLeast", fn := fun _ => fun
  | [d1, d2] => { results := [.lit (.bool false)], args := [d1, d2] }
  | _ => none }
def PlannerLeastWrongFalsely : Prop := plannerLeastRow.holds Try.pinned (OpenSpec.ofChange plannerLeastWrong)

/-- 'sewershedlaw45.PlannerForms': WHATEVER THE INPUT: true; the input reads as it did. -/
def plannerFormsSpec : ChangeSpec := { name := "plannerForms", fn := fun _ => fun
  | [d1, d2] => { results := [.lit (.bool true)], args := [d1, d2] }
  | _ => none }
def plannerFormsRow : OpenClaim := { program := "ytedocinehadodaa", sum := "edba90ebacdf167fd7a78217a81590af9bf401644258134c751dd645c5654677", func := "sewershed/sewershedlaw45.PlannerForms", spec := "plannerForms", inPlace := ["math/bits.Sub64", "math/bits.Add64"], unfollowed := true, recurses := true, named := ["math/bits.divideError", "math/bits.overflowError"], apart := false }
def PlannerFormsSaid : Prop := plannerFormsRow.holds Try.pinned (OpenSpec.ofChange plannerFormsSpec)

/-- ITS FALSE NEIGHBOUR: 'it returns false'. Refute it at one input. -/
def plannerFormsWrong : ChangeSpec := { name := "plannerForms", fn := fun _ => fun
  | [d1, d2] => { results := [.lit (.bool false)], args := [d1, d2] }
  | _ => none }
def PlannerFormsWrongFalsely : Prop := plannerFormsRow.holds Try.pinned (OpenSpec.ofChange plannerFormsWrong)

/-- 'sewershedlaw45.PlannerBounds': WHATEVER THE INPUT: true; the input reads as it did. -/
def plannerBoundsSpec : ChangeSpec := { name := "plannerBounds", fn := fun _ => fun
  | [d1, d2, d3] => { results := [.lit (.bool true)], args := [d1, d2, d3] }
  | _ => none }
def plannerBoundsRow : OpenClaim := { program := "ytedocinehadodaa", sum := "edba90ebacdf167fd7a78217a81590af9bf401644258134c751dd645c5654677", func := "sewershed/sewershedlaw45.PlannerBounds", spec := "plannerBounds", inPlace := ["math/bits.Sub64", "math/bits.Add64"], unfollowed := true, recurses := true, named := ["math/bits.divideError", "math/bits.overflowError"], apart := false }
def PlannerBoundsSaid : Prop := plannerBoundsRow.holds Try.pinned (OpenSpec.ofChange plannerBoundsSpec)

/-- ITS FALSE NEIGHBOUR: 'it returns false'. Refute it at one input. -/
def plannerBoundsWrong : ChangeSpec := { name := "plannerBounds", fn := fun _ => fun
  | [d1, d2, d3] => { results := [.lit (.bool false)], args := [d1, d2, d3] }
  | _ => none }
def PlannerBoundsWrongFalsely : Prop := plannerBoundsRow.holds Try.pinned (OpenSpec.ofChange plannerBoundsWrong)

/-- 'sewershedlaw46.CertificateRaised': WHATEVER THE INPUT: true; the input reads as it did. -/
def certificateRaisedSpec : ChangeSpec := { name := "certificateRaised", fn := fun _ => fun
  | [d1, d2] => { results := [.lit (.bool true)], args := [d1, d2] }
  | _ => none }
def certificateRaisedRow : OpenClaim := { program := "ytedocinehadodaa", sum := "edba90ebacdf167fd7a78217a81590af9bf401644258134c751dd645c5654677", func := "sewershed/sewershedlaw46.CertificateRaised", spec := "certificateRaised", inPlace := ["math/bits.Sub64", "math/bits.Add64"], unfollowed := true, recurses := true, named := ["math/bits.divideError", "math/bits.overflowError"], apart := false }
def CertificateRaisedSaid : Prop := certificateRaisedRow.holds Try.pinned (OpenSpec.ofChange certificateRaisedSpec)

/-- ITS FALSE NEIGHBOUR: 'it returns false'. Refute it at one input. -/
def certificateRaisedWrong : ChangeSpec := { name := "certificateRaised", fn := fun _ => fun
  | [d1, d2] => { results := [.lit (.bool false)], args := [d1, d2] }
  | _ => none }
def CertificateRaisedWrongFalsely : Prop := certificateRaisedRow.holds Try.pinned (OpenSpec.ofChange certificateRaisedWrong)

/-- 'sewershedlaw46.CertificateTight': WHATEVER THE INPUT: true; the input reads as it did. -/
def certificateTightSpec : ChangeSpec := { name := "certificateTight", fn := fun _ => fun
  | [d] => { results := [.lit (.bool true)], args := [d] }
  | _ => none }
def certificateTightRow : OpenClaim := { program := "ytedocinehadodaa", sum := "edba90ebacdf167fd7a78217a81590af9bf401644258134c751dd645c5654677", func := "sewershed/sewershedlaw46.CertificateTight", spec := "certificateTight", inPlace := ["math/bits.Sub64", "math/bits.Add64"], unfollowed := true, recurses := true, named := ["math/bits.divideError", "math/bits.overflowError"], apart := false }
def CertificateTightSaid : Prop := certificateTightRow.holds Try.pinned (OpenSpec.ofChange certificateTightSpec)

/-- ITS FALSE NEIGHBOUR: 'it returns false'. Refute it at one input. -/
def certificateTightWrong : ChangeSpec := { name := "certificateTight", fn := fun _ => fun
  | [d] => { results := [.lit (.bool false)], args := [d] }
  | _ => none }
def CertificateTightWrongFalsely : Prop := certificateTightRow.holds Try.pinned (OpenSpec.ofChange certificateTightWrong)

/- THE SECOND FORM. 'bulk': how many values and letters a reading holds, each counted each time it is reached (what is shared counts as often as it is met; a slice's spare places count too). A statement '..UptoSaid' is the law's where the arguments, and the package variables that the reading takes, are together of bulk at most 1048576: NARROWER than '..Said'. Prove '..Said' where nothing that the law and all that it calls make is longer than what came in: it says more and counts as full. Else prove '..UptoSaid'. A law counts once. -/
mutual
def uptoBulk {H : Type} : DataW H → Nat
  | .lit (.string bytes) => bytes.length + 1
  | .lit _ => 1
  | .nil => 1
  | .ptr d => uptoBulk d + 1
  | .slice elems spare => uptoBulkAll elems + uptoBulkAll spare + 1
  | .agg parts => uptoBulkAll parts + 1
  | .iface _ d => uptoBulk d + 1
  | .map entries => uptoBulkEntries entries + 1
  | .held _ => 1
def uptoBulkAll {H : Type} : List (DataW H) → Nat
  | [] => 0
  | d :: r => uptoBulk d + uptoBulkAll r
def uptoBulkEntries {H : Type} : List (Lit × DataW H) → Nat
  | [] => 0
  | x :: r => uptoBulkEntry x + uptoBulkEntries r
def uptoBulkEntry {H : Type} : Lit × DataW H → Nat
  | (.string bytes, d) => bytes.length + uptoBulk d + 1
  | (_, d) => uptoBulk d + 1
 end
def uptoSmall : (H : Type) → List (DataW H) → Bool := fun _ ds => decide (uptoBulkAll ds ≤ 1048576)
def OpenSpec.upto (s : _root_.Go.ChangeSpec) : _root_.Go.OpenSpec := { _root_.Go.OpenSpec.ofChange s with cond := some uptoSmall }

/-- 'sewershedlaw45.PlannerSolves', WHERE WHAT IT READS IS OF BULK AT MOST 1048576: true; the input reads as it did. -/
def plannerSolvesUptoRow : OpenClaim := { program := "ytedocinehadodaa", sum := "edba90ebacdf167fd7a78217a81590af9bf401644258134c751dd645c5654677", func := "sewershed/sewershedlaw45.PlannerSolves", spec := "plannerSolves", inPlace := ["math/bits.Sub64", "math/bits.Add64"], unfollowed := true, recurses := true, named := ["math/bits.divideError", "math/bits.overflowError"], apart := false, narrowed := true }
def PlannerSolvesUptoSaid : Prop := plannerSolvesUptoRow.holds Try.pinned (OpenSpec.upto plannerSolvesSpec)

/-- 'sewershedlaw45.PlannerAll', WHERE WHAT IT READS IS OF BULK AT MOST 1048576: true; the input reads as it did. -/
def plannerAllUptoRow : OpenClaim := { program := "ytedocinehadodaa", sum := "edba90ebacdf167fd7a78217a81590af9bf401644258134c751dd645c5654677", func := "sewershed/sewershedlaw45.PlannerAll", spec := "plannerAll", inPlace := ["math/bits.Sub64", "math/bits.Add64"], unfollowed := true, recurses := true, named := ["math/bits.divideError", "math/bits.overflowError"], apart := false, narrowed := true }
def PlannerAllUptoSaid : Prop := plannerAllUptoRow.holds Try.pinned (OpenSpec.upto plannerAllSpec)

/-- 'sewershedlaw45.PlannerGoes', WHERE WHAT IT READS IS OF BULK AT MOST 1048576: true; the input reads as it did. -/
def plannerGoesUptoRow : OpenClaim := { program := "ytedocinehadodaa", sum := "edba90ebacdf167fd7a78217a81590af9bf401644258134c751dd645c5654677", func := "sewershed/sewershedlaw45.PlannerGoes", spec := "plannerGoes", inPlace := ["math/bits.Sub64", "math/bits.Add64"], unfollowed := true, recurses := true, named := ["math/bits.divideError", "math/bits.overflowError"], apart := false, narrowed := true }
def PlannerGoesUptoSaid : Prop := plannerGoesUptoRow.holds Try.pinned (OpenSpec.upto plannerGoesSpec)

/-- 'sewershedlaw45.PlannerBellman', WHERE WHAT IT READS IS OF BULK AT MOST 1048576: true; the input reads as it did. -/
def plannerBellmanUptoRow : OpenClaim := { program := "ytedocinehadodaa", sum := "edba90ebacdf167fd7a78217a81590af9bf401644258134c751dd645c5654677", func := "sewershed/sewershedlaw45.PlannerBellman", spec := "plannerBellman", inPlace := ["math/bits.Sub64", "math/bits.Add64"], unfollowed := true, recurses := true, named := ["math/bits.divideError", "math/bits.overflowError"], apart := false, narrowed := true }
def PlannerBellmanUptoSaid : Prop := plannerBellmanUptoRow.holds Try.pinned (OpenSpec.upto plannerBellmanSpec)

/-- 'sewershedlaw45.PlannerLeast', WHERE WHAT IT READS IS OF BULK AT MOST 1048576: true; the input reads as it did. -/
def plannerLeastUptoRow : OpenClaim := { program := "ytedocinehadodaa", sum := "edba90ebacdf167fd7a78217a81590af9bf401644258134c751dd645c5654677", func := "sewershed/sewershedlaw45.PlannerLeast", spec := "plannerLeast", inPlace := ["math/bits.Sub64", "math/bits.Add64"], unfollowed := true, recurses := true, named := ["math/bits.divideError", "math/bits.overflowError"], apart := false, narrowed := true }
def PlannerLeastUptoSaid : Prop := plannerLeastUptoRow.holds Try.pinned (OpenSpec.upto plannerLeastSpec)

/-- 'sewershedlaw45.PlannerForms', WHERE WHAT IT READS IS OF BULK AT MOST 1048576: true; the input reads as it did. -/
def plannerFormsUptoRow : OpenClaim := { program := "ytedocinehadodaa", sum := "edba90ebacdf167fd7a78217a81590af9bf401644258134c751dd645c5654677", func := "sewershed/sewershedlaw45.PlannerForms", spec := "plannerForms", inPlace := ["math/bits.Sub64", "math/bits.Add64"], unfollowed := true, recurses := true, named := ["math/bits.divideError", "math/bits.overflowError"], apart := false, narrowed := true }
def PlannerFormsUptoSaid : Prop := plannerFormsUptoRow.holds Try.pinned (OpenSpec.upto plannerFormsSpec)

/-- 'sewershedlaw45.PlannerBounds', WHERE WHAT IT READS IS OF BULK AT MOST 1048576: true; the input reads as it did. -/
def plannerBoundsUptoRow : OpenClaim := { program := "ytedocinehadodaa", sum := "edba90ebacdf167fd7a78217a81590af9bf401644258134c751dd645c5654677", func := "sewershed/sewershedlaw45.PlannerBounds", spec := "plannerBounds", inPlace := ["math/bits.Sub64", "math/bits.Add64"], unfollowed := true, recurses := true, named := ["math/bits.divideError", "math/bits.overflowError"], apart := false, narrowed := true }
def PlannerBoundsUptoSaid : Prop := plannerBoundsUptoRow.holds Try.pinned (OpenSpec.upto plannerBoundsSpec)

/-- 'sewershedlaw46.CertificateRaised', WHERE WHAT IT READS IS OF BULK AT MOST 1048576: true; the input reads as it did. -/
def certificateRaisedUptoRow : OpenClaim := { program := "ytedocinehadodaa", sum := "edba90ebacdf167fd7a78217a81590af9bf401644258134c751dd645c5654677", func := "sewershed/sewershedlaw46.CertificateRaised", spec := "certificateRaised", inPlace := ["math/bits.Sub64", "math/bits.Add64"], unfollowed := true, recurses := true, named := ["math/bits.divideError", "math/bits.overflowError"], apart := false, narrowed := true }
def CertificateRaisedUptoSaid : Prop := certificateRaisedUptoRow.holds Try.pinned (OpenSpec.upto certificateRaisedSpec)

/-- 'sewershedlaw46.CertificateTight', WHERE WHAT IT READS IS OF BULK AT MOST 1048576: true; the input reads as it did. -/
def certificateTightUptoRow : OpenClaim := { program := "ytedocinehadodaa", sum := "edba90ebacdf167fd7a78217a81590af9bf401644258134c751dd645c5654677", func := "sewershed/sewershedlaw46.CertificateTight", spec := "certificateTight", inPlace := ["math/bits.Sub64", "math/bits.Add64"], unfollowed := true, recurses := true, named := ["math/bits.divideError", "math/bits.overflowError"], apart := false, narrowed := true }
def CertificateTightUptoSaid : Prop := certificateTightUptoRow.holds Try.pinned (OpenSpec.upto certificateTightSpec)

end Rows
end Go.Proofs.Ytedocinehadodaa
