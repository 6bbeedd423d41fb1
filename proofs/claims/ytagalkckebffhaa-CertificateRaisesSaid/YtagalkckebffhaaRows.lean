/-
  No cell of these rows narrows 'for every input' (looked for: loops, veiled, ifaces, maps, wideKeys, modest, calm, conditions, laid).
  DERIVED. THE GIVEN ROWS OF THIS SEAT. 5 by the template 'for every input the law returns true; each argument reads behind the call as it read before'; 0 by the template 'total and deterministic' (their statements: YtagalkckebffhaaTotals.lean).
  GIVEN WITH THE SEED: the statements are not yours to turn. If you find one false, say at which input.
  Laid BY PROGRAM, IN A SANDBOX (cutbox-rows.mjs): the forced cells as the released guide's own fill.sh prints them over the translation 9b4cb1fa78d61f8c… (all of the seat's roots in one cut). By AI agents, Wed Nov 11 2026. No macro, syntax, notation, axiom, sorry.
-/
import Derived.Test.YtagalkckebffhaaChecked
import GoSem.Claim
import GoSem.ClaimJoined
import GoSem.ClaimMapViews
import Derived.JoinedTies
import Derived.KernelRfl
namespace Go.Proofs.Ytagalkckebffhaa
/- THE CELL 'sum', in the pinned program and in every row, IS THE sha256 OF THE DUMP (.gsa) THAT YtagalkckebffhaaProg.lean LOADS. Nothing in Lean hashes anything: it is a label: what it is worth is what the hold of that sum in a sandbox is worth. -/
noncomputable def Try.pinned : Pinned := { name := "ytagalkckebffhaa", sum := "9b4cb1fa78d61f8cf27ba9fd835e49fd71620c7168a0985de4f69c8612a5de7c", checked := Try.checked }
namespace Rows
def none {H : Type} : Left H := { results := [], args := [] }

/-- 'sewershedlaw46.CertificateBounds': WHATEVER THE INPUT: true; the input reads as it did. -/
def certificateBoundsSpec : ChangeSpec := { name := "certificateBounds", fn := fun _ => fun
  | [d1, d2, d3] => { results := [.lit (.bool true)], args := [d1, d2, d3] }
  | _ => none }
def certificateBoundsRow : OpenClaim := { program := "ytagalkckebffhaa", sum := "9b4cb1fa78d61f8cf27ba9fd835e49fd71620c7168a0985de4f69c8612a5de7c", func := "sewershed/sewershedlaw46.CertificateBounds", spec := "certificateBounds", inPlace := ["math/bits.Sub64", "math/bits.Add64"], unfollowed := true, recurses := true, named := ["math/bits.divideError", "math/bits.overflowError"], apart := false }
def CertificateBoundsSaid : Prop := certificateBoundsRow.holds Try.pinned (OpenSpec.ofChange certificateBoundsSpec)

/-- ITS FALSE NEIGHBOUR: 'it returns false'. Refute it at one input. -/
def certificateBoundsWrong : ChangeSpec := { name := "certificateBounds", fn := fun _ => fun
  | [d1, d2, d3] => { results := [.lit (.bool false)], args := [d1, d2, d3] }
  | _ => none }
def CertificateBoundsWrongFalsely : Prop := certificateBoundsRow.holds Try.pinned (OpenSpec.ofChange certificateBoundsWrong)

/-- 'sewershedlaw46.CertificateDecodes': WHATEVER THE INPUT: true; the input reads as it did. -/
def certificateDecodesSpec : ChangeSpec := { name := "certificateDecodes", fn := fun _ => fun
  | [d] => { results := [.lit (.bool true)], args := [d] }
  | _ => none }
def certificateDecodesRow : OpenClaim := { program := "ytagalkckebffhaa", sum := "9b4cb1fa78d61f8cf27ba9fd835e49fd71620c7168a0985de4f69c8612a5de7c", func := "sewershed/sewershedlaw46.CertificateDecodes", spec := "certificateDecodes", inPlace := ["math/bits.Sub64", "math/bits.Add64"], unfollowed := true, recurses := true, named := ["math/bits.divideError", "math/bits.overflowError"], apart := false }
def CertificateDecodesSaid : Prop := certificateDecodesRow.holds Try.pinned (OpenSpec.ofChange certificateDecodesSpec)

/-- ITS FALSE NEIGHBOUR: 'it returns false'. Refute it at one input. -/
def certificateDecodesWrong : ChangeSpec := { name := "certificateDecodes", fn := fun _ => fun
  | [d] => { results := [.lit (.bool false)], args := [d] }
  | _ => none }
def CertificateDecodesWrongFalsely : Prop := certificateDecodesRow.holds Try.pinned (OpenSpec.ofChange certificateDecodesWrong)

/-- 'sewershedlaw46.CertificateForms': WHATEVER THE INPUT: true; the input reads as it did. -/
def certificateFormsSpec : ChangeSpec := { name := "certificateForms", fn := fun _ => fun
  | [d1, d2] => { results := [.lit (.bool true)], args := [d1, d2] }
  | _ => none }
def certificateFormsRow : OpenClaim := { program := "ytagalkckebffhaa", sum := "9b4cb1fa78d61f8cf27ba9fd835e49fd71620c7168a0985de4f69c8612a5de7c", func := "sewershed/sewershedlaw46.CertificateForms", spec := "certificateForms", inPlace := ["math/bits.Sub64", "math/bits.Add64"], unfollowed := true, recurses := true, named := ["math/bits.divideError", "math/bits.overflowError"], apart := false }
def CertificateFormsSaid : Prop := certificateFormsRow.holds Try.pinned (OpenSpec.ofChange certificateFormsSpec)

/-- ITS FALSE NEIGHBOUR: 'it returns false'. Refute it at one input. -/
def certificateFormsWrong : ChangeSpec := { name := "certificateForms", fn := fun _ => fun
  | [d1, d2] => { results := [.lit (.bool false)], args := [d1, d2] }
  | _ => none }
def CertificateFormsWrongFalsely : Prop := certificateFormsRow.holds Try.pinned (OpenSpec.ofChange certificateFormsWrong)

/-- 'sewershedlaw46.CertificateRaises': WHATEVER THE INPUT: true; the input reads as it did. -/
def certificateRaisesSpec : ChangeSpec := { name := "certificateRaises", fn := fun _ => fun
  | [d1, d2, d3] => { results := [.lit (.bool true)], args := [d1, d2, d3] }
  | _ => none }
def certificateRaisesRow : OpenClaim := { program := "ytagalkckebffhaa", sum := "9b4cb1fa78d61f8cf27ba9fd835e49fd71620c7168a0985de4f69c8612a5de7c", func := "sewershed/sewershedlaw46.CertificateRaises", spec := "certificateRaises", inPlace := ["math/bits.Sub64", "math/bits.Add64"], unfollowed := true, recurses := true, named := ["math/bits.divideError", "math/bits.overflowError"], apart := false }
def CertificateRaisesSaid : Prop := certificateRaisesRow.holds Try.pinned (OpenSpec.ofChange certificateRaisesSpec)

/-- ITS FALSE NEIGHBOUR: 'it returns false'. Refute it at one input. -/
def certificateRaisesWrong : ChangeSpec := { name := "certificateRaises", fn := fun _ => fun
  | [d1, d2, d3] => { results := [.lit (.bool false)], args := [d1, d2, d3] }
  | _ => none }
def CertificateRaisesWrongFalsely : Prop := certificateRaisesRow.holds Try.pinned (OpenSpec.ofChange certificateRaisesWrong)

/-- 'sewershedlaw46.CertificateKeeps': WHATEVER THE INPUT: true; the input reads as it did. -/
def certificateKeepsSpec : ChangeSpec := { name := "certificateKeeps", fn := fun _ => fun
  | [d1, d2, d3] => { results := [.lit (.bool true)], args := [d1, d2, d3] }
  | _ => none }
def certificateKeepsRow : OpenClaim := { program := "ytagalkckebffhaa", sum := "9b4cb1fa78d61f8cf27ba9fd835e49fd71620c7168a0985de4f69c8612a5de7c", func := "sewershed/sewershedlaw46.CertificateKeeps", spec := "certificateKeeps", inPlace := ["math/bits.Sub64", "math/bits.Add64"], unfollowed := true, recurses := true, named := ["math/bits.divideError", "math/bits.overflowError"], apart := false }
def CertificateKeepsSaid : Prop := certificateKeepsRow.holds Try.pinned (OpenSpec.ofChange certificateKeepsSpec)

/-- ITS FALSE NEIGHBOUR: 'it returns false'. Refute it at one input. -/
def certificateKeepsWrong : ChangeSpec := { name := "certificateKeeps", fn := fun _ => fun
  | [d1, d2, d3] => { results := [.lit (.bool false)], args := [d1, d2, d3] }
  | _ => none }
def CertificateKeepsWrongFalsely : Prop := certificateKeepsRow.holds Try.pinned (OpenSpec.ofChange certificateKeepsWrong)

/- THE SECOND FORM. 'bulk': how many values and letters a reading holds, each counted each time it is reached (what is shared counts as often as it is met; a slice's spare places count too). A statement '..UptoSaid' is the law's where the arguments, and the package variables that the reading takes, are together of bulk at most 1048576: NARROWER than '..Said'. Prove '..Said' where nothing that the law and all that it calls make is longer than what came in: it says more and counts as full. Else prove '..UptoSaid'. A law counts once. -/
mutual
def uptoBulk {H : Type} : DataW H → Nat
  | .lit (.string bytes) => bytes.length + 1
  | .lit _ => 1
  | .nil => 1
  | .ptr d => uptoBulk d + 1
  | .slice elems spare => uptoBulkAll elems + uptoBulkAll spare + 1
  | .agg parts => uptoBulkAll parts + 1
  | .iface _ d => uptoBulk d + 1
  | .map entries => uptoBulkEntries entries + 1
  | .held _ => 1
def uptoBulkAll {H : Type} : List (DataW H) → Nat
  | [] => 0
  | d :: r => uptoBulk d + uptoBulkAll r
def uptoBulkEntries {H : Type} : List (Lit × DataW H) → Nat
  | [] => 0
  | x :: r => uptoBulkEntry x + uptoBulkEntries r
def uptoBulkEntry {H : Type} : Lit × DataW H → Nat
  | (.string bytes, d) => bytes.length + uptoBulk d + 1
  | (_, d) => uptoBulk d + 1
 end
def uptoSmall : (H : Type) → List (DataW H) → Bool := fun _ ds => decide (uptoBulkAll ds ≤ 1048576)
def OpenSpec.upto (s : _root_.Go.ChangeSpec) : _root_.Go.OpenSpec := { _root_.Go.OpenSpec.ofChange s with cond := some uptoSmall }

/-- 'sewershedlaw46.CertificateBounds', WHERE WHAT IT READS IS OF BULK AT MOST 1048576: true; the input reads as it did. -/
def certificateBoundsUptoRow : OpenClaim := { program := "ytagalkckebffhaa", sum := "9b4cb1fa78d61f8cf27ba9fd835e49fd71620c7168a0985de4f69c8612a5de7c", func := "sewershed/sewershedlaw46.CertificateBounds", spec := "certificateBounds", inPlace := ["math/bits.Sub64", "math/bits.Add64"], unfollowed := true, recurses := true, named := ["math/bits.divideError", "math/bits.overflowError"], apart := false, narrowed := true }
def CertificateBoundsUptoSaid : Prop := certificateBoundsUptoRow.holds Try.pinned (OpenSpec.upto certificateBoundsSpec)

/-- 'sewershedlaw46.CertificateDecodes', WHERE WHAT IT READS IS OF BULK AT MOST 1048576: true; the input reads as it did. -/
def certificateDecodesUptoRow : OpenClaim := { program := "ytagalkckebffhaa", sum := "9b4cb1fa78d61f8cf27ba9fd835e49fd71620c7168a0985de4f69c8612a5de7c", func := "sewershed/sewershedlaw46.CertificateDecodes", spec := "certificateDecodes", inPlace := ["math/bits.Sub64", "math/bits.Add64"], unfollowed := true, recurses := true, named := ["math/bits.divideError", "math/bits.overflowError"], apart := false, narrowed := true }
def CertificateDecodesUptoSaid : Prop := certificateDecodesUptoRow.holds Try.pinned (OpenSpec.upto certificateDecodesSpec)

/-- 'sewershedlaw46.CertificateForms', WHERE WHAT IT READS IS OF BULK AT MOST 1048576: true; the input reads as it did. -/
def certificateFormsUptoRow : OpenClaim := { program := "ytagalkckebffhaa", sum := "9b4cb1fa78d61f8cf27ba9fd835e49fd71620c7168a0985de4f69c8612a5de7c", func := "sewershed/sewershedlaw46.CertificateForms", spec := "certificateForms", inPlace := ["math/bits.Sub64", "math/bits.Add64"], unfollowed := true, recurses := true, named := ["math/bits.divideError", "math/bits.overflowError"], apart := false, narrowed := true }
def CertificateFormsUptoSaid : Prop := certificateFormsUptoRow.holds Try.pinned (OpenSpec.upto certificateFormsSpec)

/-- 'sewershedlaw46.CertificateRaises', WHERE WHAT IT READS IS OF BULK AT MOST 1048576: true; the input reads as it did. -/
def certificateRaisesUptoRow : OpenClaim := { program := "ytagalkckebffhaa", sum := "9b4cb1fa78d61f8cf27ba9fd835e49fd71620c7168a0985de4f69c8612a5de7c", func := "sewershed/sewershedlaw46.CertificateRaises", spec := "certificateRaises", inPlace := ["math/bits.Sub64", "math/bits.Add64"], unfollowed := true, recurses := true, named := ["math/bits.divideError", "math/bits.overflowError"], apart := false, narrowed := true }
def CertificateRaisesUptoSaid : Prop := certificateRaisesUptoRow.holds Try.pinned (OpenSpec.upto certificateRaisesSpec)

/-- 'sewershedlaw46.CertificateKeeps', WHERE WHAT IT READS IS OF BULK AT MOST 1048576: true; the input reads as it did. -/
def certificateKeepsUptoRow : OpenClaim := { program := "ytagalkckebffhaa", sum := "9b4cb1fa78d61f8cf27ba9fd835e49fd71620c7168a0985de4f69c8612a5de7c", func := "sewershed/sewershedlaw46.CertificateKeeps", spec := "certificateKeeps", inPlace := ["math/bits.Sub64", "math/bits.Add64"], unfollowed := true, recurses := true, named := ["math/bits.divideError", "math/bits.overflowError"], apart := false, narrowed := true }
def CertificateKeepsUptoSaid : Prop := certificateKeepsUptoRow.holds Try.pinned (OpenSpec.upto certificateKeepsSpec)

end Rows
end Go.Proofs.Ytagalkckebffhaa
