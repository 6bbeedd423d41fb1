/-
  No cell of these rows narrows 'for every input' (looked for: loops, veiled, ifaces, maps, wideKeys, modest, calm, conditions, laid).
  DERIVED. THE GIVEN ROWS OF THIS SEAT. 5 by the template 'for every input the law returns true; each argument reads behind the call as it read before'; 0 by the template 'total and deterministic' (their statements: YtkhddlhhbanebaaTotals.lean).
  GIVEN WITH THE SEED: the statements are not yours to turn. If you find one false, say at which input.
  Laid BY PROGRAM, IN A SANDBOX (cutbox-rows.mjs): the forced cells as the released guide's own fill.sh prints them over the translation 5e38f6f70f3015b1… (all of the seat's roots in one cut). By AI agents, Wed Nov 11 2026. No macro, syntax, notation, axiom, sorry.
-/
import Derived.Test.YtkhddlhhbanebaaChecked
import GoSem.Claim
import GoSem.ClaimJoined
import GoSem.ClaimMapViews
import Derived.JoinedTies
import Derived.KernelRfl
namespace Go.Proofs.Ytkhddlhhbanebaa
/- THE CELL 'sum', in the pinned program and in every row, IS THE sha256 OF THE DUMP (.gsa) THAT YtkhddlhhbanebaaProg.lean LOADS. Nothing in Lean hashes anything: it is a label: what it is worth is what the hold of that sum in a sandbox is worth. -/
noncomputable def Try.pinned : Pinned := { name := "ytkhddlhhbanebaa", sum := "5e38f6f70f3015b15177dd08a501b7bced049d45eddb7fa73167501f03d68d1c", checked := Try.checked }
namespace Rows
def none {H : Type} : Left H := { results := [], args := [] }

/-- 'sewershedlaw54.RecorderCodes': WHATEVER THE INPUT: true; the input reads as it did. -/
def recorderCodesSpec : ChangeSpec := { name := "recorderCodes", fn := fun _ => fun
  | [d1, d2] => { results := [.lit (.bool true)], args := [d1, d2] }
  | _ => none }
def recorderCodesRow : OpenClaim := { program := "ytkhddlhhbanebaa", sum := "5e38f6f70f3015b15177dd08a501b7bced049d45eddb7fa73167501f03d68d1c", func := "sewershed/sewershedlaw54.RecorderCodes", spec := "recorderCodes", unfollowed := true, recurses := true, plainKeys := false, apart := false }
def RecorderCodesSaid : Prop := recorderCodesRow.holds Try.pinned (OpenSpec.ofChange recorderCodesSpec)

/-- ITS FALSE NEIGHBOUR: 'it returns false'. Refute it at one input. -/
def recorderCodesWrong : ChangeSpec := { name := "recorderCodes", fn := fun _ => fun
  | [d1, d2] => { results := [.lit (.bool false)], args := [d1, d2] }
  | _ => none }
def RecorderCodesWrongFalsely : Prop := recorderCodesRow.holds Try.pinned (OpenSpec.ofChange recorderCodesWrong)

/-- 'sewershedlaw54.RecorderDisks': WHATEVER THE INPUT: true; the input reads as it did. -/
def recorderDisksSpec : ChangeSpec := { name := "recorderDisks", fn := fun _ => fun
  | [d1, d2, d3] => { results := [.lit (.bool true)], args := [d1, d2, d3] }
  | _ => none }
def recorderDisksRow : OpenClaim := { program := "ytkhddlhhbanebaa", sum := "5e38f6f70f3015b15177dd08a501b7bced049d45eddb7fa73167501f03d68d1c", func := "sewershed/sewershedlaw54.RecorderDisks", spec := "recorderDisks", unfollowed := true, recurses := true, plainKeys := false, apart := false }
def RecorderDisksSaid : Prop := recorderDisksRow.holds Try.pinned (OpenSpec.ofChange recorderDisksSpec)

/-- ITS FALSE NEIGHBOUR: 'it returns false'. Refute it at one input. -/
def recorderDisksWrong : ChangeSpec := { name := "recorderDisks", fn := fun _ => fun
  | [d1, d2, d3] => { results := [.lit (.bool false)], args := [d1, d2, d3] }
  | _ => none }
def RecorderDisksWrongFalsely : Prop := recorderDisksRow.holds Try.pinned (OpenSpec.ofChange recorderDisksWrong)

/-- 'sewershedlaw54.RecorderAppends': WHATEVER THE INPUT: true; the input reads as it did. -/
def recorderAppendsSpec : ChangeSpec := { name := "recorderAppends", fn := fun _ => fun
  | [d1, d2] => { results := [.lit (.bool true)], args := [d1, d2] }
  | _ => none }
def recorderAppendsRow : OpenClaim := { program := "ytkhddlhhbanebaa", sum := "5e38f6f70f3015b15177dd08a501b7bced049d45eddb7fa73167501f03d68d1c", func := "sewershed/sewershedlaw54.RecorderAppends", spec := "recorderAppends", unfollowed := true, recurses := true, plainKeys := false, apart := false }
def RecorderAppendsSaid : Prop := recorderAppendsRow.holds Try.pinned (OpenSpec.ofChange recorderAppendsSpec)

/-- ITS FALSE NEIGHBOUR: 'it returns false'. Refute it at one input. -/
def recorderAppendsWrong : ChangeSpec := { name := "recorderAppends", fn := fun _ => fun
  | [d1, d2] => { results := [.lit (.bool false)], args := [d1, d2] }
  | _ => none }
def RecorderAppendsWrongFalsely : Prop := recorderAppendsRow.holds Try.pinned (OpenSpec.ofChange recorderAppendsWrong)

/-- 'sewershedlaw54.RecorderTears': WHATEVER THE INPUT: true; the input reads as it did. -/
def recorderTearsSpec : ChangeSpec := { name := "recorderTears", fn := fun _ => fun
  | [d1, d2, d3, d4] => { results := [.lit (.bool true)], args := [d1, d2, d3, d4] }
  | _ => none }
def recorderTearsRow : OpenClaim := { program := "ytkhddlhhbanebaa", sum := "5e38f6f70f3015b15177dd08a501b7bced049d45eddb7fa73167501f03d68d1c", func := "sewershed/sewershedlaw54.RecorderTears", spec := "recorderTears", unfollowed := true, recurses := true, plainKeys := false, apart := false }
def RecorderTearsSaid : Prop := recorderTearsRow.holds Try.pinned (OpenSpec.ofChange recorderTearsSpec)

/-- ITS FALSE NEIGHBOUR: 'it returns false'. Refute it at one input. -/
def recorderTearsWrong : ChangeSpec := { name := "recorderTears", fn := fun _ => fun
  | [d1, d2, d3, d4] => { results := [.lit (.bool false)], args := [d1, d2, d3, d4] }
  | _ => none }
def RecorderTearsWrongFalsely : Prop := recorderTearsRow.holds Try.pinned (OpenSpec.ofChange recorderTearsWrong)

/-- 'sewershedlaw54.RecorderSurvives': WHATEVER THE INPUT: true; the input reads as it did. -/
def recorderSurvivesSpec : ChangeSpec := { name := "recorderSurvives", fn := fun _ => fun
  | [d1, d2, d3, d4] => { results := [.lit (.bool true)], args := [d1, d2, d3, d4] }
  | _ => none }
def recorderSurvivesRow : OpenClaim := { program := "ytkhddlhhbanebaa", sum := "5e38f6f70f3015b15177dd08a501b7bced049d45eddb7fa73167501f03d68d1c", func := "sewershed/sewershedlaw54.RecorderSurvives", spec := "recorderSurvives", unfollowed := true, recurses := true, plainKeys := false, apart := false }
def RecorderSurvivesSaid : Prop := recorderSurvivesRow.holds Try.pinned (OpenSpec.ofChange recorderSurvivesSpec)

/-- ITS FALSE NEIGHBOUR: 'it returns false'. Refute it at one input. -/
def recorderSurvivesWrong : ChangeSpec := { name := "recorderSurvives", fn := fun _ => fun
  | [d1, d2, d3, d4] => { results := [.lit (.bool false)], args := [d1, d2, d3, d4] }
  | _ => none }
def RecorderSurvivesWrongFalsely : Prop := recorderSurvivesRow.holds Try.pinned (OpenSpec.ofChange recorderSurvivesWrong)

/- THE SECOND FORM. 'bulk': how many values and letters a reading holds, each counted each time it is reached (what is shared counts as often as it is met; a slice's spare places count too). A statement '..UptoSaid' is the law's where the arguments, and the package variables that the reading takes, are together of bulk at most 1048576: NARROWER than '..Said'. Prove '..Said' where nothing that the law and all that it calls make is longer than what came in: it says more and counts as full. Else prove '..UptoSaid'. A law counts once. -/
mutual
def uptoBulk {H : Type} : DataW H → Nat
  | .lit (.string bytes) => bytes.length + 1
  | .lit _ => 1
  | .nil => 1
  | .ptr d => uptoBulk d + 1
  | .slice elems spare => uptoBulkAll elems + uptoBulkAll spare + 1
  | .agg parts => uptoBulkAll parts + 1
  | .iface _ d => uptoBulk d + 1
  | .map entries => uptoBulkEntries entries + 1
  | .held _ => 1
def uptoBulkAll {H : Type} : List (DataW H) → Nat
  | [] => 0
  | d :: r => uptoBulk d + uptoBulkAll r
def uptoBulkEntries {H : Type} : List (Lit × DataW H) → Nat
  | [] => 0
  | x :: r => uptoBulkEntry x + uptoBulkEntries r
def uptoBulkEntry {H : Type} : Lit × DataW H → Nat
  | (.string bytes, d) => bytes.length + uptoBulk d + 1
  | (_, d) => uptoBulk d + 1
 end
def uptoSmall : (H : Type) → List (DataW H) → Bool := fun _ ds => decide (uptoBulkAll ds ≤ 1048576)
def OpenSpec.upto (s : _root_.Go.ChangeSpec) : _root_.Go.OpenSpec := { _root_.Go.OpenSpec.ofChange s with cond := some uptoSmall }

/-- 'sewershedlaw54.RecorderCodes', WHERE WHAT IT READS IS OF BULK AT MOST 1048576: true; the input reads as it did. -/
def recorderCodesUptoRow : OpenClaim := { program := "ytkhddlhhbanebaa", sum := "5e38f6f70f3015b15177dd08a501b7bced049d45eddb7fa73167501f03d68d1c", func := "sewershed/sewershedlaw54.RecorderCodes", spec := "recorderCodes", unfollowed := true, recurses := true, plainKeys := false, apart := false, narrowed := true }
def RecorderCodesUptoSaid : Prop := recorderCodesUptoRow.holds Try.pinned (OpenSpec.upto recorderCodesSpec)

/-- 'sewershedlaw54.RecorderDisks', WHERE WHAT IT READS IS OF BULK AT MOST 1048576: true; the input reads as it did. -/
def recorderDisksUptoRow : OpenClaim := { program := "ytkhddlhhbanebaa", sum := "5e38f6f70f3015b15177dd08a501b7bced049d45eddb7fa73167501f03d68d1c", func := "sewershed/sewershedlaw54.RecorderDisks", spec := "recorderDisks", unfollowed := true, recurses := true, plainKeys := false, apart := false, narrowed := true }
def RecorderDisksUptoSaid : Prop := recorderDisksUptoRow.holds Try.pinned (OpenSpec.upto recorderDisksSpec)

/-- 'sewershedlaw54.RecorderAppends', WHERE WHAT IT READS IS OF BULK AT MOST 1048576: true; the input reads as it did. -/
def recorderAppendsUptoRow : OpenClaim := { program := "ytkhddlhhbanebaa", sum := "5e38f6f70f3015b15177dd08a501b7bced049d45eddb7fa73167501f03d68d1c", func := "sewershed/sewershedlaw54.RecorderAppends", spec := "recorderAppends", unfollowed := true, recurses := true, plainKeys := false, apart := false, narrowed := true }
def RecorderAppendsUptoSaid : Prop := recorderAppendsUptoRow.holds Try.pinned (OpenSpec.upto recorderAppendsSpec)

/-- 'sewershedlaw54.RecorderTears', WHERE WHAT IT READS IS OF BULK AT MOST 1048576: true; the input reads as it did. -/
def recorderTearsUptoRow : OpenClaim := { program := "ytkhddlhhbanebaa", sum := "5e38f6f70f3015b15177dd08a501b7bced049d45eddb7fa73167501f03d68d1c", func := "sewershed/sewershedlaw54.RecorderTears", spec := "recorderTears", unfollowed := true, recurses := true, plainKeys := false, apart := false, narrowed := true }
def RecorderTearsUptoSaid : Prop := recorderTearsUptoRow.holds Try.pinned (OpenSpec.upto recorderTearsSpec)

/-- 'sewershedlaw54.RecorderSurvives', WHERE WHAT IT READS IS OF BULK AT MOST 1048576: true; the input reads as it did. -/
def recorderSurvivesUptoRow : OpenClaim := { program := "ytkhddlhhbanebaa", sum := "5e38f6f70f3015b15177dd08a501b7bced049d45eddb7fa73167501f03d68d1c", func := "sewershed/sewershedlaw54.RecorderSurvives", spec := "recorderSurvives", unfollowed := true, recurses := true, plainKeys := false, apart := false, narrowed := true }
def RecorderSurvivesUptoSaid : Prop := recorderSurvivesUptoRow.holds Try.pinned (OpenSpec.upto recorderSurvivesSpec)

end Rows
end Go.Proofs.Ytkhddlhhbanebaa
