/-
  No cell of these rows narrows 'for every input' (looked for: loops, veiled, ifaces, maps, wideKeys, modest, calm, conditions, laid).
  DERIVED. THE GIVEN ROWS OF THIS SEAT. 8 by the template 'for every input the law returns true; each argument reads behind the call as it read before'; 0 by the template 'total and deterministic' (their statements: YtnfbaeeohepajaaGreatTotals.lean).
  GIVEN WITH THE SEED: the statements are not yours to turn. If you find one false, say at which input.
  Laid BY PROGRAM, IN A SANDBOX (cutbox-rows.mjs): the forced cells as the released guide's own fill.sh prints them over the translation 72bd571359fb2e03… (all of the seat's roots in one cut). By AI agents, Wed Nov 11 2026. No macro, syntax, notation, axiom, sorry.
-/
import Derived.Test.YtnfbaeeohepajaaGreatChecked
import GoSem.Claim
import GoSem.ClaimJoined
import GoSem.ClaimMapViews
import Derived.JoinedTies
import Derived.KernelRfl
namespace Go.Proofs.YtnfbaeeohepajaaGreat
/- THE CELL 'sum', in the pinned program and in every row, IS THE sha256 OF THE DUMP (.gsa) THAT YtnfbaeeohepajaaGreatProg.lean LOADS. Nothing in Lean hashes anything: it is a label: what it is worth is what the hold of that sum in a sandbox is worth. -/
noncomputable def Tryz.pinned : Pinned := { name := "ytnfbaeeohepajaagreat", sum := "72bd571359fb2e03ceeb627c43ca9b36a8d0b59aac66ef8e3f3a17544723c6ea", checked := Tryz.checked }
namespace Rows
def none {H : Type} : Left H := { results := [], args := [] }

/-- 'sewershedlaw34.LinksFlow': WHATEVER THE INPUT: true; the input reads as it did. -/
def linksFlowSpec : ChangeSpec := { name := "linksFlow", fn := fun _ => fun
  | [d1, d2, d3, d4, d5, d6] => { results := [.lit (.bool true)], args := [d1, d2, d3, d4, d5, d6] }
  | _ => none }
def linksFlowRow : OpenClaim := { program := "ytnfbaeeohepajaagreat", sum := "72bd571359fb2e03ceeb627c43ca9b36a8d0b59aac66ef8e3f3a17544723c6ea", func := "sewershed/sewershedlaw34.LinksFlow", spec := "linksFlow", inPlace := ["math/bits.Sub64", "math/bits.Add64"], unfollowed := true, recurses := true, named := ["math/bits.divideError", "math/bits.overflowError"], apart := false }
def LinksFlowSaid : Prop := linksFlowRow.holds Tryz.pinned (OpenSpec.ofChange linksFlowSpec)

/-- ITS FALSE NEIGHBOUR: 'it returns false'. Refute it at one input. -/
def linksFlowWrong : ChangeSpec := { name := "linksFlow", fn := fun _ => fun
  | [d1, d2, d3, d4, d5, d6] => { results := [.lit (.bool false)], args := [d1, d2, d3, d4, d5, d6] }
  | _ => none }
def LinksFlowWrongFalsely : Prop := linksFlowRow.holds Tryz.pinned (OpenSpec.ofChange linksFlowWrong)

/-- 'sewershedlaw34.LinksWish': WHATEVER THE INPUT: true; the input reads as it did. -/
def linksWishSpec : ChangeSpec := { name := "linksWish", fn := fun _ => fun
  | [d1, d2, d3] => { results := [.lit (.bool true)], args := [d1, d2, d3] }
  | _ => none }
def linksWishRow : OpenClaim := { program := "ytnfbaeeohepajaagreat", sum := "72bd571359fb2e03ceeb627c43ca9b36a8d0b59aac66ef8e3f3a17544723c6ea", func := "sewershed/sewershedlaw34.LinksWish", spec := "linksWish", inPlace := ["math/bits.Sub64", "math/bits.Add64"], unfollowed := true, recurses := true, named := ["math/bits.divideError", "math/bits.overflowError"], apart := false }
def LinksWishSaid : Prop := linksWishRow.holds Tryz.pinned (OpenSpec.ofChange linksWishSpec)

/-- ITS FALSE NEIGHBOUR: 'it returns false'. Refute it at one input. -/
def linksWishWrong : ChangeSpec := { name := "linksWish", fn := fun _ => fun
  | [d1, d2, d3] => { results := [.lit (.bool false)], args := [d1, d2, d3] }
  | _ => none }
def LinksWishWrongFalsely : Prop := linksWishRow.holds Tryz.pinned (OpenSpec.ofChange linksWishWrong)

/-- 'sewershedlaw34.LinksNever': WHATEVER THE INPUT: true; the input reads as it did. -/
def linksNeverSpec : ChangeSpec := { name := "linksNever", fn := fun _ => fun
  | [d1, d2, d3, d4, d5, d6] => { results := [.lit (.bool true)], args := [d1, d2, d3, d4, d5, d6] }
  | _ => none }
def linksNeverRow : OpenClaim := { program := "ytnfbaeeohepajaagreat", sum := "72bd571359fb2e03ceeb627c43ca9b36a8d0b59aac66ef8e3f3a17544723c6ea", func := "sewershed/sewershedlaw34.LinksNever", spec := "linksNever", inPlace := ["math/bits.Sub64", "math/bits.Add64"], unfollowed := true, recurses := true, named := ["math/bits.divideError", "math/bits.overflowError"], apart := false }
def LinksNeverSaid : Prop := linksNeverRow.holds Tryz.pinned (OpenSpec.ofChange linksNeverSpec)

/-- ITS FALSE NEIGHBOUR: 'it returns false'. Refute it at one input. -/
def linksNeverWrong : ChangeSpec := { name := "linksNever", fn := fun _ => fun
  | [d1, d2, d3, d4, d5, d6] => { results := [.lit (.bool false)], args := [d1, d2, d3, d4, d5, d6] }
  | _ => none }
def LinksNeverWrongFalsely : Prop := linksNeverRow.holds Tryz.pinned (OpenSpec.ofChange linksNeverWrong)

/-- 'sewershedlaw34.LinksGrows': WHATEVER THE INPUT: true; the input reads as it did. -/
def linksGrowsSpec : ChangeSpec := { name := "linksGrows", fn := fun _ => fun
  | [d1, d2, d3, d4, d5, d6, d7, d8, d9] => { results := [.lit (.bool true)], args := [d1, d2, d3, d4, d5, d6, d7, d8, d9] }
  | _ => none }
def linksGrowsRow : OpenClaim := { program := "ytnfbaeeohepajaagreat", sum := "72bd571359fb2e03ceeb627c43ca9b36a8d0b59aac66ef8e3f3a17544723c6ea", func := "sewershed/sewershedlaw34.LinksGrows", spec := "linksGrows", inPlace := ["math/bits.Sub64", "math/bits.Add64"], unfollowed := true, recurses := true, named := ["math/bits.divideError", "math/bits.overflowError"], apart := false }
def LinksGrowsSaid : Prop := linksGrowsRow.holds Tryz.pinned (OpenSpec.ofChange linksGrowsSpec)

/-- ITS FALSE NEIGHBOUR: 'it returns false'. Refute it at one input. -/
def linksGrowsWrong : ChangeSpec := { name := "linksGrows", fn := fun _ => fun
  | [d1, d2, d3, d4, d5, d6, d7, d8, d9] => { results := [.lit (.bool false)], args := [d1, d2, d3, d4, d5, d6, d7, d8, d9] }
  | _ => none }
def LinksGrowsWrongFalsely : Prop := linksGrowsRow.holds Tryz.pinned (OpenSpec.ofChange linksGrowsWrong)

/-- 'sewershedlaw34.LinksInside': WHATEVER THE INPUT: true; the input reads as it did. -/
def linksInsideSpec : ChangeSpec := { name := "linksInside", fn := fun _ => fun
  | [d1, d2, d3, d4, d5, d6, d7, d8, d9, d10] => { results := [.lit (.bool true)], args := [d1, d2, d3, d4, d5, d6, d7, d8, d9, d10] }
  | _ => none }
def linksInsideRow : OpenClaim := { program := "ytnfbaeeohepajaagreat", sum := "72bd571359fb2e03ceeb627c43ca9b36a8d0b59aac66ef8e3f3a17544723c6ea", func := "sewershed/sewershedlaw34.LinksInside", spec := "linksInside", inPlace := ["math/bits.Sub64", "math/bits.Add64"], unfollowed := true, recurses := true, named := ["math/bits.divideError", "math/bits.overflowError"], apart := false }
def LinksInsideSaid : Prop := linksInsideRow.holds Tryz.pinned (OpenSpec.ofChange linksInsideSpec)

/-- ITS FALSE NEIGHBOUR: 'it returns false'. Refute it at one input. -/
def linksInsideWrong : ChangeSpec := { name := "linksInside", fn := fun _ => fun
  | [d1, d2, d3, d4, d5, d6, d7, d8, d9, d10] => { results := [.lit (.bool false)], args := [d1, d2, d3, d4, d5, d6, d7, d8, d9, d10] }
  | _ => none }
def LinksInsideWrongFalsely : Prop := linksInsideRow.holds Tryz.pinned (OpenSpec.ofChange linksInsideWrong)

/-- 'sewershedlaw34.LinksMost': WHATEVER THE INPUT: true; the input reads as it did. -/
def linksMostSpec : ChangeSpec := { name := "linksMost", fn := fun _ => fun
  | [d1, d2, d3, d4, d5, d6] => { results := [.lit (.bool true)], args := [d1, d2, d3, d4, d5, d6] }
  | _ => none }
def linksMostRow : OpenClaim := { program := "ytnfbaeeohepajaagreat", sum := "72bd571359fb2e03ceeb627c43ca9b36a8d0b59aac66ef8e3f3a17544723c6ea", func := "sewershed/sewershedlaw34.LinksMost", spec := "linksMost", inPlace := ["math/bits.Sub64", "math/bits.Add64"], unfollowed := true, recurses := true, named := ["math/bits.divideError", "math/bits.overflowError"], apart := false }
def LinksMostSaid : Prop := linksMostRow.holds Tryz.pinned (OpenSpec.ofChange linksMostSpec)

/-- ITS FALSE NEIGHBOUR: 'it returns false'. Refute it at one input. -/
def linksMostWrong : ChangeSpec := { name := "linksMost", fn := fun _ => fun
  | [d1, d2, d3, d4, d5, d6] => { results := [.lit (.bool false)], args := [d1, d2, d3, d4, d5, d6] }
  | _ => none }
def LinksMostWrongFalsely : Prop := linksMostRow.holds Tryz.pinned (OpenSpec.ofChange linksMostWrong)

/-- 'sewershedlaw34.LinksFlows': WHATEVER THE INPUT: true; the input reads as it did. -/
def linksFlowsSpec : ChangeSpec := { name := "linksFlows", fn := fun _ => fun
  | [d1, d2, d3, d4] => { results := [.lit (.bool true)], args := [d1, d2, d3, d4] }
  | _ => none }
def linksFlowsRow : OpenClaim := { program := "ytnfbaeeohepajaagreat", sum := "72bd571359fb2e03ceeb627c43ca9b36a8d0b59aac66ef8e3f3a17544723c6ea", func := "sewershed/sewershedlaw34.LinksFlows", spec := "linksFlows", inPlace := ["math/bits.Sub64", "math/bits.Add64"], unfollowed := true, recurses := true, named := ["math/bits.divideError", "math/bits.overflowError"], apart := false }
def LinksFlowsSaid : Prop := linksFlowsRow.holds Tryz.pinned (OpenSpec.ofChange linksFlowsSpec)

/-- ITS FALSE NEIGHBOUR: 'it returns false'. Refute it at one input. -/
def linksFlowsWrong : ChangeSpec := { name := "linksFlows", fn := fun _ => fun
  | [d1, d2, d3, d4] => { results := [.lit (.bool false)], args := [d1, d2, d3, d4] }
  | _ => none }
def LinksFlowsWrongFalsely : Prop := linksFlowsRow.holds Tryz.pinned (OpenSpec.ofChange linksFlowsWrong)

/-- 'sewershedlaw34.LinksAgree': WHATEVER THE INPUT: true; the input reads as it did. -/
def linksAgreeSpec : ChangeSpec := { name := "linksAgree", fn := fun _ => fun
  | [d1, d2, d3] => { results := [.lit (.bool true)], args := [d1, d2, d3] }
  | _ => none }
def linksAgreeRow : OpenClaim := { program := "ytnfbaeeohepajaagreat", sum := "72bd571359fb2e03ceeb627c43ca9b36a8d0b59aac66ef8e3f3a17544723c6ea", func := "sewershed/sewershedlaw34.LinksAgree", spec := "linksAgree", inPlace := ["math/bits.Sub64", "math/bits.Add64"], unfollowed := true, recurses := true, named := ["math/bits.divideError", "math/bits.overflowError"], apart := false }
def LinksAgreeSaid : Prop := linksAgreeRow.holds Tryz.pinned (OpenSpec.ofChange linksAgreeSpec)

/-- ITS FALSE NEIGHBOUR: 'it returns false'. Refute it at one input. -/
def linksAgreeWrong : ChangeSpec := { name := "linksAgree", fn := fun _ => fun
  | [d1, d2, d3] => { results := [.lit (.bool false)], args := [d1, d2, d3] }
  | _ => none }
def LinksAgreeWrongFalsely : Prop := linksAgreeRow.holds Tryz.pinned (OpenSpec.ofChange linksAgreeWrong)

/- THE SECOND FORM. 'bulk': how many values and letters a reading holds, each counted each time it is reached (what is shared counts as often as it is met; a slice's spare places count too). A statement '..UptoSaid' is the law's where the arguments, and the package variables that the reading takes, are together of bulk at most 1048576: NARROWER than '..Said'. Prove '..Said' where nothing that the law and all that it calls make is longer than what came in: it says more and counts as full. Else prove '..UptoSaid'. A law counts once. -/
mutual
def uptoBulk {H : Type} : DataW H → Nat
  | .lit (.string bytes) => bytes.length + 1
  | .lit _ => 1
  | .nil => 1
  | .ptr d => uptoBulk d + 1
  | .slice elems spare => uptoBulkAll elems + uptoBulkAll spare + 1
  | .agg parts => uptoBulkAll parts + 1
  | .iface _ d => uptoBulk d + 1
  | .map entries => uptoBulkEntries entries + 1
  | .held _ => 1
def uptoBulkAll {H : Type} : List (DataW H) → Nat
  | [] => 0
  | d :: r => uptoBulk d + uptoBulkAll r
def uptoBulkEntries {H : Type} : List (Lit × DataW H) → Nat
  | [] => 0
  | x :: r => uptoBulkEntry x + uptoBulkEntries r
def uptoBulkEntry {H : Type} : Lit × DataW H → Nat
  | (.string bytes, d) => bytes.length + uptoBulk d + 1
  | (_, d) => uptoBulk d + 1
 end
def uptoSmall : (H : Type) → List (DataW H) → Bool := fun _ ds => decide (uptoBulkAll ds ≤ 1048576)
def OpenSpec.upto (s : _root_.Go.ChangeSpec) : _root_.Go.OpenSpec := { _root_.Go.OpenSpec.ofChange s with cond := some uptoSmall }

/-- 'sewershedlaw34.LinksFlow', WHERE WHAT IT READS IS OF BULK AT MOST 1048576: true; the input reads as it did. -/
def linksFlowUptoRow : OpenClaim := { program := "ytnfbaeeohepajaagreat", sum := "72bd571359fb2e03ceeb627c43ca9b36a8d0b59aac66ef8e3f3a17544723c6ea", func := "sewershed/sewershedlaw34.LinksFlow", spec := "linksFlow", inPlace := ["math/bits.Sub64", "math/bits.Add64"], unfollowed := true, recurses := true, named := ["math/bits.divideError", "math/bits.overflowError"], apart := false, narrowed := true }
def LinksFlowUptoSaid : Prop := linksFlowUptoRow.holds Tryz.pinned (OpenSpec.upto linksFlowSpec)

/-- 'sewershedlaw34.LinksWish', WHERE WHAT IT READS IS OF BULK AT MOST 1048576: true; the input reads as it did. -/
def linksWishUptoRow : OpenClaim := { program := "ytnfbaeeohepajaagreat", sum := "72bd571359fb2e03ceeb627c43ca9b36a8d0b59aac66ef8e3f3a17544723c6ea", func := "sewershed/sewershedlaw34.LinksWish", spec := "linksWish", inPlace := ["math/bits.Sub64", "math/bits.Add64"], unfollowed := true, recurses := true, named := ["math/bits.divideError", "math/bits.overflowError"], apart := false, narrowed := true }
def LinksWishUptoSaid : Prop := linksWishUptoRow.holds Tryz.pinned (OpenSpec.upto linksWishSpec)

/-- 'sewershedlaw34.LinksNever', WHERE WHAT IT READS IS OF BULK AT MOST 1048576: true; the input reads as it did. -/
def linksNeverUptoRow : OpenClaim := { program := "ytnfbaeeohepajaagreat", sum := "72bd571359fb2e03ceeb627c43ca9b36a8d0b59aac66ef8e3f3a17544723c6ea", func := "sewershed/sewershedlaw34.LinksNever", spec := "linksNever", inPlace := ["math/bits.Sub64", "math/bits.Add64"], unfollowed := true, recurses := true, named := ["math/bits.divideError", "math/bits.overflowError"], apart := false, narrowed := true }
def LinksNeverUptoSaid : Prop := linksNeverUptoRow.holds Tryz.pinned (OpenSpec.upto linksNeverSpec)

/-- 'sewershedlaw34.LinksGrows', WHERE WHAT IT READS IS OF BULK AT MOST 1048576: true; the input reads as it did. -/
def linksGrowsUptoRow : OpenClaim := { program := "ytnfbaeeohepajaagreat", sum := "72bd571359fb2e03ceeb627c43ca9b36a8d0b59aac66ef8e3f3a17544723c6ea", func := "sewershed/sewershedlaw34.LinksGrows", spec := "linksGrows", inPlace := ["math/bits.Sub64", "math/bits.Add64"], unfollowed := true, recurses := true, named := ["math/bits.divideError", "math/bits.overflowError"], apart := false, narrowed := true }
def LinksGrowsUptoSaid : Prop := linksGrowsUptoRow.holds Tryz.pinned (OpenSpec.upto linksGrowsSpec)

/-- 'sewershedlaw34.LinksInside', WHERE WHAT IT READS IS OF BULK AT MOST 1048576: true; the input reads as it did. -/
def linksInsideUptoRow : OpenClaim := { program := "ytnfbaeeohepajaagreat", sum := "72bd571359fb2e03ceeb627c43ca9b36a8d0b59aac66ef8e3f3a17544723c6ea", func := "sewershed/sewershedlaw34.LinksInside", spec := "linksInside", inPlace := ["math/bits.Sub64", "math/bits.Add64"], unfollowed := true, recurses := true, named := ["math/bits.divideError", "math/bits.overflowError"], apart := false, narrowed := true }
def LinksInsideUptoSaid : Prop := linksInsideUptoRow.holds Tryz.pinned (OpenSpec.upto linksInsideSpec)

/-- 'sewershedlaw34.LinksMost', WHERE WHAT IT READS IS OF BULK AT MOST 1048576: true; the input reads as it did. -/
def linksMostUptoRow : OpenClaim := { program := "ytnfbaeeohepajaagreat", sum := "72bd571359fb2e03ceeb627c43ca9b36a8d0b59aac66ef8e3f3a17544723c6ea", func := "sewershed/sewershedlaw34.LinksMost", spec := "linksMost", inPlace := ["math/bits.Sub64", "math/bits.Add64"], unfollowed := true, recurses := true, named := ["math/bits.divideError", "math/bits.overflowError"], apart := false, narrowed := true }
def LinksMostUptoSaid : Prop := linksMostUptoRow.holds Tryz.pinned (OpenSpec.upto linksMostSpec)

/-- 'sewershedlaw34.LinksFlows', WHERE WHAT IT READS IS OF BULK AT MOST 1048576: true; the input reads as it did. -/
def linksFlowsUptoRow : OpenClaim := { program := "ytnfbaeeohepajaagreat", sum := "72bd571359fb2e03ceeb627c43ca9b36a8d0b59aac66ef8e3f3a17544723c6ea", func := "sewershed/sewershedlaw34.LinksFlows", spec := "linksFlows", inPlace := ["math/bits.Sub64", "math/bits.Add64"], unfollowed := true, recurses := true, named := ["math/bits.divideError", "math/bits.overflowError"], apart := false, narrowed := true }
def LinksFlowsUptoSaid : Prop := linksFlowsUptoRow.holds Tryz.pinned (OpenSpec.upto linksFlowsSpec)

/-- 'sewershedlaw34.LinksAgree', WHERE WHAT IT READS IS OF BULK AT MOST 1048576: true; the input reads as it did. -/
def linksAgreeUptoRow : OpenClaim := { program := "ytnfbaeeohepajaagreat", sum := "72bd571359fb2e03ceeb627c43ca9b36a8d0b59aac66ef8e3f3a17544723c6ea", func := "sewershed/sewershedlaw34.LinksAgree", spec := "linksAgree", inPlace := ["math/bits.Sub64", "math/bits.Add64"], unfollowed := true, recurses := true, named := ["math/bits.divideError", "math/bits.overflowError"], apart := false, narrowed := true }
def LinksAgreeUptoSaid : Prop := linksAgreeUptoRow.holds Tryz.pinned (OpenSpec.upto linksAgreeSpec)

end Rows
end Go.Proofs.YtnfbaeeohepajaaGreat
