/-
  No cell of these rows narrows 'for every input' (looked for: loops, veiled, ifaces, maps, wideKeys, modest, calm, conditions, laid).
  DERIVED. THE GIVEN ROWS OF THIS SEAT. 4 by the template 'for every input the law returns true; each argument reads behind the call as it read before'; 0 by the template 'total and deterministic' (their statements: YtcdggndojmmlhaaGreatTotals.lean).
  GIVEN WITH THE SEED: the statements are not yours to turn. If you find one false, say at which input.
  Laid BY PROGRAM, IN A SANDBOX (cutbox-rows.mjs): the forced cells as the released guide's own fill.sh prints them over the translation 7671bab53dbc70e1… (all of the seat's roots in one cut). By AI agents, Wed Nov 11 2026. No macro, syntax, notation, axiom, sorry.
-/
import Derived.Test.YtcdggndojmmlhaaGreatChecked
import GoSem.Claim
import GoSem.ClaimJoined
import GoSem.ClaimMapViews
import Derived.JoinedTies
import Derived.KernelRfl
namespace Go.Proofs.YtcdggndojmmlhaaGreat
/- THE CELL 'sum', in the pinned program and in every row, IS THE sha256 OF THE DUMP (.gsa) THAT YtcdggndojmmlhaaGreatProg.lean LOADS. Nothing in Lean hashes anything: it is a label: what it is worth is what the hold of that sum in a sandbox is worth. -/
noncomputable def Tryz.pinned : Pinned := { name := "ytcdggndojmmlhaagreat", sum := "7671bab53dbc70e1467dde3c6312c5c4eb2b179540afa3e6cf12c1ff22b13a45", checked := Tryz.checked }
namespace Rows
def none {H : Type} : Left H := { results := [], args := [] }

/-- 'sewershedlaw35.RoutingOrder': WHATEVER THE INPUT: true; the input reads as it did. -/
def routingOrderSpec : ChangeSpec := { name := "routingOrder", fn := fun _ => fun
  | [d1, d2, d3, d4, d5] => { results := [.lit (.bool true)], args := [d1, d2, d3, d4, d5] }
  | _ => none }
def routingOrderRow : OpenClaim := { program := "ytcdggndojmmlhaagreat", sum := "7671bab53dbc70e1467dde3c6312c5c4eb2b179540afa3e6cf12c1ff22b13a45", func := "sewershed/sewershedlaw35.RoutingOrder", spec := "routingOrder", inPlace := ["math/bits.Sub64", "math/bits.Add64"], unfollowed := true, recurses := true, named := ["math/bits.divideError", "math/bits.overflowError"], apart := false }
def RoutingOrderSaid : Prop := routingOrderRow.holds Tryz.pinned (OpenSpec.ofChange routingOrderSpec)

/-- ITS FALSE NEIGHBOUR: 'it returns false'. Refute it at one input. -/
def routingOrderWrong : ChangeSpec := { name := "routingOrder", fn := fun _ => fun
  | [d1, d2, d3, d4, d5] => { results := [.lit (.bool false)], args := [d1, d2, d3, d4, d5] }
  | _ => none }
def RoutingOrderWrongFalsely : Prop := routingOrderRow.holds Tryz.pinned (OpenSpec.ofChange routingOrderWrong)

/-- 'sewershedlaw35.RoutingStill': WHATEVER THE INPUT: true; the input reads as it did. -/
def routingStillSpec : ChangeSpec := { name := "routingStill", fn := fun _ => fun
  | [d1, d2, d3, d4] => { results := [.lit (.bool true)], args := [d1, d2, d3, d4] }
  | _ => none }
def routingStillRow : OpenClaim := { program := "ytcdggndojmmlhaagreat", sum := "7671bab53dbc70e1467dde3c6312c5c4eb2b179540afa3e6cf12c1ff22b13a45", func := "sewershed/sewershedlaw35.RoutingStill", spec := "routingStill", inPlace := ["math/bits.Sub64", "math/bits.Add64"], unfollowed := true, recurses := true, named := ["math/bits.divideError", "math/bits.overflowError"], apart := false }
def RoutingStillSaid : Prop := routingStillRow.holds Tryz.pinned (OpenSpec.ofChange routingStillSpec)

/-- ITS FALSE NEIGHBOUR: 'it returns false'. Refute it at one input. -/
def routingStillWrong : ChangeSpec := { name := "routingStill", fn := fun _ => fun
  | [d1, d2, d3, d4] => { results := [.lit (.bool false)], args := [d1, d2, d3, d4] }
  | _ => none }
def RoutingStillWrongFalsely : Prop := routingStillRow.holds Tryz.pinned (OpenSpec.ofChange routingStillWrong)

/-- 'sewershedlaw35.RoutingParts': WHATEVER THE INPUT: true; the input reads as it did. -/
def routingPartsSpec : ChangeSpec := { name := "routingParts", fn := fun _ => fun
  | [d1, d2, d3, d4, d5, d6, d7] => { results := [.lit (.bool true)], args := [d1, d2, d3, d4, d5, d6, d7] }
  | _ => none }
def routingPartsRow : OpenClaim := { program := "ytcdggndojmmlhaagreat", sum := "7671bab53dbc70e1467dde3c6312c5c4eb2b179540afa3e6cf12c1ff22b13a45", func := "sewershed/sewershedlaw35.RoutingParts", spec := "routingParts", inPlace := ["math/bits.Sub64", "math/bits.Add64"], unfollowed := true, recurses := true, named := ["math/bits.divideError", "math/bits.overflowError"], apart := false }
def RoutingPartsSaid : Prop := routingPartsRow.holds Tryz.pinned (OpenSpec.ofChange routingPartsSpec)

/-- ITS FALSE NEIGHBOUR: 'it returns false'. Refute it at one input. -/
def routingPartsWrong : ChangeSpec := { name := "routingParts", fn := fun _ => fun
  | [d1, d2, d3, d4, d5, d6, d7] => { results := [.lit (.bool false)], args := [d1, d2, d3, d4, d5, d6, d7] }
  | _ => none }
def RoutingPartsWrongFalsely : Prop := routingPartsRow.holds Tryz.pinned (OpenSpec.ofChange routingPartsWrong)

/-- 'sewershedlaw35.RoutingBalance': WHATEVER THE INPUT: true; the input reads as it did. -/
def routingBalanceSpec : ChangeSpec := { name := "routingBalance", fn := fun _ => fun
  | [d1, d2, d3, d4, d5] => { results := [.lit (.bool true)], args := [d1, d2, d3, d4, d5] }
  | _ => none }
def routingBalanceRow : OpenClaim := { program := "ytcdggndojmmlhaagreat", sum := "7671bab53dbc70e1467dde3c6312c5c4eb2b179540afa3e6cf12c1ff22b13a45", func := "sewershed/sewershedlaw35.RoutingBalance", spec := "routingBalance", inPlace := ["math/bits.Sub64", "math/bits.Add64"], unfollowed := true, recurses := true, named := ["math/bits.divideError", "math/bits.overflowError"], apart := false }
def RoutingBalanceSaid : Prop := routingBalanceRow.holds Tryz.pinned (OpenSpec.ofChange routingBalanceSpec)

/-- ITS FALSE NEIGHBOUR: 'it returns false'. Refute it at one input. -/
def routingBalanceWrong : ChangeSpec := { name := "routingBalance", fn := fun _ => fun
  | [d1, d2, d3, d4, d5] => { results := [.lit (.bool false)], args := [d1, d2, d3, d4, d5] }
  | _ => none }
def RoutingBalanceWrongFalsely : Prop := routingBalanceRow.holds Tryz.pinned (OpenSpec.ofChange routingBalanceWrong)

/- THE SECOND FORM. 'bulk': how many values and letters a reading holds, each counted each time it is reached (what is shared counts as often as it is met; a slice's spare places count too). A statement '..UptoSaid' is the law's where the arguments, and the package variables that the reading takes, are together of bulk at most 1048576: NARROWER than '..Said'. Prove '..Said' where nothing that the law and all that it calls make is longer than what came in: it says more and counts as full. Else prove '..UptoSaid'. A law counts once. -/
mutual
def uptoBulk {H : Type} : DataW H → Nat
  | .lit (.string bytes) => bytes.length + 1
  | .lit _ => 1
  | .nil => 1
  | .ptr d => uptoBulk d + 1
  | .slice elems spare => uptoBulkAll elems + uptoBulkAll spare + 1
  | .agg parts => uptoBulkAll parts + 1
  | .iface _ d => uptoBulk d + 1
  | .map entries => uptoBulkEntries entries + 1
  | .held _ => 1
def uptoBulkAll {H : Type} : List (DataW H) → Nat
  | [] => 0
  | d :: r => uptoBulk d + uptoBulkAll r
def uptoBulkEntries {H : Type} : List (Lit × DataW H) → Nat
  | [] => 0
  | x :: r => uptoBulkEntry x + uptoBulkEntries r
def uptoBulkEntry {H : Type} : Lit × DataW H → Nat
  | (.string bytes, d) => bytes.length + uptoBulk d + 1
  | (_, d) => uptoBulk d + 1
 end
def uptoSmall : (H : Type) → List (DataW H) → Bool := fun _ ds => decide (uptoBulkAll ds ≤ 1048576)
def OpenSpec.upto (s : _root_.Go.ChangeSpec) : _root_.Go.OpenSpec := { _root_.Go.OpenSpec.ofChange s with cond := some uptoSmall }

/-- 'sewershedlaw35.RoutingOrder', WHERE WHAT IT READS IS OF BULK AT MOST 1048576: true; the input reads as it did. -/
def routingOrderUptoRow : OpenClaim := { program := "ytcdggndojmmlhaagreat", sum := "7671bab53dbc70e1467dde3c6312c5c4eb2b179540afa3e6cf12c1ff22b13a45", func := "sewershed/sewershedlaw35.RoutingOrder", spec := "routingOrder", inPlace := ["math/bits.Sub64", "math/bits.Add64"], unfollowed := true, recurses := true, named := ["math/bits.divideError", "math/bits.overflowError"], apart := false, narrowed := true }
def RoutingOrderUptoSaid : Prop := routingOrderUptoRow.holds Tryz.pinned (OpenSpec.upto routingOrderSpec)

/-- 'sewershedlaw35.RoutingStill', WHERE WHAT IT READS IS OF BULK AT MOST 1048576: true; the input reads as it did. -/
def routingStillUptoRow : OpenClaim := { program := "ytcdggndojmmlhaagreat", sum := "7671bab53dbc70e1467dde3c6312c5c4eb2b179540afa3e6cf12c1ff22b13a45", func := "sewershed/sewershedlaw35.RoutingStill", spec := "routingStill", inPlace := ["math/bits.Sub64", "math/bits.Add64"], unfollowed := true, recurses := true, named := ["math/bits.divideError", "math/bits.overflowError"], apart := false, narrowed := true }
def RoutingStillUptoSaid : Prop := routingStillUptoRow.holds Tryz.pinned (OpenSpec.upto routingStillSpec)

/-- 'sewershedlaw35.RoutingParts', WHERE WHAT IT READS IS OF BULK AT MOST 1048576: true; the input reads as it did. -/
def routingPartsUptoRow : OpenClaim := { program := "ytcdggndojmmlhaagreat", sum := "7671bab53dbc70e1467dde3c6312c5c4eb2b179540afa3e6cf12c1ff22b13a45", func := "sewershed/sewershedlaw35.RoutingParts", spec := "routingParts", inPlace := ["math/bits.Sub64", "math/bits.Add64"], unfollowed := true, recurses := true, named := ["math/bits.divideError", "math/bits.overflowError"], apart := false, narrowed := true }
def RoutingPartsUptoSaid : Prop := routingPartsUptoRow.holds Tryz.pinned (OpenSpec.upto routingPartsSpec)

/-- 'sewershedlaw35.RoutingBalance', WHERE WHAT IT READS IS OF BULK AT MOST 1048576: true; the input reads as it did. -/
def routingBalanceUptoRow : OpenClaim := { program := "ytcdggndojmmlhaagreat", sum := "7671bab53dbc70e1467dde3c6312c5c4eb2b179540afa3e6cf12c1ff22b13a45", func := "sewershed/sewershedlaw35.RoutingBalance", spec := "routingBalance", inPlace := ["math/bits.Sub64", "math/bits.Add64"], unfollowed := true, recurses := true, named := ["math/bits.divideError", "math/bits.overflowError"], apart := false, narrowed := true }
def RoutingBalanceUptoSaid : Prop := routingBalanceUptoRow.holds Tryz.pinned (OpenSpec.upto routingBalanceSpec)

end Rows
end Go.Proofs.YtcdggndojmmlhaaGreat
