/-
  Contracts of functions of the program, over the engine.
  No condition.
-/
import Derived.Test.YtnfbaeeohepajaaGreatTz
import Derived.Test.YtnfbaeeohepajaaGreatEngO
import Derived.Test.YtnfbaeeohepajaaGreatPl0
import Derived.Test.YtnfbaeeohepajaaGreatEngW
import Derived.Test.YtnfbaeeohepajaaGreatEngY
import Derived.Test.YtnfbaeeohepajaaGreatEngZ
namespace Go.Proofs.YtnfbaeeohepajaaGreat
open Go.Eng
set_option linter.all false
attribute [local irreducible] DCallsG SWp Fct CallQ XCallQ LCallQ XLCallQ drun xrun
theorem mixed : Tryz.prog.follows .mixedOrders = true := by kernel_rfl
instance : Mixed Tryz.prog := ⟨mixed⟩

def i64ok (n : Int) : Prop := -9223372036854775808 ≤ n ∧ n ≤ 9223372036854775807
def intsOk (l : List Int) : Prop := l.length ≤ 281474976710656 ∧ ∀ z, z ∈ l → i64ok z
def boRow (b : Bool) : List PV := [.lit (.bool b)]
abbrev bools (l : List Bool) : DV := .p (.dat 1 (l.map boRow))
theorem getD_drop0 {α : Type} (l : List α) (k : Nat) (d : α) : (l.drop k).getD 0 d = l.getD k d := by simp [List.getD_eq_getElem?_getD]
def pairP (p : Int × Int) : List PV := [.lit (.int .i64 p.1), .lit (.int .i64 p.2)]
abbrev pairs (l : List (Int × Int)) : DV := .p (.dat 2 (l.map pairP))
theorem usesL_p (U : Nat → Prop) (l : List PV) : DV.usesL U (l.map DV.p) = True := propext ⟨fun _ => trivial, fun _ => usesL_iff.2 fun d hd => by obtain ⟨x, _, rfl⟩ := List.mem_map.1 hd; exact trivial⟩
theorem mpL_p (r : Nat → Nat) (l : List PV) : DV.mpL r (l.map DV.p) = l.map DV.p := by
  rw [mpL_eq, List.map_map]; exact List.map_congr_left fun x _ => rfl
theorem renL_p (o n : Nat) (l : List PV) : DV.renL o n (l.map DV.p) = l.map DV.p := by
  rw [renL_eq, List.map_map]; exact List.map_congr_left fun x _ => rfl
theorem lbC {x y : Bool} (h : x = y) : lb x = lb y := by rw [h]
def ilRow (l : List Int) : List PV := [.dat 1 (l.map inRow)]
abbrev intss (l : List (List Int)) : DV := .p (.dat 1 (l.map ilRow))
theorem getD_mem {α : Type} [Inhabited α] {l : List α} {i : Nat} (h : i < l.length) : l.getD i default ∈ l := by
  rw [List.getD_eq_getElem?_getD, List.getElem?_eq_getElem h]; exact List.getElem_mem h
attribute [push_cast] usesL_p mpL_p renL_p ilRow boRow pairP getD_drop0 List.drop_zero List.length_drop List.drop_drop
structure Knot where
  x : Int
  y : Int
instance : Inhabited Knot := ⟨⟨default, default⟩⟩
theorem knot_ext {x y : Knot} (h : x.x = y.x ∧ x.y = y.y) : x = y := by
  cases x; cases y; simp_all
instance : DecidableEq Knot := fun x y => decidable_of_iff (x.x = y.x ∧ x.y = y.y) ⟨knot_ext, fun h => by subst h; simp⟩
def knotP (x : Knot) : List PV := [.lit (.int .i64 x.x), .lit (.int .i64 x.y)]
def knotC (x : Knot) : List DV := [.p (.lit (.int .i64 x.x)), .p (.lit (.int .i64 x.y))]
abbrev knotD (x : Knot) : DV := .agg (knotC x)
abbrev knotL (l : List Knot) : DV := .p (.dat 2 (l.map knotP))
theorem knotP_map (x : Knot) : (knotP x).map DV.p = knotC x := rfl
theorem knotP_len (x : Knot) : (knotP x).length = 2 := rfl
theorem knotC_len (x : Knot) : (knotC x).length = 2 := rfl
theorem knotP_take (x : Knot) : (knotP x).take 2 = knotP x := rfl
theorem knotC_take (x : Knot) : (knotC x).take 2 = knotC x := rfl
theorem knotC_all (x : Knot) : (knotC x).all DV.cellB = true := rfl
theorem knotP_d0 (x : Knot) : (knotP x).getD 0 default = .lit (.int .i64 x.x) := rfl
theorem knotC_d0 (x : Knot) : (knotC x)[0]? = some (.p (.lit (.int .i64 x.x))) := rfl
theorem knotP_s0 (x : Knot) : (knotP x).take 1 = [.lit (.int .i64 x.x)] := rfl
theorem knotC_s0 (x : Knot) : (knotC x).take 1 = [.p (.lit (.int .i64 x.x))] := rfl
theorem knotP_d1 (x : Knot) : (knotP x).getD 1 default = .lit (.int .i64 x.y) := rfl
theorem knotC_d1 (x : Knot) : (knotC x)[1]? = some (.p (.lit (.int .i64 x.y))) := rfl
theorem knotP_s1 (x : Knot) : ((knotP x).drop 1).take 1 = [.lit (.int .i64 x.y)] := rfl
theorem knotC_s1 (x : Knot) : ((knotC x).drop 1).take 1 = [.p (.lit (.int .i64 x.y))] := rfl
theorem knotC_ren (o n : Nat) (x : Knot) : DV.renL o n (knotC x) = knotC x := rfl
theorem knotC_frz (o : Nat) (v : FV) (x : Knot) : DV.frzL o v (knotC x) = knotC x := rfl
theorem knotC_mp (r : Nat → Nat) (x : Knot) : DV.mpL r (knotC x) = knotC x := rfl
theorem knotC_uses (U : Nat → Prop) (x : Knot) : DV.usesL U (knotC x) = True := by simp [knotC, DV.usesL, DV.uses]
attribute [push_cast] knotP_map knotP_len knotC_len knotP_take knotC_take knotC_all knotP_d0 knotC_d0 knotP_s0 knotC_s0 knotP_d1 knotC_d1 knotP_s1 knotC_s1 knotC_ren knotC_frz knotC_mp knotC_uses
def knotOk (x : Knot) : Prop := i64ok x.x ∧ i64ok x.y
structure Point where
  x : Int
  y : Int
instance : Inhabited Point := ⟨⟨default, default⟩⟩
theorem point_ext {x y : Point} (h : x.x = y.x ∧ x.y = y.y) : x = y := by
  cases x; cases y; simp_all
instance : DecidableEq Point := fun x y => decidable_of_iff (x.x = y.x ∧ x.y = y.y) ⟨point_ext, fun h => by subst h; simp⟩
def pointP (x : Point) : List PV := [.lit (.int .i64 x.x), .lit (.int .i64 x.y)]
def pointC (x : Point) : List DV := [.p (.lit (.int .i64 x.x)), .p (.lit (.int .i64 x.y))]
abbrev pointD (x : Point) : DV := .agg (pointC x)
abbrev pointL (l : List Point) : DV := .p (.dat 2 (l.map pointP))
theorem pointP_map (x : Point) : (pointP x).map DV.p = pointC x := rfl
theorem pointP_len (x : Point) : (pointP x).length = 2 := rfl
theorem pointC_len (x : Point) : (pointC x).length = 2 := rfl
theorem pointP_take (x : Point) : (pointP x).take 2 = pointP x := rfl
theorem pointC_take (x : Point) : (pointC x).take 2 = pointC x := rfl
theorem pointC_all (x : Point) : (pointC x).all DV.cellB = true := rfl
theorem pointP_d0 (x : Point) : (pointP x).getD 0 default = .lit (.int .i64 x.x) := rfl
theorem pointC_d0 (x : Point) : (pointC x)[0]? = some (.p (.lit (.int .i64 x.x))) := rfl
theorem pointP_s0 (x : Point) : (pointP x).take 1 = [.lit (.int .i64 x.x)] := rfl
theorem pointC_s0 (x : Point) : (pointC x).take 1 = [.p (.lit (.int .i64 x.x))] := rfl
theorem pointP_d1 (x : Point) : (pointP x).getD 1 default = .lit (.int .i64 x.y) := rfl
theorem pointC_d1 (x : Point) : (pointC x)[1]? = some (.p (.lit (.int .i64 x.y))) := rfl
theorem pointP_s1 (x : Point) : ((pointP x).drop 1).take 1 = [.lit (.int .i64 x.y)] := rfl
theorem pointC_s1 (x : Point) : ((pointC x).drop 1).take 1 = [.p (.lit (.int .i64 x.y))] := rfl
theorem pointC_ren (o n : Nat) (x : Point) : DV.renL o n (pointC x) = pointC x := rfl
theorem pointC_frz (o : Nat) (v : FV) (x : Point) : DV.frzL o v (pointC x) = pointC x := rfl
theorem pointC_mp (r : Nat → Nat) (x : Point) : DV.mpL r (pointC x) = pointC x := rfl
theorem pointC_uses (U : Nat → Prop) (x : Point) : DV.usesL U (pointC x) = True := by simp [pointC, DV.usesL, DV.uses]
attribute [push_cast] pointP_map pointP_len pointC_len pointP_take pointC_take pointC_all pointP_d0 pointC_d0 pointP_s0 pointC_s0 pointP_d1 pointC_d1 pointP_s1 pointC_s1 pointC_ren pointC_frz pointC_mp pointC_uses
def pointOk (x : Point) : Prop := i64ok x.x ∧ i64ok x.y
structure Node where
  name : ByteArray
  kind : Int
  pos : Point
  inv : Int
  gnd : Int
  shape : List Knot
  prot : Bool
  res : Int
instance : Inhabited Node := ⟨⟨default, default, default, default, default, default, default, default⟩⟩
theorem node_ext {x y : Node} (h : x.name = y.name ∧ x.kind = y.kind ∧ x.pos = y.pos ∧ x.inv = y.inv ∧ x.gnd = y.gnd ∧ x.shape = y.shape ∧ x.prot = y.prot ∧ x.res = y.res) : x = y := by
  cases x; cases y; simp_all
instance : DecidableEq Node := fun x y => decidable_of_iff (x.name = y.name ∧ x.kind = y.kind ∧ x.pos = y.pos ∧ x.inv = y.inv ∧ x.gnd = y.gnd ∧ x.shape = y.shape ∧ x.prot = y.prot ∧ x.res = y.res) ⟨node_ext, fun h => by subst h; simp⟩
def nodeP (x : Node) : List PV := [.lit (.string x.name), .lit (.int .i64 x.kind), .lit (.int .i64 x.pos.x), .lit (.int .i64 x.pos.y), .lit (.int .i64 x.inv), .lit (.int .i64 x.gnd), .dat 2 (x.shape.map knotP), .lit (.bool x.prot), .lit (.int .i64 x.res)]
def nodeC (x : Node) : List DV := [.p (.lit (.string x.name)), .p (.lit (.int .i64 x.kind)), .p (.lit (.int .i64 x.pos.x)), .p (.lit (.int .i64 x.pos.y)), .p (.lit (.int .i64 x.inv)), .p (.lit (.int .i64 x.gnd)), .p (.dat 2 (x.shape.map knotP)), .p (.lit (.bool x.prot)), .p (.lit (.int .i64 x.res))]
abbrev nodeD (x : Node) : DV := .agg (nodeC x)
abbrev nodeL (l : List Node) : DV := .p (.dat 9 (l.map nodeP))
theorem nodeP_map (x : Node) : (nodeP x).map DV.p = nodeC x := rfl
theorem nodeP_len (x : Node) : (nodeP x).length = 9 := rfl
theorem nodeC_len (x : Node) : (nodeC x).length = 9 := rfl
theorem nodeP_take (x : Node) : (nodeP x).take 9 = nodeP x := rfl
theorem nodeC_take (x : Node) : (nodeC x).take 9 = nodeC x := rfl
theorem nodeC_all (x : Node) : (nodeC x).all DV.cellB = true := rfl
theorem nodeP_d0 (x : Node) : (nodeP x).getD 0 default = .lit (.string x.name) := rfl
theorem nodeC_d0 (x : Node) : (nodeC x)[0]? = some (.p (.lit (.string x.name))) := rfl
theorem nodeP_s0 (x : Node) : (nodeP x).take 1 = [.lit (.string x.name)] := rfl
theorem nodeC_s0 (x : Node) : (nodeC x).take 1 = [.p (.lit (.string x.name))] := rfl
theorem nodeP_d1 (x : Node) : (nodeP x).getD 1 default = .lit (.int .i64 x.kind) := rfl
theorem nodeC_d1 (x : Node) : (nodeC x)[1]? = some (.p (.lit (.int .i64 x.kind))) := rfl
theorem nodeP_s1 (x : Node) : ((nodeP x).drop 1).take 1 = [.lit (.int .i64 x.kind)] := rfl
theorem nodeC_s1 (x : Node) : ((nodeC x).drop 1).take 1 = [.p (.lit (.int .i64 x.kind))] := rfl
theorem nodeP_d2 (x : Node) : (nodeP x).getD 2 default = .lit (.int .i64 x.pos.x) := rfl
theorem nodeC_d2 (x : Node) : (nodeC x)[2]? = some (.p (.lit (.int .i64 x.pos.x))) := rfl
theorem nodeP_s2 (x : Node) : ((nodeP x).drop 2).take 1 = [.lit (.int .i64 x.pos.x)] := rfl
theorem nodeC_s2 (x : Node) : ((nodeC x).drop 2).take 1 = [.p (.lit (.int .i64 x.pos.x))] := rfl
theorem nodeP_d3 (x : Node) : (nodeP x).getD 3 default = .lit (.int .i64 x.pos.y) := rfl
theorem nodeC_d3 (x : Node) : (nodeC x)[3]? = some (.p (.lit (.int .i64 x.pos.y))) := rfl
theorem nodeP_s3 (x : Node) : ((nodeP x).drop 3).take 1 = [.lit (.int .i64 x.pos.y)] := rfl
theorem nodeC_s3 (x : Node) : ((nodeC x).drop 3).take 1 = [.p (.lit (.int .i64 x.pos.y))] := rfl
theorem nodeP_d4 (x : Node) : (nodeP x).getD 4 default = .lit (.int .i64 x.inv) := rfl
theorem nodeC_d4 (x : Node) : (nodeC x)[4]? = some (.p (.lit (.int .i64 x.inv))) := rfl
theorem nodeP_s4 (x : Node) : ((nodeP x).drop 4).take 1 = [.lit (.int .i64 x.inv)] := rfl
theorem nodeC_s4 (x : Node) : ((nodeC x).drop 4).take 1 = [.p (.lit (.int .i64 x.inv))] := rfl
theorem nodeP_d5 (x : Node) : (nodeP x).getD 5 default = .lit (.int .i64 x.gnd) := rfl
theorem nodeC_d5 (x : Node) : (nodeC x)[5]? = some (.p (.lit (.int .i64 x.gnd))) := rfl
theorem nodeP_s5 (x : Node) : ((nodeP x).drop 5).take 1 = [.lit (.int .i64 x.gnd)] := rfl
theorem nodeC_s5 (x : Node) : ((nodeC x).drop 5).take 1 = [.p (.lit (.int .i64 x.gnd))] := rfl
theorem nodeP_d6 (x : Node) : (nodeP x).getD 6 default = .dat 2 (x.shape.map knotP) := rfl
theorem nodeC_d6 (x : Node) : (nodeC x)[6]? = some (.p (.dat 2 (x.shape.map knotP))) := rfl
theorem nodeP_s6 (x : Node) : ((nodeP x).drop 6).take 1 = [.dat 2 (x.shape.map knotP)] := rfl
theorem nodeC_s6 (x : Node) : ((nodeC x).drop 6).take 1 = [.p (.dat 2 (x.shape.map knotP))] := rfl
theorem nodeP_d7 (x : Node) : (nodeP x).getD 7 default = .lit (.bool x.prot) := rfl
theorem nodeC_d7 (x : Node) : (nodeC x)[7]? = some (.p (.lit (.bool x.prot))) := rfl
theorem nodeP_s7 (x : Node) : ((nodeP x).drop 7).take 1 = [.lit (.bool x.prot)] := rfl
theorem nodeC_s7 (x : Node) : ((nodeC x).drop 7).take 1 = [.p (.lit (.bool x.prot))] := rfl
theorem nodeP_d8 (x : Node) : (nodeP x).getD 8 default = .lit (.int .i64 x.res) := rfl
theorem nodeC_d8 (x : Node) : (nodeC x)[8]? = some (.p (.lit (.int .i64 x.res))) := rfl
theorem nodeP_s8 (x : Node) : ((nodeP x).drop 8).take 1 = [.lit (.int .i64 x.res)] := rfl
theorem nodeC_s8 (x : Node) : ((nodeC x).drop 8).take 1 = [.p (.lit (.int .i64 x.res))] := rfl
theorem nodeP_t2 (x : Node) : ((nodeP x).drop 2).take 2 = pointP x.pos := rfl
theorem nodeC_t2 (x : Node) : ((nodeC x).drop 2).take 2 = pointC x.pos := rfl
theorem nodeC_ren (o n : Nat) (x : Node) : DV.renL o n (nodeC x) = nodeC x := rfl
theorem nodeC_frz (o : Nat) (v : FV) (x : Node) : DV.frzL o v (nodeC x) = nodeC x := rfl
theorem nodeC_mp (r : Nat → Nat) (x : Node) : DV.mpL r (nodeC x) = nodeC x := rfl
theorem nodeC_uses (U : Nat → Prop) (x : Node) : DV.usesL U (nodeC x) = True := by simp [nodeC, DV.usesL, DV.uses]
attribute [push_cast] nodeP_map nodeP_len nodeC_len nodeP_take nodeC_take nodeC_all nodeP_d0 nodeC_d0 nodeP_s0 nodeC_s0 nodeP_d1 nodeC_d1 nodeP_s1 nodeC_s1 nodeP_d2 nodeC_d2 nodeP_s2 nodeC_s2 nodeP_d3 nodeC_d3 nodeP_s3 nodeC_s3 nodeP_d4 nodeC_d4 nodeP_s4 nodeC_s4 nodeP_d5 nodeC_d5 nodeP_s5 nodeC_s5 nodeP_d6 nodeC_d6 nodeP_s6 nodeC_s6 nodeP_d7 nodeC_d7 nodeP_s7 nodeC_s7 nodeP_d8 nodeC_d8 nodeP_s8 nodeC_s8 nodeP_t2 nodeC_t2 nodeC_ren nodeC_frz nodeC_mp nodeC_uses
def nodeOk (x : Node) : Prop := x.name.size ≤ 281474976710656 ∧ i64ok x.kind ∧ pointOk x.pos ∧ i64ok x.inv ∧ i64ok x.gnd ∧ (x.shape.length ≤ 281474976710656 ∧ ∀ y, y ∈ x.shape → knotOk y) ∧ i64ok x.res
structure Link where
  name : ByteArray
  fro : ByteArray
  til : ByteArray
  kind : Int
  length : Int
  up : Int
  down : Int
  sect : ByteArray
  width : Int
  height : Int
  curve : List Knot
instance : Inhabited Link := ⟨⟨default, default, default, default, default, default, default, default, default, default, default⟩⟩
theorem link_ext {x y : Link} (h : x.name = y.name ∧ x.fro = y.fro ∧ x.til = y.til ∧ x.kind = y.kind ∧ x.length = y.length ∧ x.up = y.up ∧ x.down = y.down ∧ x.sect = y.sect ∧ x.width = y.width ∧ x.height = y.height ∧ x.curve = y.curve) : x = y := by
  cases x; cases y; simp_all
instance : DecidableEq Link := fun x y => decidable_of_iff (x.name = y.name ∧ x.fro = y.fro ∧ x.til = y.til ∧ x.kind = y.kind ∧ x.length = y.length ∧ x.up = y.up ∧ x.down = y.down ∧ x.sect = y.sect ∧ x.width = y.width ∧ x.height = y.height ∧ x.curve = y.curve) ⟨link_ext, fun h => by subst h; simp⟩
def linkP (x : Link) : List PV := [.lit (.string x.name), .lit (.string x.fro), .lit (.string x.til), .lit (.int .i64 x.kind), .lit (.int .i64 x.length), .lit (.int .i64 x.up), .lit (.int .i64 x.down), .lit (.string x.sect), .lit (.int .i64 x.width), .lit (.int .i64 x.height), .dat 2 (x.curve.map knotP)]
def linkC (x : Link) : List DV := [.p (.lit (.string x.name)), .p (.lit (.string x.fro)), .p (.lit (.string x.til)), .p (.lit (.int .i64 x.kind)), .p (.lit (.int .i64 x.length)), .p (.lit (.int .i64 x.up)), .p (.lit (.int .i64 x.down)), .p (.lit (.string x.sect)), .p (.lit (.int .i64 x.width)), .p (.lit (.int .i64 x.height)), .p (.dat 2 (x.curve.map knotP))]
abbrev linkD (x : Link) : DV := .agg (linkC x)
abbrev linkL (l : List Link) : DV := .p (.dat 11 (l.map linkP))
theorem linkP_map (x : Link) : (linkP x).map DV.p = linkC x := rfl
theorem linkP_len (x : Link) : (linkP x).length = 11 := rfl
theorem linkC_len (x : Link) : (linkC x).length = 11 := rfl
theorem linkP_take (x : Link) : (linkP x).take 11 = linkP x := rfl
theorem linkC_take (x : Link) : (linkC x).take 11 = linkC x := rfl
theorem linkC_all (x : Link) : (linkC x).all DV.cellB = true := rfl
theorem linkP_d0 (x : Link) : (linkP x).getD 0 default = .lit (.string x.name) := rfl
theorem linkC_d0 (x : Link) : (linkC x)[0]? = some (.p (.lit (.string x.name))) := rfl
theorem linkP_s0 (x : Link) : (linkP x).take 1 = [.lit (.string x.name)] := rfl
theorem linkC_s0 (x : Link) : (linkC x).take 1 = [.p (.lit (.string x.name))] := rfl
theorem linkP_d1 (x : Link) : (linkP x).getD 1 default = .lit (.string x.fro) := rfl
theorem linkC_d1 (x : Link) : (linkC x)[1]? = some (.p (.lit (.string x.fro))) := rfl
theorem linkP_s1 (x : Link) : ((linkP x).drop 1).take 1 = [.lit (.string x.fro)] := rfl
theorem linkC_s1 (x : Link) : ((linkC x).drop 1).take 1 = [.p (.lit (.string x.fro))] := rfl
theorem linkP_d2 (x : Link) : (linkP x).getD 2 default = .lit (.string x.til) := rfl
theorem linkC_d2 (x : Link) : (linkC x)[2]? = some (.p (.lit (.string x.til))) := rfl
theorem linkP_s2 (x : Link) : ((linkP x).drop 2).take 1 = [.lit (.string x.til)] := rfl
theorem linkC_s2 (x : Link) : ((linkC x).drop 2).take 1 = [.p (.lit (.string x.til))] := rfl
theorem linkP_d3 (x : Link) : (linkP x).getD 3 default = .lit (.int .i64 x.kind) := rfl
theorem linkC_d3 (x : Link) : (linkC x)[3]? = some (.p (.lit (.int .i64 x.kind))) := rfl
theorem linkP_s3 (x : Link) : ((linkP x).drop 3).take 1 = [.lit (.int .i64 x.kind)] := rfl
theorem linkC_s3 (x : Link) : ((linkC x).drop 3).take 1 = [.p (.lit (.int .i64 x.kind))] := rfl
theorem linkP_d4 (x : Link) : (linkP x).getD 4 default = .lit (.int .i64 x.length) := rfl
theorem linkC_d4 (x : Link) : (linkC x)[4]? = some (.p (.lit (.int .i64 x.length))) := rfl
theorem linkP_s4 (x : Link) : ((linkP x).drop 4).take 1 = [.lit (.int .i64 x.length)] := rfl
theorem linkC_s4 (x : Link) : ((linkC x).drop 4).take 1 = [.p (.lit (.int .i64 x.length))] := rfl
theorem linkP_d5 (x : Link) : (linkP x).getD 5 default = .lit (.int .i64 x.up) := rfl
theorem linkC_d5 (x : Link) : (linkC x)[5]? = some (.p (.lit (.int .i64 x.up))) := rfl
theorem linkP_s5 (x : Link) : ((linkP x).drop 5).take 1 = [.lit (.int .i64 x.up)] := rfl
theorem linkC_s5 (x : Link) : ((linkC x).drop 5).take 1 = [.p (.lit (.int .i64 x.up))] := rfl
theorem linkP_d6 (x : Link) : (linkP x).getD 6 default = .lit (.int .i64 x.down) := rfl
theorem linkC_d6 (x : Link) : (linkC x)[6]? = some (.p (.lit (.int .i64 x.down))) := rfl
theorem linkP_s6 (x : Link) : ((linkP x).drop 6).take 1 = [.lit (.int .i64 x.down)] := rfl
theorem linkC_s6 (x : Link) : ((linkC x).drop 6).take 1 = [.p (.lit (.int .i64 x.down))] := rfl
theorem linkP_d7 (x : Link) : (linkP x).getD 7 default = .lit (.string x.sect) := rfl
theorem linkC_d7 (x : Link) : (linkC x)[7]? = some (.p (.lit (.string x.sect))) := rfl
theorem linkP_s7 (x : Link) : ((linkP x).drop 7).take 1 = [.lit (.string x.sect)] := rfl
theorem linkC_s7 (x : Link) : ((linkC x).drop 7).take 1 = [.p (.lit (.string x.sect))] := rfl
theorem linkP_d8 (x : Link) : (linkP x).getD 8 default = .lit (.int .i64 x.width) := rfl
theorem linkC_d8 (x : Link) : (linkC x)[8]? = some (.p (.lit (.int .i64 x.width))) := rfl
theorem linkP_s8 (x : Link) : ((linkP x).drop 8).take 1 = [.lit (.int .i64 x.width)] := rfl
theorem linkC_s8 (x : Link) : ((linkC x).drop 8).take 1 = [.p (.lit (.int .i64 x.width))] := rfl
theorem linkP_d9 (x : Link) : (linkP x).getD 9 default = .lit (.int .i64 x.height) := rfl
theorem linkC_d9 (x : Link) : (linkC x)[9]? = some (.p (.lit (.int .i64 x.height))) := rfl
theorem linkP_s9 (x : Link) : ((linkP x).drop 9).take 1 = [.lit (.int .i64 x.height)] := rfl
theorem linkC_s9 (x : Link) : ((linkC x).drop 9).take 1 = [.p (.lit (.int .i64 x.height))] := rfl
theorem linkP_d10 (x : Link) : (linkP x).getD 10 default = .dat 2 (x.curve.map knotP) := rfl
theorem linkC_d10 (x : Link) : (linkC x)[10]? = some (.p (.dat 2 (x.curve.map knotP))) := rfl
theorem linkP_s10 (x : Link) : ((linkP x).drop 10).take 1 = [.dat 2 (x.curve.map knotP)] := rfl
theorem linkC_s10 (x : Link) : ((linkC x).drop 10).take 1 = [.p (.dat 2 (x.curve.map knotP))] := rfl
theorem linkC_ren (o n : Nat) (x : Link) : DV.renL o n (linkC x) = linkC x := rfl
theorem linkC_frz (o : Nat) (v : FV) (x : Link) : DV.frzL o v (linkC x) = linkC x := rfl
theorem linkC_mp (r : Nat → Nat) (x : Link) : DV.mpL r (linkC x) = linkC x := rfl
theorem linkC_uses (U : Nat → Prop) (x : Link) : DV.usesL U (linkC x) = True := by simp [linkC, DV.usesL, DV.uses]
attribute [push_cast] linkP_map linkP_len linkC_len linkP_take linkC_take linkC_all linkP_d0 linkC_d0 linkP_s0 linkC_s0 linkP_d1 linkC_d1 linkP_s1 linkC_s1 linkP_d2 linkC_d2 linkP_s2 linkC_s2 linkP_d3 linkC_d3 linkP_s3 linkC_s3 linkP_d4 linkC_d4 linkP_s4 linkC_s4 linkP_d5 linkC_d5 linkP_s5 linkC_s5 linkP_d6 linkC_d6 linkP_s6 linkC_s6 linkP_d7 linkC_d7 linkP_s7 linkC_s7 linkP_d8 linkC_d8 linkP_s8 linkC_s8 linkP_d9 linkC_d9 linkP_s9 linkC_s9 linkP_d10 linkC_d10 linkP_s10 linkC_s10 linkC_ren linkC_frz linkC_mp linkC_uses
def linkOk (x : Link) : Prop := x.name.size ≤ 281474976710656 ∧ x.fro.size ≤ 281474976710656 ∧ x.til.size ≤ 281474976710656 ∧ i64ok x.kind ∧ i64ok x.length ∧ i64ok x.up ∧ i64ok x.down ∧ x.sect.size ≤ 281474976710656 ∧ i64ok x.width ∧ i64ok x.height ∧ (x.curve.length ≤ 281474976710656 ∧ ∀ y, y ∈ x.curve → knotOk y)
structure Net where
  nodes : List Node
  links : List Link
instance : Inhabited Net := ⟨⟨default, default⟩⟩
theorem net_ext {x y : Net} (h : x.nodes = y.nodes ∧ x.links = y.links) : x = y := by
  cases x; cases y; simp_all
instance : DecidableEq Net := fun x y => decidable_of_iff (x.nodes = y.nodes ∧ x.links = y.links) ⟨net_ext, fun h => by subst h; simp⟩
def netP (x : Net) : List PV := [.dat 9 (x.nodes.map nodeP), .dat 11 (x.links.map linkP)]
def netC (x : Net) : List DV := [.p (.dat 9 (x.nodes.map nodeP)), .p (.dat 11 (x.links.map linkP))]
abbrev netD (x : Net) : DV := .agg (netC x)
abbrev netL (l : List Net) : DV := .p (.dat 2 (l.map netP))
theorem netP_map (x : Net) : (netP x).map DV.p = netC x := rfl
theorem netP_len (x : Net) : (netP x).length = 2 := rfl
theorem netC_len (x : Net) : (netC x).length = 2 := rfl
theorem netP_take (x : Net) : (netP x).take 2 = netP x := rfl
theorem netC_take (x : Net) : (netC x).take 2 = netC x := rfl
theorem netC_all (x : Net) : (netC x).all DV.cellB = true := rfl
theorem netP_d0 (x : Net) : (netP x).getD 0 default = .dat 9 (x.nodes.map nodeP) := rfl
theorem netC_d0 (x : Net) : (netC x)[0]? = some (.p (.dat 9 (x.nodes.map nodeP))) := rfl
theorem netP_s0 (x : Net) : (netP x).take 1 = [.dat 9 (x.nodes.map nodeP)] := rfl
theorem netC_s0 (x : Net) : (netC x).take 1 = [.p (.dat 9 (x.nodes.map nodeP))] := rfl
theorem netP_d1 (x : Net) : (netP x).getD 1 default = .dat 11 (x.links.map linkP) := rfl
theorem netC_d1 (x : Net) : (netC x)[1]? = some (.p (.dat 11 (x.links.map linkP))) := rfl
theorem netP_s1 (x : Net) : ((netP x).drop 1).take 1 = [.dat 11 (x.links.map linkP)] := rfl
theorem netC_s1 (x : Net) : ((netC x).drop 1).take 1 = [.p (.dat 11 (x.links.map linkP))] := rfl
theorem netC_ren (o n : Nat) (x : Net) : DV.renL o n (netC x) = netC x := rfl
theorem netC_frz (o : Nat) (v : FV) (x : Net) : DV.frzL o v (netC x) = netC x := rfl
theorem netC_mp (r : Nat → Nat) (x : Net) : DV.mpL r (netC x) = netC x := rfl
theorem netC_uses (U : Nat → Prop) (x : Net) : DV.usesL U (netC x) = True := by simp [netC, DV.usesL, DV.uses]
attribute [push_cast] netP_map netP_len netC_len netP_take netC_take netC_all netP_d0 netC_d0 netP_s0 netC_s0 netP_d1 netC_d1 netP_s1 netC_s1 netC_ren netC_frz netC_mp netC_uses
def netOk (x : Net) : Prop := (x.nodes.length ≤ 281474976710656 ∧ ∀ y, y ∈ x.nodes → nodeOk y) ∧ (x.links.length ≤ 281474976710656 ∧ ∀ y, y ∈ x.links → linkOk y)
structure Sta where
  vol : List Int
  pon : List Int
  set : List Int
  on : List Bool
instance : Inhabited Sta := ⟨⟨default, default, default, default⟩⟩
theorem sta_ext {x y : Sta} (h : x.vol = y.vol ∧ x.pon = y.pon ∧ x.set = y.set ∧ x.on = y.on) : x = y := by
  cases x; cases y; simp_all
instance : DecidableEq Sta := fun x y => decidable_of_iff (x.vol = y.vol ∧ x.pon = y.pon ∧ x.set = y.set ∧ x.on = y.on) ⟨sta_ext, fun h => by subst h; simp⟩
def staP (x : Sta) : List PV := [.dat 1 (x.vol.map inRow), .dat 1 (x.pon.map inRow), .dat 1 (x.set.map inRow), .dat 1 (x.on.map boRow)]
def staC (x : Sta) : List DV := [.p (.dat 1 (x.vol.map inRow)), .p (.dat 1 (x.pon.map inRow)), .p (.dat 1 (x.set.map inRow)), .p (.dat 1 (x.on.map boRow))]
abbrev staD (x : Sta) : DV := .agg (staC x)
abbrev staL (l : List Sta) : DV := .p (.dat 4 (l.map staP))
theorem staP_map (x : Sta) : (staP x).map DV.p = staC x := rfl
theorem staP_len (x : Sta) : (staP x).length = 4 := rfl
theorem staC_len (x : Sta) : (staC x).length = 4 := rfl
theorem staP_take (x : Sta) : (staP x).take 4 = staP x := rfl
theorem staC_take (x : Sta) : (staC x).take 4 = staC x := rfl
theorem staC_all (x : Sta) : (staC x).all DV.cellB = true := rfl
theorem staP_d0 (x : Sta) : (staP x).getD 0 default = .dat 1 (x.vol.map inRow) := rfl
theorem staC_d0 (x : Sta) : (staC x)[0]? = some (.p (.dat 1 (x.vol.map inRow))) := rfl
theorem staP_s0 (x : Sta) : (staP x).take 1 = [.dat 1 (x.vol.map inRow)] := rfl
theorem staC_s0 (x : Sta) : (staC x).take 1 = [.p (.dat 1 (x.vol.map inRow))] := rfl
theorem staP_d1 (x : Sta) : (staP x).getD 1 default = .dat 1 (x.pon.map inRow) := rfl
theorem staC_d1 (x : Sta) : (staC x)[1]? = some (.p (.dat 1 (x.pon.map inRow))) := rfl
theorem staP_s1 (x : Sta) : ((staP x).drop 1).take 1 = [.dat 1 (x.pon.map inRow)] := rfl
theorem staC_s1 (x : Sta) : ((staC x).drop 1).take 1 = [.p (.dat 1 (x.pon.map inRow))] := rfl
theorem staP_d2 (x : Sta) : (staP x).getD 2 default = .dat 1 (x.set.map inRow) := rfl
theorem staC_d2 (x : Sta) : (staC x)[2]? = some (.p (.dat 1 (x.set.map inRow))) := rfl
theorem staP_s2 (x : Sta) : ((staP x).drop 2).take 1 = [.dat 1 (x.set.map inRow)] := rfl
theorem staC_s2 (x : Sta) : ((staC x).drop 2).take 1 = [.p (.dat 1 (x.set.map inRow))] := rfl
theorem staP_d3 (x : Sta) : (staP x).getD 3 default = .dat 1 (x.on.map boRow) := rfl
theorem staC_d3 (x : Sta) : (staC x)[3]? = some (.p (.dat 1 (x.on.map boRow))) := rfl
theorem staP_s3 (x : Sta) : ((staP x).drop 3).take 1 = [.dat 1 (x.on.map boRow)] := rfl
theorem staC_s3 (x : Sta) : ((staC x).drop 3).take 1 = [.p (.dat 1 (x.on.map boRow))] := rfl
theorem staC_ren (o n : Nat) (x : Sta) : DV.renL o n (staC x) = staC x := rfl
theorem staC_frz (o : Nat) (v : FV) (x : Sta) : DV.frzL o v (staC x) = staC x := rfl
theorem staC_mp (r : Nat → Nat) (x : Sta) : DV.mpL r (staC x) = staC x := rfl
theorem staC_uses (U : Nat → Prop) (x : Sta) : DV.usesL U (staC x) = True := by simp [staC, DV.usesL, DV.uses]
attribute [push_cast] staP_map staP_len staC_len staP_take staC_take staC_all staP_d0 staC_d0 staP_s0 staC_s0 staP_d1 staC_d1 staP_s1 staC_s1 staP_d2 staC_d2 staP_s2 staC_s2 staP_d3 staC_d3 staP_s3 staC_s3 staC_ren staC_frz staC_mp staC_uses
def staOk (x : Sta) : Prop := intsOk x.vol ∧ intsOk x.pon ∧ intsOk x.set ∧ x.on.length ≤ 281474976710656
structure Ledg where
  inn : Int
  out : Int
  passed : List Int
instance : Inhabited Ledg := ⟨⟨default, default, default⟩⟩
theorem ledg_ext {x y : Ledg} (h : x.inn = y.inn ∧ x.out = y.out ∧ x.passed = y.passed) : x = y := by
  cases x; cases y; simp_all
instance : DecidableEq Ledg := fun x y => decidable_of_iff (x.inn = y.inn ∧ x.out = y.out ∧ x.passed = y.passed) ⟨ledg_ext, fun h => by subst h; simp⟩
def ledgP (x : Ledg) : List PV := [.lit (.int .i64 x.inn), .lit (.int .i64 x.out), .dat 1 (x.passed.map inRow)]
def ledgC (x : Ledg) : List DV := [.p (.lit (.int .i64 x.inn)), .p (.lit (.int .i64 x.out)), .p (.dat 1 (x.passed.map inRow))]
abbrev ledgD (x : Ledg) : DV := .agg (ledgC x)
abbrev ledgL (l : List Ledg) : DV := .p (.dat 3 (l.map ledgP))
theorem ledgP_map (x : Ledg) : (ledgP x).map DV.p = ledgC x := rfl
theorem ledgP_len (x : Ledg) : (ledgP x).length = 3 := rfl
theorem ledgC_len (x : Ledg) : (ledgC x).length = 3 := rfl
theorem ledgP_take (x : Ledg) : (ledgP x).take 3 = ledgP x := rfl
theorem ledgC_take (x : Ledg) : (ledgC x).take 3 = ledgC x := rfl
theorem ledgC_all (x : Ledg) : (ledgC x).all DV.cellB = true := rfl
theorem ledgP_d0 (x : Ledg) : (ledgP x).getD 0 default = .lit (.int .i64 x.inn) := rfl
theorem ledgC_d0 (x : Ledg) : (ledgC x)[0]? = some (.p (.lit (.int .i64 x.inn))) := rfl
theorem ledgP_s0 (x : Ledg) : (ledgP x).take 1 = [.lit (.int .i64 x.inn)] := rfl
theorem ledgC_s0 (x : Ledg) : (ledgC x).take 1 = [.p (.lit (.int .i64 x.inn))] := rfl
theorem ledgP_d1 (x : Ledg) : (ledgP x).getD 1 default = .lit (.int .i64 x.out) := rfl
theorem ledgC_d1 (x : Ledg) : (ledgC x)[1]? = some (.p (.lit (.int .i64 x.out))) := rfl
theorem ledgP_s1 (x : Ledg) : ((ledgP x).drop 1).take 1 = [.lit (.int .i64 x.out)] := rfl
theorem ledgC_s1 (x : Ledg) : ((ledgC x).drop 1).take 1 = [.p (.lit (.int .i64 x.out))] := rfl
theorem ledgP_d2 (x : Ledg) : (ledgP x).getD 2 default = .dat 1 (x.passed.map inRow) := rfl
theorem ledgC_d2 (x : Ledg) : (ledgC x)[2]? = some (.p (.dat 1 (x.passed.map inRow))) := rfl
theorem ledgP_s2 (x : Ledg) : ((ledgP x).drop 2).take 1 = [.dat 1 (x.passed.map inRow)] := rfl
theorem ledgC_s2 (x : Ledg) : ((ledgC x).drop 2).take 1 = [.p (.dat 1 (x.passed.map inRow))] := rfl
theorem ledgC_ren (o n : Nat) (x : Ledg) : DV.renL o n (ledgC x) = ledgC x := rfl
theorem ledgC_frz (o : Nat) (v : FV) (x : Ledg) : DV.frzL o v (ledgC x) = ledgC x := rfl
theorem ledgC_mp (r : Nat → Nat) (x : Ledg) : DV.mpL r (ledgC x) = ledgC x := rfl
theorem ledgC_uses (U : Nat → Prop) (x : Ledg) : DV.usesL U (ledgC x) = True := by simp [ledgC, DV.usesL, DV.uses]
attribute [push_cast] ledgP_map ledgP_len ledgC_len ledgP_take ledgC_take ledgC_all ledgP_d0 ledgC_d0 ledgP_s0 ledgC_s0 ledgP_d1 ledgC_d1 ledgP_s1 ledgC_s1 ledgP_d2 ledgC_d2 ledgP_s2 ledgC_s2 ledgC_ren ledgC_frz ledgC_mp ledgC_uses
def ledgOk (x : Ledg) : Prop := i64ok x.inn ∧ i64ok x.out ∧ intsOk x.passed
structure Sect where
  name : ByteArray
  height : Int
  price : Int
  area : List Knot
  conv : List Knot
instance : Inhabited Sect := ⟨⟨default, default, default, default, default⟩⟩
theorem sect_ext {x y : Sect} (h : x.name = y.name ∧ x.height = y.height ∧ x.price = y.price ∧ x.area = y.area ∧ x.conv = y.conv) : x = y := by
  cases x; cases y; simp_all
instance : DecidableEq Sect := fun x y => decidable_of_iff (x.name = y.name ∧ x.height = y.height ∧ x.price = y.price ∧ x.area = y.area ∧ x.conv = y.conv) ⟨sect_ext, fun h => by subst h; simp⟩
def sectP (x : Sect) : List PV := [.lit (.string x.name), .lit (.int .i64 x.height), .lit (.int .i64 x.price), .dat 2 (x.area.map knotP), .dat 2 (x.conv.map knotP)]
def sectC (x : Sect) : List DV := [.p (.lit (.string x.name)), .p (.lit (.int .i64 x.height)), .p (.lit (.int .i64 x.price)), .p (.dat 2 (x.area.map knotP)), .p (.dat 2 (x.conv.map knotP))]
abbrev sectD (x : Sect) : DV := .agg (sectC x)
abbrev sectL (l : List Sect) : DV := .p (.dat 5 (l.map sectP))
theorem sectP_map (x : Sect) : (sectP x).map DV.p = sectC x := rfl
theorem sectP_len (x : Sect) : (sectP x).length = 5 := rfl
theorem sectC_len (x : Sect) : (sectC x).length = 5 := rfl
theorem sectP_take (x : Sect) : (sectP x).take 5 = sectP x := rfl
theorem sectC_take (x : Sect) : (sectC x).take 5 = sectC x := rfl
theorem sectC_all (x : Sect) : (sectC x).all DV.cellB = true := rfl
theorem sectP_d0 (x : Sect) : (sectP x).getD 0 default = .lit (.string x.name) := rfl
theorem sectC_d0 (x : Sect) : (sectC x)[0]? = some (.p (.lit (.string x.name))) := rfl
theorem sectP_s0 (x : Sect) : (sectP x).take 1 = [.lit (.string x.name)] := rfl
theorem sectC_s0 (x : Sect) : (sectC x).take 1 = [.p (.lit (.string x.name))] := rfl
theorem sectP_d1 (x : Sect) : (sectP x).getD 1 default = .lit (.int .i64 x.height) := rfl
theorem sectC_d1 (x : Sect) : (sectC x)[1]? = some (.p (.lit (.int .i64 x.height))) := rfl
theorem sectP_s1 (x : Sect) : ((sectP x).drop 1).take 1 = [.lit (.int .i64 x.height)] := rfl
theorem sectC_s1 (x : Sect) : ((sectC x).drop 1).take 1 = [.p (.lit (.int .i64 x.height))] := rfl
theorem sectP_d2 (x : Sect) : (sectP x).getD 2 default = .lit (.int .i64 x.price) := rfl
theorem sectC_d2 (x : Sect) : (sectC x)[2]? = some (.p (.lit (.int .i64 x.price))) := rfl
theorem sectP_s2 (x : Sect) : ((sectP x).drop 2).take 1 = [.lit (.int .i64 x.price)] := rfl
theorem sectC_s2 (x : Sect) : ((sectC x).drop 2).take 1 = [.p (.lit (.int .i64 x.price))] := rfl
theorem sectP_d3 (x : Sect) : (sectP x).getD 3 default = .dat 2 (x.area.map knotP) := rfl
theorem sectC_d3 (x : Sect) : (sectC x)[3]? = some (.p (.dat 2 (x.area.map knotP))) := rfl
theorem sectP_s3 (x : Sect) : ((sectP x).drop 3).take 1 = [.dat 2 (x.area.map knotP)] := rfl
theorem sectC_s3 (x : Sect) : ((sectC x).drop 3).take 1 = [.p (.dat 2 (x.area.map knotP))] := rfl
theorem sectP_d4 (x : Sect) : (sectP x).getD 4 default = .dat 2 (x.conv.map knotP) := rfl
theorem sectC_d4 (x : Sect) : (sectC x)[4]? = some (.p (.dat 2 (x.conv.map knotP))) := rfl
theorem sectP_s4 (x : Sect) : ((sectP x).drop 4).take 1 = [.dat 2 (x.conv.map knotP)] := rfl
theorem sectC_s4 (x : Sect) : ((sectC x).drop 4).take 1 = [.p (.dat 2 (x.conv.map knotP))] := rfl
theorem sectC_ren (o n : Nat) (x : Sect) : DV.renL o n (sectC x) = sectC x := rfl
theorem sectC_frz (o : Nat) (v : FV) (x : Sect) : DV.frzL o v (sectC x) = sectC x := rfl
theorem sectC_mp (r : Nat → Nat) (x : Sect) : DV.mpL r (sectC x) = sectC x := rfl
theorem sectC_uses (U : Nat → Prop) (x : Sect) : DV.usesL U (sectC x) = True := by simp [sectC, DV.usesL, DV.uses]
attribute [push_cast] sectP_map sectP_len sectC_len sectP_take sectC_take sectC_all sectP_d0 sectC_d0 sectP_s0 sectC_s0 sectP_d1 sectC_d1 sectP_s1 sectC_s1 sectP_d2 sectC_d2 sectP_s2 sectC_s2 sectP_d3 sectC_d3 sectP_s3 sectC_s3 sectP_d4 sectC_d4 sectP_s4 sectC_s4 sectC_ren sectC_frz sectC_mp sectC_uses
def sectOk (x : Sect) : Prop := x.name.size ≤ 281474976710656 ∧ i64ok x.height ∧ i64ok x.price ∧ (x.area.length ≤ 281474976710656 ∧ ∀ y, y ∈ x.area → knotOk y) ∧ (x.conv.length ≤ 281474976710656 ∧ ∀ y, y ∈ x.conv → knotOk y)
structure Span where
  lo : Int
  hi : Int
instance : Inhabited Span := ⟨⟨default, default⟩⟩
theorem span_ext {x y : Span} (h : x.lo = y.lo ∧ x.hi = y.hi) : x = y := by
  cases x; cases y; simp_all
instance : DecidableEq Span := fun x y => decidable_of_iff (x.lo = y.lo ∧ x.hi = y.hi) ⟨span_ext, fun h => by subst h; simp⟩
def spanP (x : Span) : List PV := [.lit (.int .i64 x.lo), .lit (.int .i64 x.hi)]
def spanC (x : Span) : List DV := [.p (.lit (.int .i64 x.lo)), .p (.lit (.int .i64 x.hi))]
abbrev spanD (x : Span) : DV := .agg (spanC x)
abbrev spanL (l : List Span) : DV := .p (.dat 2 (l.map spanP))
theorem spanP_map (x : Span) : (spanP x).map DV.p = spanC x := rfl
theorem spanP_len (x : Span) : (spanP x).length = 2 := rfl
theorem spanC_len (x : Span) : (spanC x).length = 2 := rfl
theorem spanP_take (x : Span) : (spanP x).take 2 = spanP x := rfl
theorem spanC_take (x : Span) : (spanC x).take 2 = spanC x := rfl
theorem spanC_all (x : Span) : (spanC x).all DV.cellB = true := rfl
theorem spanP_d0 (x : Span) : (spanP x).getD 0 default = .lit (.int .i64 x.lo) := rfl
theorem spanC_d0 (x : Span) : (spanC x)[0]? = some (.p (.lit (.int .i64 x.lo))) := rfl
theorem spanP_s0 (x : Span) : (spanP x).take 1 = [.lit (.int .i64 x.lo)] := rfl
theorem spanC_s0 (x : Span) : (spanC x).take 1 = [.p (.lit (.int .i64 x.lo))] := rfl
theorem spanP_d1 (x : Span) : (spanP x).getD 1 default = .lit (.int .i64 x.hi) := rfl
theorem spanC_d1 (x : Span) : (spanC x)[1]? = some (.p (.lit (.int .i64 x.hi))) := rfl
theorem spanP_s1 (x : Span) : ((spanP x).drop 1).take 1 = [.lit (.int .i64 x.hi)] := rfl
theorem spanC_s1 (x : Span) : ((spanC x).drop 1).take 1 = [.p (.lit (.int .i64 x.hi))] := rfl
theorem spanC_ren (o n : Nat) (x : Span) : DV.renL o n (spanC x) = spanC x := rfl
theorem spanC_frz (o : Nat) (v : FV) (x : Span) : DV.frzL o v (spanC x) = spanC x := rfl
theorem spanC_mp (r : Nat → Nat) (x : Span) : DV.mpL r (spanC x) = spanC x := rfl
theorem spanC_uses (U : Nat → Prop) (x : Span) : DV.usesL U (spanC x) = True := by simp [spanC, DV.usesL, DV.uses]
attribute [push_cast] spanP_map spanP_len spanC_len spanP_take spanC_take spanC_all spanP_d0 spanC_d0 spanP_s0 spanC_s0 spanP_d1 spanC_d1 spanP_s1 spanC_s1 spanC_ren spanC_frz spanC_mp spanC_uses
def spanOk (x : Span) : Prop := i64ok x.lo ∧ i64ok x.hi
structure Frac where
  num : Int
  den : Int
instance : Inhabited Frac := ⟨⟨default, default⟩⟩
theorem frac_ext {x y : Frac} (h : x.num = y.num ∧ x.den = y.den) : x = y := by
  cases x; cases y; simp_all
instance : DecidableEq Frac := fun x y => decidable_of_iff (x.num = y.num ∧ x.den = y.den) ⟨frac_ext, fun h => by subst h; simp⟩
def fracP (x : Frac) : List PV := [.lit (.int .i64 x.num), .lit (.int .i64 x.den)]
def fracC (x : Frac) : List DV := [.p (.lit (.int .i64 x.num)), .p (.lit (.int .i64 x.den))]
abbrev fracD (x : Frac) : DV := .agg (fracC x)
abbrev fracL (l : List Frac) : DV := .p (.dat 2 (l.map fracP))
theorem fracP_map (x : Frac) : (fracP x).map DV.p = fracC x := rfl
theorem fracP_len (x : Frac) : (fracP x).length = 2 := rfl
theorem fracC_len (x : Frac) : (fracC x).length = 2 := rfl
theorem fracP_take (x : Frac) : (fracP x).take 2 = fracP x := rfl
theorem fracC_take (x : Frac) : (fracC x).take 2 = fracC x := rfl
theorem fracC_all (x : Frac) : (fracC x).all DV.cellB = true := rfl
theorem fracP_d0 (x : Frac) : (fracP x).getD 0 default = .lit (.int .i64 x.num) := rfl
theorem fracC_d0 (x : Frac) : (fracC x)[0]? = some (.p (.lit (.int .i64 x.num))) := rfl
theorem fracP_s0 (x : Frac) : (fracP x).take 1 = [.lit (.int .i64 x.num)] := rfl
theorem fracC_s0 (x : Frac) : (fracC x).take 1 = [.p (.lit (.int .i64 x.num))] := rfl
theorem fracP_d1 (x : Frac) : (fracP x).getD 1 default = .lit (.int .i64 x.den) := rfl
theorem fracC_d1 (x : Frac) : (fracC x)[1]? = some (.p (.lit (.int .i64 x.den))) := rfl
theorem fracP_s1 (x : Frac) : ((fracP x).drop 1).take 1 = [.lit (.int .i64 x.den)] := rfl
theorem fracC_s1 (x : Frac) : ((fracC x).drop 1).take 1 = [.p (.lit (.int .i64 x.den))] := rfl
theorem fracC_ren (o n : Nat) (x : Frac) : DV.renL o n (fracC x) = fracC x := rfl
theorem fracC_frz (o : Nat) (v : FV) (x : Frac) : DV.frzL o v (fracC x) = fracC x := rfl
theorem fracC_mp (r : Nat → Nat) (x : Frac) : DV.mpL r (fracC x) = fracC x := rfl
theorem fracC_uses (U : Nat → Prop) (x : Frac) : DV.usesL U (fracC x) = True := by simp [fracC, DV.usesL, DV.uses]
attribute [push_cast] fracP_map fracP_len fracC_len fracP_take fracC_take fracC_all fracP_d0 fracC_d0 fracP_s0 fracC_s0 fracP_d1 fracC_d1 fracP_s1 fracC_s1 fracC_ren fracC_frz fracC_mp fracC_uses
def fracOk (x : Frac) : Prop := i64ok x.num ∧ i64ok x.den
abbrev nilS : DV := .p (.lit (.slice none 0 0))
abbrev boL (l : List Bool) : HV := .lst 4 1 (rows boRow l)
abbrev inLt (l : List Int) : HV := .lst 3 1 (rows inRow l)
def cmpI (a x : Int) : Int := if a < x then -1 else if x < a then 1 else 0
theorem cmp_f (k : Knot) (x : Int) (m : Nat) : DCalls Tryz.prog 222 [knotD k, li x] (hget []) m (li (cmpI k.x x)) (hget []) := by
  unfold cmpI
  by_cases h1 : k.x < x
  · (have := Nonempty.intro h1)
    rw [if_pos h1]
    refine pureC (n := 15) (rs := [.tmp 4]) (ts := [3]) Tryz.func222 rfl (by decide) [] (by (exact SD)) ?_
    (repeat' (first | refine swp_seq [0, 1, 2, 4, 5, 10] ?_ | refine st2 ?_ | (show Fct ..; refine fctI (fun hf => ?_)) | (show SWp _ _ _ (.cond _ _ _) _ _ _ _; first | refine cB (fun hc => ?_) (fun hc => ?_) | refine cU ?_ ?_)))
    exact DVR
  · (have := Nonempty.intro h1)
    rw [if_neg h1]
    by_cases h2 : x < k.x
    · (have := Nonempty.intro h2)
      rw [if_pos h2]
      refine pureC (n := 15) (rs := [.tmp 4]) (ts := [3]) Tryz.func222 rfl (by decide) [] (by (exact SD)) ?_
      (repeat' (first | refine swp_seq [0, 1, 2, 4, 5, 10] ?_ | refine st2 ?_ | (show Fct ..; refine fctI (fun hf => ?_)) | (show SWp _ _ _ (.cond _ _ _) _ _ _ _; first | refine cB (fun hc => ?_) (fun hc => ?_) | refine cU ?_ ?_)))
      exact DVR
    · (have := Nonempty.intro h2)
      rw [if_neg h2]
      refine pureC (n := 15) (rs := [.tmp 4]) (ts := [3]) Tryz.func222 rfl (by decide) [] (by (exact SD)) ?_
      (repeat' (first | refine swp_seq [0, 1, 2, 4, 5, 10] ?_ | refine st2 ?_ | (show Fct ..; refine fctI (fun hf => ?_)) | (show SWp _ _ _ (.cond _ _ _) _ _ _ _; first | refine cB (fun hc => ?_) (fun hc => ?_) | refine cU ?_ ?_)))
      exact DVR
def Stop (p : Prop) : Prop := p
theorem stop_in {p : Prop} (h : Stop p) : p := h
theorem stop_out {p : Prop} (h : p) : Stop p := h
attribute [irreducible] Stop
section
open Go.Eng
variable {P : Program} {N pin nx : Nat}
def midK (L K : List Nat) (M : LE → LH → Prop) (Q : Exit → LE → LH → Nat → Prop) : Exit → LE → LH → Nat → Prop := fun e A H nx =>
  match e with
  | .normal => M (ekeep A L) (hkeep H K)
  | e => Q e A H nx
theorem midK_normal {L K : List Nat} {M : LE → LH → Prop} {Q : Exit → LE → LH → Nat → Prop} {A A2 : LE} {H H2 : LH} (hA : ekeep A L = A2) (hH : hkeep H K = H2) (h : M A2 H2) : midK L K M Q .normal A H nx := by subst hA hH; exact h
theorem midK_ret {L K : List Nat} {M : LE → LH → Prop} {Q : Exit → LE → LH → Nat → Prop} {A : LE} {H : LH} (h : Q .ret A H nx) : midK L K M Q .ret A H nx := h
theorem midK_exit {L K : List Nat} {M : LE → LH → Prop} {Q : Exit → LE → LH → Nat → Prop} {A : LE} {H : LH} {i : Nat} (h : Q (.exit i) A H nx) : midK L K M Q (.exit i) A H nx := h
theorem swp_mid {x y : Code} {Q : Exit → LE → LH → Nat → Prop} {A : LE} {H : LH} (L K : List Nat) (n0 : Nat) (M : LE → LH → Prop) (hp : pin ≤ n0) (hI : ∀ A H, M A H → usesA n0 A ∧ usesH n0 H)
    (h1 : SWp P N pin x (midK L K M Q) A H nx) (h2 : ∀ A H, M A H → SWp P N pin y Q A H n0) : SWp P N pin (.seq x y) Q A H nx := by
  unfold SWp at h1 h2 ⊢
  intro hp1 B hB a w hS
  refine wp_seq (wp_mono (h1 hp1 B hB a w hS) fun e a' w' ⟨A', H', nx', k1, k2, k3⟩ => ?_)
  cases e with
  | normal =>
    have u := hI _ _ k3
    exact h2 _ _ k3 hp B hB a' w' (k2.reset L K u.1 u.2)
  | _ => exact ⟨A', H', nx', k1, k2, k3⟩
end
attribute [irreducible] midK
theorem kn_test {B a b u w q r : Nat} (he : u = q * a + r) : B * r + w < q * b ↔ u * B + w < q * (a * B + b) := by
  have e1 : u * B = q * a * B + r * B := by rw [he, Nat.add_mul]
  have e2 : q * (a * B + b) = q * a * B + q * b := by rw [Nat.mul_add, Nat.mul_assoc]
  rw [e1, e2, Nat.mul_comm B r]
  generalize q * a * B = t
  generalize r * B = s
  generalize q * b = p
  omega
theorem kn_small {B a b u q r : Nat} (hb : b < B) (hu : u < a * B + b) (he : u = q * a + r) (hr : B ≤ r) : q < B := by
  refine Nat.lt_of_not_le fun h => ?_
  have := Nat.mul_le_mul_right a h
  rw [Nat.mul_comm B a] at this
  generalize q * a = t at *
  generalize a * B = s at *
  omega
theorem kn_rest {B a b u w q r : Nat} (hb : b < B) (hu : u < a * B + b) (he : u = q * a + r) (hr : B ≤ r) : ¬ B * r + w < q * b := by
  have hq := kn_small hb hu he hr
  have h1 : q * b ≤ B * B := Nat.mul_le_mul (by omega) (by omega)
  have h2 : B * B ≤ B * r := Nat.mul_le_mul_left B hr
  generalize q * b = p at *
  generalize B * r = s at *
  generalize B * B = t at *
  omega
theorem kn_great {B v u w q : Nat} (hu : u < v) (hw : w < B) (hq : B ≤ q) : u * B + w < q * v := by
  have h1 : (u + 1) * B ≤ v * B := Nat.mul_le_mul_right B hu
  have h2 : B * v ≤ q * v := Nat.mul_le_mul_right v hq
  rw [Nat.add_mul, Nat.one_mul] at h1
  rw [Nat.mul_comm B v] at h2
  generalize u * B = s at *
  generalize v * B = t at *
  generalize q * v = p at *
  omega
theorem kn_first {B a b u w : Nat} (ha : 0 < a) (hw : w < B) : u * B + w < (u / a + 1) * (a * B + b) := by
  have h1 : u + 1 ≤ (u / a + 1) * a := by
    have := Nat.lt_div_mul_add ha (a := u)
    rw [Nat.add_mul, Nat.one_mul]; omega
  have h2 : (u + 1) * B ≤ (u / a + 1) * a * B := Nat.mul_le_mul_right B h1
  rw [Nat.add_mul, Nat.one_mul] at h2
  rw [Nat.mul_add, ← Nat.mul_assoc]
  generalize (u / a + 1) * a * B = t at *
  generalize (u / a + 1) * b = p at *
  generalize u * B = s at *
  omega
theorem kn_most {B a b u : Nat} (hb : b < B) (hB : B ≤ 2 * a) (ha : 0 < a) (hu : u < a * B + b) : u / a ≤ B + 1 := by
  have h2 : u < (B + 2) * a := by
    rw [Nat.add_mul, Nat.mul_comm B a]
    generalize a * B = s at *
    omega
  have := (Nat.div_lt_iff_lt_mul ha).2 h2
  omega
theorem kn_done {v x q : Nat} (h1 : q * v ≤ x) (h2 : x < (q + 1) * v) : x / v = q := by
  have hv : 0 < v := Nat.pos_of_ne_zero fun e => by rw [e, Nat.mul_zero] at h2; exact Nat.not_lt_zero _ h2
  exact Nat.div_eq_of_lt_le h1 h2
theorem kn_two {B v u w z : Nat} (hv : 0 < v) (hz : z < B) (hB : 0 < B) : (u * B + w) / v * B + ((u * B + w) % v * B + z) / v = ((u * B + w) * B + z) / v ∧ ((u * B + w) % v * B + z) % v = ((u * B + w) * B + z) % v := by
  have e : (u * B + w) * B + z = ((u * B + w) % v * B + z) + v * ((u * B + w) / v * B) := by
    have h := Nat.mod_add_div (u * B + w) v
    generalize (u * B + w) / v = q at *
    generalize (u * B + w) % v = r at *
    rw [← h, Nat.add_mul, Nat.mul_assoc]
    generalize v * (q * B) = t
    generalize r * B = s
    omega
  rw [e, Nat.add_mul_div_left _ _ hv, Nat.add_mul_mod_self_left]
  exact ⟨Nat.add_comm _ _, rfl⟩
theorem kn_step {B a b u w q r : Nat} (hb : b < B) (hw : w < B) (hu : u < a * B + b) (he : u = q * a + r) (h : u * B + w < (q + 1) * (a * B + b)) (ht : B ≤ q ∨ B * r + w < q * b) :
    1 ≤ q ∧ u * B + w < (q - 1 + 1) * (a * B + b) ∧ u = (q - 1) * a + (r + a) ∧ (B ≤ r + a → (u * B + w) / (a * B + b) = q - 1) := by
  have h1 : u * B + w < q * (a * B + b) := by
    rcases ht with ht | ht
    · exact kn_great hu hw ht
    · exact (kn_test he).1 ht
  have hq : 1 ≤ q := by
    rcases Nat.eq_zero_or_pos q with e | e
    · rw [e, Nat.zero_mul] at h1; exact absurd h1 (Nat.not_lt_zero _)
    · exact e
  have e1 : q - 1 + 1 = q := by omega
  have e2 : u = (q - 1) * a + (r + a) := by
    have : q * a = (q - 1) * a + a := by rw [← Nat.succ_mul]; congr 1; omega
    omega
  refine ⟨hq, by rw [e1]; exact h1, e2, fun hr => ?_⟩
  refine kn_done (Nat.le_of_not_lt fun h3 => ?_) (by rw [e1]; exact h1)
  exact kn_rest hb hu e2 hr ((kn_test e2).2 h3)
theorem kn_stop {B a b u w q r : Nat} (he : u = q * a + r) (h : u * B + w < (q + 1) * (a * B + b)) (ht : ¬ B * r + w < q * b) : (u * B + w) / (a * B + b) = q :=
  kn_done (Nat.le_of_not_lt fun h3 => ht ((kn_test he).2 h3)) h
theorem kn_lt {B hi lo y : Nat} (h1 : hi < y) (hl : lo < B) : (hi * B + lo) / y < B := by
  rw [Nat.div_lt_iff_lt_mul (by omega)]
  have h2 : (hi + 1) * B ≤ y * B := Nat.mul_le_mul_right B h1
  rw [Nat.add_mul, Nat.one_mul] at h2
  rw [Nat.mul_comm B y]
  generalize hi * B = s at *
  generalize y * B = t at *
  omega
theorem kn_two2 {B v u w z Q R T S : Nat} (hv : 0 < v) (hz : z < B) (hB : 0 < B) (hQ : (u * B + w) / v = Q) (hR : (u * B + w) % v = R) (hT : (R * B + z) / v = T) (hS : (R * B + z) % v = S) : Q * B + T = ((u * B + w) * B + z) / v ∧ S = ((u * B + w) * B + z) % v := by
  subst hQ hR
  have := kn_two (u := u) (w := w) hv hz hB
  rw [hT, hS] at this
  exact this

end Go.Proofs.YtnfbaeeohepajaaGreat
