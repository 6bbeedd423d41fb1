/-
  Contracts of functions of the program, over the engine.
  No condition.
-/
import Derived.Test.YthacnhidipeckaaGreatTz
import Derived.Test.YthacnhidipeckaaGreatEngO
import Derived.Test.YthacnhidipeckaaGreatPl0
import Derived.Test.YthacnhidipeckaaGreatEngW
import Derived.Test.YthacnhidipeckaaGreatEngY
import Derived.Test.YthacnhidipeckaaGreatEngZ
namespace Go.Proofs.YthacnhidipeckaaGreat
open Go.Eng
set_option linter.all false
attribute [local irreducible] DCallsG SWp Fct CallQ XCallQ LCallQ XLCallQ drun xrun
theorem mixed : Tryz.prog.follows .mixedOrders = true := by kernel_rfl
instance : Mixed Tryz.prog := ⟨mixed⟩

def i64ok (n : Int) : Prop := -9223372036854775808 ≤ n ∧ n ≤ 9223372036854775807
def intsOk (l : List Int) : Prop := l.length ≤ 281474976710656 ∧ ∀ z, z ∈ l → i64ok z
def boRow (b : Bool) : List PV := [.lit (.bool b)]
abbrev bools (l : List Bool) : DV := .p (.dat 1 (l.map boRow))
theorem getD_drop0 {α : Type} (l : List α) (k : Nat) (d : α) : (l.drop k).getD 0 d = l.getD k d := by simp [List.getD_eq_getElem?_getD]
def pairP (p : Int × Int) : List PV := [.lit (.int .i64 p.1), .lit (.int .i64 p.2)]
abbrev pairs (l : List (Int × Int)) : DV := .p (.dat 2 (l.map pairP))
theorem usesL_p (U : Nat → Prop) (l : List PV) : DV.usesL U (l.map DV.p) = True := propext ⟨fun _ => trivial, fun _ => usesL_iff.2 fun d hd => by obtain ⟨x, _, rfl⟩ := List.mem_map.1 hd; exact trivial⟩
theorem mpL_p (r : Nat → Nat) (l : List PV) : DV.mpL r (l.map DV.p) = l.map DV.p := by
  rw [mpL_eq, List.map_map]; exact List.map_congr_left fun x _ => rfl
theorem renL_p (o n : Nat) (l : List PV) : DV.renL o n (l.map DV.p) = l.map DV.p := by
  rw [renL_eq, List.map_map]; exact List.map_congr_left fun x _ => rfl
theorem lbC {x y : Bool} (h : x = y) : lb x = lb y := by rw [h]
def ilRow (l : List Int) : List PV := [.dat 1 (l.map inRow)]
abbrev intss (l : List (List Int)) : DV := .p (.dat 1 (l.map ilRow))
theorem getD_mem {α : Type} [Inhabited α] {l : List α} {i : Nat} (h : i < l.length) : l.getD i default ∈ l := by
  rw [List.getD_eq_getElem?_getD, List.getElem?_eq_getElem h]; exact List.getElem_mem h
attribute [push_cast] usesL_p mpL_p renL_p ilRow boRow pairP getD_drop0 List.drop_zero List.length_drop List.drop_drop
structure Knot where
  x : Int
  y : Int
instance : Inhabited Knot := ⟨⟨default, default⟩⟩
theorem knot_ext {x y : Knot} (h : x.x = y.x ∧ x.y = y.y) : x = y := by
  cases x; cases y; simp_all
instance : DecidableEq Knot := fun x y => decidable_of_iff (x.x = y.x ∧ x.y = y.y) ⟨knot_ext, fun h => by subst h; simp⟩
def knotP (x : Knot) : List PV := [.lit (.int .i64 x.x), .lit (.int .i64 x.y)]
def knotC (x : Knot) : List DV := [.p (.lit (.int .i64 x.x)), .p (.lit (.int .i64 x.y))]
abbrev knotD (x : Knot) : DV := .agg (knotC x)
abbrev knotL (l : List Knot) : DV := .p (.dat 2 (l.map knotP))
theorem knotP_map (x : Knot) : (knotP x).map DV.p = knotC x := rfl
theorem knotP_len (x : Knot) : (knotP x).length = 2 := rfl
theorem knotC_len (x : Knot) : (knotC x).length = 2 := rfl
theorem knotP_take (x : Knot) : (knotP x).take 2 = knotP x := rfl
theorem knotC_take (x : Knot) : (knotC x).take 2 = knotC x := rfl
theorem knotC_all (x : Knot) : (knotC x).all DV.cellB = true := rfl
theorem knotP_d0 (x : Knot) : (knotP x).getD 0 default = .lit (.int .i64 x.x) := rfl
theorem knotC_d0 (x : Knot) : (knotC x)[0]? = some (.p (.lit (.int .i64 x.x))) := rfl
theorem knotP_s0 (x : Knot) : (knotP x).take 1 = [.lit (.int .i64 x.x)] := rfl
theorem knotC_s0 (x : Knot) : (knotC x).take 1 = [.p (.lit (.int .i64 x.x))] := rfl
theorem knotP_d1 (x : Knot) : (knotP x).getD 1 default = .lit (.int .i64 x.y) := rfl
theorem knotC_d1 (x : Knot) : (knotC x)[1]? = some (.p (.lit (.int .i64 x.y))) := rfl
theorem knotP_s1 (x : Knot) : ((knotP x).drop 1).take 1 = [.lit (.int .i64 x.y)] := rfl
theorem knotC_s1 (x : Knot) : ((knotC x).drop 1).take 1 = [.p (.lit (.int .i64 x.y))] := rfl
theorem knotC_ren (o n : Nat) (x : Knot) : DV.renL o n (knotC x) = knotC x := rfl
theorem knotC_frz (o : Nat) (v : FV) (x : Knot) : DV.frzL o v (knotC x) = knotC x := rfl
theorem knotC_mp (r : Nat → Nat) (x : Knot) : DV.mpL r (knotC x) = knotC x := rfl
theorem knotC_uses (U : Nat → Prop) (x : Knot) : DV.usesL U (knotC x) = True := by simp [knotC, DV.usesL, DV.uses]
attribute [push_cast] knotP_map knotP_len knotC_len knotP_take knotC_take knotC_all knotP_d0 knotC_d0 knotP_s0 knotC_s0 knotP_d1 knotC_d1 knotP_s1 knotC_s1 knotC_ren knotC_frz knotC_mp knotC_uses
def knotOk (x : Knot) : Prop := i64ok x.x ∧ i64ok x.y
structure Point where
  x : Int
  y : Int
instance : Inhabited Point := ⟨⟨default, default⟩⟩
theorem point_ext {x y : Point} (h : x.x = y.x ∧ x.y = y.y) : x = y := by
  cases x; cases y; simp_all
instance : DecidableEq Point := fun x y => decidable_of_iff (x.x = y.x ∧ x.y = y.y) ⟨point_ext, fun h => by subst h; simp⟩
def pointP (x : Point) : List PV := [.lit (.int .i64 x.x), .lit (.int .i64 x.y)]
theorem pointP_len (x : Point) : (pointP x).length = 2 := rfl
theorem pointP_take (x : Point) : (pointP x).take 2 = pointP x := rfl
theorem pointP_d0 (x : Point) : (pointP x).getD 0 default = .lit (.int .i64 x.x) := rfl
theorem pointP_s0 (x : Point) : (pointP x).take 1 = [.lit (.int .i64 x.x)] := rfl
theorem pointP_d1 (x : Point) : (pointP x).getD 1 default = .lit (.int .i64 x.y) := rfl
theorem pointP_s1 (x : Point) : ((pointP x).drop 1).take 1 = [.lit (.int .i64 x.y)] := rfl
attribute [push_cast] pointP_len pointP_take pointP_d0 pointP_s0 pointP_d1 pointP_s1
def pointOk (x : Point) : Prop := i64ok x.x ∧ i64ok x.y
structure Node where
  name : ByteArray
  kind : Int
  pos : Point
  inv : Int
  gnd : Int
  shape : List Knot
  prot : Bool
  res : Int
instance : Inhabited Node := ⟨⟨default, default, default, default, default, default, default, default⟩⟩
theorem node_ext {x y : Node} (h : x.name = y.name ∧ x.kind = y.kind ∧ x.pos = y.pos ∧ x.inv = y.inv ∧ x.gnd = y.gnd ∧ x.shape = y.shape ∧ x.prot = y.prot ∧ x.res = y.res) : x = y := by
  cases x; cases y; simp_all
instance : DecidableEq Node := fun x y => decidable_of_iff (x.name = y.name ∧ x.kind = y.kind ∧ x.pos = y.pos ∧ x.inv = y.inv ∧ x.gnd = y.gnd ∧ x.shape = y.shape ∧ x.prot = y.prot ∧ x.res = y.res) ⟨node_ext, fun h => by subst h; simp⟩
def nodeP (x : Node) : List PV := [.lit (.string x.name), .lit (.int .i64 x.kind), .lit (.int .i64 x.pos.x), .lit (.int .i64 x.pos.y), .lit (.int .i64 x.inv), .lit (.int .i64 x.gnd), .dat 2 (x.shape.map knotP), .lit (.bool x.prot), .lit (.int .i64 x.res)]
def nodeC (x : Node) : List DV := [.p (.lit (.string x.name)), .p (.lit (.int .i64 x.kind)), .p (.lit (.int .i64 x.pos.x)), .p (.lit (.int .i64 x.pos.y)), .p (.lit (.int .i64 x.inv)), .p (.lit (.int .i64 x.gnd)), .p (.dat 2 (x.shape.map knotP)), .p (.lit (.bool x.prot)), .p (.lit (.int .i64 x.res))]
abbrev nodeD (x : Node) : DV := .agg (nodeC x)
abbrev nodeL (l : List Node) : DV := .p (.dat 9 (l.map nodeP))
theorem nodeP_map (x : Node) : (nodeP x).map DV.p = nodeC x := rfl
theorem nodeP_len (x : Node) : (nodeP x).length = 9 := rfl
theorem nodeC_len (x : Node) : (nodeC x).length = 9 := rfl
theorem nodeP_take (x : Node) : (nodeP x).take 9 = nodeP x := rfl
theorem nodeC_take (x : Node) : (nodeC x).take 9 = nodeC x := rfl
theorem nodeC_all (x : Node) : (nodeC x).all DV.cellB = true := rfl
theorem nodeP_d0 (x : Node) : (nodeP x).getD 0 default = .lit (.string x.name) := rfl
theorem nodeC_d0 (x : Node) : (nodeC x)[0]? = some (.p (.lit (.string x.name))) := rfl
theorem nodeP_s0 (x : Node) : (nodeP x).take 1 = [.lit (.string x.name)] := rfl
theorem nodeC_s0 (x : Node) : (nodeC x).take 1 = [.p (.lit (.string x.name))] := rfl
theorem nodeP_d1 (x : Node) : (nodeP x).getD 1 default = .lit (.int .i64 x.kind) := rfl
theorem nodeC_d1 (x : Node) : (nodeC x)[1]? = some (.p (.lit (.int .i64 x.kind))) := rfl
theorem nodeP_s1 (x : Node) : ((nodeP x).drop 1).take 1 = [.lit (.int .i64 x.kind)] := rfl
theorem nodeC_s1 (x : Node) : ((nodeC x).drop 1).take 1 = [.p (.lit (.int .i64 x.kind))] := rfl
theorem nodeP_d2 (x : Node) : (nodeP x).getD 2 default = .lit (.int .i64 x.pos.x) := rfl
theorem nodeC_d2 (x : Node) : (nodeC x)[2]? = some (.p (.lit (.int .i64 x.pos.x))) := rfl
theorem nodeP_s2 (x : Node) : ((nodeP x).drop 2).take 1 = [.lit (.int .i64 x.pos.x)] := rfl
theorem nodeC_s2 (x : Node) : ((nodeC x).drop 2).take 1 = [.p (.lit (.int .i64 x.pos.x))] := rfl
theorem nodeP_d3 (x : Node) : (nodeP x).getD 3 default = .lit (.int .i64 x.pos.y) := rfl
theorem nodeC_d3 (x : Node) : (nodeC x)[3]? = some (.p (.lit (.int .i64 x.pos.y))) := rfl
theorem nodeP_s3 (x : Node) : ((nodeP x).drop 3).take 1 = [.lit (.int .i64 x.pos.y)] := rfl
theorem nodeC_s3 (x : Node) : ((nodeC x).drop 3).take 1 = [.p (.lit (.int .i64 x.pos.y))] := rfl
theorem nodeP_d4 (x : Node) : (nodeP x).getD 4 default = .lit (.int .i64 x.inv) := rfl
theorem nodeC_d4 (x : Node) : (nodeC x)[4]? = some (.p (.lit (.int .i64 x.inv))) := rfl
theorem nodeP_s4 (x : Node) : ((nodeP x).drop 4).take 1 = [.lit (.int .i64 x.inv)] := rfl
theorem nodeC_s4 (x : Node) : ((nodeC x).drop 4).take 1 = [.p (.lit (.int .i64 x.inv))] := rfl
theorem nodeP_d5 (x : Node) : (nodeP x).getD 5 default = .lit (.int .i64 x.gnd) := rfl
theorem nodeC_d5 (x : Node) : (nodeC x)[5]? = some (.p (.lit (.int .i64 x.gnd))) := rfl
theorem nodeP_s5 (x : Node) : ((nodeP x).drop 5).take 1 = [.lit (.int .i64 x.gnd)] := rfl
theorem nodeC_s5 (x : Node) : ((nodeC x).drop 5).take 1 = [.p (.lit (.int .i64 x.gnd))] := rfl
theorem nodeP_d6 (x : Node) : (nodeP x).getD 6 default = .dat 2 (x.shape.map knotP) := rfl
theorem nodeC_d6 (x : Node) : (nodeC x)[6]? = some (.p (.dat 2 (x.shape.map knotP))) := rfl
theorem nodeP_s6 (x : Node) : ((nodeP x).drop 6).take 1 = [.dat 2 (x.shape.map knotP)] := rfl
theorem nodeC_s6 (x : Node) : ((nodeC x).drop 6).take 1 = [.p (.dat 2 (x.shape.map knotP))] := rfl
theorem nodeP_d7 (x : Node) : (nodeP x).getD 7 default = .lit (.bool x.prot) := rfl
theorem nodeC_d7 (x : Node) : (nodeC x)[7]? = some (.p (.lit (.bool x.prot))) := rfl
theorem nodeP_s7 (x : Node) : ((nodeP x).drop 7).take 1 = [.lit (.bool x.prot)] := rfl
theorem nodeC_s7 (x : Node) : ((nodeC x).drop 7).take 1 = [.p (.lit (.bool x.prot))] := rfl
theorem nodeP_d8 (x : Node) : (nodeP x).getD 8 default = .lit (.int .i64 x.res) := rfl
theorem nodeC_d8 (x : Node) : (nodeC x)[8]? = some (.p (.lit (.int .i64 x.res))) := rfl
theorem nodeP_s8 (x : Node) : ((nodeP x).drop 8).take 1 = [.lit (.int .i64 x.res)] := rfl
theorem nodeC_s8 (x : Node) : ((nodeC x).drop 8).take 1 = [.p (.lit (.int .i64 x.res))] := rfl
theorem nodeP_t2 (x : Node) : ((nodeP x).drop 2).take 2 = pointP x.pos := rfl
theorem nodeC_ren (o n : Nat) (x : Node) : DV.renL o n (nodeC x) = nodeC x := rfl
theorem nodeC_frz (o : Nat) (v : FV) (x : Node) : DV.frzL o v (nodeC x) = nodeC x := rfl
theorem nodeC_mp (r : Nat → Nat) (x : Node) : DV.mpL r (nodeC x) = nodeC x := rfl
theorem nodeC_uses (U : Nat → Prop) (x : Node) : DV.usesL U (nodeC x) = True := by simp [nodeC, DV.usesL, DV.uses]
attribute [push_cast] nodeP_map nodeP_len nodeC_len nodeP_take nodeC_take nodeC_all nodeP_d0 nodeC_d0 nodeP_s0 nodeC_s0 nodeP_d1 nodeC_d1 nodeP_s1 nodeC_s1 nodeP_d2 nodeC_d2 nodeP_s2 nodeC_s2 nodeP_d3 nodeC_d3 nodeP_s3 nodeC_s3 nodeP_d4 nodeC_d4 nodeP_s4 nodeC_s4 nodeP_d5 nodeC_d5 nodeP_s5 nodeC_s5 nodeP_d6 nodeC_d6 nodeP_s6 nodeC_s6 nodeP_d7 nodeC_d7 nodeP_s7 nodeC_s7 nodeP_d8 nodeC_d8 nodeP_s8 nodeC_s8 nodeP_t2 nodeC_ren nodeC_frz nodeC_mp nodeC_uses
def nodeOk (x : Node) : Prop := x.name.size ≤ 281474976710656 ∧ i64ok x.kind ∧ pointOk x.pos ∧ i64ok x.inv ∧ i64ok x.gnd ∧ (x.shape.length ≤ 281474976710656 ∧ ∀ y, y ∈ x.shape → knotOk y) ∧ i64ok x.res
structure Link where
  name : ByteArray
  fro : ByteArray
  til : ByteArray
  kind : Int
  length : Int
  up : Int
  down : Int
  sect : ByteArray
  width : Int
  height : Int
  curve : List Knot
instance : Inhabited Link := ⟨⟨default, default, default, default, default, default, default, default, default, default, default⟩⟩
theorem link_ext {x y : Link} (h : x.name = y.name ∧ x.fro = y.fro ∧ x.til = y.til ∧ x.kind = y.kind ∧ x.length = y.length ∧ x.up = y.up ∧ x.down = y.down ∧ x.sect = y.sect ∧ x.width = y.width ∧ x.height = y.height ∧ x.curve = y.curve) : x = y := by
  cases x; cases y; simp_all
instance : DecidableEq Link := fun x y => decidable_of_iff (x.name = y.name ∧ x.fro = y.fro ∧ x.til = y.til ∧ x.kind = y.kind ∧ x.length = y.length ∧ x.up = y.up ∧ x.down = y.down ∧ x.sect = y.sect ∧ x.width = y.width ∧ x.height = y.height ∧ x.curve = y.curve) ⟨link_ext, fun h => by subst h; simp⟩
def linkP (x : Link) : List PV := [.lit (.string x.name), .lit (.string x.fro), .lit (.string x.til), .lit (.int .i64 x.kind), .lit (.int .i64 x.length), .lit (.int .i64 x.up), .lit (.int .i64 x.down), .lit (.string x.sect), .lit (.int .i64 x.width), .lit (.int .i64 x.height), .dat 2 (x.curve.map knotP)]
def linkC (x : Link) : List DV := [.p (.lit (.string x.name)), .p (.lit (.string x.fro)), .p (.lit (.string x.til)), .p (.lit (.int .i64 x.kind)), .p (.lit (.int .i64 x.length)), .p (.lit (.int .i64 x.up)), .p (.lit (.int .i64 x.down)), .p (.lit (.string x.sect)), .p (.lit (.int .i64 x.width)), .p (.lit (.int .i64 x.height)), .p (.dat 2 (x.curve.map knotP))]
abbrev linkD (x : Link) : DV := .agg (linkC x)
abbrev linkL (l : List Link) : DV := .p (.dat 11 (l.map linkP))
theorem linkP_map (x : Link) : (linkP x).map DV.p = linkC x := rfl
theorem linkP_len (x : Link) : (linkP x).length = 11 := rfl
theorem linkC_len (x : Link) : (linkC x).length = 11 := rfl
theorem linkP_take (x : Link) : (linkP x).take 11 = linkP x := rfl
theorem linkC_take (x : Link) : (linkC x).take 11 = linkC x := rfl
theorem linkC_all (x : Link) : (linkC x).all DV.cellB = true := rfl
theorem linkP_d0 (x : Link) : (linkP x).getD 0 default = .lit (.string x.name) := rfl
theorem linkC_d0 (x : Link) : (linkC x)[0]? = some (.p (.lit (.string x.name))) := rfl
theorem linkP_s0 (x : Link) : (linkP x).take 1 = [.lit (.string x.name)] := rfl
theorem linkC_s0 (x : Link) : (linkC x).take 1 = [.p (.lit (.string x.name))] := rfl
theorem linkP_d1 (x : Link) : (linkP x).getD 1 default = .lit (.string x.fro) := rfl
theorem linkC_d1 (x : Link) : (linkC x)[1]? = some (.p (.lit (.string x.fro))) := rfl
theorem linkP_s1 (x : Link) : ((linkP x).drop 1).take 1 = [.lit (.string x.fro)] := rfl
theorem linkC_s1 (x : Link) : ((linkC x).drop 1).take 1 = [.p (.lit (.string x.fro))] := rfl
theorem linkP_d2 (x : Link) : (linkP x).getD 2 default = .lit (.string x.til) := rfl
theorem linkC_d2 (x : Link) : (linkC x)[2]? = some (.p (.lit (.string x.til))) := rfl
theorem linkP_s2 (x : Link) : ((linkP x).drop 2).take 1 = [.lit (.string x.til)] := rfl
theorem linkC_s2 (x : Link) : ((linkC x).drop 2).take 1 = [.p (.lit (.string x.til))] := rfl
theorem linkP_d3 (x : Link) : (linkP x).getD 3 default = .lit (.int .i64 x.kind) := rfl
theorem linkC_d3 (x : Link) : (linkC x)[3]? = some (.p (.lit (.int .i64 x.kind))) := rfl
theorem linkP_s3 (x : Link) : ((linkP x).drop 3).take 1 = [.lit (.int .i64 x.kind)] := rfl
theorem linkC_s3 (x : Link) : ((linkC x).drop 3).take 1 = [.p (.lit (.int .i64 x.kind))] := rfl
theorem linkP_d4 (x : Link) : (linkP x).getD 4 default = .lit (.int .i64 x.length) := rfl
theorem linkC_d4 (x : Link) : (linkC x)[4]? = some (.p (.lit (.int .i64 x.length))) := rfl
theorem linkP_s4 (x : Link) : ((linkP x).drop 4).take 1 = [.lit (.int .i64 x.length)] := rfl
theorem linkC_s4 (x : Link) : ((linkC x).drop 4).take 1 = [.p (.lit (.int .i64 x.length))] := rfl
theorem linkP_d5 (x : Link) : (linkP x).getD 5 default = .lit (.int .i64 x.up) := rfl
theorem linkC_d5 (x : Link) : (linkC x)[5]? = some (.p (.lit (.int .i64 x.up))) := rfl
theorem linkP_s5 (x : Link) : ((linkP x).drop 5).take 1 = [.lit (.int .i64 x.up)] := rfl
theorem linkC_s5 (x : Link) : ((linkC x).drop 5).take 1 = [.p (.lit (.int .i64 x.up))] := rfl
theorem linkP_d6 (x : Link) : (linkP x).getD 6 default = .lit (.int .i64 x.down) := rfl
theorem linkC_d6 (x : Link) : (linkC x)[6]? = some (.p (.lit (.int .i64 x.down))) := rfl
theorem linkP_s6 (x : Link) : ((linkP x).drop 6).take 1 = [.lit (.int .i64 x.down)] := rfl
theorem linkC_s6 (x : Link) : ((linkC x).drop 6).take 1 = [.p (.lit (.int .i64 x.down))] := rfl
theorem linkP_d7 (x : Link) : (linkP x).getD 7 default = .lit (.string x.sect) := rfl
theorem linkC_d7 (x : Link) : (linkC x)[7]? = some (.p (.lit (.string x.sect))) := rfl
theorem linkP_s7 (x : Link) : ((linkP x).drop 7).take 1 = [.lit (.string x.sect)] := rfl
theorem linkC_s7 (x : Link) : ((linkC x).drop 7).take 1 = [.p (.lit (.string x.sect))] := rfl
theorem linkP_d8 (x : Link) : (linkP x).getD 8 default = .lit (.int .i64 x.width) := rfl
theorem linkC_d8 (x : Link) : (linkC x)[8]? = some (.p (.lit (.int .i64 x.width))) := rfl
theorem linkP_s8 (x : Link) : ((linkP x).drop 8).take 1 = [.lit (.int .i64 x.width)] := rfl
theorem linkC_s8 (x : Link) : ((linkC x).drop 8).take 1 = [.p (.lit (.int .i64 x.width))] := rfl
theorem linkP_d9 (x : Link) : (linkP x).getD 9 default = .lit (.int .i64 x.height) := rfl
theorem linkC_d9 (x : Link) : (linkC x)[9]? = some (.p (.lit (.int .i64 x.height))) := rfl
theorem linkP_s9 (x : Link) : ((linkP x).drop 9).take 1 = [.lit (.int .i64 x.height)] := rfl
theorem linkC_s9 (x : Link) : ((linkC x).drop 9).take 1 = [.p (.lit (.int .i64 x.height))] := rfl
theorem linkP_d10 (x : Link) : (linkP x).getD 10 default = .dat 2 (x.curve.map knotP) := rfl
theorem linkC_d10 (x : Link) : (linkC x)[10]? = some (.p (.dat 2 (x.curve.map knotP))) := rfl
theorem linkP_s10 (x : Link) : ((linkP x).drop 10).take 1 = [.dat 2 (x.curve.map knotP)] := rfl
theorem linkC_s10 (x : Link) : ((linkC x).drop 10).take 1 = [.p (.dat 2 (x.curve.map knotP))] := rfl
theorem linkC_ren (o n : Nat) (x : Link) : DV.renL o n (linkC x) = linkC x := rfl
theorem linkC_frz (o : Nat) (v : FV) (x : Link) : DV.frzL o v (linkC x) = linkC x := rfl
theorem linkC_mp (r : Nat → Nat) (x : Link) : DV.mpL r (linkC x) = linkC x := rfl
theorem linkC_uses (U : Nat → Prop) (x : Link) : DV.usesL U (linkC x) = True := by simp [linkC, DV.usesL, DV.uses]
attribute [push_cast] linkP_map linkP_len linkC_len linkP_take linkC_take linkC_all linkP_d0 linkC_d0 linkP_s0 linkC_s0 linkP_d1 linkC_d1 linkP_s1 linkC_s1 linkP_d2 linkC_d2 linkP_s2 linkC_s2 linkP_d3 linkC_d3 linkP_s3 linkC_s3 linkP_d4 linkC_d4 linkP_s4 linkC_s4 linkP_d5 linkC_d5 linkP_s5 linkC_s5 linkP_d6 linkC_d6 linkP_s6 linkC_s6 linkP_d7 linkC_d7 linkP_s7 linkC_s7 linkP_d8 linkC_d8 linkP_s8 linkC_s8 linkP_d9 linkC_d9 linkP_s9 linkC_s9 linkP_d10 linkC_d10 linkP_s10 linkC_s10 linkC_ren linkC_frz linkC_mp linkC_uses
def linkOk (x : Link) : Prop := x.name.size ≤ 281474976710656 ∧ x.fro.size ≤ 281474976710656 ∧ x.til.size ≤ 281474976710656 ∧ i64ok x.kind ∧ i64ok x.length ∧ i64ok x.up ∧ i64ok x.down ∧ x.sect.size ≤ 281474976710656 ∧ i64ok x.width ∧ i64ok x.height ∧ (x.curve.length ≤ 281474976710656 ∧ ∀ y, y ∈ x.curve → knotOk y)
structure Net where
  nodes : List Node
  links : List Link
instance : Inhabited Net := ⟨⟨default, default⟩⟩
theorem net_ext {x y : Net} (h : x.nodes = y.nodes ∧ x.links = y.links) : x = y := by
  cases x; cases y; simp_all
instance : DecidableEq Net := fun x y => decidable_of_iff (x.nodes = y.nodes ∧ x.links = y.links) ⟨net_ext, fun h => by subst h; simp⟩
def netP (x : Net) : List PV := [.dat 9 (x.nodes.map nodeP), .dat 11 (x.links.map linkP)]
def netC (x : Net) : List DV := [.p (.dat 9 (x.nodes.map nodeP)), .p (.dat 11 (x.links.map linkP))]
abbrev netD (x : Net) : DV := .agg (netC x)
theorem netP_map (x : Net) : (netP x).map DV.p = netC x := rfl
theorem netP_len (x : Net) : (netP x).length = 2 := rfl
theorem netC_len (x : Net) : (netC x).length = 2 := rfl
theorem netP_take (x : Net) : (netP x).take 2 = netP x := rfl
theorem netC_take (x : Net) : (netC x).take 2 = netC x := rfl
theorem netC_all (x : Net) : (netC x).all DV.cellB = true := rfl
theorem netP_d0 (x : Net) : (netP x).getD 0 default = .dat 9 (x.nodes.map nodeP) := rfl
theorem netC_d0 (x : Net) : (netC x)[0]? = some (.p (.dat 9 (x.nodes.map nodeP))) := rfl
theorem netP_s0 (x : Net) : (netP x).take 1 = [.dat 9 (x.nodes.map nodeP)] := rfl
theorem netC_s0 (x : Net) : (netC x).take 1 = [.p (.dat 9 (x.nodes.map nodeP))] := rfl
theorem netP_d1 (x : Net) : (netP x).getD 1 default = .dat 11 (x.links.map linkP) := rfl
theorem netC_d1 (x : Net) : (netC x)[1]? = some (.p (.dat 11 (x.links.map linkP))) := rfl
theorem netP_s1 (x : Net) : ((netP x).drop 1).take 1 = [.dat 11 (x.links.map linkP)] := rfl
theorem netC_s1 (x : Net) : ((netC x).drop 1).take 1 = [.p (.dat 11 (x.links.map linkP))] := rfl
theorem netC_ren (o n : Nat) (x : Net) : DV.renL o n (netC x) = netC x := rfl
theorem netC_frz (o : Nat) (v : FV) (x : Net) : DV.frzL o v (netC x) = netC x := rfl
theorem netC_mp (r : Nat → Nat) (x : Net) : DV.mpL r (netC x) = netC x := rfl
theorem netC_uses (U : Nat → Prop) (x : Net) : DV.usesL U (netC x) = True := by simp [netC, DV.usesL, DV.uses]
attribute [push_cast] netP_map netP_len netC_len netP_take netC_take netC_all netP_d0 netC_d0 netP_s0 netC_s0 netP_d1 netC_d1 netP_s1 netC_s1 netC_ren netC_frz netC_mp netC_uses
def netOk (x : Net) : Prop := (x.nodes.length ≤ 281474976710656 ∧ ∀ y, y ∈ x.nodes → nodeOk y) ∧ (x.links.length ≤ 281474976710656 ∧ ∀ y, y ∈ x.links → linkOk y)
structure Sta where
  vol : List Int
  pon : List Int
  set : List Int
  on : List Bool
instance : Inhabited Sta := ⟨⟨default, default, default, default⟩⟩
theorem sta_ext {x y : Sta} (h : x.vol = y.vol ∧ x.pon = y.pon ∧ x.set = y.set ∧ x.on = y.on) : x = y := by
  cases x; cases y; simp_all
instance : DecidableEq Sta := fun x y => decidable_of_iff (x.vol = y.vol ∧ x.pon = y.pon ∧ x.set = y.set ∧ x.on = y.on) ⟨sta_ext, fun h => by subst h; simp⟩
def staP (x : Sta) : List PV := [.dat 1 (x.vol.map inRow), .dat 1 (x.pon.map inRow), .dat 1 (x.set.map inRow), .dat 1 (x.on.map boRow)]
def staC (x : Sta) : List DV := [.p (.dat 1 (x.vol.map inRow)), .p (.dat 1 (x.pon.map inRow)), .p (.dat 1 (x.set.map inRow)), .p (.dat 1 (x.on.map boRow))]
abbrev staD (x : Sta) : DV := .agg (staC x)
theorem staP_map (x : Sta) : (staP x).map DV.p = staC x := rfl
theorem staP_len (x : Sta) : (staP x).length = 4 := rfl
theorem staC_len (x : Sta) : (staC x).length = 4 := rfl
theorem staP_take (x : Sta) : (staP x).take 4 = staP x := rfl
theorem staC_take (x : Sta) : (staC x).take 4 = staC x := rfl
theorem staC_all (x : Sta) : (staC x).all DV.cellB = true := rfl
theorem staP_d0 (x : Sta) : (staP x).getD 0 default = .dat 1 (x.vol.map inRow) := rfl
theorem staC_d0 (x : Sta) : (staC x)[0]? = some (.p (.dat 1 (x.vol.map inRow))) := rfl
theorem staP_s0 (x : Sta) : (staP x).take 1 = [.dat 1 (x.vol.map inRow)] := rfl
theorem staC_s0 (x : Sta) : (staC x).take 1 = [.p (.dat 1 (x.vol.map inRow))] := rfl
theorem staP_d1 (x : Sta) : (staP x).getD 1 default = .dat 1 (x.pon.map inRow) := rfl
theorem staC_d1 (x : Sta) : (staC x)[1]? = some (.p (.dat 1 (x.pon.map inRow))) := rfl
theorem staP_s1 (x : Sta) : ((staP x).drop 1).take 1 = [.dat 1 (x.pon.map inRow)] := rfl
theorem staC_s1 (x : Sta) : ((staC x).drop 1).take 1 = [.p (.dat 1 (x.pon.map inRow))] := rfl
theorem staP_d2 (x : Sta) : (staP x).getD 2 default = .dat 1 (x.set.map inRow) := rfl
theorem staC_d2 (x : Sta) : (staC x)[2]? = some (.p (.dat 1 (x.set.map inRow))) := rfl
theorem staP_s2 (x : Sta) : ((staP x).drop 2).take 1 = [.dat 1 (x.set.map inRow)] := rfl
theorem staC_s2 (x : Sta) : ((staC x).drop 2).take 1 = [.p (.dat 1 (x.set.map inRow))] := rfl
theorem staP_d3 (x : Sta) : (staP x).getD 3 default = .dat 1 (x.on.map boRow) := rfl
theorem staC_d3 (x : Sta) : (staC x)[3]? = some (.p (.dat 1 (x.on.map boRow))) := rfl
theorem staP_s3 (x : Sta) : ((staP x).drop 3).take 1 = [.dat 1 (x.on.map boRow)] := rfl
theorem staC_s3 (x : Sta) : ((staC x).drop 3).take 1 = [.p (.dat 1 (x.on.map boRow))] := rfl
theorem staC_ren (o n : Nat) (x : Sta) : DV.renL o n (staC x) = staC x := rfl
theorem staC_frz (o : Nat) (v : FV) (x : Sta) : DV.frzL o v (staC x) = staC x := rfl
theorem staC_mp (r : Nat → Nat) (x : Sta) : DV.mpL r (staC x) = staC x := rfl
theorem staC_uses (U : Nat → Prop) (x : Sta) : DV.usesL U (staC x) = True := by simp [staC, DV.usesL, DV.uses]
attribute [push_cast] staP_map staP_len staC_len staP_take staC_take staC_all staP_d0 staC_d0 staP_s0 staC_s0 staP_d1 staC_d1 staP_s1 staC_s1 staP_d2 staC_d2 staP_s2 staC_s2 staP_d3 staC_d3 staP_s3 staC_s3 staC_ren staC_frz staC_mp staC_uses
def staOk (x : Sta) : Prop := intsOk x.vol ∧ intsOk x.pon ∧ intsOk x.set ∧ x.on.length ≤ 281474976710656
structure Ledg where
  inn : Int
  out : Int
  passed : List Int
instance : Inhabited Ledg := ⟨⟨default, default, default⟩⟩
theorem ledg_ext {x y : Ledg} (h : x.inn = y.inn ∧ x.out = y.out ∧ x.passed = y.passed) : x = y := by
  cases x; cases y; simp_all
instance : DecidableEq Ledg := fun x y => decidable_of_iff (x.inn = y.inn ∧ x.out = y.out ∧ x.passed = y.passed) ⟨ledg_ext, fun h => by subst h; simp⟩
def ledgC (x : Ledg) : List DV := [.p (.lit (.int .i64 x.inn)), .p (.lit (.int .i64 x.out)), .p (.dat 1 (x.passed.map inRow))]
abbrev ledgD (x : Ledg) : DV := .agg (ledgC x)
theorem ledgC_len (x : Ledg) : (ledgC x).length = 3 := rfl
theorem ledgC_take (x : Ledg) : (ledgC x).take 3 = ledgC x := rfl
theorem ledgC_all (x : Ledg) : (ledgC x).all DV.cellB = true := rfl
theorem ledgC_d0 (x : Ledg) : (ledgC x)[0]? = some (.p (.lit (.int .i64 x.inn))) := rfl
theorem ledgC_s0 (x : Ledg) : (ledgC x).take 1 = [.p (.lit (.int .i64 x.inn))] := rfl
theorem ledgC_d1 (x : Ledg) : (ledgC x)[1]? = some (.p (.lit (.int .i64 x.out))) := rfl
theorem ledgC_s1 (x : Ledg) : ((ledgC x).drop 1).take 1 = [.p (.lit (.int .i64 x.out))] := rfl
theorem ledgC_d2 (x : Ledg) : (ledgC x)[2]? = some (.p (.dat 1 (x.passed.map inRow))) := rfl
theorem ledgC_s2 (x : Ledg) : ((ledgC x).drop 2).take 1 = [.p (.dat 1 (x.passed.map inRow))] := rfl
theorem ledgC_ren (o n : Nat) (x : Ledg) : DV.renL o n (ledgC x) = ledgC x := rfl
theorem ledgC_frz (o : Nat) (v : FV) (x : Ledg) : DV.frzL o v (ledgC x) = ledgC x := rfl
theorem ledgC_mp (r : Nat → Nat) (x : Ledg) : DV.mpL r (ledgC x) = ledgC x := rfl
theorem ledgC_uses (U : Nat → Prop) (x : Ledg) : DV.usesL U (ledgC x) = True := by simp [ledgC, DV.usesL, DV.uses]
attribute [push_cast] ledgC_len ledgC_take ledgC_all ledgC_d0 ledgC_s0 ledgC_d1 ledgC_s1 ledgC_d2 ledgC_s2 ledgC_ren ledgC_frz ledgC_mp ledgC_uses
end Go.Proofs.YthacnhidipeckaaGreat
