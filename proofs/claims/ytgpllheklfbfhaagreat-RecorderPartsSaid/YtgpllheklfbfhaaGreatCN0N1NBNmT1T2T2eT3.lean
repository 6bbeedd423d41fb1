/-
  Contracts of functions of the program, over the engine.
  No condition.
-/
import Derived.Test.YtgpllheklfbfhaaGreatTz
import Derived.Test.YtgpllheklfbfhaaGreatEngO
import Derived.Test.YtgpllheklfbfhaaGreatPl0
import Derived.Test.YtgpllheklfbfhaaGreatEngW
import Derived.Test.YtgpllheklfbfhaaGreatEngY
import Derived.Test.YtgpllheklfbfhaaGreatEngZ
namespace Go.Proofs.YtgpllheklfbfhaaGreat
open Go.Eng
set_option linter.all false
attribute [local irreducible] DCallsG SWp Fct CallQ XCallQ LCallQ XLCallQ drun xrun
set_option maxHeartbeats 64000000
abbrev Pu (g : FuncId) (a : List DV) (m : Nat) (d : DV) : Prop := DCalls Tryz.prog g a (hget []) m d (hget [])
theorem mixed : Tryz.prog.follows .mixedOrders = true := by kernel_rfl
instance : Mixed Tryz.prog := ⟨mixed⟩

def i64ok (n : Int) : Prop := -9223372036854775808 <= n /\ n <= 9223372036854775807
def intsOk (l : List Int) : Prop := l.length <= 281474976710656 /\ ∀ z, z ∈ l -> i64ok z
def boRow (b : Bool) : List PV := [.lit (.bool b)]
abbrev bools (l : List Bool) : DV := .p (.dat 1 (l.map boRow))
theorem getD_drop0 {α : Type} (l : List α) (k : Nat) (d : α) : (l.drop k).getD 0 d = l.getD k d := by simp [List.getD_eq_getElem?_getD]
def pairP (p : Int × Int) : List PV := [.lit (.int .i64 p.1), .lit (.int .i64 p.2)]
abbrev pairs (l : List (Int × Int)) : DV := .p (.dat 2 (l.map pairP))
theorem usesL_p (U : Nat -> Prop) (l : List PV) : DV.usesL U (l.map DV.p) = True := propext ⟨fun _ => trivial, fun _ => usesL_iff.2 fun d hd => by obtain ⟨x, _, rfl⟩ := List.mem_map.1 hd; exact trivial⟩
theorem mpL_p (r : Nat -> Nat) (l : List PV) : DV.mpL r (l.map DV.p) = l.map DV.p := by
  rw [mpL_eq, List.map_map]; exact List.map_congr_left fun x _ => rfl
theorem renL_p (o n : Nat) (l : List PV) : DV.renL o n (l.map DV.p) = l.map DV.p := by
  rw [renL_eq, List.map_map]; exact List.map_congr_left fun x _ => rfl
theorem lbC {x y : Bool} (h : x = y) : lb x = lb y := by rw [h]
def ilRow (l : List Int) : List PV := [.dat 1 (l.map inRow)]
abbrev intss (l : List (List Int)) : DV := .p (.dat 1 (l.map ilRow))
theorem getD_mem {α : Type} [Inhabited α] {l : List α} {i : Nat} (h : i < l.length) : l.getD i default ∈ l := by
  rw [List.getD_eq_getElem?_getD, List.getElem?_eq_getElem h]; exact List.getElem_mem h
attribute [push_cast] usesL_p mpL_p renL_p ilRow boRow pairP getD_drop0 List.drop_zero List.length_drop List.drop_drop
structure Knot where
  x : Int
  y : Int
instance : Inhabited Knot := ⟨⟨default, default⟩⟩
theorem knot_ext {x y : Knot} (h : x.x = y.x /\ x.y = y.y) : x = y := by
  cases x; cases y; simp_all
instance : DecidableEq Knot := fun x y => decidable_of_iff (x.x = y.x /\ x.y = y.y) ⟨knot_ext, fun h => by subst h; simp⟩
def knotP (x : Knot) : List PV := [.lit (.int .i64 x.x), .lit (.int .i64 x.y)]
def knotC (x : Knot) : List DV := [.p (.lit (.int .i64 x.x)), .p (.lit (.int .i64 x.y))]
abbrev knotD (x : Knot) : DV := .agg (knotC x)
abbrev knotL (l : List Knot) : DV := .p (.dat 2 (l.map knotP))
theorem knotP_map (x : Knot) : (knotP x).map DV.p = knotC x := rfl
theorem knotP_len (x : Knot) : (knotP x).length = 2 := rfl
theorem knotC_len (x : Knot) : (knotC x).length = 2 := rfl
theorem knotP_take (x : Knot) : (knotP x).take 2 = knotP x := rfl
theorem knotC_take (x : Knot) : (knotC x).take 2 = knotC x := rfl
theorem knotC_all (x : Knot) : (knotC x).all DV.cellB = true := rfl
theorem knotP_d0 (x : Knot) : (knotP x).getD 0 default = .lit (.int .i64 x.x) := rfl
theorem knotC_d0 (x : Knot) : (knotC x)[0]? = some (.p (.lit (.int .i64 x.x))) := rfl
theorem knotP_s0 (x : Knot) : (knotP x).take 1 = [.lit (.int .i64 x.x)] := rfl
theorem knotC_s0 (x : Knot) : (knotC x).take 1 = [.p (.lit (.int .i64 x.x))] := rfl
theorem knotP_d1 (x : Knot) : (knotP x).getD 1 default = .lit (.int .i64 x.y) := rfl
theorem knotC_d1 (x : Knot) : (knotC x)[1]? = some (.p (.lit (.int .i64 x.y))) := rfl
theorem knotP_s1 (x : Knot) : ((knotP x).drop 1).take 1 = [.lit (.int .i64 x.y)] := rfl
theorem knotC_s1 (x : Knot) : ((knotC x).drop 1).take 1 = [.p (.lit (.int .i64 x.y))] := rfl
theorem knotC_ren (o n : Nat) (x : Knot) : DV.renL o n (knotC x) = knotC x := rfl
theorem knotC_frz (o : Nat) (v : FV) (x : Knot) : DV.frzL o v (knotC x) = knotC x := rfl
theorem knotC_mp (r : Nat -> Nat) (x : Knot) : DV.mpL r (knotC x) = knotC x := rfl
theorem knotC_uses (U : Nat -> Prop) (x : Knot) : DV.usesL U (knotC x) = True := by simp [knotC, DV.usesL, DV.uses]
attribute [push_cast] knotP_map knotP_len knotC_len knotP_take knotC_take knotC_all knotP_d0 knotC_d0 knotP_s0 knotC_s0 knotP_d1 knotC_d1 knotP_s1 knotC_s1 knotC_ren knotC_frz knotC_mp knotC_uses
def knotOk (x : Knot) : Prop := i64ok x.x /\ i64ok x.y
structure Point where
  x : Int
  y : Int
instance : Inhabited Point := ⟨⟨default, default⟩⟩
theorem point_ext {x y : Point} (h : x.x = y.x /\ x.y = y.y) : x = y := by
  cases x; cases y; simp_all
instance : DecidableEq Point := fun x y => decidable_of_iff (x.x = y.x /\ x.y = y.y) ⟨point_ext, fun h => by subst h; simp⟩
def pointP (x : Point) : List PV := [.lit (.int .i64 x.x), .lit (.int .i64 x.y)]
theorem pointP_len (x : Point) : (pointP x).length = 2 := rfl
theorem pointP_take (x : Point) : (pointP x).take 2 = pointP x := rfl
theorem pointP_d0 (x : Point) : (pointP x).getD 0 default = .lit (.int .i64 x.x) := rfl
theorem pointP_s0 (x : Point) : (pointP x).take 1 = [.lit (.int .i64 x.x)] := rfl
theorem pointP_d1 (x : Point) : (pointP x).getD 1 default = .lit (.int .i64 x.y) := rfl
theorem pointP_s1 (x : Point) : ((pointP x).drop 1).take 1 = [.lit (.int .i64 x.y)] := rfl
attribute [push_cast] pointP_len pointP_take pointP_d0 pointP_s0 pointP_d1 pointP_s1
def pointOk (x : Point) : Prop := i64ok x.x /\ i64ok x.y
structure Node where
  name : ByteArray
  kind : Int
  pos : Point
  inv : Int
  gnd : Int
  shape : List Knot
  prot : Bool
  res : Int
instance : Inhabited Node := ⟨⟨default, default, default, default, default, default, default, default⟩⟩
theorem node_ext {x y : Node} (h : x.name = y.name /\ x.kind = y.kind /\ x.pos = y.pos /\ x.inv = y.inv /\ x.gnd = y.gnd /\ x.shape = y.shape /\ x.prot = y.prot /\ x.res = y.res) : x = y := by
  cases x; cases y; simp_all
instance : DecidableEq Node := fun x y => decidable_of_iff (x.name = y.name /\ x.kind = y.kind /\ x.pos = y.pos /\ x.inv = y.inv /\ x.gnd = y.gnd /\ x.shape = y.shape /\ x.prot = y.prot /\ x.res = y.res) ⟨node_ext, fun h => by subst h; simp⟩
def nodeP (x : Node) : List PV := [.lit (.string x.name), .lit (.int .i64 x.kind), .lit (.int .i64 x.pos.x), .lit (.int .i64 x.pos.y), .lit (.int .i64 x.inv), .lit (.int .i64 x.gnd), .dat 2 (x.shape.map knotP), .lit (.bool x.prot), .lit (.int .i64 x.res)]
def nodeC (x : Node) : List DV := [.p (.lit (.string x.name)), .p (.lit (.int .i64 x.kind)), .p (.lit (.int .i64 x.pos.x)), .p (.lit (.int .i64 x.pos.y)), .p (.lit (.int .i64 x.inv)), .p (.lit (.int .i64 x.gnd)), .p (.dat 2 (x.shape.map knotP)), .p (.lit (.bool x.prot)), .p (.lit (.int .i64 x.res))]
abbrev nodeD (x : Node) : DV := .agg (nodeC x)
abbrev nodeL (l : List Node) : DV := .p (.dat 9 (l.map nodeP))
theorem nodeP_map (x : Node) : (nodeP x).map DV.p = nodeC x := rfl
theorem nodeP_len (x : Node) : (nodeP x).length = 9 := rfl
theorem nodeC_len (x : Node) : (nodeC x).length = 9 := rfl
theorem nodeP_take (x : Node) : (nodeP x).take 9 = nodeP x := rfl
theorem nodeC_take (x : Node) : (nodeC x).take 9 = nodeC x := rfl
theorem nodeC_all (x : Node) : (nodeC x).all DV.cellB = true := rfl
theorem nodeP_d0 (x : Node) : (nodeP x).getD 0 default = .lit (.string x.name) := rfl
theorem nodeC_d0 (x : Node) : (nodeC x)[0]? = some (.p (.lit (.string x.name))) := rfl
theorem nodeP_s0 (x : Node) : (nodeP x).take 1 = [.lit (.string x.name)] := rfl
theorem nodeC_s0 (x : Node) : (nodeC x).take 1 = [.p (.lit (.string x.name))] := rfl
theorem nodeP_d1 (x : Node) : (nodeP x).getD 1 default = .lit (.int .i64 x.kind) := rfl
theorem nodeC_d1 (x : Node) : (nodeC x)[1]? = some (.p (.lit (.int .i64 x.kind))) := rfl
theorem nodeP_s1 (x : Node) : ((nodeP x).drop 1).take 1 = [.lit (.int .i64 x.kind)] := rfl
theorem nodeC_s1 (x : Node) : ((nodeC x).drop 1).take 1 = [.p (.lit (.int .i64 x.kind))] := rfl
theorem nodeP_d2 (x : Node) : (nodeP x).getD 2 default = .lit (.int .i64 x.pos.x) := rfl
theorem nodeC_d2 (x : Node) : (nodeC x)[2]? = some (.p (.lit (.int .i64 x.pos.x))) := rfl
theorem nodeP_s2 (x : Node) : ((nodeP x).drop 2).take 1 = [.lit (.int .i64 x.pos.x)] := rfl
theorem nodeC_s2 (x : Node) : ((nodeC x).drop 2).take 1 = [.p (.lit (.int .i64 x.pos.x))] := rfl
theorem nodeP_d3 (x : Node) : (nodeP x).getD 3 default = .lit (.int .i64 x.pos.y) := rfl
theorem nodeC_d3 (x : Node) : (nodeC x)[3]? = some (.p (.lit (.int .i64 x.pos.y))) := rfl
theorem nodeP_s3 (x : Node) : ((nodeP x).drop 3).take 1 = [.lit (.int .i64 x.pos.y)] := rfl
theorem nodeC_s3 (x : Node) : ((nodeC x).drop 3).take 1 = [.p (.lit (.int .i64 x.pos.y))] := rfl
theorem nodeP_d4 (x : Node) : (nodeP x).getD 4 default = .lit (.int .i64 x.inv) := rfl
theorem nodeC_d4 (x : Node) : (nodeC x)[4]? = some (.p (.lit (.int .i64 x.inv))) := rfl
theorem nodeP_s4 (x : Node) : ((nodeP x).drop 4).take 1 = [.lit (.int .i64 x.inv)] := rfl
theorem nodeC_s4 (x : Node) : ((nodeC x).drop 4).take 1 = [.p (.lit (.int .i64 x.inv))] := rfl
theorem nodeP_d5 (x : Node) : (nodeP x).getD 5 default = .lit (.int .i64 x.gnd) := rfl
theorem nodeC_d5 (x : Node) : (nodeC x)[5]? = some (.p (.lit (.int .i64 x.gnd))) := rfl
theorem nodeP_s5 (x : Node) : ((nodeP x).drop 5).take 1 = [.lit (.int .i64 x.gnd)] := rfl
theorem nodeC_s5 (x : Node) : ((nodeC x).drop 5).take 1 = [.p (.lit (.int .i64 x.gnd))] := rfl
theorem nodeP_d6 (x : Node) : (nodeP x).getD 6 default = .dat 2 (x.shape.map knotP) := rfl
theorem nodeC_d6 (x : Node) : (nodeC x)[6]? = some (.p (.dat 2 (x.shape.map knotP))) := rfl
theorem nodeP_s6 (x : Node) : ((nodeP x).drop 6).take 1 = [.dat 2 (x.shape.map knotP)] := rfl
theorem nodeC_s6 (x : Node) : ((nodeC x).drop 6).take 1 = [.p (.dat 2 (x.shape.map knotP))] := rfl
theorem nodeP_d7 (x : Node) : (nodeP x).getD 7 default = .lit (.bool x.prot) := rfl
theorem nodeC_d7 (x : Node) : (nodeC x)[7]? = some (.p (.lit (.bool x.prot))) := rfl
theorem nodeP_s7 (x : Node) : ((nodeP x).drop 7).take 1 = [.lit (.bool x.prot)] := rfl
theorem nodeC_s7 (x : Node) : ((nodeC x).drop 7).take 1 = [.p (.lit (.bool x.prot))] := rfl
theorem nodeP_d8 (x : Node) : (nodeP x).getD 8 default = .lit (.int .i64 x.res) := rfl
theorem nodeC_d8 (x : Node) : (nodeC x)[8]? = some (.p (.lit (.int .i64 x.res))) := rfl
theorem nodeP_s8 (x : Node) : ((nodeP x).drop 8).take 1 = [.lit (.int .i64 x.res)] := rfl
theorem nodeC_s8 (x : Node) : ((nodeC x).drop 8).take 1 = [.p (.lit (.int .i64 x.res))] := rfl
theorem nodeP_t2 (x : Node) : ((nodeP x).drop 2).take 2 = pointP x.pos := rfl
theorem nodeC_ren (o n : Nat) (x : Node) : DV.renL o n (nodeC x) = nodeC x := rfl
theorem nodeC_frz (o : Nat) (v : FV) (x : Node) : DV.frzL o v (nodeC x) = nodeC x := rfl
theorem nodeC_mp (r : Nat -> Nat) (x : Node) : DV.mpL r (nodeC x) = nodeC x := rfl
theorem nodeC_uses (U : Nat -> Prop) (x : Node) : DV.usesL U (nodeC x) = True := by simp [nodeC, DV.usesL, DV.uses]
attribute [push_cast] nodeP_map nodeP_len nodeC_len nodeP_take nodeC_take nodeC_all nodeP_d0 nodeC_d0 nodeP_s0 nodeC_s0 nodeP_d1 nodeC_d1 nodeP_s1 nodeC_s1 nodeP_d2 nodeC_d2 nodeP_s2 nodeC_s2 nodeP_d3 nodeC_d3 nodeP_s3 nodeC_s3 nodeP_d4 nodeC_d4 nodeP_s4 nodeC_s4 nodeP_d5 nodeC_d5 nodeP_s5 nodeC_s5 nodeP_d6 nodeC_d6 nodeP_s6 nodeC_s6 nodeP_d7 nodeC_d7 nodeP_s7 nodeC_s7 nodeP_d8 nodeC_d8 nodeP_s8 nodeC_s8 nodeP_t2 nodeC_ren nodeC_frz nodeC_mp nodeC_uses
def nodeOk (x : Node) : Prop := x.name.size <= 281474976710656 /\ i64ok x.kind /\ pointOk x.pos /\ i64ok x.inv /\ i64ok x.gnd /\ (x.shape.length <= 281474976710656 /\ ∀ y, y ∈ x.shape -> knotOk y) /\ i64ok x.res
structure Link where
  name : ByteArray
  fro : ByteArray
  til : ByteArray
  kind : Int
  length : Int
  up : Int
  down : Int
  sect : ByteArray
  width : Int
  height : Int
  curve : List Knot
instance : Inhabited Link := ⟨⟨default, default, default, default, default, default, default, default, default, default, default⟩⟩
theorem link_ext {x y : Link} (h : x.name = y.name /\ x.fro = y.fro /\ x.til = y.til /\ x.kind = y.kind /\ x.length = y.length /\ x.up = y.up /\ x.down = y.down /\ x.sect = y.sect /\ x.width = y.width /\ x.height = y.height /\ x.curve = y.curve) : x = y := by
  cases x; cases y; simp_all
instance : DecidableEq Link := fun x y => decidable_of_iff (x.name = y.name /\ x.fro = y.fro /\ x.til = y.til /\ x.kind = y.kind /\ x.length = y.length /\ x.up = y.up /\ x.down = y.down /\ x.sect = y.sect /\ x.width = y.width /\ x.height = y.height /\ x.curve = y.curve) ⟨link_ext, fun h => by subst h; simp⟩
def linkP (x : Link) : List PV := [.lit (.string x.name), .lit (.string x.fro), .lit (.string x.til), .lit (.int .i64 x.kind), .lit (.int .i64 x.length), .lit (.int .i64 x.up), .lit (.int .i64 x.down), .lit (.string x.sect), .lit (.int .i64 x.width), .lit (.int .i64 x.height), .dat 2 (x.curve.map knotP)]
def linkC (x : Link) : List DV := [.p (.lit (.string x.name)), .p (.lit (.string x.fro)), .p (.lit (.string x.til)), .p (.lit (.int .i64 x.kind)), .p (.lit (.int .i64 x.length)), .p (.lit (.int .i64 x.up)), .p (.lit (.int .i64 x.down)), .p (.lit (.string x.sect)), .p (.lit (.int .i64 x.width)), .p (.lit (.int .i64 x.height)), .p (.dat 2 (x.curve.map knotP))]
abbrev linkD (x : Link) : DV := .agg (linkC x)
abbrev linkL (l : List Link) : DV := .p (.dat 11 (l.map linkP))
theorem linkP_map (x : Link) : (linkP x).map DV.p = linkC x := rfl
theorem linkP_len (x : Link) : (linkP x).length = 11 := rfl
theorem linkC_len (x : Link) : (linkC x).length = 11 := rfl
theorem linkP_take (x : Link) : (linkP x).take 11 = linkP x := rfl
theorem linkC_take (x : Link) : (linkC x).take 11 = linkC x := rfl
theorem linkC_all (x : Link) : (linkC x).all DV.cellB = true := rfl
theorem linkP_d0 (x : Link) : (linkP x).getD 0 default = .lit (.string x.name) := rfl
theorem linkC_d0 (x : Link) : (linkC x)[0]? = some (.p (.lit (.string x.name))) := rfl
theorem linkP_s0 (x : Link) : (linkP x).take 1 = [.lit (.string x.name)] := rfl
theorem linkC_s0 (x : Link) : (linkC x).take 1 = [.p (.lit (.string x.name))] := rfl
theorem linkP_d1 (x : Link) : (linkP x).getD 1 default = .lit (.string x.fro) := rfl
theorem linkC_d1 (x : Link) : (linkC x)[1]? = some (.p (.lit (.string x.fro))) := rfl
theorem linkP_s1 (x : Link) : ((linkP x).drop 1).take 1 = [.lit (.string x.fro)] := rfl
theorem linkC_s1 (x : Link) : ((linkC x).drop 1).take 1 = [.p (.lit (.string x.fro))] := rfl
theorem linkP_d2 (x : Link) : (linkP x).getD 2 default = .lit (.string x.til) := rfl
theorem linkC_d2 (x : Link) : (linkC x)[2]? = some (.p (.lit (.string x.til))) := rfl
theorem linkP_s2 (x : Link) : ((linkP x).drop 2).take 1 = [.lit (.string x.til)] := rfl
theorem linkC_s2 (x : Link) : ((linkC x).drop 2).take 1 = [.p (.lit (.string x.til))] := rfl
theorem linkP_d3 (x : Link) : (linkP x).getD 3 default = .lit (.int .i64 x.kind) := rfl
theorem linkC_d3 (x : Link) : (linkC x)[3]? = some (.p (.lit (.int .i64 x.kind))) := rfl
theorem linkP_s3 (x : Link) : ((linkP x).drop 3).take 1 = [.lit (.int .i64 x.kind)] := rfl
theorem linkC_s3 (x : Link) : ((linkC x).drop 3).take 1 = [.p (.lit (.int .i64 x.kind))] := rfl
theorem linkP_d4 (x : Link) : (linkP x).getD 4 default = .lit (.int .i64 x.length) := rfl
theorem linkC_d4 (x : Link) : (linkC x)[4]? = some (.p (.lit (.int .i64 x.length))) := rfl
theorem linkP_s4 (x : Link) : ((linkP x).drop 4).take 1 = [.lit (.int .i64 x.length)] := rfl
theorem linkC_s4 (x : Link) : ((linkC x).drop 4).take 1 = [.p (.lit (.int .i64 x.length))] := rfl
theorem linkP_d5 (x : Link) : (linkP x).getD 5 default = .lit (.int .i64 x.up) := rfl
theorem linkC_d5 (x : Link) : (linkC x)[5]? = some (.p (.lit (.int .i64 x.up))) := rfl
theorem linkP_s5 (x : Link) : ((linkP x).drop 5).take 1 = [.lit (.int .i64 x.up)] := rfl
theorem linkC_s5 (x : Link) : ((linkC x).drop 5).take 1 = [.p (.lit (.int .i64 x.up))] := rfl
theorem linkP_d6 (x : Link) : (linkP x).getD 6 default = .lit (.int .i64 x.down) := rfl
theorem linkC_d6 (x : Link) : (linkC x)[6]? = some (.p (.lit (.int .i64 x.down))) := rfl
theorem linkP_s6 (x : Link) : ((linkP x).drop 6).take 1 = [.lit (.int .i64 x.down)] := rfl
theorem linkC_s6 (x : Link) : ((linkC x).drop 6).take 1 = [.p (.lit (.int .i64 x.down))] := rfl
theorem linkP_d7 (x : Link) : (linkP x).getD 7 default = .lit (.string x.sect) := rfl
theorem linkC_d7 (x : Link) : (linkC x)[7]? = some (.p (.lit (.string x.sect))) := rfl
theorem linkP_s7 (x : Link) : ((linkP x).drop 7).take 1 = [.lit (.string x.sect)] := rfl
theorem linkC_s7 (x : Link) : ((linkC x).drop 7).take 1 = [.p (.lit (.string x.sect))] := rfl
theorem linkP_d8 (x : Link) : (linkP x).getD 8 default = .lit (.int .i64 x.width) := rfl
theorem linkC_d8 (x : Link) : (linkC x)[8]? = some (.p (.lit (.int .i64 x.width))) := rfl
theorem linkP_s8 (x : Link) : ((linkP x).drop 8).take 1 = [.lit (.int .i64 x.width)] := rfl
theorem linkC_s8 (x : Link) : ((linkC x).drop 8).take 1 = [.p (.lit (.int .i64 x.width))] := rfl
theorem linkP_d9 (x : Link) : (linkP x).getD 9 default = .lit (.int .i64 x.height) := rfl
theorem linkC_d9 (x : Link) : (linkC x)[9]? = some (.p (.lit (.int .i64 x.height))) := rfl
theorem linkP_s9 (x : Link) : ((linkP x).drop 9).take 1 = [.lit (.int .i64 x.height)] := rfl
theorem linkC_s9 (x : Link) : ((linkC x).drop 9).take 1 = [.p (.lit (.int .i64 x.height))] := rfl
theorem linkP_d10 (x : Link) : (linkP x).getD 10 default = .dat 2 (x.curve.map knotP) := rfl
theorem linkC_d10 (x : Link) : (linkC x)[10]? = some (.p (.dat 2 (x.curve.map knotP))) := rfl
theorem linkP_s10 (x : Link) : ((linkP x).drop 10).take 1 = [.dat 2 (x.curve.map knotP)] := rfl
theorem linkC_s10 (x : Link) : ((linkC x).drop 10).take 1 = [.p (.dat 2 (x.curve.map knotP))] := rfl
theorem linkC_ren (o n : Nat) (x : Link) : DV.renL o n (linkC x) = linkC x := rfl
theorem linkC_frz (o : Nat) (v : FV) (x : Link) : DV.frzL o v (linkC x) = linkC x := rfl
theorem linkC_mp (r : Nat -> Nat) (x : Link) : DV.mpL r (linkC x) = linkC x := rfl
theorem linkC_uses (U : Nat -> Prop) (x : Link) : DV.usesL U (linkC x) = True := by simp [linkC, DV.usesL, DV.uses]
attribute [push_cast] linkP_map linkP_len linkC_len linkP_take linkC_take linkC_all linkP_d0 linkC_d0 linkP_s0 linkC_s0 linkP_d1 linkC_d1 linkP_s1 linkC_s1 linkP_d2 linkC_d2 linkP_s2 linkC_s2 linkP_d3 linkC_d3 linkP_s3 linkC_s3 linkP_d4 linkC_d4 linkP_s4 linkC_s4 linkP_d5 linkC_d5 linkP_s5 linkC_s5 linkP_d6 linkC_d6 linkP_s6 linkC_s6 linkP_d7 linkC_d7 linkP_s7 linkC_s7 linkP_d8 linkC_d8 linkP_s8 linkC_s8 linkP_d9 linkC_d9 linkP_s9 linkC_s9 linkP_d10 linkC_d10 linkP_s10 linkC_s10 linkC_ren linkC_frz linkC_mp linkC_uses
def linkOk (x : Link) : Prop := x.name.size <= 281474976710656 /\ x.fro.size <= 281474976710656 /\ x.til.size <= 281474976710656 /\ i64ok x.kind /\ i64ok x.length /\ i64ok x.up /\ i64ok x.down /\ x.sect.size <= 281474976710656 /\ i64ok x.width /\ i64ok x.height /\ (x.curve.length <= 281474976710656 /\ ∀ y, y ∈ x.curve -> knotOk y)
structure Net where
  nodes : List Node
  links : List Link
instance : Inhabited Net := ⟨⟨default, default⟩⟩
theorem net_ext {x y : Net} (h : x.nodes = y.nodes /\ x.links = y.links) : x = y := by
  cases x; cases y; simp_all
instance : DecidableEq Net := fun x y => decidable_of_iff (x.nodes = y.nodes /\ x.links = y.links) ⟨net_ext, fun h => by subst h; simp⟩
def netP (x : Net) : List PV := [.dat 9 (x.nodes.map nodeP), .dat 11 (x.links.map linkP)]
def netC (x : Net) : List DV := [.p (.dat 9 (x.nodes.map nodeP)), .p (.dat 11 (x.links.map linkP))]
abbrev netD (x : Net) : DV := .agg (netC x)
theorem netP_map (x : Net) : (netP x).map DV.p = netC x := rfl
theorem netP_len (x : Net) : (netP x).length = 2 := rfl
theorem netC_len (x : Net) : (netC x).length = 2 := rfl
theorem netP_take (x : Net) : (netP x).take 2 = netP x := rfl
theorem netC_take (x : Net) : (netC x).take 2 = netC x := rfl
theorem netC_all (x : Net) : (netC x).all DV.cellB = true := rfl
theorem netP_d0 (x : Net) : (netP x).getD 0 default = .dat 9 (x.nodes.map nodeP) := rfl
theorem netC_d0 (x : Net) : (netC x)[0]? = some (.p (.dat 9 (x.nodes.map nodeP))) := rfl
theorem netP_s0 (x : Net) : (netP x).take 1 = [.dat 9 (x.nodes.map nodeP)] := rfl
theorem netC_s0 (x : Net) : (netC x).take 1 = [.p (.dat 9 (x.nodes.map nodeP))] := rfl
theorem netP_d1 (x : Net) : (netP x).getD 1 default = .dat 11 (x.links.map linkP) := rfl
theorem netC_d1 (x : Net) : (netC x)[1]? = some (.p (.dat 11 (x.links.map linkP))) := rfl
theorem netP_s1 (x : Net) : ((netP x).drop 1).take 1 = [.dat 11 (x.links.map linkP)] := rfl
theorem netC_s1 (x : Net) : ((netC x).drop 1).take 1 = [.p (.dat 11 (x.links.map linkP))] := rfl
theorem netC_ren (o n : Nat) (x : Net) : DV.renL o n (netC x) = netC x := rfl
theorem netC_frz (o : Nat) (v : FV) (x : Net) : DV.frzL o v (netC x) = netC x := rfl
theorem netC_mp (r : Nat -> Nat) (x : Net) : DV.mpL r (netC x) = netC x := rfl
theorem netC_uses (U : Nat -> Prop) (x : Net) : DV.usesL U (netC x) = True := by simp [netC, DV.usesL, DV.uses]
attribute [push_cast] netP_map netP_len netC_len netP_take netC_take netC_all netP_d0 netC_d0 netP_s0 netC_s0 netP_d1 netC_d1 netP_s1 netC_s1 netC_ren netC_frz netC_mp netC_uses
def netOk (x : Net) : Prop := (x.nodes.length <= 281474976710656 /\ ∀ y, y ∈ x.nodes -> nodeOk y) /\ (x.links.length <= 281474976710656 /\ ∀ y, y ∈ x.links -> linkOk y)
structure Sta where
  vol : List Int
  pon : List Int
  set : List Int
  on : List Bool
instance : Inhabited Sta := ⟨⟨default, default, default, default⟩⟩
theorem sta_ext {x y : Sta} (h : x.vol = y.vol /\ x.pon = y.pon /\ x.set = y.set /\ x.on = y.on) : x = y := by
  cases x; cases y; simp_all
instance : DecidableEq Sta := fun x y => decidable_of_iff (x.vol = y.vol /\ x.pon = y.pon /\ x.set = y.set /\ x.on = y.on) ⟨sta_ext, fun h => by subst h; simp⟩
def staP (x : Sta) : List PV := [.dat 1 (x.vol.map inRow), .dat 1 (x.pon.map inRow), .dat 1 (x.set.map inRow), .dat 1 (x.on.map boRow)]
def staC (x : Sta) : List DV := [.p (.dat 1 (x.vol.map inRow)), .p (.dat 1 (x.pon.map inRow)), .p (.dat 1 (x.set.map inRow)), .p (.dat 1 (x.on.map boRow))]
abbrev staD (x : Sta) : DV := .agg (staC x)
abbrev staL (l : List Sta) : DV := .p (.dat 4 (l.map staP))
theorem staP_map (x : Sta) : (staP x).map DV.p = staC x := rfl
theorem staP_len (x : Sta) : (staP x).length = 4 := rfl
theorem staC_len (x : Sta) : (staC x).length = 4 := rfl
theorem staP_take (x : Sta) : (staP x).take 4 = staP x := rfl
theorem staC_take (x : Sta) : (staC x).take 4 = staC x := rfl
theorem staC_all (x : Sta) : (staC x).all DV.cellB = true := rfl
theorem staP_d0 (x : Sta) : (staP x).getD 0 default = .dat 1 (x.vol.map inRow) := rfl
theorem staC_d0 (x : Sta) : (staC x)[0]? = some (.p (.dat 1 (x.vol.map inRow))) := rfl
theorem staP_s0 (x : Sta) : (staP x).take 1 = [.dat 1 (x.vol.map inRow)] := rfl
theorem staC_s0 (x : Sta) : (staC x).take 1 = [.p (.dat 1 (x.vol.map inRow))] := rfl
theorem staP_d1 (x : Sta) : (staP x).getD 1 default = .dat 1 (x.pon.map inRow) := rfl
theorem staC_d1 (x : Sta) : (staC x)[1]? = some (.p (.dat 1 (x.pon.map inRow))) := rfl
theorem staP_s1 (x : Sta) : ((staP x).drop 1).take 1 = [.dat 1 (x.pon.map inRow)] := rfl
theorem staC_s1 (x : Sta) : ((staC x).drop 1).take 1 = [.p (.dat 1 (x.pon.map inRow))] := rfl
theorem staP_d2 (x : Sta) : (staP x).getD 2 default = .dat 1 (x.set.map inRow) := rfl
theorem staC_d2 (x : Sta) : (staC x)[2]? = some (.p (.dat 1 (x.set.map inRow))) := rfl
theorem staP_s2 (x : Sta) : ((staP x).drop 2).take 1 = [.dat 1 (x.set.map inRow)] := rfl
theorem staC_s2 (x : Sta) : ((staC x).drop 2).take 1 = [.p (.dat 1 (x.set.map inRow))] := rfl
theorem staP_d3 (x : Sta) : (staP x).getD 3 default = .dat 1 (x.on.map boRow) := rfl
theorem staC_d3 (x : Sta) : (staC x)[3]? = some (.p (.dat 1 (x.on.map boRow))) := rfl
theorem staP_s3 (x : Sta) : ((staP x).drop 3).take 1 = [.dat 1 (x.on.map boRow)] := rfl
theorem staC_s3 (x : Sta) : ((staC x).drop 3).take 1 = [.p (.dat 1 (x.on.map boRow))] := rfl
theorem staC_ren (o n : Nat) (x : Sta) : DV.renL o n (staC x) = staC x := rfl
theorem staC_frz (o : Nat) (v : FV) (x : Sta) : DV.frzL o v (staC x) = staC x := rfl
theorem staC_mp (r : Nat -> Nat) (x : Sta) : DV.mpL r (staC x) = staC x := rfl
theorem staC_uses (U : Nat -> Prop) (x : Sta) : DV.usesL U (staC x) = True := by simp [staC, DV.usesL, DV.uses]
attribute [push_cast] staP_map staP_len staC_len staP_take staC_take staC_all staP_d0 staC_d0 staP_s0 staC_s0 staP_d1 staC_d1 staP_s1 staC_s1 staP_d2 staC_d2 staP_s2 staC_s2 staP_d3 staC_d3 staP_s3 staC_s3 staC_ren staC_frz staC_mp staC_uses
def staOk (x : Sta) : Prop := intsOk x.vol /\ intsOk x.pon /\ intsOk x.set /\ x.on.length <= 281474976710656
structure Ledg where
  inn : Int
  out : Int
  passed : List Int
instance : Inhabited Ledg := ⟨⟨default, default, default⟩⟩
theorem ledg_ext {x y : Ledg} (h : x.inn = y.inn /\ x.out = y.out /\ x.passed = y.passed) : x = y := by
  cases x; cases y; simp_all
instance : DecidableEq Ledg := fun x y => decidable_of_iff (x.inn = y.inn /\ x.out = y.out /\ x.passed = y.passed) ⟨ledg_ext, fun h => by subst h; simp⟩
def ledgC (x : Ledg) : List DV := [.p (.lit (.int .i64 x.inn)), .p (.lit (.int .i64 x.out)), .p (.dat 1 (x.passed.map inRow))]
abbrev ledgD (x : Ledg) : DV := .agg (ledgC x)
theorem ledgC_len (x : Ledg) : (ledgC x).length = 3 := rfl
theorem ledgC_take (x : Ledg) : (ledgC x).take 3 = ledgC x := rfl
theorem ledgC_all (x : Ledg) : (ledgC x).all DV.cellB = true := rfl
theorem ledgC_d0 (x : Ledg) : (ledgC x)[0]? = some (.p (.lit (.int .i64 x.inn))) := rfl
theorem ledgC_s0 (x : Ledg) : (ledgC x).take 1 = [.p (.lit (.int .i64 x.inn))] := rfl
theorem ledgC_d1 (x : Ledg) : (ledgC x)[1]? = some (.p (.lit (.int .i64 x.out))) := rfl
theorem ledgC_s1 (x : Ledg) : ((ledgC x).drop 1).take 1 = [.p (.lit (.int .i64 x.out))] := rfl
theorem ledgC_d2 (x : Ledg) : (ledgC x)[2]? = some (.p (.dat 1 (x.passed.map inRow))) := rfl
theorem ledgC_s2 (x : Ledg) : ((ledgC x).drop 2).take 1 = [.p (.dat 1 (x.passed.map inRow))] := rfl
theorem ledgC_ren (o n : Nat) (x : Ledg) : DV.renL o n (ledgC x) = ledgC x := rfl
theorem ledgC_frz (o : Nat) (v : FV) (x : Ledg) : DV.frzL o v (ledgC x) = ledgC x := rfl
theorem ledgC_mp (r : Nat -> Nat) (x : Ledg) : DV.mpL r (ledgC x) = ledgC x := rfl
theorem ledgC_uses (U : Nat -> Prop) (x : Ledg) : DV.usesL U (ledgC x) = True := by simp [ledgC, DV.usesL, DV.uses]
attribute [push_cast] ledgC_len ledgC_take ledgC_all ledgC_d0 ledgC_s0 ledgC_d1 ledgC_s1 ledgC_d2 ledgC_s2 ledgC_ren ledgC_frz ledgC_mp ledgC_uses
structure Sect where
  name : ByteArray
  height : Int
  price : Int
  area : List Knot
  conv : List Knot
instance : Inhabited Sect := ⟨⟨default, default, default, default, default⟩⟩
theorem sect_ext {x y : Sect} (h : x.name = y.name /\ x.height = y.height /\ x.price = y.price /\ x.area = y.area /\ x.conv = y.conv) : x = y := by
  cases x; cases y; simp_all
instance : DecidableEq Sect := fun x y => decidable_of_iff (x.name = y.name /\ x.height = y.height /\ x.price = y.price /\ x.area = y.area /\ x.conv = y.conv) ⟨sect_ext, fun h => by subst h; simp⟩
def sectP (x : Sect) : List PV := [.lit (.string x.name), .lit (.int .i64 x.height), .lit (.int .i64 x.price), .dat 2 (x.area.map knotP), .dat 2 (x.conv.map knotP)]
def sectC (x : Sect) : List DV := [.p (.lit (.string x.name)), .p (.lit (.int .i64 x.height)), .p (.lit (.int .i64 x.price)), .p (.dat 2 (x.area.map knotP)), .p (.dat 2 (x.conv.map knotP))]
abbrev sectD (x : Sect) : DV := .agg (sectC x)
abbrev sectL (l : List Sect) : DV := .p (.dat 5 (l.map sectP))
theorem sectP_map (x : Sect) : (sectP x).map DV.p = sectC x := rfl
theorem sectP_len (x : Sect) : (sectP x).length = 5 := rfl
theorem sectC_len (x : Sect) : (sectC x).length = 5 := rfl
theorem sectP_take (x : Sect) : (sectP x).take 5 = sectP x := rfl
theorem sectC_take (x : Sect) : (sectC x).take 5 = sectC x := rfl
theorem sectC_all (x : Sect) : (sectC x).all DV.cellB = true := rfl
theorem sectP_d0 (x : Sect) : (sectP x).getD 0 default = .lit (.string x.name) := rfl
theorem sectC_d0 (x : Sect) : (sectC x)[0]? = some (.p (.lit (.string x.name))) := rfl
theorem sectP_s0 (x : Sect) : (sectP x).take 1 = [.lit (.string x.name)] := rfl
theorem sectC_s0 (x : Sect) : (sectC x).take 1 = [.p (.lit (.string x.name))] := rfl
theorem sectP_d1 (x : Sect) : (sectP x).getD 1 default = .lit (.int .i64 x.height) := rfl
theorem sectC_d1 (x : Sect) : (sectC x)[1]? = some (.p (.lit (.int .i64 x.height))) := rfl
theorem sectP_s1 (x : Sect) : ((sectP x).drop 1).take 1 = [.lit (.int .i64 x.height)] := rfl
theorem sectC_s1 (x : Sect) : ((sectC x).drop 1).take 1 = [.p (.lit (.int .i64 x.height))] := rfl
theorem sectP_d2 (x : Sect) : (sectP x).getD 2 default = .lit (.int .i64 x.price) := rfl
theorem sectC_d2 (x : Sect) : (sectC x)[2]? = some (.p (.lit (.int .i64 x.price))) := rfl
theorem sectP_s2 (x : Sect) : ((sectP x).drop 2).take 1 = [.lit (.int .i64 x.price)] := rfl
theorem sectC_s2 (x : Sect) : ((sectC x).drop 2).take 1 = [.p (.lit (.int .i64 x.price))] := rfl
theorem sectP_d3 (x : Sect) : (sectP x).getD 3 default = .dat 2 (x.area.map knotP) := rfl
theorem sectC_d3 (x : Sect) : (sectC x)[3]? = some (.p (.dat 2 (x.area.map knotP))) := rfl
theorem sectP_s3 (x : Sect) : ((sectP x).drop 3).take 1 = [.dat 2 (x.area.map knotP)] := rfl
theorem sectC_s3 (x : Sect) : ((sectC x).drop 3).take 1 = [.p (.dat 2 (x.area.map knotP))] := rfl
theorem sectP_d4 (x : Sect) : (sectP x).getD 4 default = .dat 2 (x.conv.map knotP) := rfl
theorem sectC_d4 (x : Sect) : (sectC x)[4]? = some (.p (.dat 2 (x.conv.map knotP))) := rfl
theorem sectP_s4 (x : Sect) : ((sectP x).drop 4).take 1 = [.dat 2 (x.conv.map knotP)] := rfl
theorem sectC_s4 (x : Sect) : ((sectC x).drop 4).take 1 = [.p (.dat 2 (x.conv.map knotP))] := rfl
theorem sectC_ren (o n : Nat) (x : Sect) : DV.renL o n (sectC x) = sectC x := rfl
theorem sectC_frz (o : Nat) (v : FV) (x : Sect) : DV.frzL o v (sectC x) = sectC x := rfl
theorem sectC_mp (r : Nat -> Nat) (x : Sect) : DV.mpL r (sectC x) = sectC x := rfl
theorem sectC_uses (U : Nat -> Prop) (x : Sect) : DV.usesL U (sectC x) = True := by simp [sectC, DV.usesL, DV.uses]
attribute [push_cast] sectP_map sectP_len sectC_len sectP_take sectC_take sectC_all sectP_d0 sectC_d0 sectP_s0 sectC_s0 sectP_d1 sectC_d1 sectP_s1 sectC_s1 sectP_d2 sectC_d2 sectP_s2 sectC_s2 sectP_d3 sectC_d3 sectP_s3 sectC_s3 sectP_d4 sectC_d4 sectP_s4 sectC_s4 sectC_ren sectC_frz sectC_mp sectC_uses
def sectOk (x : Sect) : Prop := x.name.size <= 281474976710656 /\ i64ok x.height /\ i64ok x.price /\ (x.area.length <= 281474976710656 /\ ∀ y, y ∈ x.area -> knotOk y) /\ (x.conv.length <= 281474976710656 /\ ∀ y, y ∈ x.conv -> knotOk y)
structure Span where
  lo : Int
  hi : Int
instance : Inhabited Span := ⟨⟨default, default⟩⟩
theorem span_ext {x y : Span} (h : x.lo = y.lo /\ x.hi = y.hi) : x = y := by
  cases x; cases y; simp_all
instance : DecidableEq Span := fun x y => decidable_of_iff (x.lo = y.lo /\ x.hi = y.hi) ⟨span_ext, fun h => by subst h; simp⟩
structure Frac where
  num : Int
  den : Int
instance : Inhabited Frac := ⟨⟨default, default⟩⟩
theorem frac_ext {x y : Frac} (h : x.num = y.num /\ x.den = y.den) : x = y := by
  cases x; cases y; simp_all
instance : DecidableEq Frac := fun x y => decidable_of_iff (x.num = y.num /\ x.den = y.den) ⟨frac_ext, fun h => by subst h; simp⟩
abbrev nilS : DV := .p (.lit (.slice none 0 0))
abbrev boL (l : List Bool) : HV := .lst 4 1 (rows boRow l)
abbrev inLt (l : List Int) : HV := .lst 3 1 (rows inRow l)
def cmpI (a x : Int) : Int := if a < x then -1 else if x < a then 1 else 0
theorem cmp_f (k : Knot) (x : Int) (m : Nat) : Pu 227 [knotD k, li x] m (li (cmpI k.x x)) := by
  unfold cmpI;by_cases h1 : k.x < x
  · (have:=NeI h1);rw [if_pos h1];refine pcN 15 [.tmp 4] [3] Tryz.func227 rfl [] ?_;(repeat' first|refine stW [0,1,2,4,5,10] ?_|refine fctI fun hf=>?_|refine twI (fun hc=>?_) fun hc=>?_);exact DVR
  · (have:=NeI h1);rw [if_neg h1];by_cases h2 : x < k.x
    · (have:=NeI h2);rw [if_pos h2];refine pcN 15 [.tmp 4] [3] Tryz.func227 rfl [] ?_;(repeat' first|refine stW [0,1,2,4,5,10] ?_|refine fctI fun hf=>?_|refine twI (fun hc=>?_) fun hc=>?_);exact DVR
    · (have:=NeI h2);rw [if_neg h2];refine pcN 15 [.tmp 4] [3] Tryz.func227 rfl [] ?_;(repeat' first|refine stW [0,1,2,4,5,10] ?_|refine fctI fun hf=>?_|refine twI (fun hc=>?_) fun hc=>?_);exact DVR
abbrev u8 (c : Int) : DV := lv (.int .u8 c)
def isDig (c : Int) : Bool := decide (48 <= c) && decide (c <= 57)
def isLet (c : Int) : Bool := (decide (97 <= c) && decide (c <= 122)) || (decide (65 <= c) && decide (c <= 90))
def isWd (c : Int) : Bool := isLet c || isDig c || c == 95
abbrev bs (s : ByteArray) : List UInt8 := s.data.toList
def bAt (l : List UInt8) (i : Nat) : Int := ((l.getD i 0).toNat : Int)
def wdN (l : List UInt8) : Nat := (l.takeWhile fun b => isWd (b.toNat : Int)).length
def nameB (s : ByteArray) : Bool := decide (1 <= s.size) && decide (s.size <= 20) && isLet (bAt (bs s) 0) && decide (wdN (bs s) = s.size)
theorem digit_f (c : Int) (m : Nat) : Pu 159 [u8 c] m (lb (isDig c)) := by
  refine pcN 9 [.tmp 2] [4] Tryz.func159 rfl [] ?_;(repeat' (first | refine swp_seq [0,2] ?_ | (first|refine rF (fun hf=>?_)|refine st0 ?_|refine dF mixed ?_|(refine cB (fun hc=>?_) (fun hc=>?_)<;>first|exact False.elim hc|exact absurd hc Bool.false_ne_true|exact absurd hc.symm Bool.false_ne_true|skip)|refine cU ?_ ?_)));exact DVR
theorem rDigit_f (c : Int) (m : Nat) : Pu 117 [u8 c] m (lb (isDig c)) := by
  refine pcN 9 [.tmp 2] [4] Tryz.func117 rfl [] ?_;(repeat' (first | refine swp_seq [0,2] ?_ | (first|refine rF (fun hf=>?_)|refine st0 ?_|refine dF mixed ?_|(refine cB (fun hc=>?_) (fun hc=>?_)<;>first|exact False.elim hc|exact absurd hc Bool.false_ne_true|exact absurd hc.symm Bool.false_ne_true|skip)|refine cU ?_ ?_)));exact DVR
theorem letter_f (c : Int) (m : Nat) : Pu 126 [u8 c] m (lb (isLet c)) := by
  refine pcN 17 [.tmp 2] [4] Tryz.func126 rfl [] ?_;(repeat' (first | refine swp_seq [0,2] ?_ | (first|refine rF (fun hf=>?_)|refine st0 ?_|refine dF mixed ?_|(refine cB (fun hc=>?_) (fun hc=>?_)<;>first|exact False.elim hc|exact absurd hc Bool.false_ne_true|exact absurd hc.symm Bool.false_ne_true|skip)|refine cU ?_ ?_)));exact DVR
theorem rLetter_f (c : Int) (m : Nat) : Pu 66 [u8 c] m (lb (isLet c)) := by
  refine pcN 17 [.tmp 2] [4] Tryz.func66 rfl [] ?_;(repeat' (first | refine swp_seq [0,2] ?_ | (first|refine rF (fun hf=>?_)|refine st0 ?_|refine dF mixed ?_|(refine cB (fun hc=>?_) (fun hc=>?_)<;>first|exact False.elim hc|exact absurd hc Bool.false_ne_true|exact absurd hc.symm Bool.false_ne_true|skip)|refine cU ?_ ?_)));exact DVR
def volB (n : Int) : Bool := decide (0 <= n) && decide (n <= 1125899906842624)
theorem rVol_f (n : Int) (m : Nat) : Pu 35 [li n] m (lb (volB n)) := by
  refine pcN 9 [.tmp 2] [4] Tryz.func35 rfl [] ?_;(repeat' (first | refine swp_seq [0,2] ?_ | (first|refine rF (fun hf=>?_)|refine st0 ?_|refine dF mixed ?_|(refine cB (fun hc=>?_) (fun hc=>?_)<;>first|exact False.elim hc|exact absurd hc Bool.false_ne_true|exact absurd hc.symm Bool.false_ne_true|skip)|refine cU ?_ ?_)));exact DVR
theorem wdN_step {l : List UInt8} {i : Nat} (hi : i <= wdN l) : (i < l.length /\ isWd (bAt l i) = true -> i + 1 <= wdN l) /\ (¬ (i < l.length /\ isWd (bAt l i) = true) -> i = wdN l) := by
  induction l generalizing i with
  | nil => simp [wdN] at *; omega
  | cons b l ih =>
    cases i with
    | zero =>
      by_cases hb : isWd (b.toNat : Int) = true
      · simp [wdN, bAt, hb]
      · simp [wdN, bAt, hb]
    | succ i =>
      by_cases hb : isWd (b.toNat : Int) = true
      · have e : wdN (b :: l) = wdN l + 1 := by simp [wdN, hb]
        rw [e] at hi ⊢;have := ih (i := i) (by omega);have e2 : bAt (b :: l) (i + 1) = bAt l i := by simp [bAt]
        rw [e2];refine ⟨fun ⟨h1, h2⟩ => ?_, fun h => ?_⟩
        · have := this.1 ⟨by simpa using h1, h2⟩; omega
        · have := this.2 (fun ⟨h1, h2⟩ => h ⟨by simpa using h1, h2⟩); omega
      · have e : wdN (b :: l) = 0 := by simp [wdN, hb]
        omega
theorem wdN_le (l : List UInt8) : wdN l <= l.length := (List.takeWhile_sublist _).length_le
theorem bsz (s : ByteArray) : (bs s).length = s.size := by simp [bs]
theorem word_f (s : ByteArray) (m : Nat) (hs : s.size <= 281474976710656) : Pu 127 [ls s] m (li (wdN (bs s))) := by
  have hw := wdN_le (bs s);rw [bsz] at hw;refine pcN 29 [.tmp 2] [3] Tryz.func127 rfl [] ?_;(repeat' (first | refine swp_seq [0,2,3,25] ?_ | (first|refine rF (fun hf=>?_)|refine st0 ?_|refine dF mixed ?_|(refine cB (fun hc=>?_) (fun hc=>?_)<;>first|exact False.elim hc|exact absurd hc Bool.false_ne_true|exact absurd hc.symm Bool.false_ne_true|skip)|refine cU ?_ ?_)));refine loop_swp [0, 3] [] 0 (fun k A H => ∃ i : Nat, i <= wdN (bs s) /\ k = s.size - i /\ A = [(0, ls s), (3, li i)] /\ H = []) (by omega) ?_ ?_ ?_
  · rintro k A H ⟨i, h1, h2, rfl, rfl⟩;exact SDD
  · refine ⟨_, 0, by omega, rfl, ?_, ?_⟩
    · exact DVR
    · exact DVR
  · rintro k A H ⟨i, h1, h2, rfl, rfl⟩;have hst := wdN_step h1;(repeat' (first | refine swp_seq [0,2,3,25] ?_ | (first|refine rF (fun hf=>?_)|refine st0 ?_|refine dF mixed ?_|(refine cB (fun hc=>?_) (fun hc=>?_)<;>first|exact False.elim hc|exact absurd hc Bool.false_ne_true|exact absurd hc.symm Bool.false_ne_true|skip)|refine cU ?_ ?_)));(refine rC (fun hf => ?_));(refine cA (letter_f _ _) (fun hf => ?_));(refine cA (digit_f _ _) (fun hf => ?_));(refine drun_end ?_);(repeat' (first | refine swp_seq [0,2,3,25] ?_ | (first|refine rF (fun hf=>?_)|refine st0 ?_|refine dF mixed ?_|(refine cB (fun hc=>?_) (fun hc=>?_)<;>first|exact False.elim hc|exact absurd hc Bool.false_ne_true|exact absurd hc.symm Bool.false_ne_true|skip)|refine cU ?_ ?_)))
    · (refine lN [] ?_);have h3 : i + 1 <= wdN (bs s) := hst.1 ⟨by rw [bsz]; omega, by unfold isWd bAt bs; grind⟩;exact ⟨_, by omega, i + 1, h3, rfl, rfl, rfl⟩
    · (refine DVQ ?_);rw [hst.2 (by rw [bsz]; unfold isWd bAt bs; grind)]
theorem rWord_f (s : ByteArray) (m : Nat) (hs : s.size <= 281474976710656) : Pu 67 [ls s, li 0] m (li (wdN (bs s))) := by
  have hw := wdN_le (bs s);rw [bsz] at hw;refine pcN 30 [.tmp 4] [3] Tryz.func67 rfl [] ?_;(repeat' (first | refine swp_seq [0,1,4,26] ?_ | (first|refine rF (fun hf=>?_)|refine st0 ?_|refine dF mixed ?_|(refine cB (fun hc=>?_) (fun hc=>?_)<;>first|exact False.elim hc|exact absurd hc Bool.false_ne_true|exact absurd hc.symm Bool.false_ne_true|skip)|refine cU ?_ ?_)));refine loop_swp [0, 1] [] 0 (fun k A H => ∃ i : Nat, i <= wdN (bs s) /\ k = s.size - i /\ A = [(0, ls s), (1, li i)] /\ H = []) (by omega) ?_ ?_ ?_
  · rintro k A H ⟨i, h1, h2, rfl, rfl⟩;exact SDD
  · refine ⟨_, 0, by omega, rfl, ?_, ?_⟩
    · exact DVR
    · exact DVR
  · rintro k A H ⟨i, h1, h2, rfl, rfl⟩;have hst := wdN_step h1;(repeat' (first | refine swp_seq [0,1,4,26] ?_ | (first|refine rF (fun hf=>?_)|refine st0 ?_|refine dF mixed ?_|(refine cB (fun hc=>?_) (fun hc=>?_)<;>first|exact False.elim hc|exact absurd hc Bool.false_ne_true|exact absurd hc.symm Bool.false_ne_true|skip)|refine cU ?_ ?_)));(refine rC (fun hf => ?_));(refine cA (rLetter_f _ _) (fun hf => ?_));(refine cA (rDigit_f _ _) (fun hf => ?_));(refine drun_end ?_);(repeat' (first | refine swp_seq [0,1,4,26] ?_ | (first|refine rF (fun hf=>?_)|refine st0 ?_|refine dF mixed ?_|(refine cB (fun hc=>?_) (fun hc=>?_)<;>first|exact False.elim hc|exact absurd hc Bool.false_ne_true|exact absurd hc.symm Bool.false_ne_true|skip)|refine cU ?_ ?_)))
    · (refine lN [] ?_);have h3 : i + 1 <= wdN (bs s) := hst.1 ⟨by rw [bsz]; omega, by unfold isWd bAt bs; grind⟩;exact ⟨_, by omega, i + 1, h3, rfl, rfl, rfl⟩
    · (refine DVQ ?_);rw [hst.2 (by rw [bsz]; unfold isWd bAt bs; grind)]
theorem bEmpty (s : ByteArray) : decide (s = ByteArray.empty) = decide (s.size = 0) := by
  have : s = ByteArray.empty ↔ s.size = 0 := ⟨fun h => by subst h; rfl, fun h => by
    obtain ⟨d⟩ := s;have : d = #[] := Array.eq_empty_of_size_eq_zero h;rw [this]; rfl⟩
  exact decide_eq_decide.2 this
theorem bEmpty' (s : ByteArray) : decide (s = ⟨#[]⟩) = decide (s.size = 0) := bEmpty s
attribute [push_cast] bEmpty'
theorem name_f (s : ByteArray) (m : Nat) (hs : s.size <= 281474976710656) : Pu 82 [ls s] m (lb (nameB s)) := by
  refine pcN 22 [.tmp 2] [4] Tryz.func82 rfl [] ?_;(repeat' (first | refine swp_seq [0,2] ?_ | (first|refine rF (fun hf=>?_)|refine st0 ?_|refine dF mixed ?_|(refine cB (fun hc=>?_) (fun hc=>?_)<;>first|exact False.elim hc|exact absurd hc Bool.false_ne_true|exact absurd hc.symm Bool.false_ne_true|skip)|refine cU ?_ ?_)));(refine rC (fun hf => ?_));(refine cA (letter_f _ _) (fun hf => ?_));(refine cA (word_f _ _ hs) (fun hf => ?_));(refine drun_end ?_);(repeat' (first | refine swp_seq [0,2] ?_ | (first|refine rF (fun hf=>?_)|refine st0 ?_|refine dF mixed ?_|(refine cB (fun hc=>?_) (fun hc=>?_)<;>first|exact False.elim hc|exact absurd hc Bool.false_ne_true|exact absurd hc.symm Bool.false_ne_true|skip)|refine cU ?_ ?_)));(refine DVQ ?_);unfold nameB bAt bs;congr 3
  grind
theorem rName_f (s : ByteArray) (m : Nat) (hs : s.size <= 281474976710656) : Pu 36 [ls s] m (lb (nameB s)) := by
  refine pcN 22 [.tmp 2] [4] Tryz.func36 rfl [] ?_;(repeat' (first | refine swp_seq [0,2,16] ?_ | (first|refine rF (fun hf=>?_)|refine st0 ?_|refine dF mixed ?_|(refine cB (fun hc=>?_) (fun hc=>?_)<;>first|exact False.elim hc|exact absurd hc Bool.false_ne_true|exact absurd hc.symm Bool.false_ne_true|skip)|refine cU ?_ ?_)));(refine rC (fun hf => ?_));(refine cA (rLetter_f _ _) (fun hf => ?_));(refine drun_end ?_);(repeat' (first | refine swp_seq [0,2,16] ?_ | (first|refine rF (fun hf=>?_)|refine st0 ?_|refine dF mixed ?_|(refine cB (fun hc=>?_) (fun hc=>?_)<;>first|exact False.elim hc|exact absurd hc Bool.false_ne_true|exact absurd hc.symm Bool.false_ne_true|skip)|refine cU ?_ ?_)))
  · (refine DVQ ?_);unfold nameB bAt bs;congr 3
    grind
  · ((refine rC (fun hf => ?_); refine cA (rWord_f _ _ hs) (fun hf => ?_); refine drun_end ?_))
    (repeat' (first | refine swp_seq [0,2,16] ?_ | (first|refine rF (fun hf=>?_)|refine st0 ?_|refine dF mixed ?_|(refine cB (fun hc=>?_) (fun hc=>?_)<;>first|exact False.elim hc|exact absurd hc Bool.false_ne_true|exact absurd hc.symm Bool.false_ne_true|skip)|refine cU ?_ ?_)));(refine DVQ ?_);unfold nameB bAt bs;congr 3
    grind
theorem rall_true {n : Nat} {f : Nat -> Bool} (h : ∀ i, i < n -> f i = true) : (List.range n).all f = true := List.all_eq_true.2 fun i hi => h i (List.mem_range.1 hi)
theorem rall_false {n i : Nat} {f : Nat -> Bool} (hi : i < n) (h : f i = false) : (List.range n).all f = false := by
  rw [List.all_eq_false]; exact ⟨i, List.mem_range.2 hi, by simp [h]⟩
def fitsB (n : Int) : Bool := decide (-1125899906842624 <= n) && decide (n <= 1125899906842624)
def tabR (t : List Knot) (i : Nat) : Bool := fitsB (t.getD i default).x && fitsB (t.getD i default).y && (decide (i = 0) || (decide ((t.getD (i - 1) default).x < (t.getD i default).x) && decide ((t.getD (i - 1) default).y <= (t.getD i default).y)))
def tabB (t : List Knot) : Bool := decide (1 <= t.length) && decide (t.length <= 100) && (List.range t.length).all (tabR t)
theorem fits_f (n : Int) (m : Nat) : Pu 164 [li n] m (lb (fitsB n)) := by
  refine pcN 9 [.tmp 2] [4] Tryz.func164 rfl [] ?_;(repeat' first|refine stW [0,2] ?_|refine fctI fun hf=>?_|refine twI (fun hc=>?_) fun hc=>?_);exact DVR
theorem rNumber_f (n : Int) (m : Nat) : Pu 180 [li n] m (lb (fitsB n)) := by
  refine pcN 9 [.tmp 2] [4] Tryz.func180 rfl [] ?_;(repeat' first|refine stW [0,2] ?_|refine fctI fun hf=>?_|refine twI (fun hc=>?_) fun hc=>?_);exact DVR
theorem callT {g : FuncId} {C : List Nat} {args : List DV} {h h' : Nat -> Option HV} {m : Nat} {d : DV} (k : DCallsG Tryz.prog g C args h m d h' := by first | exact fits_f _ _ | exact rNumber_f _ _) : DCallsG Tryz.prog g C args h m d h' := k
theorem tab_f (t : List Knot) (m : Nat) (hl : t.length <= 281474976710656) : Pu 137 [knotL t] m (lb (tabB t)) := by
  refine pcN 57 [.tmp 2] [4] Tryz.func137 rfl [] ?_;(repeat' first|refine stW [0,2,3,4,12,13,14,15,16,55] ?_|refine fctI fun hf=>?_|refine twI (fun hc=>?_) fun hc=>?_)
  · (refine DVQ ?_);refine lbC ?_;unfold tabB;rcases hc with h | h
    · rw [decide_eq_false (by omega)]; rfl
    · rw [decide_eq_false (p := t.length <= 100) (by omega)]; simp
  · refine loop_swp [0, 13, 14, 15] [] 0 (fun q A H => ∃ i : Nat, i <= t.length /\ q = t.length - i /\ (∀ j, j < i -> tabR t j = true) /\ A = [(0, knotL t), (13, knotL t), (14, li t.length), (15, li i)] /\ H = []) (by omega) ?_ ?_ ?_
    · rintro q A H ⟨i, h1, h2, h3, rfl, rfl⟩;exact SDD
    · refine ⟨_, 0, by omega, rfl, by omega, ?_, ?_⟩
      · exact DVR
      · exact DVR
    · rintro q A H ⟨i, h1, h2, h3, rfl, rfl⟩;(repeat' first|refine stW [0,2,3,4,12,13,14,15,16,55] ?_|(show XCallQ ..;first|refine xQ (fun hcc=>callT) ?_|(refine xlP ?_;refine xlQ (fun hcc m=>callT) ?_))|refine fctI fun hf=>?_|refine twI (fun hc=>?_) fun hc=>?_)
      · (refine DVQ ?_);refine lbC ?_;rw [tabB, rall_false (i := i) (by omega) (by unfold tabR; grind)]; simp
      · (refine lN [] ?_);exact ⟨_, by omega, i + 1, by omega, rfl, fun j hj => by
          by_cases e : j = i
          · subst e; unfold tabR; grind
          · exact h3 j (by omega), rfl, rfl⟩
      · (refine DVQ ?_);refine lbC ?_;rw [tabB, rall_true fun j hj => h3 j (by omega)];simp; omega
theorem rTab_f (t : List Knot) (m : Nat) (hl : t.length <= 281474976710656) : Pu 158 [knotL t] m (lb (tabB t)) := by
  refine pcN 64 [.tmp 2] [4] Tryz.func158 rfl [] ?_;(repeat' first|refine stW [0,2,3,11,15,33,63] ?_|refine fctI fun hf=>?_|refine twI (fun hc=>?_) fun hc=>?_)
  · (refine DVQ ?_);refine lbC ?_;unfold tabB;rcases hc with h | h
    · rw [decide_eq_false (by omega)]; rfl
    · rw [decide_eq_false (p := t.length <= 100) (by omega)]; simp
  · refine loop_swp [0, 3] [] 0 (fun q A H => ∃ i : Nat, i <= t.length /\ q = t.length - i /\ (∀ j, j < i -> tabR t j = true) /\ A = [(0, knotL t), (3, li i)] /\ H = []) (by omega) ?_ ?_ ?_
    · rintro q A H ⟨i, h1, h2, h3, rfl, rfl⟩;exact SDD
    · refine ⟨_, 0, by omega, rfl, by omega, ?_, ?_⟩
      · exact DVR
      · exact DVR
    · rintro q A H ⟨i, h1, h2, h3, rfl, rfl⟩;(repeat' first|refine stW [0,2,3,11,15,33,63] ?_|(show CallQ ..;first|refine cQ (fun hcc=>callT) ?_|(refine lP ?_;refine lQ (fun hcc m=>callT) ?_))|refine fctI fun hf=>?_|refine twI (fun hc=>?_) fun hc=>?_)
      · (refine DVQ ?_);refine lbC ?_;rw [tabB, rall_false (i := i) (by omega) (by unfold tabR; grind)]; simp
      · (refine DVQ ?_);refine lbC ?_;rw [tabB, rall_false (i := i) (by omega) (by unfold tabR; grind)]; simp
      · (refine lN [] ?_);exact ⟨_, by omega, i + 1, by omega, rfl, fun j hj => by
          by_cases e : j = i
          · subst e; unfold tabR; grind
          · exact h3 j (by omega), rfl, rfl⟩
      · (refine DVQ ?_);refine lbC ?_;rw [tabB, rall_true fun j hj => h3 j (by omega)];simp; omega
theorem idxNode_f (g : FuncId) (p : Node -> Bool) (l : List (Node)) (m : Nat) (hl : l.length <= 281474976710656) (hg : ∀ x, x ∈ l -> ∀ m, Pu g [nodeD x] m (lb (p x))) :
    Pu 62 [nodeL l, .clo g []] m (li (idxI p l)) := by
  refine pcN 19 [.tmp 4] [3] Tryz.func62 rfl [] ?_;(repeat' first|refine stW [0,1,4,5,7,8,9,16] ?_|refine fctI fun hf=>?_|refine twI (fun hc=>?_) fun hc=>?_);refine loop_swp [0, 1, 7, 8] [] 0 (fun q A H => ∃ i : Nat, i <= l.length /\ q = l.length - i /\ (l.take i).any p = false /\ A = [(0, nodeL l), (1, .clo g []), (7, li l.length), (8, li i)] /\ H = []) (by omega) ?_ ?_ ?_
  · rintro q A H ⟨i, h1, h2, h3, rfl, rfl⟩;exact SDD
  · refine ⟨_, 0, by omega, rfl, rfl, ?_, ?_⟩
    · exact DVR
    · exact DVR
  · rintro q A H ⟨i, h1, h2, h3, rfl, rfl⟩;(repeat' first|refine stW [0,1,4,5,7,8,9,16] ?_|(show CallQ ..;first|refine cQ (fun hcc=>(hg _ (getD_mem SC) _)) ?_|(refine lP ?_;refine lQ (fun hcc m=>(hg _ (getD_mem SC) _)) ?_))|refine fctI fun hf=>?_|refine twI (fun hc=>?_) fun hc=>?_)
    · (refine DVQ ?_);rw [idxI_hit h3 (by omega) (by assumption)]
    · (refine lN [] ?_);exact ⟨_, by omega, i + 1, by omega, rfl, any_step h3 (by omega) (by assumption), rfl, rfl⟩
    · (refine DVQ ?_);rw [List.take_of_length_le (by omega)] at h3;rw [idxI_none h3]
theorem conNode_f (g : FuncId) (p : Node -> Bool) (l : List (Node)) (m : Nat) (hl : l.length <= 281474976710656) (hg : ∀ x, x ∈ l -> ∀ m, Pu g [nodeD x] m (lb (p x))) :
    Pu 24 [nodeL l, .clo g []] m (lb (l.any p)) := by
  refine pcN 9 [.tmp 4] [4] Tryz.func24 rfl [] ?_;(repeat' first|refine stW [0,1,4] ?_|(show CallQ ..;first|refine cQ (fun hcc=>(idxNode_f g p l _ hl hg)) ?_|(refine lP ?_;refine lQ (fun hcc m=>(idxNode_f g p l _ hl hg)) ?_))|refine fctI fun hf=>?_|refine twI (fun hc=>?_) fun hc=>?_);(refine DVQ ?_);rw [idxI_any]
theorem idxNodeC_f (g : FuncId) (t : TypeId) (cs : List PV) (p : Node -> Bool) (l : List (Node)) (hl : l.length <= 281474976710656) (hg : ∀ x, x ∈ l -> ∀ m, DCalls Tryz.prog g [nodeD x, .ptr 0 0] (hget [(0, .blk t (cs.map .p))]) m (lb (p x)) (hget [(0, .blk t (cs.map .p))])) :
    DCalls Tryz.prog 62 [nodeL l, .clo g [.ptr 0 0]] (hget [(0, .blk t (cs.map .p))]) 1 (li (idxI p l)) (hget [(0, .blk t (cs.map .p))]) := by
  refine contract (n := 19) (rs := [.tmp 4]) (ts := [3]) Tryz.func62 rfl (by decide) 1 1 [] [] [] (li (idxI p l)) [(0, .blk t (cs.map .p))] (by (exact SD)) (by (exact SD)) ?_;(repeat' first|refine stW [0,1,4,5,7,8,9,16] ?_|refine fctI fun hf=>?_|refine twI (fun hc=>?_) fun hc=>?_);refine loop_swp [0, 1, 7, 8] [0] 1 (fun q A H => ∃ i : Nat, i <= l.length /\ q = l.length - i /\ (l.take i).any p = false /\ A = [(0, nodeL l), (1, .clo g [.ptr 0 0]), (7, li l.length), (8, li i)] /\ H = [(0, .blk t (cs.map .p))]) (by omega) ?_ ?_ ?_
  · rintro q A H ⟨i, h1, h2, h3, rfl, rfl⟩;exact SDD
  · refine ⟨_, 0, by omega, rfl, rfl, ?_, ?_⟩
    · exact DVR
    · exact DVR
  · rintro q A H ⟨i, h1, h2, h3, rfl, rfl⟩;(repeat' first|refine stW [0,1,4,5,7,8,9,16] ?_|(show CallQ ..;first|refine cQ (fun hcc=>(hg _ (getD_mem SC) _)) ?_|(refine lP ?_;refine lQ (fun hcc m=>(hg _ (getD_mem SC) _)) ?_))|refine fctI fun hf=>?_|refine twI (fun hc=>?_) fun hc=>?_)
    · (refine DVQ ?_);rw [idxI_hit h3 (by omega) (by assumption)]
    · (refine lN [0] ?_);exact ⟨_, by omega, i + 1, by omega, rfl, any_step h3 (by omega) (by assumption), rfl, rfl⟩
    · (refine DVQ ?_);rw [List.take_of_length_le (by omega)] at h3;rw [idxI_none h3]
theorem idxLink_f (g : FuncId) (p : Link -> Bool) (l : List (Link)) (m : Nat) (hl : l.length <= 281474976710656) (hg : ∀ x, x ∈ l -> ∀ m, Pu g [linkD x] m (lb (p x))) :
    Pu 17 [linkL l, .clo g []] m (li (idxI p l)) := by
  refine pcN 19 [.tmp 4] [3] Tryz.func17 rfl [] ?_;(repeat' first|refine stW [0,1,4,5,7,8,9,16] ?_|refine fctI fun hf=>?_|refine twI (fun hc=>?_) fun hc=>?_);refine loop_swp [0, 1, 7, 8] [] 0 (fun q A H => ∃ i : Nat, i <= l.length /\ q = l.length - i /\ (l.take i).any p = false /\ A = [(0, linkL l), (1, .clo g []), (7, li l.length), (8, li i)] /\ H = []) (by omega) ?_ ?_ ?_
  · rintro q A H ⟨i, h1, h2, h3, rfl, rfl⟩;exact SDD
  · refine ⟨_, 0, by omega, rfl, rfl, ?_, ?_⟩
    · exact DVR
    · exact DVR
  · rintro q A H ⟨i, h1, h2, h3, rfl, rfl⟩;(repeat' first|refine stW [0,1,4,5,7,8,9,16] ?_|(show CallQ ..;first|refine cQ (fun hcc=>(hg _ (getD_mem SC) _)) ?_|(refine lP ?_;refine lQ (fun hcc m=>(hg _ (getD_mem SC) _)) ?_))|refine fctI fun hf=>?_|refine twI (fun hc=>?_) fun hc=>?_)
    · (refine DVQ ?_);rw [idxI_hit h3 (by omega) (by assumption)]
    · (refine lN [] ?_);exact ⟨_, by omega, i + 1, by omega, rfl, any_step h3 (by omega) (by assumption), rfl, rfl⟩
    · (refine DVQ ?_);rw [List.take_of_length_le (by omega)] at h3;rw [idxI_none h3]
theorem conLink_f (g : FuncId) (p : Link -> Bool) (l : List (Link)) (m : Nat) (hl : l.length <= 281474976710656) (hg : ∀ x, x ∈ l -> ∀ m, Pu g [linkD x] m (lb (p x))) :
    Pu 26 [linkL l, .clo g []] m (lb (l.any p)) := by
  refine pcN 9 [.tmp 4] [4] Tryz.func26 rfl [] ?_;(repeat' first|refine stW [0,1,4] ?_|(show CallQ ..;first|refine cQ (fun hcc=>(idxLink_f g p l _ hl hg)) ?_|(refine lP ?_;refine lQ (fun hcc m=>(idxLink_f g p l _ hl hg)) ?_))|refine fctI fun hf=>?_|refine twI (fun hc=>?_) fun hc=>?_);(refine DVQ ?_);rw [idxI_any]
theorem idxLinkC_f (g : FuncId) (t : TypeId) (cs : List PV) (p : Link -> Bool) (l : List (Link)) (hl : l.length <= 281474976710656) (hg : ∀ x, x ∈ l -> ∀ m, DCalls Tryz.prog g [linkD x, .ptr 0 0] (hget [(0, .blk t (cs.map .p))]) m (lb (p x)) (hget [(0, .blk t (cs.map .p))])) :
    DCalls Tryz.prog 17 [linkL l, .clo g [.ptr 0 0]] (hget [(0, .blk t (cs.map .p))]) 1 (li (idxI p l)) (hget [(0, .blk t (cs.map .p))]) := by
  refine contract (n := 19) (rs := [.tmp 4]) (ts := [3]) Tryz.func17 rfl (by decide) 1 1 [] [] [] (li (idxI p l)) [(0, .blk t (cs.map .p))] (by (exact SD)) (by (exact SD)) ?_;(repeat' first|refine stW [0,1,4,5,7,8,9,16] ?_|refine fctI fun hf=>?_|refine twI (fun hc=>?_) fun hc=>?_);refine loop_swp [0, 1, 7, 8] [0] 1 (fun q A H => ∃ i : Nat, i <= l.length /\ q = l.length - i /\ (l.take i).any p = false /\ A = [(0, linkL l), (1, .clo g [.ptr 0 0]), (7, li l.length), (8, li i)] /\ H = [(0, .blk t (cs.map .p))]) (by omega) ?_ ?_ ?_
  · rintro q A H ⟨i, h1, h2, h3, rfl, rfl⟩;exact SDD
  · refine ⟨_, 0, by omega, rfl, rfl, ?_, ?_⟩
    · exact DVR
    · exact DVR
  · rintro q A H ⟨i, h1, h2, h3, rfl, rfl⟩;(repeat' first|refine stW [0,1,4,5,7,8,9,16] ?_|(show CallQ ..;first|refine cQ (fun hcc=>(hg _ (getD_mem SC) _)) ?_|(refine lP ?_;refine lQ (fun hcc m=>(hg _ (getD_mem SC) _)) ?_))|refine fctI fun hf=>?_|refine twI (fun hc=>?_) fun hc=>?_)
    · (refine DVQ ?_);rw [idxI_hit h3 (by omega) (by assumption)]
    · (refine lN [0] ?_);exact ⟨_, by omega, i + 1, by omega, rfl, any_step h3 (by omega) (by assumption), rfl, rfl⟩
    · (refine DVQ ?_);rw [List.take_of_length_le (by omega)] at h3;rw [idxI_none h3]
theorem idxInt_f (g : FuncId) (p : Int -> Bool) (l : List (Int)) (m : Nat) (hl : l.length <= 281474976710656) (hg : ∀ x, x ∈ l -> ∀ m, Pu g [li x] m (lb (p x))) :
    Pu 125 [ints l, .clo g []] m (li (idxI p l)) := by
  refine pcN 19 [.tmp 4] [3] Tryz.func125 rfl [] ?_;(repeat' first|refine stW [0,1,4,5,7,8,9,16] ?_|refine fctI fun hf=>?_|refine twI (fun hc=>?_) fun hc=>?_);refine loop_swp [0, 1, 7, 8] [] 0 (fun q A H => ∃ i : Nat, i <= l.length /\ q = l.length - i /\ (l.take i).any p = false /\ A = [(0, ints l), (1, .clo g []), (7, li l.length), (8, li i)] /\ H = []) (by omega) ?_ ?_ ?_
  · rintro q A H ⟨i, h1, h2, h3, rfl, rfl⟩;exact SDD
  · refine ⟨_, 0, by omega, rfl, rfl, ?_, ?_⟩
    · exact DVR
    · exact DVR
  · rintro q A H ⟨i, h1, h2, h3, rfl, rfl⟩;(repeat' first|refine stW [0,1,4,5,7,8,9,16] ?_|(show CallQ ..;first|refine cQ (fun hcc=>(hg _ (getD_mem SC) _)) ?_|(refine lP ?_;refine lQ (fun hcc m=>(hg _ (getD_mem SC) _)) ?_))|refine fctI fun hf=>?_|refine twI (fun hc=>?_) fun hc=>?_)
    · (refine DVQ ?_);rw [idxI_hit h3 (by omega) (by assumption)]
    · (refine lN [] ?_);exact ⟨_, by omega, i + 1, by omega, rfl, any_step h3 (by omega) (by assumption), rfl, rfl⟩
    · (refine DVQ ?_);rw [List.take_of_length_le (by omega)] at h3;rw [idxI_none h3]
theorem conInt_f (g : FuncId) (p : Int -> Bool) (l : List (Int)) (m : Nat) (hl : l.length <= 281474976710656) (hg : ∀ x, x ∈ l -> ∀ m, Pu g [li x] m (lb (p x))) :
    Pu 80 [ints l, .clo g []] m (lb (l.any p)) := by
  refine pcN 9 [.tmp 4] [4] Tryz.func80 rfl [] ?_;(repeat' first|refine stW [0,1,4] ?_|(show CallQ ..;first|refine cQ (fun hcc=>(idxInt_f g p l _ hl hg)) ?_|(refine lP ?_;refine lQ (fun hcc m=>(idxInt_f g p l _ hl hg)) ?_))|refine fctI fun hf=>?_|refine twI (fun hc=>?_) fun hc=>?_);(refine DVQ ?_);rw [idxI_any]
theorem idxSect_f (g : FuncId) (p : Sect -> Bool) (l : List (Sect)) (m : Nat) (hl : l.length <= 281474976710656) (hg : ∀ x, x ∈ l -> ∀ m, Pu g [sectD x] m (lb (p x))) :
    Pu 63 [sectL l, .clo g []] m (li (idxI p l)) := by
  refine pcN 19 [.tmp 4] [3] Tryz.func63 rfl [] ?_;(repeat' first|refine stW [0,1,4,5,7,8,9,16] ?_|refine fctI fun hf=>?_|refine twI (fun hc=>?_) fun hc=>?_);refine loop_swp [0, 1, 7, 8] [] 0 (fun q A H => ∃ i : Nat, i <= l.length /\ q = l.length - i /\ (l.take i).any p = false /\ A = [(0, sectL l), (1, .clo g []), (7, li l.length), (8, li i)] /\ H = []) (by omega) ?_ ?_ ?_
  · rintro q A H ⟨i, h1, h2, h3, rfl, rfl⟩;exact SDD
  · refine ⟨_, 0, by omega, rfl, rfl, ?_, ?_⟩
    · exact DVR
    · exact DVR
  · rintro q A H ⟨i, h1, h2, h3, rfl, rfl⟩;(repeat' first|refine stW [0,1,4,5,7,8,9,16] ?_|(show CallQ ..;first|refine cQ (fun hcc=>(hg _ (getD_mem SC) _)) ?_|(refine lP ?_;refine lQ (fun hcc m=>(hg _ (getD_mem SC) _)) ?_))|refine fctI fun hf=>?_|refine twI (fun hc=>?_) fun hc=>?_)
    · (refine DVQ ?_);rw [idxI_hit h3 (by omega) (by assumption)]
    · (refine lN [] ?_);exact ⟨_, by omega, i + 1, by omega, rfl, any_step h3 (by omega) (by assumption), rfl, rfl⟩
    · (refine DVQ ?_);rw [List.take_of_length_le (by omega)] at h3;rw [idxI_none h3]
theorem conSect_f (g : FuncId) (p : Sect -> Bool) (l : List (Sect)) (m : Nat) (hl : l.length <= 281474976710656) (hg : ∀ x, x ∈ l -> ∀ m, Pu g [sectD x] m (lb (p x))) :
    Pu 28 [sectL l, .clo g []] m (lb (l.any p)) := by
  refine pcN 9 [.tmp 4] [4] Tryz.func28 rfl [] ?_;(repeat' first|refine stW [0,1,4] ?_|(show CallQ ..;first|refine cQ (fun hcc=>(idxSect_f g p l _ hl hg)) ?_|(refine lP ?_;refine lQ (fun hcc m=>(idxSect_f g p l _ hl hg)) ?_))|refine fctI fun hf=>?_|refine twI (fun hc=>?_) fun hc=>?_);(refine DVQ ?_);rw [idxI_any]
theorem idxSectC_f (g : FuncId) (t : TypeId) (cs : List PV) (p : Sect -> Bool) (l : List (Sect)) (hl : l.length <= 281474976710656) (hg : ∀ x, x ∈ l -> ∀ m, DCalls Tryz.prog g [sectD x, .ptr 0 0] (hget [(0, .blk t (cs.map .p))]) m (lb (p x)) (hget [(0, .blk t (cs.map .p))])) :
    DCalls Tryz.prog 63 [sectL l, .clo g [.ptr 0 0]] (hget [(0, .blk t (cs.map .p))]) 1 (li (idxI p l)) (hget [(0, .blk t (cs.map .p))]) := by
  refine contract (n := 19) (rs := [.tmp 4]) (ts := [3]) Tryz.func63 rfl (by decide) 1 1 [] [] [] (li (idxI p l)) [(0, .blk t (cs.map .p))] (by (exact SD)) (by (exact SD)) ?_;(repeat' first|refine stW [0,1,4,5,7,8,9,16] ?_|refine fctI fun hf=>?_|refine twI (fun hc=>?_) fun hc=>?_);refine loop_swp [0, 1, 7, 8] [0] 1 (fun q A H => ∃ i : Nat, i <= l.length /\ q = l.length - i /\ (l.take i).any p = false /\ A = [(0, sectL l), (1, .clo g [.ptr 0 0]), (7, li l.length), (8, li i)] /\ H = [(0, .blk t (cs.map .p))]) (by omega) ?_ ?_ ?_
  · rintro q A H ⟨i, h1, h2, h3, rfl, rfl⟩;exact SDD
  · refine ⟨_, 0, by omega, rfl, rfl, ?_, ?_⟩
    · exact DVR
    · exact DVR
  · rintro q A H ⟨i, h1, h2, h3, rfl, rfl⟩;(repeat' first|refine stW [0,1,4,5,7,8,9,16] ?_|(show CallQ ..;first|refine cQ (fun hcc=>(hg _ (getD_mem SC) _)) ?_|(refine lP ?_;refine lQ (fun hcc m=>(hg _ (getD_mem SC) _)) ?_))|refine fctI fun hf=>?_|refine twI (fun hc=>?_) fun hc=>?_)
    · (refine DVQ ?_);rw [idxI_hit h3 (by omega) (by assumption)]
    · (refine lN [0] ?_);exact ⟨_, by omega, i + 1, by omega, rfl, any_step h3 (by omega) (by assumption), rfl, rfl⟩
    · (refine DVQ ?_);rw [List.take_of_length_le (by omega)] at h3;rw [idxI_none h3]
theorem idxKnot_f (g : FuncId) (p : Knot -> Bool) (l : List (Knot)) (m : Nat) (hl : l.length <= 281474976710656) (hg : ∀ x, x ∈ l -> ∀ m, Pu g [knotD x] m (lb (p x))) :
    Pu 165 [knotL l, .clo g []] m (li (idxI p l)) := by
  refine pcN 19 [.tmp 4] [3] Tryz.func165 rfl [] ?_;(repeat' first|refine stW [0,1,4,5,7,8,9,16] ?_|refine fctI fun hf=>?_|refine twI (fun hc=>?_) fun hc=>?_);refine loop_swp [0, 1, 7, 8] [] 0 (fun q A H => ∃ i : Nat, i <= l.length /\ q = l.length - i /\ (l.take i).any p = false /\ A = [(0, knotL l), (1, .clo g []), (7, li l.length), (8, li i)] /\ H = []) (by omega) ?_ ?_ ?_
  · rintro q A H ⟨i, h1, h2, h3, rfl, rfl⟩;exact SDD
  · refine ⟨_, 0, by omega, rfl, rfl, ?_, ?_⟩
    · exact DVR
    · exact DVR
  · rintro q A H ⟨i, h1, h2, h3, rfl, rfl⟩;(repeat' first|refine stW [0,1,4,5,7,8,9,16] ?_|(show CallQ ..;first|refine cQ (fun hcc=>(hg _ (getD_mem SC) _)) ?_|(refine lP ?_;refine lQ (fun hcc m=>(hg _ (getD_mem SC) _)) ?_))|refine fctI fun hf=>?_|refine twI (fun hc=>?_) fun hc=>?_)
    · (refine DVQ ?_);rw [idxI_hit h3 (by omega) (by assumption)]
    · (refine lN [] ?_);exact ⟨_, by omega, i + 1, by omega, rfl, any_step h3 (by omega) (by assumption), rfl, rfl⟩
    · (refine DVQ ?_);rw [List.take_of_length_le (by omega)] at h3;rw [idxI_none h3]
theorem conKnot_f (g : FuncId) (p : Knot -> Bool) (l : List (Knot)) (m : Nat) (hl : l.length <= 281474976710656) (hg : ∀ x, x ∈ l -> ∀ m, Pu g [knotD x] m (lb (p x))) :
    Pu 138 [knotL l, .clo g []] m (lb (l.any p)) := by
  refine pcN 9 [.tmp 4] [4] Tryz.func138 rfl [] ?_;(repeat' first|refine stW [0,1,4] ?_|(show CallQ ..;first|refine cQ (fun hcc=>(idxKnot_f g p l _ hl hg)) ?_|(refine lP ?_;refine lQ (fun hcc m=>(idxKnot_f g p l _ hl hg)) ?_))|refine fctI fun hf=>?_|refine twI (fun hc=>?_) fun hc=>?_);(refine DVQ ?_);rw [idxI_any]
theorem eqlInt_f (l k : List (Int)) (m : Nat) (hl : l.length <= 281474976710656) (hk : k.length <= 281474976710656) : Pu 124 [ints l, ints k] m (lb (decide (l = k))) := by
  refine pcN 26 [.tmp 4] [4] Tryz.func124 rfl [] ?_;(repeat' first|refine stW [0,1,4,5,10,12,13,14,24] ?_|refine fctI fun hf=>?_|refine twI (fun hc=>?_) fun hc=>?_)
  · (refine DVQ ?_);refine lbC ?_;have : ¬ l = k := fun e => by subst e; exact hc rfl
    simp [this]
  · refine loop_swp [0, 1, 12, 13] [] 0 (fun q A H => ∃ i : Nat, i <= l.length /\ q = l.length - i /\ l.take i = k.take i /\ A = [(0, ints l), (1, ints k), (12, li l.length), (13, li i)] /\ H = []) (by omega) ?_ ?_ ?_
    · rintro q A H ⟨i, h1, h2, h3, rfl, rfl⟩;exact SDD
    · refine ⟨_, 0, by omega, rfl, rfl, ?_, ?_⟩
      · exact DVR
      · exact DVR
    · rintro q A H ⟨i, h1, h2, h3, rfl, rfl⟩;(repeat' first|refine stW [0,1,4,5,10,12,13,14,24] ?_|refine fctI fun hf=>?_|refine twI (fun hc=>?_) fun hc=>?_)
      · (refine DVQ ?_);refine lbC ?_;have : ¬ l = k := fun e => by subst e; simp at hc
        simp [this]
      · (refine lN [] ?_);exact ⟨_, by omega, i + 1, by omega, rfl, take_next h3 (by omega) (by omega) (by exact hc), rfl, rfl⟩
      · (refine DVQ ?_);refine lbC ?_;have : l = k := by
          have h4 := h3;rw [List.take_of_length_le (by omega), List.take_of_length_le (by omega)] at h4;exact h4
        simp [this]
theorem eqlKnot_f (l k : List (Knot)) (m : Nat) (hl : l.length <= 281474976710656) (hk : k.length <= 281474976710656) : Pu 163 [knotL l, knotL k] m (lb (decide (l = k))) := by
  refine pcN 26 [.tmp 4] [4] Tryz.func163 rfl [] ?_;(repeat' first|refine stW [0,1,4,5,10,12,13,14,24] ?_|refine fctI fun hf=>?_|refine twI (fun hc=>?_) fun hc=>?_)
  · (refine DVQ ?_);refine lbC ?_;have : ¬ l = k := fun e => by subst e; exact hc rfl
    simp [this]
  · refine loop_swp [0, 1, 12, 13] [] 0 (fun q A H => ∃ i : Nat, i <= l.length /\ q = l.length - i /\ l.take i = k.take i /\ A = [(0, knotL l), (1, knotL k), (12, li l.length), (13, li i)] /\ H = []) (by omega) ?_ ?_ ?_
    · rintro q A H ⟨i, h1, h2, h3, rfl, rfl⟩;exact SDD
    · refine ⟨_, 0, by omega, rfl, rfl, ?_, ?_⟩
      · exact DVR
      · exact DVR
    · rintro q A H ⟨i, h1, h2, h3, rfl, rfl⟩;(repeat' first|refine stW [0,1,4,5,10,12,13,14,24] ?_|refine fctI fun hf=>?_|refine twI (fun hc=>?_) fun hc=>?_)
      · (refine DVQ ?_);refine lbC ?_;have : ¬ l = k := fun e => by subst e; simp at hc
        simp [this]
      · (refine lN [] ?_);exact ⟨_, by omega, i + 1, by omega, rfl, take_next h3 (by omega) (by omega) (by refine knot_ext ?_; simpa using hc), rfl, rfl⟩
      · (refine DVQ ?_);refine lbC ?_;have : l = k := by
          have h4 := h3;rw [List.take_of_length_le (by omega), List.take_of_length_le (by omega)] at h4;exact h4
        simp [this]
def levB (n : Int) : Bool := decide (-4194304 <= n) && decide (n <= 4194304)
def btwB (n lo hi : Int) : Bool := decide (lo <= n) && decide (n <= hi)
theorem between_f (n lo hi : Int) (m : Nat) : Pu 131 [li n, li lo, li hi] m (lb (btwB n lo hi)) := by
  refine pcN 15 [.tmp 6] [4] Tryz.func131 rfl [] ?_;(repeat' first|refine stW [0,1,2,6] ?_|refine fctI fun hf=>?_|refine twI (fun hc=>?_) fun hc=>?_);exact DVR
theorem level1_f (n : Int) (m : Nat) : Pu 162 [li n] m (lb (!levB n)) := by
  refine pcN 9 [.tmp 2] [4] Tryz.func162 rfl [] ?_;(repeat' first|refine stW [0,2] ?_|refine fctI fun hf=>?_|refine twI (fun hc=>?_) fun hc=>?_);(refine DVQ ?_);refine lbC ?_;unfold levB; grind
theorem level_f (l : List Int) (m : Nat) (hl : l.length <= 281474976710656) : Pu 132 [ints l] m (lb (!l.any fun n => !levB n)) := by
  refine pcN 6 [.tmp 2] [4] Tryz.func132 rfl [] ?_;(repeat' first|refine stW [0,2] ?_|(show CallQ ..;first|refine cQ (fun hcc=>(conInt_f _ (fun n => !levB n) l _ hl (fun n _ m => level1_f n m))) ?_|(refine lP ?_;refine lQ (fun hcc m=>(conInt_f _ (fun n => !levB n) l _ hl (fun n _ m => level1_f n m))) ?_))|refine fctI fun hf=>?_|refine twI (fun hc=>?_) fun hc=>?_);exact DVR
def shapeB (t : List Knot) (depth : Int) : Bool := tabB t && decide ((t.getD 0 default).x = 0) && decide ((t.getD 0 default).y = 0) && decide ((t.getD (t.length - 1) default).x = depth) && decide ((t.getD (t.length - 1) default).y <= 1125899906842624)
theorem callS {g : FuncId} {C : List Nat} {args : List DV} {h h' : Nat -> Option HV} {m : Nat} {d : DV} (k : DCallsG Tryz.prog g C args h m d h' := by first | exact tab_f _ _ SC | exact rTab_f _ _ SC | exact between_f _ _ _ _ | exact level_f _ _ SC | exact name_f _ _ SC) : DCallsG Tryz.prog g C args h m d h' := k
theorem tabB_len {t : List Knot} (h : tabB t = true) : 1 <= t.length /\ t.length <= 100 := by unfold tabB at h; simp at h; omega
theorem shaped_f (t : List Knot) (d : Int) (m : Nat) (hl : t.length <= 281474976710656) : Pu 133 [knotL t, li d] m (lb (shapeB t d)) := by
  refine pcN 31 [.tmp 4] [4] Tryz.func133 rfl [] ?_;(repeat' first|refine stW [0,1,4,5,8] ?_|(show CallQ ..;first|refine cQ (fun hcc=>callS) ?_|(refine lP ?_;refine lQ (fun hcc m=>callS) ?_))|refine fctI fun hf=>?_|refine twI (fun hc=>?_) fun hc=>?_)
  · (refine DVQ ?_);refine lbC ?_;unfold shapeB; rw [hc]; rfl
  · have h2 := tabB_len hc;(repeat' first|refine stW [0,1,4,5,8] ?_|(show CallQ ..;first|refine cQ (fun hcc=>callS) ?_|(refine lP ?_;refine lQ (fun hcc m=>callS) ?_))|refine fctI fun hf=>?_|refine twI (fun hc=>?_) fun hc=>?_);(refine DVQ ?_);refine lbC ?_;unfold shapeB; rw [hc];grind
theorem shapeB_len {t : List Knot} {d : Int} (h : shapeB t d = true) : 1 <= t.length /\ t.length <= 100 := tabB_len (by unfold shapeB at h; simp at h; exact h.1.1.1.1)
def kindB (x : Node) : Bool :=
  if x.kind = 1 ∨ x.kind = 2 then decide (x.inv < x.gnd) && shapeB x.shape (x.gnd - x.inv) && !(decide (x.kind = 1) && x.prot) && (if x.prot then btwB x.res 0 (x.shape.getD (x.shape.length - 1) default).y else decide (x.res = 0))
  else if x.kind = 3 then decide (x.inv <= x.gnd) && decide (x.shape.length = 0) && !x.prot && decide (x.res = 0) else false
def nodeR (x : Node) : Bool := nameB x.name && btwB x.pos.x (-16777216) 16777216 && btwB x.pos.y (-16777216) 16777216 && levB x.inv && levB x.gnd && kindB x
theorem callR {g : FuncId} {C : List Nat} {args : List DV} {h h' : Nat -> Option HV} {m : Nat} {d : DV} (k : DCallsG Tryz.prog g C args h m d h' := by first | exact callS | exact shaped_f _ _ _ SC) : DCallsG Tryz.prog g C args h m d h' := k

end Go.Proofs.YtgpllheklfbfhaaGreat
