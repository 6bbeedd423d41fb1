/-
  Contracts of functions of the program, over the engine.
  No condition.
-/
import Derived.Test.YtlailhdmgehniaaGreatTz
import Derived.Test.YtlailhdmgehniaaGreatEngO
import Derived.Test.YtlailhdmgehniaaGreatPl0
import Derived.Test.YtlailhdmgehniaaGreatEngW
import Derived.Test.YtlailhdmgehniaaGreatEngY
import Derived.Test.YtlailhdmgehniaaGreatEngZ
namespace Go.Proofs.YtlailhdmgehniaaGreat
open Go.Eng
set_option linter.all false
attribute [local irreducible] DCallsG SWp Fct CallQ XCallQ LCallQ XLCallQ drun xrun
theorem mixed : Tryz.prog.follows .mixedOrders = true := by kernel_rfl
instance : Mixed Tryz.prog := ⟨mixed⟩

def i64ok (n : Int) : Prop := -9223372036854775808 ≤ n ∧ n ≤ 9223372036854775807
def intsOk (l : List Int) : Prop := l.length ≤ 281474976710656 ∧ ∀ z, z ∈ l → i64ok z
def boRow (b : Bool) : List PV := [.lit (.bool b)]
abbrev bools (l : List Bool) : DV := .p (.dat 1 (l.map boRow))
theorem getD_drop0 {α : Type} (l : List α) (k : Nat) (d : α) : (l.drop k).getD 0 d = l.getD k d := by simp [List.getD_eq_getElem?_getD]
def pairP (p : Int × Int) : List PV := [.lit (.int .i64 p.1), .lit (.int .i64 p.2)]
abbrev pairs (l : List (Int × Int)) : DV := .p (.dat 2 (l.map pairP))
theorem usesL_p (U : Nat → Prop) (l : List PV) : DV.usesL U (l.map DV.p) = True := propext ⟨fun _ => trivial, fun _ => usesL_iff.2 fun d hd => by obtain ⟨x, _, rfl⟩ := List.mem_map.1 hd; exact trivial⟩
theorem mpL_p (r : Nat → Nat) (l : List PV) : DV.mpL r (l.map DV.p) = l.map DV.p := by
  rw [mpL_eq, List.map_map]; exact List.map_congr_left fun x _ => rfl
theorem renL_p (o n : Nat) (l : List PV) : DV.renL o n (l.map DV.p) = l.map DV.p := by
  rw [renL_eq, List.map_map]; exact List.map_congr_left fun x _ => rfl
theorem lbC {x y : Bool} (h : x = y) : lb x = lb y := by rw [h]
def ilRow (l : List Int) : List PV := [.dat 1 (l.map inRow)]
abbrev intss (l : List (List Int)) : DV := .p (.dat 1 (l.map ilRow))
theorem getD_mem {α : Type} [Inhabited α] {l : List α} {i : Nat} (h : i < l.length) : l.getD i default ∈ l := by
  rw [List.getD_eq_getElem?_getD, List.getElem?_eq_getElem h]; exact List.getElem_mem h
attribute [push_cast] usesL_p mpL_p renL_p ilRow boRow pairP getD_drop0 List.drop_zero List.length_drop List.drop_drop
structure Knot where
  x : Int
  y : Int
instance : Inhabited Knot := ⟨⟨default, default⟩⟩
theorem knot_ext {x y : Knot} (h : x.x = y.x ∧ x.y = y.y) : x = y := by
  cases x; cases y; simp_all
instance : DecidableEq Knot := fun x y => decidable_of_iff (x.x = y.x ∧ x.y = y.y) ⟨knot_ext, fun h => by subst h; simp⟩
def knotP (x : Knot) : List PV := [.lit (.int .i64 x.x), .lit (.int .i64 x.y)]
def knotC (x : Knot) : List DV := [.p (.lit (.int .i64 x.x)), .p (.lit (.int .i64 x.y))]
abbrev knotD (x : Knot) : DV := .agg (knotC x)
abbrev knotL (l : List Knot) : DV := .p (.dat 2 (l.map knotP))
theorem knotP_map (x : Knot) : (knotP x).map DV.p = knotC x := rfl
theorem knotP_len (x : Knot) : (knotP x).length = 2 := rfl
theorem knotC_len (x : Knot) : (knotC x).length = 2 := rfl
theorem knotP_take (x : Knot) : (knotP x).take 2 = knotP x := rfl
theorem knotC_take (x : Knot) : (knotC x).take 2 = knotC x := rfl
theorem knotC_all (x : Knot) : (knotC x).all DV.cellB = true := rfl
theorem knotP_d0 (x : Knot) : (knotP x).getD 0 default = .lit (.int .i64 x.x) := rfl
theorem knotC_d0 (x : Knot) : (knotC x)[0]? = some (.p (.lit (.int .i64 x.x))) := rfl
theorem knotP_s0 (x : Knot) : (knotP x).take 1 = [.lit (.int .i64 x.x)] := rfl
theorem knotC_s0 (x : Knot) : (knotC x).take 1 = [.p (.lit (.int .i64 x.x))] := rfl
theorem knotP_d1 (x : Knot) : (knotP x).getD 1 default = .lit (.int .i64 x.y) := rfl
theorem knotC_d1 (x : Knot) : (knotC x)[1]? = some (.p (.lit (.int .i64 x.y))) := rfl
theorem knotP_s1 (x : Knot) : ((knotP x).drop 1).take 1 = [.lit (.int .i64 x.y)] := rfl
theorem knotC_s1 (x : Knot) : ((knotC x).drop 1).take 1 = [.p (.lit (.int .i64 x.y))] := rfl
theorem knotC_ren (o n : Nat) (x : Knot) : DV.renL o n (knotC x) = knotC x := rfl
theorem knotC_frz (o : Nat) (v : FV) (x : Knot) : DV.frzL o v (knotC x) = knotC x := rfl
theorem knotC_mp (r : Nat → Nat) (x : Knot) : DV.mpL r (knotC x) = knotC x := rfl
theorem knotC_uses (U : Nat → Prop) (x : Knot) : DV.usesL U (knotC x) = True := by simp [knotC, DV.usesL, DV.uses]
attribute [push_cast] knotP_map knotP_len knotC_len knotP_take knotC_take knotC_all knotP_d0 knotC_d0 knotP_s0 knotC_s0 knotP_d1 knotC_d1 knotP_s1 knotC_s1 knotC_ren knotC_frz knotC_mp knotC_uses
def knotOk (x : Knot) : Prop := i64ok x.x ∧ i64ok x.y
structure Plan where
  start : Int
  cap : Int
  res : Int
  inf : List Int
  rel : List Int
  pen : List Knot
  wei : Int
instance : Inhabited Plan := ⟨⟨default, default, default, default, default, default, default⟩⟩
theorem plan_ext {x y : Plan} (h : x.start = y.start ∧ x.cap = y.cap ∧ x.res = y.res ∧ x.inf = y.inf ∧ x.rel = y.rel ∧ x.pen = y.pen ∧ x.wei = y.wei) : x = y := by
  cases x; cases y; simp_all
instance : DecidableEq Plan := fun x y => decidable_of_iff (x.start = y.start ∧ x.cap = y.cap ∧ x.res = y.res ∧ x.inf = y.inf ∧ x.rel = y.rel ∧ x.pen = y.pen ∧ x.wei = y.wei) ⟨plan_ext, fun h => by subst h; simp⟩
def planP (x : Plan) : List PV := [.lit (.int .i64 x.start), .lit (.int .i64 x.cap), .lit (.int .i64 x.res), .dat 1 (x.inf.map inRow), .dat 1 (x.rel.map inRow), .dat 2 (x.pen.map knotP), .lit (.int .i64 x.wei)]
def planC (x : Plan) : List DV := [.p (.lit (.int .i64 x.start)), .p (.lit (.int .i64 x.cap)), .p (.lit (.int .i64 x.res)), .p (.dat 1 (x.inf.map inRow)), .p (.dat 1 (x.rel.map inRow)), .p (.dat 2 (x.pen.map knotP)), .p (.lit (.int .i64 x.wei))]
abbrev planD (x : Plan) : DV := .agg (planC x)
abbrev planL (l : List Plan) : DV := .p (.dat 7 (l.map planP))
theorem planP_map (x : Plan) : (planP x).map DV.p = planC x := rfl
theorem planP_len (x : Plan) : (planP x).length = 7 := rfl
theorem planC_len (x : Plan) : (planC x).length = 7 := rfl
theorem planP_take (x : Plan) : (planP x).take 7 = planP x := rfl
theorem planC_take (x : Plan) : (planC x).take 7 = planC x := rfl
theorem planC_all (x : Plan) : (planC x).all DV.cellB = true := rfl
theorem planP_d0 (x : Plan) : (planP x).getD 0 default = .lit (.int .i64 x.start) := rfl
theorem planC_d0 (x : Plan) : (planC x)[0]? = some (.p (.lit (.int .i64 x.start))) := rfl
theorem planP_s0 (x : Plan) : (planP x).take 1 = [.lit (.int .i64 x.start)] := rfl
theorem planC_s0 (x : Plan) : (planC x).take 1 = [.p (.lit (.int .i64 x.start))] := rfl
theorem planP_d1 (x : Plan) : (planP x).getD 1 default = .lit (.int .i64 x.cap) := rfl
theorem planC_d1 (x : Plan) : (planC x)[1]? = some (.p (.lit (.int .i64 x.cap))) := rfl
theorem planP_s1 (x : Plan) : ((planP x).drop 1).take 1 = [.lit (.int .i64 x.cap)] := rfl
theorem planC_s1 (x : Plan) : ((planC x).drop 1).take 1 = [.p (.lit (.int .i64 x.cap))] := rfl
theorem planP_d2 (x : Plan) : (planP x).getD 2 default = .lit (.int .i64 x.res) := rfl
theorem planC_d2 (x : Plan) : (planC x)[2]? = some (.p (.lit (.int .i64 x.res))) := rfl
theorem planP_s2 (x : Plan) : ((planP x).drop 2).take 1 = [.lit (.int .i64 x.res)] := rfl
theorem planC_s2 (x : Plan) : ((planC x).drop 2).take 1 = [.p (.lit (.int .i64 x.res))] := rfl
theorem planP_d3 (x : Plan) : (planP x).getD 3 default = .dat 1 (x.inf.map inRow) := rfl
theorem planC_d3 (x : Plan) : (planC x)[3]? = some (.p (.dat 1 (x.inf.map inRow))) := rfl
theorem planP_s3 (x : Plan) : ((planP x).drop 3).take 1 = [.dat 1 (x.inf.map inRow)] := rfl
theorem planC_s3 (x : Plan) : ((planC x).drop 3).take 1 = [.p (.dat 1 (x.inf.map inRow))] := rfl
theorem planP_d4 (x : Plan) : (planP x).getD 4 default = .dat 1 (x.rel.map inRow) := rfl
theorem planC_d4 (x : Plan) : (planC x)[4]? = some (.p (.dat 1 (x.rel.map inRow))) := rfl
theorem planP_s4 (x : Plan) : ((planP x).drop 4).take 1 = [.dat 1 (x.rel.map inRow)] := rfl
theorem planC_s4 (x : Plan) : ((planC x).drop 4).take 1 = [.p (.dat 1 (x.rel.map inRow))] := rfl
theorem planP_d5 (x : Plan) : (planP x).getD 5 default = .dat 2 (x.pen.map knotP) := rfl
theorem planC_d5 (x : Plan) : (planC x)[5]? = some (.p (.dat 2 (x.pen.map knotP))) := rfl
theorem planP_s5 (x : Plan) : ((planP x).drop 5).take 1 = [.dat 2 (x.pen.map knotP)] := rfl
theorem planC_s5 (x : Plan) : ((planC x).drop 5).take 1 = [.p (.dat 2 (x.pen.map knotP))] := rfl
theorem planP_d6 (x : Plan) : (planP x).getD 6 default = .lit (.int .i64 x.wei) := rfl
theorem planC_d6 (x : Plan) : (planC x)[6]? = some (.p (.lit (.int .i64 x.wei))) := rfl
theorem planP_s6 (x : Plan) : ((planP x).drop 6).take 1 = [.lit (.int .i64 x.wei)] := rfl
theorem planC_s6 (x : Plan) : ((planC x).drop 6).take 1 = [.p (.lit (.int .i64 x.wei))] := rfl
theorem planC_ren (o n : Nat) (x : Plan) : DV.renL o n (planC x) = planC x := rfl
theorem planC_frz (o : Nat) (v : FV) (x : Plan) : DV.frzL o v (planC x) = planC x := rfl
theorem planC_mp (r : Nat → Nat) (x : Plan) : DV.mpL r (planC x) = planC x := rfl
theorem planC_uses (U : Nat → Prop) (x : Plan) : DV.usesL U (planC x) = True := by simp [planC, DV.usesL, DV.uses]
attribute [push_cast] planP_map planP_len planC_len planP_take planC_take planC_all planP_d0 planC_d0 planP_s0 planC_s0 planP_d1 planC_d1 planP_s1 planC_s1 planP_d2 planC_d2 planP_s2 planC_s2 planP_d3 planC_d3 planP_s3 planC_s3 planP_d4 planC_d4 planP_s4 planC_s4 planP_d5 planC_d5 planP_s5 planC_s5 planP_d6 planC_d6 planP_s6 planC_s6 planC_ren planC_frz planC_mp planC_uses
def planOk (x : Plan) : Prop := i64ok x.start ∧ i64ok x.cap ∧ i64ok x.res ∧ intsOk x.inf ∧ intsOk x.rel ∧ (x.pen.length ≤ 281474976710656 ∧ ∀ y, y ∈ x.pen → knotOk y) ∧ i64ok x.wei
abbrev nilS : DV := .p (.lit (.slice none 0 0))
abbrev boL (l : List Bool) : HV := .lst 4 1 (rows boRow l)
abbrev inLt (l : List Int) : HV := .lst 3 1 (rows inRow l)
theorem sumStep_u32 (n : Nat) (c : UInt8) : IntKind.u32.wrap (IntKind.u32.wrap (IntKind.u32.wrap (31 * (n : Int)) + (c.toNat : Int)) + 1) = (sumStep n c : Nat) := by
  simp only [IntKind.wrap_u32, sumStep]; have := u8lt c; omega
theorem sumStep_i64 (n : Nat) (c : UInt8) (h : n < 4294967296) : (31 * (n : Int) + (c.toNat : Int) + 1).tmod 4294967296 = (sumStep n c : Nat) := by
  have := u8lt c
  rw [Int.tmod_eq_emod_of_nonneg (by omega)]; unfold sumStep; omega
end Go.Proofs.YtlailhdmgehniaaGreat
