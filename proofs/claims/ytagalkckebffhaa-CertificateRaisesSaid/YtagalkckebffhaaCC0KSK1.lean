/-
  Contracts of functions of the program, over the engine.
  No condition.
-/
import Derived.Test.YtagalkckebffhaaTz
import Derived.Test.YtagalkckebffhaaEngO
import Derived.Test.YtagalkckebffhaaPl0
import Derived.Test.YtagalkckebffhaaEngW
import Derived.Test.YtagalkckebffhaaEngY
import Derived.Test.YtagalkckebffhaaEngZ
namespace Go.Proofs.Ytagalkckebffhaa
open Go.Eng
set_option linter.all false
attribute [local irreducible] DCallsG SWp Fct CallQ XCallQ LCallQ XLCallQ drun xrun
theorem mixed : Try.prog.follows .mixedOrders = true := by kernel_rfl

def i64ok (n : Int) : Prop := -9223372036854775808 ≤ n ∧ n ≤ 9223372036854775807
def intsOk (l : List Int) : Prop := l.length ≤ 281474976710656 ∧ ∀ z, z ∈ l → i64ok z
def boRow (b : Bool) : List PV := [.lit (.bool b)]
abbrev bools (l : List Bool) : DV := .p (.dat 1 (l.map boRow))
theorem getD_drop0 {α : Type} (l : List α) (k : Nat) (d : α) : (l.drop k).getD 0 d = l.getD k d := by simp [List.getD_eq_getElem?_getD]
def pairP (p : Int × Int) : List PV := [.lit (.int .i64 p.1), .lit (.int .i64 p.2)]
abbrev pairs (l : List (Int × Int)) : DV := .p (.dat 2 (l.map pairP))
theorem usesL_p (U : Nat → Prop) (l : List PV) : DV.usesL U (l.map DV.p) = True := propext ⟨fun _ => trivial, fun _ => usesL_iff.2 fun d hd => by obtain ⟨x, _, rfl⟩ := List.mem_map.1 hd; exact trivial⟩
theorem mpL_p (r : Nat → Nat) (l : List PV) : DV.mpL r (l.map DV.p) = l.map DV.p := by
  rw [mpL_eq, List.map_map]; exact List.map_congr_left fun x _ => rfl
theorem renL_p (o n : Nat) (l : List PV) : DV.renL o n (l.map DV.p) = l.map DV.p := by
  rw [renL_eq, List.map_map]; exact List.map_congr_left fun x _ => rfl
theorem lbC {x y : Bool} (h : x = y) : lb x = lb y := by rw [h]
def ilRow (l : List Int) : List PV := [.dat 1 (l.map inRow)]
abbrev intss (l : List (List Int)) : DV := .p (.dat 1 (l.map ilRow))
theorem getD_mem {α : Type} [Inhabited α] {l : List α} {i : Nat} (h : i < l.length) : l.getD i default ∈ l := by
  rw [List.getD_eq_getElem?_getD, List.getElem?_eq_getElem h]; exact List.getElem_mem h
attribute [push_cast] usesL_p mpL_p renL_p ilRow boRow pairP getD_drop0 List.drop_zero List.length_drop List.drop_drop
structure Knot where
  x : Int
  y : Int
instance : Inhabited Knot := ⟨⟨default, default⟩⟩
theorem knot_ext {x y : Knot} (h : x.x = y.x ∧ x.y = y.y) : x = y := by
  cases x; cases y; simp_all
instance : DecidableEq Knot := fun x y => decidable_of_iff (x.x = y.x ∧ x.y = y.y) ⟨knot_ext, fun h => by subst h; simp⟩
def knotP (x : Knot) : List PV := [.lit (.int .i64 x.x), .lit (.int .i64 x.y)]
def knotC (x : Knot) : List DV := [.p (.lit (.int .i64 x.x)), .p (.lit (.int .i64 x.y))]
abbrev knotD (x : Knot) : DV := .agg (knotC x)
abbrev knotL (l : List Knot) : DV := .p (.dat 2 (l.map knotP))
theorem knotP_map (x : Knot) : (knotP x).map DV.p = knotC x := rfl
theorem knotP_len (x : Knot) : (knotP x).length = 2 := rfl
theorem knotC_len (x : Knot) : (knotC x).length = 2 := rfl
theorem knotP_take (x : Knot) : (knotP x).take 2 = knotP x := rfl
theorem knotC_take (x : Knot) : (knotC x).take 2 = knotC x := rfl
theorem knotC_all (x : Knot) : (knotC x).all DV.cellB = true := rfl
theorem knotP_d0 (x : Knot) : (knotP x).getD 0 default = .lit (.int .i64 x.x) := rfl
theorem knotC_d0 (x : Knot) : (knotC x)[0]? = some (.p (.lit (.int .i64 x.x))) := rfl
theorem knotP_s0 (x : Knot) : (knotP x).take 1 = [.lit (.int .i64 x.x)] := rfl
theorem knotC_s0 (x : Knot) : (knotC x).take 1 = [.p (.lit (.int .i64 x.x))] := rfl
theorem knotP_d1 (x : Knot) : (knotP x).getD 1 default = .lit (.int .i64 x.y) := rfl
theorem knotC_d1 (x : Knot) : (knotC x)[1]? = some (.p (.lit (.int .i64 x.y))) := rfl
theorem knotP_s1 (x : Knot) : ((knotP x).drop 1).take 1 = [.lit (.int .i64 x.y)] := rfl
theorem knotC_s1 (x : Knot) : ((knotC x).drop 1).take 1 = [.p (.lit (.int .i64 x.y))] := rfl
theorem knotC_ren (o n : Nat) (x : Knot) : DV.renL o n (knotC x) = knotC x := rfl
theorem knotC_frz (o : Nat) (v : FV) (x : Knot) : DV.frzL o v (knotC x) = knotC x := rfl
theorem knotC_mp (r : Nat → Nat) (x : Knot) : DV.mpL r (knotC x) = knotC x := rfl
theorem knotC_uses (U : Nat → Prop) (x : Knot) : DV.usesL U (knotC x) = True := by simp [knotC, DV.usesL, DV.uses]
attribute [push_cast] knotP_map knotP_len knotC_len knotP_take knotC_take knotC_all knotP_d0 knotC_d0 knotP_s0 knotC_s0 knotP_d1 knotC_d1 knotP_s1 knotC_s1 knotC_ren knotC_frz knotC_mp knotC_uses
def knotOk (x : Knot) : Prop := i64ok x.x ∧ i64ok x.y
structure Plan where
  start : Int
  cap : Int
  res : Int
  inf : List Int
  rel : List Int
  pen : List Knot
  wei : Int
instance : Inhabited Plan := ⟨⟨default, default, default, default, default, default, default⟩⟩
theorem plan_ext {x y : Plan} (h : x.start = y.start ∧ x.cap = y.cap ∧ x.res = y.res ∧ x.inf = y.inf ∧ x.rel = y.rel ∧ x.pen = y.pen ∧ x.wei = y.wei) : x = y := by
  cases x; cases y; simp_all
instance : DecidableEq Plan := fun x y => decidable_of_iff (x.start = y.start ∧ x.cap = y.cap ∧ x.res = y.res ∧ x.inf = y.inf ∧ x.rel = y.rel ∧ x.pen = y.pen ∧ x.wei = y.wei) ⟨plan_ext, fun h => by subst h; simp⟩
def planP (x : Plan) : List PV := [.lit (.int .i64 x.start), .lit (.int .i64 x.cap), .lit (.int .i64 x.res), .dat 1 (x.inf.map inRow), .dat 1 (x.rel.map inRow), .dat 2 (x.pen.map knotP), .lit (.int .i64 x.wei)]
def planC (x : Plan) : List DV := [.p (.lit (.int .i64 x.start)), .p (.lit (.int .i64 x.cap)), .p (.lit (.int .i64 x.res)), .p (.dat 1 (x.inf.map inRow)), .p (.dat 1 (x.rel.map inRow)), .p (.dat 2 (x.pen.map knotP)), .p (.lit (.int .i64 x.wei))]
abbrev planD (x : Plan) : DV := .agg (planC x)
abbrev planL (l : List Plan) : DV := .p (.dat 7 (l.map planP))
theorem planP_map (x : Plan) : (planP x).map DV.p = planC x := rfl
theorem planP_len (x : Plan) : (planP x).length = 7 := rfl
theorem planC_len (x : Plan) : (planC x).length = 7 := rfl
theorem planP_take (x : Plan) : (planP x).take 7 = planP x := rfl
theorem planC_take (x : Plan) : (planC x).take 7 = planC x := rfl
theorem planC_all (x : Plan) : (planC x).all DV.cellB = true := rfl
theorem planP_d0 (x : Plan) : (planP x).getD 0 default = .lit (.int .i64 x.start) := rfl
theorem planC_d0 (x : Plan) : (planC x)[0]? = some (.p (.lit (.int .i64 x.start))) := rfl
theorem planP_s0 (x : Plan) : (planP x).take 1 = [.lit (.int .i64 x.start)] := rfl
theorem planC_s0 (x : Plan) : (planC x).take 1 = [.p (.lit (.int .i64 x.start))] := rfl
theorem planP_d1 (x : Plan) : (planP x).getD 1 default = .lit (.int .i64 x.cap) := rfl
theorem planC_d1 (x : Plan) : (planC x)[1]? = some (.p (.lit (.int .i64 x.cap))) := rfl
theorem planP_s1 (x : Plan) : ((planP x).drop 1).take 1 = [.lit (.int .i64 x.cap)] := rfl
theorem planC_s1 (x : Plan) : ((planC x).drop 1).take 1 = [.p (.lit (.int .i64 x.cap))] := rfl
theorem planP_d2 (x : Plan) : (planP x).getD 2 default = .lit (.int .i64 x.res) := rfl
theorem planC_d2 (x : Plan) : (planC x)[2]? = some (.p (.lit (.int .i64 x.res))) := rfl
theorem planP_s2 (x : Plan) : ((planP x).drop 2).take 1 = [.lit (.int .i64 x.res)] := rfl
theorem planC_s2 (x : Plan) : ((planC x).drop 2).take 1 = [.p (.lit (.int .i64 x.res))] := rfl
theorem planP_d3 (x : Plan) : (planP x).getD 3 default = .dat 1 (x.inf.map inRow) := rfl
theorem planC_d3 (x : Plan) : (planC x)[3]? = some (.p (.dat 1 (x.inf.map inRow))) := rfl
theorem planP_s3 (x : Plan) : ((planP x).drop 3).take 1 = [.dat 1 (x.inf.map inRow)] := rfl
theorem planC_s3 (x : Plan) : ((planC x).drop 3).take 1 = [.p (.dat 1 (x.inf.map inRow))] := rfl
theorem planP_d4 (x : Plan) : (planP x).getD 4 default = .dat 1 (x.rel.map inRow) := rfl
theorem planC_d4 (x : Plan) : (planC x)[4]? = some (.p (.dat 1 (x.rel.map inRow))) := rfl
theorem planP_s4 (x : Plan) : ((planP x).drop 4).take 1 = [.dat 1 (x.rel.map inRow)] := rfl
theorem planC_s4 (x : Plan) : ((planC x).drop 4).take 1 = [.p (.dat 1 (x.rel.map inRow))] := rfl
theorem planP_d5 (x : Plan) : (planP x).getD 5 default = .dat 2 (x.pen.map knotP) := rfl
theorem planC_d5 (x : Plan) : (planC x)[5]? = some (.p (.dat 2 (x.pen.map knotP))) := rfl
theorem planP_s5 (x : Plan) : ((planP x).drop 5).take 1 = [.dat 2 (x.pen.map knotP)] := rfl
theorem planC_s5 (x : Plan) : ((planC x).drop 5).take 1 = [.p (.dat 2 (x.pen.map knotP))] := rfl
theorem planP_d6 (x : Plan) : (planP x).getD 6 default = .lit (.int .i64 x.wei) := rfl
theorem planC_d6 (x : Plan) : (planC x)[6]? = some (.p (.lit (.int .i64 x.wei))) := rfl
theorem planP_s6 (x : Plan) : ((planP x).drop 6).take 1 = [.lit (.int .i64 x.wei)] := rfl
theorem planC_s6 (x : Plan) : ((planC x).drop 6).take 1 = [.p (.lit (.int .i64 x.wei))] := rfl
theorem planC_ren (o n : Nat) (x : Plan) : DV.renL o n (planC x) = planC x := rfl
theorem planC_frz (o : Nat) (v : FV) (x : Plan) : DV.frzL o v (planC x) = planC x := rfl
theorem planC_mp (r : Nat → Nat) (x : Plan) : DV.mpL r (planC x) = planC x := rfl
theorem planC_uses (U : Nat → Prop) (x : Plan) : DV.usesL U (planC x) = True := by simp [planC, DV.usesL, DV.uses]
attribute [push_cast] planP_map planP_len planC_len planP_take planC_take planC_all planP_d0 planC_d0 planP_s0 planC_s0 planP_d1 planC_d1 planP_s1 planC_s1 planP_d2 planC_d2 planP_s2 planC_s2 planP_d3 planC_d3 planP_s3 planC_s3 planP_d4 planC_d4 planP_s4 planC_s4 planP_d5 planC_d5 planP_s5 planC_s5 planP_d6 planC_d6 planP_s6 planC_s6 planC_ren planC_frz planC_mp planC_uses
def planOk (x : Plan) : Prop := i64ok x.start ∧ i64ok x.cap ∧ i64ok x.res ∧ intsOk x.inf ∧ intsOk x.rel ∧ (x.pen.length ≤ 281474976710656 ∧ ∀ y, y ∈ x.pen → knotOk y) ∧ i64ok x.wei
def Stop (p : Prop) : Prop := p
theorem stop_in {p : Prop} (h : Stop p) : p := h
theorem stop_out {p : Prop} (h : p) : Stop p := h
attribute [irreducible] Stop
section
open Go.Eng
variable {P : Program} {N pin nx : Nat}
def midK (L K : List Nat) (M : LE → LH → Prop) (Q : Exit → LE → LH → Nat → Prop) : Exit → LE → LH → Nat → Prop := fun e A H nx =>
  match e with
  | .normal => M (ekeep A L) (hkeep H K)
  | e => Q e A H nx
theorem midK_normal {L K : List Nat} {M : LE → LH → Prop} {Q : Exit → LE → LH → Nat → Prop} {A A2 : LE} {H H2 : LH} (hA : ekeep A L = A2) (hH : hkeep H K = H2) (h : M A2 H2) : midK L K M Q .normal A H nx := by subst hA hH; exact h
theorem midK_ret {L K : List Nat} {M : LE → LH → Prop} {Q : Exit → LE → LH → Nat → Prop} {A : LE} {H : LH} (h : Q .ret A H nx) : midK L K M Q .ret A H nx := h
theorem midK_exit {L K : List Nat} {M : LE → LH → Prop} {Q : Exit → LE → LH → Nat → Prop} {A : LE} {H : LH} {i : Nat} (h : Q (.exit i) A H nx) : midK L K M Q (.exit i) A H nx := h
theorem swp_mid {x y : Code} {Q : Exit → LE → LH → Nat → Prop} {A : LE} {H : LH} (L K : List Nat) (n0 : Nat) (M : LE → LH → Prop) (hp : pin ≤ n0) (hI : ∀ A H, M A H → usesA n0 A ∧ usesH n0 H)
    (h1 : SWp P N pin x (midK L K M Q) A H nx) (h2 : ∀ A H, M A H → SWp P N pin y Q A H n0) : SWp P N pin (.seq x y) Q A H nx := by
  unfold SWp at h1 h2 ⊢
  intro hp1 B hB a w hS
  refine wp_seq (wp_mono (h1 hp1 B hB a w hS) fun e a' w' ⟨A', H', nx', k1, k2, k3⟩ => ?_)
  cases e with
  | normal =>
    have u := hI _ _ k3
    exact h2 _ _ k3 hp B hB a' w' (k2.reset L K u.1 u.2)
  | _ => exact ⟨A', H', nx', k1, k2, k3⟩
end
attribute [irreducible] midK
theorem kn_test {B a b u w q r : Nat} (he : u = q * a + r) : B * r + w < q * b ↔ u * B + w < q * (a * B + b) := by
  have e1 : u * B = q * a * B + r * B := by rw [he, Nat.add_mul]
  have e2 : q * (a * B + b) = q * a * B + q * b := by rw [Nat.mul_add, Nat.mul_assoc]
  rw [e1, e2, Nat.mul_comm B r]
  generalize q * a * B = t
  generalize r * B = s
  generalize q * b = p
  omega
theorem kn_small {B a b u q r : Nat} (hb : b < B) (hu : u < a * B + b) (he : u = q * a + r) (hr : B ≤ r) : q < B := by
  refine Nat.lt_of_not_le fun h => ?_
  have := Nat.mul_le_mul_right a h
  rw [Nat.mul_comm B a] at this
  generalize q * a = t at *
  generalize a * B = s at *
  omega
theorem kn_rest {B a b u w q r : Nat} (hb : b < B) (hu : u < a * B + b) (he : u = q * a + r) (hr : B ≤ r) : ¬ B * r + w < q * b := by
  have hq := kn_small hb hu he hr
  have h1 : q * b ≤ B * B := Nat.mul_le_mul (by omega) (by omega)
  have h2 : B * B ≤ B * r := Nat.mul_le_mul_left B hr
  generalize q * b = p at *
  generalize B * r = s at *
  generalize B * B = t at *
  omega
theorem kn_great {B v u w q : Nat} (hu : u < v) (hw : w < B) (hq : B ≤ q) : u * B + w < q * v := by
  have h1 : (u + 1) * B ≤ v * B := Nat.mul_le_mul_right B hu
  have h2 : B * v ≤ q * v := Nat.mul_le_mul_right v hq
  rw [Nat.add_mul, Nat.one_mul] at h1
  rw [Nat.mul_comm B v] at h2
  generalize u * B = s at *
  generalize v * B = t at *
  generalize q * v = p at *
  omega
theorem kn_first {B a b u w : Nat} (ha : 0 < a) (hw : w < B) : u * B + w < (u / a + 1) * (a * B + b) := by
  have h1 : u + 1 ≤ (u / a + 1) * a := by
    have := Nat.lt_div_mul_add ha (a := u)
    rw [Nat.add_mul, Nat.one_mul]; omega
  have h2 : (u + 1) * B ≤ (u / a + 1) * a * B := Nat.mul_le_mul_right B h1
  rw [Nat.add_mul, Nat.one_mul] at h2
  rw [Nat.mul_add, ← Nat.mul_assoc]
  generalize (u / a + 1) * a * B = t at *
  generalize (u / a + 1) * b = p at *
  generalize u * B = s at *
  omega
theorem kn_most {B a b u : Nat} (hb : b < B) (hB : B ≤ 2 * a) (ha : 0 < a) (hu : u < a * B + b) : u / a ≤ B + 1 := by
  have h2 : u < (B + 2) * a := by
    rw [Nat.add_mul, Nat.mul_comm B a]
    generalize a * B = s at *
    omega
  have := (Nat.div_lt_iff_lt_mul ha).2 h2
  omega
theorem kn_done {v x q : Nat} (h1 : q * v ≤ x) (h2 : x < (q + 1) * v) : x / v = q := by
  have hv : 0 < v := Nat.pos_of_ne_zero fun e => by rw [e, Nat.mul_zero] at h2; exact Nat.not_lt_zero _ h2
  exact Nat.div_eq_of_lt_le h1 h2
theorem kn_two {B v u w z : Nat} (hv : 0 < v) (hz : z < B) (hB : 0 < B) : (u * B + w) / v * B + ((u * B + w) % v * B + z) / v = ((u * B + w) * B + z) / v ∧ ((u * B + w) % v * B + z) % v = ((u * B + w) * B + z) % v := by
  have e : (u * B + w) * B + z = ((u * B + w) % v * B + z) + v * ((u * B + w) / v * B) := by
    have h := Nat.mod_add_div (u * B + w) v
    generalize (u * B + w) / v = q at *
    generalize (u * B + w) % v = r at *
    rw [← h, Nat.add_mul, Nat.mul_assoc]
    generalize v * (q * B) = t
    generalize r * B = s
    omega
  rw [e, Nat.add_mul_div_left _ _ hv, Nat.add_mul_mod_self_left]
  exact ⟨Nat.add_comm _ _, rfl⟩
theorem kn_step {B a b u w q r : Nat} (hb : b < B) (hw : w < B) (hu : u < a * B + b) (he : u = q * a + r) (h : u * B + w < (q + 1) * (a * B + b)) (ht : B ≤ q ∨ B * r + w < q * b) :
    1 ≤ q ∧ u * B + w < (q - 1 + 1) * (a * B + b) ∧ u = (q - 1) * a + (r + a) ∧ (B ≤ r + a → (u * B + w) / (a * B + b) = q - 1) := by
  have h1 : u * B + w < q * (a * B + b) := by
    rcases ht with ht | ht
    · exact kn_great hu hw ht
    · exact (kn_test he).1 ht
  have hq : 1 ≤ q := by
    rcases Nat.eq_zero_or_pos q with e | e
    · rw [e, Nat.zero_mul] at h1; exact absurd h1 (Nat.not_lt_zero _)
    · exact e
  have e1 : q - 1 + 1 = q := by omega
  have e2 : u = (q - 1) * a + (r + a) := by
    have : q * a = (q - 1) * a + a := by rw [← Nat.succ_mul]; congr 1; omega
    omega
  refine ⟨hq, by rw [e1]; exact h1, e2, fun hr => ?_⟩
  refine kn_done (Nat.le_of_not_lt fun h3 => ?_) (by rw [e1]; exact h1)
  exact kn_rest hb hu e2 hr ((kn_test e2).2 h3)
theorem kn_stop {B a b u w q r : Nat} (he : u = q * a + r) (h : u * B + w < (q + 1) * (a * B + b)) (ht : ¬ B * r + w < q * b) : (u * B + w) / (a * B + b) = q :=
  kn_done (Nat.le_of_not_lt fun h3 => ht ((kn_test he).2 h3)) h
theorem kn_lt {B hi lo y : Nat} (h1 : hi < y) (hl : lo < B) : (hi * B + lo) / y < B := by
  rw [Nat.div_lt_iff_lt_mul (by omega)]
  have h2 : (hi + 1) * B ≤ y * B := Nat.mul_le_mul_right B h1
  rw [Nat.add_mul, Nat.one_mul] at h2
  rw [Nat.mul_comm B y]
  generalize hi * B = s at *
  generalize y * B = t at *
  omega
theorem kn_two2 {B v u w z Q R T S : Nat} (hv : 0 < v) (hz : z < B) (hB : 0 < B) (hQ : (u * B + w) / v = Q) (hR : (u * B + w) % v = R) (hT : (R * B + z) / v = T) (hS : (R * B + z) % v = S) : Q * B + T = ((u * B + w) * B + z) / v ∧ S = ((u * B + w) * B + z) % v := by
  subst hQ hR
  have := kn_two (u := u) (w := w) hv hz hB
  rw [hT, hS] at this
  exact this

end Go.Proofs.Ytagalkckebffhaa
