/-
  Contracts of functions of the program, over the engine.
  No condition.
-/
import Derived.Test.YtlailhdmgehniaaTz
import Derived.Test.YtlailhdmgehniaaEngO
import Derived.Test.YtlailhdmgehniaaPl0
import Derived.Test.YtlailhdmgehniaaEngW
import Derived.Test.YtlailhdmgehniaaEngY
import Derived.Test.YtlailhdmgehniaaEngZ
namespace Go.Proofs.Ytlailhdmgehniaa
open Go.Eng
set_option linter.all false
attribute [local irreducible] DCallsG SWp Fct CallQ XCallQ LCallQ XLCallQ drun xrun
theorem mixed : Try.prog.follows .mixedOrders = true := by kernel_rfl
instance : Mixed Try.prog := ⟨mixed⟩

def i64ok (n : Int) : Prop := -9223372036854775808 ≤ n ∧ n ≤ 9223372036854775807
def intsOk (l : List Int) : Prop := l.length ≤ 281474976710656 ∧ ∀ z, z ∈ l → i64ok z
def boRow (b : Bool) : List PV := [.lit (.bool b)]
abbrev bools (l : List Bool) : DV := .p (.dat 1 (l.map boRow))
theorem getD_drop0 {α : Type} (l : List α) (k : Nat) (d : α) : (l.drop k).getD 0 d = l.getD k d := by simp [List.getD_eq_getElem?_getD]
def pairP (p : Int × Int) : List PV := [.lit (.int .i64 p.1), .lit (.int .i64 p.2)]
abbrev pairs (l : List (Int × Int)) : DV := .p (.dat 2 (l.map pairP))
theorem usesL_p (U : Nat → Prop) (l : List PV) : DV.usesL U (l.map DV.p) = True := propext ⟨fun _ => trivial, fun _ => usesL_iff.2 fun d hd => by obtain ⟨x, _, rfl⟩ := List.mem_map.1 hd; exact trivial⟩
theorem mpL_p (r : Nat → Nat) (l : List PV) : DV.mpL r (l.map DV.p) = l.map DV.p := by
  rw [mpL_eq, List.map_map]; exact List.map_congr_left fun x _ => rfl
theorem renL_p (o n : Nat) (l : List PV) : DV.renL o n (l.map DV.p) = l.map DV.p := by
  rw [renL_eq, List.map_map]; exact List.map_congr_left fun x _ => rfl
theorem lbC {x y : Bool} (h : x = y) : lb x = lb y := by rw [h]
def ilRow (l : List Int) : List PV := [.dat 1 (l.map inRow)]
abbrev intss (l : List (List Int)) : DV := .p (.dat 1 (l.map ilRow))
theorem getD_mem {α : Type} [Inhabited α] {l : List α} {i : Nat} (h : i < l.length) : l.getD i default ∈ l := by
  rw [List.getD_eq_getElem?_getD, List.getElem?_eq_getElem h]; exact List.getElem_mem h
attribute [push_cast] usesL_p mpL_p renL_p ilRow boRow pairP getD_drop0 List.drop_zero List.length_drop List.drop_drop
structure Knot where
  x : Int
  y : Int
instance : Inhabited Knot := ⟨⟨default, default⟩⟩
theorem knot_ext {x y : Knot} (h : x.x = y.x ∧ x.y = y.y) : x = y := by
  cases x; cases y; simp_all
instance : DecidableEq Knot := fun x y => decidable_of_iff (x.x = y.x ∧ x.y = y.y) ⟨knot_ext, fun h => by subst h; simp⟩
def knotP (x : Knot) : List PV := [.lit (.int .i64 x.x), .lit (.int .i64 x.y)]
def knotC (x : Knot) : List DV := [.p (.lit (.int .i64 x.x)), .p (.lit (.int .i64 x.y))]
abbrev knotD (x : Knot) : DV := .agg (knotC x)
abbrev knotL (l : List Knot) : DV := .p (.dat 2 (l.map knotP))
theorem knotP_map (x : Knot) : (knotP x).map DV.p = knotC x := rfl
theorem knotP_len (x : Knot) : (knotP x).length = 2 := rfl
theorem knotC_len (x : Knot) : (knotC x).length = 2 := rfl
theorem knotP_take (x : Knot) : (knotP x).take 2 = knotP x := rfl
theorem knotC_take (x : Knot) : (knotC x).take 2 = knotC x := rfl
theorem knotC_all (x : Knot) : (knotC x).all DV.cellB = true := rfl
theorem knotP_d0 (x : Knot) : (knotP x).getD 0 default = .lit (.int .i64 x.x) := rfl
theorem knotC_d0 (x : Knot) : (knotC x)[0]? = some (.p (.lit (.int .i64 x.x))) := rfl
theorem knotP_s0 (x : Knot) : (knotP x).take 1 = [.lit (.int .i64 x.x)] := rfl
theorem knotC_s0 (x : Knot) : (knotC x).take 1 = [.p (.lit (.int .i64 x.x))] := rfl
theorem knotP_d1 (x : Knot) : (knotP x).getD 1 default = .lit (.int .i64 x.y) := rfl
theorem knotC_d1 (x : Knot) : (knotC x)[1]? = some (.p (.lit (.int .i64 x.y))) := rfl
theorem knotP_s1 (x : Knot) : ((knotP x).drop 1).take 1 = [.lit (.int .i64 x.y)] := rfl
theorem knotC_s1 (x : Knot) : ((knotC x).drop 1).take 1 = [.p (.lit (.int .i64 x.y))] := rfl
theorem knotC_ren (o n : Nat) (x : Knot) : DV.renL o n (knotC x) = knotC x := rfl
theorem knotC_frz (o : Nat) (v : FV) (x : Knot) : DV.frzL o v (knotC x) = knotC x := rfl
theorem knotC_mp (r : Nat → Nat) (x : Knot) : DV.mpL r (knotC x) = knotC x := rfl
theorem knotC_uses (U : Nat → Prop) (x : Knot) : DV.usesL U (knotC x) = True := by simp [knotC, DV.usesL, DV.uses]
attribute [push_cast] knotP_map knotP_len knotC_len knotP_take knotC_take knotC_all knotP_d0 knotC_d0 knotP_s0 knotC_s0 knotP_d1 knotC_d1 knotP_s1 knotC_s1 knotC_ren knotC_frz knotC_mp knotC_uses
def knotOk (x : Knot) : Prop := i64ok x.x ∧ i64ok x.y
structure Plan where
  start : Int
  cap : Int
  res : Int
  inf : List Int
  rel : List Int
  pen : List Knot
  wei : Int
instance : Inhabited Plan := ⟨⟨default, default, default, default, default, default, default⟩⟩
theorem plan_ext {x y : Plan} (h : x.start = y.start ∧ x.cap = y.cap ∧ x.res = y.res ∧ x.inf = y.inf ∧ x.rel = y.rel ∧ x.pen = y.pen ∧ x.wei = y.wei) : x = y := by
  cases x; cases y; simp_all
instance : DecidableEq Plan := fun x y => decidable_of_iff (x.start = y.start ∧ x.cap = y.cap ∧ x.res = y.res ∧ x.inf = y.inf ∧ x.rel = y.rel ∧ x.pen = y.pen ∧ x.wei = y.wei) ⟨plan_ext, fun h => by subst h; simp⟩
def planP (x : Plan) : List PV := [.lit (.int .i64 x.start), .lit (.int .i64 x.cap), .lit (.int .i64 x.res), .dat 1 (x.inf.map inRow), .dat 1 (x.rel.map inRow), .dat 2 (x.pen.map knotP), .lit (.int .i64 x.wei)]
def planC (x : Plan) : List DV := [.p (.lit (.int .i64 x.start)), .p (.lit (.int .i64 x.cap)), .p (.lit (.int .i64 x.res)), .p (.dat 1 (x.inf.map inRow)), .p (.dat 1 (x.rel.map inRow)), .p (.dat 2 (x.pen.map knotP)), .p (.lit (.int .i64 x.wei))]
abbrev planD (x : Plan) : DV := .agg (planC x)
abbrev planL (l : List Plan) : DV := .p (.dat 7 (l.map planP))
theorem planP_map (x : Plan) : (planP x).map DV.p = planC x := rfl
theorem planP_len (x : Plan) : (planP x).length = 7 := rfl
theorem planC_len (x : Plan) : (planC x).length = 7 := rfl
theorem planP_take (x : Plan) : (planP x).take 7 = planP x := rfl
theorem planC_take (x : Plan) : (planC x).take 7 = planC x := rfl
theorem planC_all (x : Plan) : (planC x).all DV.cellB = true := rfl
theorem planP_d0 (x : Plan) : (planP x).getD 0 default = .lit (.int .i64 x.start) := rfl
theorem planC_d0 (x : Plan) : (planC x)[0]? = some (.p (.lit (.int .i64 x.start))) := rfl
theorem planP_s0 (x : Plan) : (planP x).take 1 = [.lit (.int .i64 x.start)] := rfl
theorem planC_s0 (x : Plan) : (planC x).take 1 = [.p (.lit (.int .i64 x.start))] := rfl
theorem planP_d1 (x : Plan) : (planP x).getD 1 default = .lit (.int .i64 x.cap) := rfl
theorem planC_d1 (x : Plan) : (planC x)[1]? = some (.p (.lit (.int .i64 x.cap))) := rfl
theorem planP_s1 (x : Plan) : ((planP x).drop 1).take 1 = [.lit (.int .i64 x.cap)] := rfl
theorem planC_s1 (x : Plan) : ((planC x).drop 1).take 1 = [.p (.lit (.int .i64 x.cap))] := rfl
theorem planP_d2 (x : Plan) : (planP x).getD 2 default = .lit (.int .i64 x.res) := rfl
theorem planC_d2 (x : Plan) : (planC x)[2]? = some (.p (.lit (.int .i64 x.res))) := rfl
theorem planP_s2 (x : Plan) : ((planP x).drop 2).take 1 = [.lit (.int .i64 x.res)] := rfl
theorem planC_s2 (x : Plan) : ((planC x).drop 2).take 1 = [.p (.lit (.int .i64 x.res))] := rfl
theorem planP_d3 (x : Plan) : (planP x).getD 3 default = .dat 1 (x.inf.map inRow) := rfl
theorem planC_d3 (x : Plan) : (planC x)[3]? = some (.p (.dat 1 (x.inf.map inRow))) := rfl
theorem planP_s3 (x : Plan) : ((planP x).drop 3).take 1 = [.dat 1 (x.inf.map inRow)] := rfl
theorem planC_s3 (x : Plan) : ((planC x).drop 3).take 1 = [.p (.dat 1 (x.inf.map inRow))] := rfl
theorem planP_d4 (x : Plan) : (planP x).getD 4 default = .dat 1 (x.rel.map inRow) := rfl
theorem planC_d4 (x : Plan) : (planC x)[4]? = some (.p (.dat 1 (x.rel.map inRow))) := rfl
theorem planP_s4 (x : Plan) : ((planP x).drop 4).take 1 = [.dat 1 (x.rel.map inRow)] := rfl
theorem planC_s4 (x : Plan) : ((planC x).drop 4).take 1 = [.p (.dat 1 (x.rel.map inRow))] := rfl
theorem planP_d5 (x : Plan) : (planP x).getD 5 default = .dat 2 (x.pen.map knotP) := rfl
theorem planC_d5 (x : Plan) : (planC x)[5]? = some (.p (.dat 2 (x.pen.map knotP))) := rfl
theorem planP_s5 (x : Plan) : ((planP x).drop 5).take 1 = [.dat 2 (x.pen.map knotP)] := rfl
theorem planC_s5 (x : Plan) : ((planC x).drop 5).take 1 = [.p (.dat 2 (x.pen.map knotP))] := rfl
theorem planP_d6 (x : Plan) : (planP x).getD 6 default = .lit (.int .i64 x.wei) := rfl
theorem planC_d6 (x : Plan) : (planC x)[6]? = some (.p (.lit (.int .i64 x.wei))) := rfl
theorem planP_s6 (x : Plan) : ((planP x).drop 6).take 1 = [.lit (.int .i64 x.wei)] := rfl
theorem planC_s6 (x : Plan) : ((planC x).drop 6).take 1 = [.p (.lit (.int .i64 x.wei))] := rfl
theorem planC_ren (o n : Nat) (x : Plan) : DV.renL o n (planC x) = planC x := rfl
theorem planC_frz (o : Nat) (v : FV) (x : Plan) : DV.frzL o v (planC x) = planC x := rfl
theorem planC_mp (r : Nat → Nat) (x : Plan) : DV.mpL r (planC x) = planC x := rfl
theorem planC_uses (U : Nat → Prop) (x : Plan) : DV.usesL U (planC x) = True := by simp [planC, DV.usesL, DV.uses]
attribute [push_cast] planP_map planP_len planC_len planP_take planC_take planC_all planP_d0 planC_d0 planP_s0 planC_s0 planP_d1 planC_d1 planP_s1 planC_s1 planP_d2 planC_d2 planP_s2 planC_s2 planP_d3 planC_d3 planP_s3 planC_s3 planP_d4 planC_d4 planP_s4 planC_s4 planP_d5 planC_d5 planP_s5 planC_s5 planP_d6 planC_d6 planP_s6 planC_s6 planC_ren planC_frz planC_mp planC_uses
def planOk (x : Plan) : Prop := i64ok x.start ∧ i64ok x.cap ∧ i64ok x.res ∧ intsOk x.inf ∧ intsOk x.rel ∧ (x.pen.length ≤ 281474976710656 ∧ ∀ y, y ∈ x.pen → knotOk y) ∧ i64ok x.wei
abbrev nilS : DV := .p (.lit (.slice none 0 0))
abbrev boL (l : List Bool) : HV := .lst 4 1 (rows boRow l)
abbrev inLt (l : List Int) : HV := .lst 3 1 (rows inRow l)
theorem sumStep_u32 (n : Nat) (c : UInt8) : IntKind.u32.wrap (IntKind.u32.wrap (IntKind.u32.wrap (31 * (n : Int)) + (c.toNat : Int)) + 1) = (sumStep n c : Nat) := by
  simp only [IntKind.wrap_u32, sumStep]; have := u8lt c; omega
theorem sumStep_i64 (n : Nat) (c : UInt8) (h : n < 4294967296) : (31 * (n : Int) + (c.toNat : Int) + 1).tmod 4294967296 = (sumStep n c : Nat) := by
  have := u8lt c
  rw [Int.tmod_eq_emod_of_nonneg (by omega)]; unfold sumStep; omega
set_option maxHeartbeats 1000000 in
theorem idxInt_f (g : FuncId) (p : Int → Bool) (l : List (Int)) (m : Nat) (hl : l.length ≤ 281474976710656) (hg : ∀ x, x ∈ l → ∀ m, DCalls Try.prog g [li x] (hget []) m (lb (p x)) (hget [])) :
    DCalls Try.prog 53 [ints l, .clo g []] (hget []) m (li (idxI p l)) (hget []) := by
  refine pureC (n := 19) (rs := [.tmp 4]) (ts := [3]) Try.func53 rfl (by decide) [] (by (exact SD)) ?_
  (repeat' (first | refine swp_seq [0, 1, 4, 5, 7, 8, 9, 16] ?_ | refine st2 ?_ | (show Fct ..; refine fctI (fun hf => ?_)) | (show SWp _ _ _ (.cond _ _ _) _ _ _ _; first | refine cB (fun hc => ?_) (fun hc => ?_) | refine cU ?_ ?_)))
  refine loop_swp [0, 1, 7, 8] [] 0 (fun q A H => ∃ i : Nat, i ≤ l.length ∧ q = l.length - i ∧ (l.take i).any p = false ∧ A = [(0, ints l), (1, .clo g []), (7, li l.length), (8, li i)] ∧ H = []) (by omega) ?_ ?_ ?_
  · rintro q A H ⟨i, h1, h2, h3, rfl, rfl⟩
    exact ⟨by (exact SD), by (exact SD)⟩
  · refine ⟨_, 0, by omega, rfl, rfl, ?_, ?_⟩
    · exact DVR
    · exact DVR
  · rintro q A H ⟨i, h1, h2, h3, rfl, rfl⟩
    (repeat' (first | refine swp_seq [0, 1, 4, 5, 7, 8, 9, 16] ?_ | refine st2 ?_ | (show CallQ ..; first | refine cQ (fun hcc => (hg _ (getD_mem SC) _)) ?_ | (refine lP ?_; refine lQ (fun hcc m => (hg _ (getD_mem SC) _)) ?_)) | (show Fct ..; refine fctI (fun hf => ?_)) | (show SWp _ _ _ (.cond _ _ _) _ _ _ _; first | refine cB (fun hc => ?_) (fun hc => ?_) | refine cU ?_ ?_)))
    · (refine DVQ ?_)
      rw [idxI_hit h3 (by omega) (by assumption)]
    · (refine lN [] ?_)
      exact ⟨_, by omega, i + 1, by omega, rfl, any_step h3 (by omega) (by assumption), rfl, rfl⟩
    · (refine DVQ ?_)
      rw [List.take_of_length_le (by omega)] at h3
      rw [idxI_none h3]
theorem conInt_f (g : FuncId) (p : Int → Bool) (l : List (Int)) (m : Nat) (hl : l.length ≤ 281474976710656) (hg : ∀ x, x ∈ l → ∀ m, DCalls Try.prog g [li x] (hget []) m (lb (p x)) (hget [])) :
    DCalls Try.prog 41 [ints l, .clo g []] (hget []) m (lb (l.any p)) (hget []) := by
  refine pureC (n := 9) (rs := [.tmp 4]) (ts := [4]) Try.func41 rfl (by decide) [] (by (exact SD)) ?_
  (repeat' (first | refine swp_seq [0, 1, 4] ?_ | refine st2 ?_ | (show CallQ ..; first | refine cQ (fun hcc => (idxInt_f g p l _ hl hg)) ?_ | (refine lP ?_; refine lQ (fun hcc m => (idxInt_f g p l _ hl hg)) ?_)) | (show Fct ..; refine fctI (fun hf => ?_)) | (show SWp _ _ _ (.cond _ _ _) _ _ _ _; first | refine cB (fun hc => ?_) (fun hc => ?_) | refine cU ?_ ?_)))
  (refine DVQ ?_)
  rw [idxI_any]
set_option maxHeartbeats 1000000 in
theorem idxInts_f (g : FuncId) (p : List Int → Bool) (l : List (List Int)) (m : Nat) (hl : l.length ≤ 281474976710656) (hg : ∀ x, x ∈ l → ∀ m, DCalls Try.prog g [ints x] (hget []) m (lb (p x)) (hget [])) :
    DCalls Try.prog 45 [intss l, .clo g []] (hget []) m (li (idxI p l)) (hget []) := by
  refine pureC (n := 19) (rs := [.tmp 4]) (ts := [3]) Try.func45 rfl (by decide) [] (by (exact SD)) ?_
  (repeat' (first | refine swp_seq [0, 1, 4, 5, 7, 8, 9, 16] ?_ | refine st2 ?_ | (show Fct ..; refine fctI (fun hf => ?_)) | (show SWp _ _ _ (.cond _ _ _) _ _ _ _; first | refine cB (fun hc => ?_) (fun hc => ?_) | refine cU ?_ ?_)))
  refine loop_swp [0, 1, 7, 8] [] 0 (fun q A H => ∃ i : Nat, i ≤ l.length ∧ q = l.length - i ∧ (l.take i).any p = false ∧ A = [(0, intss l), (1, .clo g []), (7, li l.length), (8, li i)] ∧ H = []) (by omega) ?_ ?_ ?_
  · rintro q A H ⟨i, h1, h2, h3, rfl, rfl⟩
    exact ⟨by (exact SD), by (exact SD)⟩
  · refine ⟨_, 0, by omega, rfl, rfl, ?_, ?_⟩
    · exact DVR
    · exact DVR
  · rintro q A H ⟨i, h1, h2, h3, rfl, rfl⟩
    (repeat' (first | refine swp_seq [0, 1, 4, 5, 7, 8, 9, 16] ?_ | refine st2 ?_ | (show CallQ ..; first | refine cQ (fun hcc => (hg _ (getD_mem SC) _)) ?_ | (refine lP ?_; refine lQ (fun hcc m => (hg _ (getD_mem SC) _)) ?_)) | (show Fct ..; refine fctI (fun hf => ?_)) | (show SWp _ _ _ (.cond _ _ _) _ _ _ _; first | refine cB (fun hc => ?_) (fun hc => ?_) | refine cU ?_ ?_)))
    · (refine DVQ ?_)
      rw [idxI_hit h3 (by omega) (by assumption)]
    · (refine lN [] ?_)
      exact ⟨_, by omega, i + 1, by omega, rfl, any_step h3 (by omega) (by assumption), rfl, rfl⟩
    · (refine DVQ ?_)
      rw [List.take_of_length_le (by omega)] at h3
      rw [idxI_none h3]
theorem conInts_f (g : FuncId) (p : List Int → Bool) (l : List (List Int)) (m : Nat) (hl : l.length ≤ 281474976710656) (hg : ∀ x, x ∈ l → ∀ m, DCalls Try.prog g [ints x] (hget []) m (lb (p x)) (hget [])) :
    DCalls Try.prog 30 [intss l, .clo g []] (hget []) m (lb (l.any p)) (hget []) := by
  refine pureC (n := 9) (rs := [.tmp 4]) (ts := [4]) Try.func30 rfl (by decide) [] (by (exact SD)) ?_
  (repeat' (first | refine swp_seq [0, 1, 4] ?_ | refine st2 ?_ | (show CallQ ..; first | refine cQ (fun hcc => (idxInts_f g p l _ hl hg)) ?_ | (refine lP ?_; refine lQ (fun hcc m => (idxInts_f g p l _ hl hg)) ?_)) | (show Fct ..; refine fctI (fun hf => ?_)) | (show SWp _ _ _ (.cond _ _ _) _ _ _ _; first | refine cB (fun hc => ?_) (fun hc => ?_) | refine cU ?_ ?_)))
  (refine DVQ ?_)
  rw [idxI_any]
def bigB (r : List Int) : Bool := decide (8000 < r.length)
def fullB (l : List (List Int)) (k : Nat) : Bool := decide (k < l.length) || l.any bigB
def numB (n : Int) : Bool := decide (n < -1) || decide (1152921504606846976 < n)
def oddB (r : List Int) : Bool := decide (r.length % 2 = 1)
def badB (r : List Int) : Bool := oddB r || r.any numB
def rightE (l : List (List Int)) : Int := if fullB l 201 = true then 4 else if l.any badB = true then 1 else 0
def rowsOk (l : List (List Int)) : Prop := l.length ≤ 281474976710656 ∧ ∀ r, r ∈ l → intsOk r
theorem rows_len {l : List (List Int)} (h : rowsOk l) {i : Nat} (hi : i < l.length) : (l.getD i default).length ≤ 281474976710656 := (h.2 _ (getD_mem hi)).1
theorem long_f (r : List Int) (m : Nat) (hr : r.length ≤ 281474976710656) : DCalls Try.prog 34 [ints r] (hget []) m (lb (bigB r)) (hget []) := by
  refine pureC (n := 6) (rs := [.tmp 2]) (ts := [4]) Try.func34 rfl (by decide) [] (by (exact SD)) ?_
  (repeat' (first | refine swp_seq [0, 2] ?_ | refine st2 ?_ | (show Fct ..; refine fctI (fun hf => ?_)) | (show SWp _ _ _ (.cond _ _ _) _ _ _ _; first | refine cB (fun hc => ?_) (fun hc => ?_) | refine cU ?_ ?_)))
  (refine DVQ ?_)
  refine lbC ?_
  unfold bigB; grind
theorem full_f (l : List (List Int)) (m : Nat) (hl : rowsOk l) : DCalls Try.prog 27 [intss l] (hget []) m (lb (fullB l 201)) (hget []) := by
  have h1 := hl.1
  refine pureC (n := 10) (rs := [.tmp 2]) (ts := [4]) Try.func27 rfl (by decide) [] (by (exact SD)) ?_
  (repeat' (first | refine swp_seq [0, 2] ?_ | refine st2 ?_ | (show CallQ ..; first | refine cQ (fun hcc => (conInts_f _ bigB l _ h1 (fun x hx m => long_f x m (hl.2 x hx).1))) ?_ | (refine lP ?_; refine lQ (fun hcc m => (conInts_f _ bigB l _ h1 (fun x hx m => long_f x m (hl.2 x hx).1))) ?_)) | (show Fct ..; refine fctI (fun hf => ?_)) | (show SWp _ _ _ (.cond _ _ _) _ _ _ _; first | refine cB (fun hc => ?_) (fun hc => ?_) | refine cU ?_ ?_)))
  (refine DVQ ?_)
  refine lbC ?_
  unfold fullB; grind
def shortB (l : List (List Int)) : Bool := (decide (l.length ≤ 12) || (decide (201 < l.length) && decide (l.length ≤ 211))) && !(l.any fun x => (decide (200 < x.length) && decide (x.length ≤ 8000)) || decide (8010 < x.length))
theorem take_snoc {α : Type} [Inhabited α] {l : List α} {i : Nat} (h : i < l.length) : l.take (i + 1) = l.take i ++ [l.getD i default] := by
  rw [List.take_succ_eq_append_getElem h]
  simp [List.getD_eq_getElem?_getD, List.getElem?_eq_getElem h]
theorem flat_snoc {α β : Type} [Inhabited α] (f : α → List β) (l : List α) {i : Nat} (h : i < l.length) : (l.take (i + 1)).flatMap f = (l.take i).flatMap f ++ f (l.getD i default) := by
  rw [take_snoc h]; simp
abbrev nums (r : List Int) : List UInt8 := r.flatMap fun n => beBytes 8 (un64 n)
def encRow (r : List Int) : List UInt8 := beBytes 2 (un64 ((r.length : Int) / 2)) ++ nums r
def encHead (l : List (List Int)) : List UInt8 := [82, 67, 1] ++ beBytes 2 (un64 (l.length : Int))
def encBody (l : List (List Int)) : List UInt8 := encHead l ++ l.flatMap encRow
def encAll (l : List (List Int)) : List UInt8 := encBody l ++ beBytes 4 (un64 (sumN (encBody l) : Nat))
def sizeI (l : List (List Int)) (i : Nat) : Nat := 9 + ((l.take i).map fun r => 2 + 8 * r.length).sum
theorem nums_len (r : List Int) : (nums r).length = 8 * r.length := by
  induction r with
  | nil => rfl
  | cons a r ih => simp only [nums, List.flatMap_cons, List.length_append, beBytes_length, List.length_cons] at *; omega
theorem encRow_len (r : List Int) : (encRow r).length = 2 + 8 * r.length := by
  unfold encRow; rw [List.length_append, beBytes_length, nums_len]
theorem sizeI_next (l : List (List Int)) {i : Nat} (h : i < l.length) : sizeI l (i + 1) = sizeI l i + (2 + 8 * (l.getD i default).length) := by
  unfold sizeI
  rw [take_snoc h]; simp; omega
theorem part_len (l : List (List Int)) : ∀ i, (encHead l ++ (l.take i).flatMap encRow).length + 4 = sizeI l i := fun i => by
  have : ∀ k : List (List Int), (k.flatMap encRow).length = (k.map fun r => 2 + 8 * r.length).sum := fun k => by
    induction k with
    | nil => rfl
    | cons a k ih => simp [encRow_len, ih]
  simp [encHead, beBytes_length, this, sizeI]; omega
theorem sizeI_le {l : List (List Int)} (h : ∀ i, i < l.length → (l.getD i default).length ≤ 8000) : ∀ i, i ≤ l.length → sizeI l i ≤ 9 + 64002 * i
  | 0, _ => by simp [sizeI]
  | i + 1, hi => by
    have := sizeI_le h i (by omega)
    have := h i (by omega)
    rw [sizeI_next l (by omega)]; omega
theorem encBody_len (l : List (List Int)) : (encBody l).length + 4 = sizeI l l.length := by
  have := part_len l l.length
  rwa [List.take_length] at this
theorem encAll_len (l : List (List Int)) : (encAll l).length = sizeI l l.length := by
  have := encBody_len l
  simp [encAll, beBytes_length]; omega
theorem full_row {l : List (List Int)} {k : Nat} (h : fullB l k = false) {i : Nat} (hi : i < l.length) : l.length ≤ k ∧ (l.getD i default).length ≤ 8000 := by
  unfold fullB at h
  simp only [Bool.or_eq_false_iff, decide_eq_false_iff_not, List.any_eq_false] at h
  have := h.2 _ (getD_mem hi)
  have h8 : ¬ 8000 < (l.getD i default).length := fun q => this (decide_eq_true q)
  omega
def encR (l : List (List Int)) : List UInt8 × Int := if rightE l ≠ 0 then ([], rightE l) else if 1048576 < sizeI l l.length then ([], 5) else (encAll l, 0)
def evM (x y : List Int) : Bool := (List.range (x.length / 2)).any fun j => decide (¬ x.getD (2 * j) default = y.getD (2 * j) default)
def wkP (x y : Int) : Bool := decide (y = -1) || (!decide (x = -1) && decide (x ≤ y))
def evW (x y : List Int) : Bool := (List.range (x.length / 2)).all fun j => wkP (x.getD (2 * j + 1) default) (y.getD (2 * j + 1) default)
def sizesB (a b : List (List Int)) : Bool := decide (a.length = b.length) && (List.range a.length).all fun i => decide ((a.getD i default).length = (b.getD i default).length)
def weakR (a b : List (List Int)) : Bool × Int :=
  if (fullB a 201 || fullB b 201) = true then (false, 4)
  else if sizesB a b = false then (false, 3)
  else if a.any oddB = true then (false, 1)
  else if ((List.range a.length).any fun i => evM (a.getD i default) (b.getD i default)) = true then (false, 25)
  else ((List.range a.length).all fun i => evW (a.getD i default) (b.getD i default), 0)

end Go.Proofs.Ytlailhdmgehniaa
