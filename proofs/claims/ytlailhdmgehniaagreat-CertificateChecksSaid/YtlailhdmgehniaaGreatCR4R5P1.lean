/-
  Contracts of functions of the program, over the engine.
  No condition.
-/
import Derived.Test.YtlailhdmgehniaaGreatCR1R2R3
import Derived.Test.YtlailhdmgehniaaGreatCS6S7S8S9
import Derived.Test.YtlailhdmgehniaaGreatCC0C1
import Derived.Test.YtlailhdmgehniaaGreatRows
import Derived.Test.YtlailhdmgehniaaGreatEngV
import Derived.RangeFuncSeq
import Derived.RangeFuncGives
import Derived.Sort.MapsRangeIn
import Derived.Sort.KeysCollected
import Derived.WalkKit
import Derived.OwnWalkIn
import Derived.TacticsInMore
import Derived.RegionIn
import Derived.LoopNIn
import Derived.LoopIn
import Derived.RangeFuncBound
import Derived.Shelf.AbstractIn
import Derived.Maps.AppendAt
namespace Go.Proofs.YtlailhdmgehniaaGreat
open Go.Eng
set_option linter.all false
attribute [local irreducible] DCallsG SWp Fct CallQ XCallQ LCallQ XLCallQ drun xrun

theorem ediv_zero0 (U D : Int) : U * 0 / D = 0 := by rw [Int.mul_zero, Int.zero_ediv]
theorem floorT_at {t : List Knot} {x : Int} {j : Nat} (h : tabB t = true) (hj : j + 1 < t.length) (hc : cntX t x = j + 1) : floorT t x = (t.getD j default).y + ((t.getD (j + 1) default).y - (t.getD j default).y) * (x - (t.getD j default).x) / ((t.getD (j + 1) default).x - (t.getD j default).x) := by
  unfold cntX at hc
  unfold floorT
  split at hc
  · next hf =>
    rw [if_pos (.inl hf)]
    obtain rfl : j = knX t x := by omega
    rw [hf.2, Int.sub_self, ediv_zero0, Int.add_zero]
  · next hf =>
    have hk : knX t x = j + 1 := hc
    rw [if_neg (by rintro (q | q); exact hf q; omega), if_neg (by omega), hk, Nat.add_sub_cancel]
theorem floorT_0 {t : List Knot} {x : Int} (hc : cntX t x = 0) : floorT t x = (t.getD 0 default).y := by
  unfold cntX at hc
  unfold floorT
  split at hc
  · omega
  · next hf => rw [if_pos (.inr hc), hc]
theorem floorT_n {t : List Knot} {x : Int} (h : tabB t = true) (hc : cntX t x = t.length) : floorT t x = (t.getD (t.length - 1) default).y := by
  have h1 := (tab_in h).1
  unfold cntX at hc
  unfold floorT
  split at hc
  · next hf =>
    rw [if_pos (.inl hf)]
    congr 2; omega
  · next hf =>
    rw [if_neg (by rintro (q | q); exact hf q; omega), if_pos hc, hc]
set_option maxRecDepth 20000 in
set_option maxHeartbeats 8000000 in
theorem rvalue_f (t : List Knot) (x : Int) (h : tabB t = true) (hx : i64ok x) : ∃ r d : Int, ∀ m, DCalls Tryz.prog 84 [knotL t, li x] (hget []) m (.tup [li (floorT t x), li r, li d]) (hget []) := by
  have cb := fun m => before_f t x m h
  have hin := tab_in h
  have hk := cntX_le t x
  have hlo := fun j => cntX_lo (t := t) (x := x) (j := j)
  have hhi := fun j => cntX_hi (t := t) (x := x) (j := j) h
  have f0 := floorT_0 (t := t) (x := x)
  have fn := floorT_n (x := x) h
  have fj := fun j => floorT_at (x := x) (j := j) h
  generalize cntX t x = c at *
  by_cases hc0 : c = 0
  · subst hc0
    rw [f0 rfl]
    have e : ((0 : Nat) : Int) - 1 = -1 := by omega
    rw [e] at cb
    have hl0 : 0 < t.length := by omega
    have hl03 : (0 : Int) < (t.length : Int) := by omega
    (have := Nonempty.intro hl0)
    (have := Nonempty.intro hl03)
    refine ⟨0, 1, fun m => ?_⟩
    refine pureC (n := 85) (rs := [.tmp 4, .tmp 5, .tmp 6]) (ts := [3, 3, 3]) Tryz.func84 rfl (by decide) [] (by (exact SD)) ?_
    (repeat' (first | refine swp_seq [0, 1, 4, 5, 6, 7, 8, 9, 10, 15, 24] ?_ | refine st2 ?_ | (show CallQ ..; first | refine cQ (fun hcc => (by first | exact cb _)) ?_ | (refine lP ?_; refine lQ (fun hcc m => (by first | exact cb _)) ?_)) | (show XCallQ ..; first | refine xQ (fun hcc => (by first | exact cb _)) ?_ | (refine xlP ?_; refine xlQ (fun hcc m => (by first | exact cb _)) ?_)) | (show Fct ..; refine fctI (fun hf => ?_)) | (show SWp _ _ _ (.cond _ _ _) _ _ _ _; first | refine cB (fun hc => ?_) (fun hc => ?_) | refine cU ?_ ?_)))
    exact DVR
  obtain ⟨j, rfl⟩ : ∃ j, c = j + 1 := ⟨c - 1, by omega⟩
  have e : ((j + 1 : Nat) : Int) - 1 = (j : Int) := by omega
  rw [e] at cb
  have hjl : j < t.length := by omega
  (have := Nonempty.intro hjl)
  have hj0 : ¬ ((j : Int) < 0) := by omega
  (have := Nonempty.intro hj0)
  by_cases hcn : (j : Int) = (t.length : Int) - 1
  · (have := Nonempty.intro hcn)
    rw [fn (by omega), show t.length - 1 = j by omega]
    refine ⟨0, 1, fun m => ?_⟩
    refine pureC (n := 85) (rs := [.tmp 4, .tmp 5, .tmp 6]) (ts := [3, 3, 3]) Tryz.func84 rfl (by decide) [] (by (exact SD)) ?_
    (repeat' (first | refine swp_seq [0, 1, 4, 5, 6, 7, 8, 9, 10, 15, 24] ?_ | refine st2 ?_ | (show CallQ ..; first | refine cQ (fun hcc => (by first | exact cb _)) ?_ | (refine lP ?_; refine lQ (fun hcc m => (by first | exact cb _)) ?_)) | (show XCallQ ..; first | refine xQ (fun hcc => (by first | exact cb _)) ?_ | (refine xlP ?_; refine xlQ (fun hcc m => (by first | exact cb _)) ?_)) | (show Fct ..; refine fctI (fun hf => ?_)) | (show SWp _ _ _ (.cond _ _ _) _ _ _ _; first | refine cB (fun hc => ?_) (fun hc => ?_) | refine cU ?_ ?_)))
    exact DVR
  (have := Nonempty.intro hcn)
  have hjl1 : j + 1 < t.length := by omega
  rw [fj j hjl1 rfl]
  (have := Nonempty.intro hjl1)
  have b0 := hin.2.2.1 j hjl
  have b1 := hin.2.2.1 (j + 1) hjl1
  have b2 := hin.2.2.2 j hjl1
  have b3 := hlo j (by omega)
  have b4 := hhi (j + 1) (Nat.le_refl _) hjl1
  clear hlo hhi hin f0 fn fj
  obtain ⟨U, hU⟩ : ∃ U : Nat, (t.getD (j + 1) default).y - (t.getD j default).y = (U : Int) := ⟨((t.getD (j + 1) default).y - (t.getD j default).y).toNat, by omega⟩
  obtain ⟨W, hW⟩ : ∃ W : Nat, x - (t.getD j default).x = (W : Int) := ⟨(x - (t.getD j default).x).toNat, by omega⟩
  obtain ⟨D, hD⟩ : ∃ D : Nat, (t.getD (j + 1) default).x - (t.getD j default).x = (D : Int) := ⟨((t.getD (j + 1) default).x - (t.getD j default).x).toNat, by omega⟩
  have hD0 : 0 < D := by omega
  have hU1 : U ≤ 2251799813685248 := by omega
  have hD1 : D ≤ 2251799813685248 := by omega
  have hUW : U * W ≤ U * D := Nat.mul_le_mul_left U (by omega)
  have hQU : U * W / D ≤ U := by
    rw [Nat.div_le_iff_le_mul_add_pred hD0]
    rw [Nat.mul_comm D U]; omega
  have hdm := Nat.div_add_mod (U * W) D
  have hRD := Nat.mod_lt (U * W) hD0
  have hQ : (U : Int) * (W : Int) / (D : Int) = ((U * W / D : Nat) : Int) := by rw [Int.natCast_ediv, Int.natCast_mul]
  have eQ : (t.getD (j + 1) default).y - (t.getD j default).y = (U : Int) ∧ x - (t.getD j default).x = (W : Int) ∧ (t.getD (j + 1) default).x - (t.getD j default).x = (D : Int) := ⟨hU, hW, hD⟩
  rw [hU, hW, hD, hQ]
  clear hQ
  obtain ⟨Q, hQ⟩ : ∃ Q, U * W / D = Q := ⟨_, rfl⟩
  obtain ⟨R, hR⟩ : ∃ R, U * W % D = R := ⟨_, rfl⟩
  rw [hQ] at hQU hdm ⊢
  rw [hR] at hdm hRD
  have cs := fun m => floorOf_f U W D Q R m (by omega) (by omega) (by omega) hdm.symm hRD (by omega)
  clear hdm hQ hR hUW
  have cs2 : ∀ m, DCalls Tryz.prog 105 [li U, li (x - (t.getD j default).x), li D] (hget []) m (li Q) (hget []) := by rw [eQ.2.1]; exact cs
  refine ⟨IntKind.i64.wrap (IntKind.i64.wrap ((U : Int) * (x - (t.getD j default).x)) - IntKind.i64.wrap ((Q : Int) * (D : Int))), D, fun m => ?_⟩
  refine pureC (n := 85) (rs := [.tmp 4, .tmp 5, .tmp 6]) (ts := [3, 3, 3]) Tryz.func84 rfl (by decide) [] (by (exact SD)) ?_
  (repeat' (first | (show SWp _ _ _ (.seq (.region 8 _ _) _) _ _ _ _; refine (stop_in ?_)) | refine swp_seq [0, 1, 4, 5, 6, 7, 8, 9, 10, 15, 24] ?_ | (show SWp _ _ _ (.region _ _ true) _ _ _ _; refine xG mixed [] ?_) | refine st2 ?_ | (show CallQ ..; first | refine cQ (fun hcc => (by first | exact cb _)) ?_ | (refine lP ?_; refine lQ (fun hcc m => (by first | exact cb _)) ?_)) | (show XCallQ ..; first | refine xQ (fun hcc => (by first | exact cb _)) ?_ | (refine xlP ?_; refine xlQ (fun hcc m => (by first | exact cb _)) ?_)) | (show Fct ..; refine fctI (fun hf => ?_)) | (show SWp _ _ _ (.cond _ _ _) _ _ _ _; first | refine cB (fun hc => ?_) (fun hc => ?_) | refine cU ?_ ?_)))
  refine stop_out ?_
  rw [eQ.1, eQ.2.2]
  (repeat' (first | refine swp_seq [0, 1, 4, 5, 6, 7, 8, 9, 10, 15, 24] ?_ | refine st2 ?_ | (show CallQ ..; first | refine cQ (fun hcc => (by first | exact cs2 _)) ?_ | (refine lP ?_; refine lQ (fun hcc m => (by first | exact cs2 _)) ?_)) | (show XCallQ ..; first | refine xQ (fun hcc => (by first | exact cs2 _)) ?_ | (refine xlP ?_; refine xlQ (fun hcc m => (by first | exact cs2 _)) ?_)) | (show Fct ..; refine fctI (fun hf => ?_)) | (show SWp _ _ _ (.cond _ _ _) _ _ _ _; first | refine cB (fun hc => ?_) (fun hc => ?_) | refine cU ?_ ?_)))
  exact DVR
theorem rfloor_f (t : List Knot) (x : Int) (m : Nat) (h : tabB t = true) (hx : i64ok x) : DCalls Tryz.prog 73 [knotL t, li x] (hget []) m (li (floorT t x)) (hget []) := by
  obtain ⟨r, d, cp⟩ := rvalue_f t x h hx
  generalize floorT t x = F at *
  refine pureC (n := 16) (rs := [.tmp 4]) (ts := [3]) Tryz.func73 rfl (by decide) [] (by (exact SD)) ?_
  (repeat' (first | refine swp_seq [0, 1, 4, 5] ?_ | refine st2 ?_ | (show CallQ ..; first | refine cQ (fun hcc => (by first | exact cp _)) ?_ | (refine lP ?_; refine lQ (fun hcc m => (by first | exact cp _)) ?_)) | (show Fct ..; refine fctI (fun hf => ?_)) | (show SWp _ _ _ (.cond _ _ _) _ _ _ _; first | refine cB (fun hc => ?_) (fun hc => ?_) | refine cU ?_ ?_)))
  exact DVR
set_option maxRecDepth 20000 in
set_option maxHeartbeats 4000000 in
theorem price_f (p : Plan) (k ri : Nat) (v : Int) (m : Nat) (hp : planB p = true) (hk : k < p.inf.length) (hr : ri < p.rel.length) (hv : 0 ≤ v ∧ v ≤ 1099511627776) : DCalls Tryz.prog 58 [planD p, li k, li v, li (p.rel.getD ri default)] (hget []) m (li (costI p k v (p.rel.getD ri default))) (hget []) := by
  have hcst := cost_in hp hk hv hr
  have hin := planB_in hp
  have hkin := hin.2.2.2.2.2.2.2.1 k hk
  have hrin := hin.2.2.2.2.2.2.2.2.1 ri hr
  have hfl := hin.2.2.2.2.2.2.2.2.2 (p.rel.getD ri default)
  have cf := fun m => rfloor_f p.pen (p.rel.getD ri default) m hin.2.2.2.2.2.2.1 (by unfold i64ok; omega)
  (have := Nonempty.intro hk)
  have eS : (if 0 < v + p.inf.getD k default - p.rel.getD ri default - p.cap then v + p.inf.getD k default - p.rel.getD ri default - p.cap else 0) = v + p.inf.getD k default - p.rel.getD ri default - aftI p k v (p.rel.getD ri default) := by
    unfold aftI leftI; split <;> split <;> omega
  have eC : costI p k v (p.rel.getD ri default) = floorT p.pen (p.rel.getD ri default) + p.wei * (v + p.inf.getD k default - p.rel.getD ri default - aftI p k v (p.rel.getD ri default)) := rfl
  have eL : leftI p k v (p.rel.getD ri default) = v + p.inf.getD k default - p.rel.getD ri default := rfl
  rw [eC] at hcst ⊢
  rw [eL] at hcst
  clear eC eL
  generalize floorT p.pen (p.rel.getD ri default) = F at *
  refine pureC (n := 32) (rs := [.tmp 8]) (ts := [3]) Tryz.func58 rfl (by decide) [] (by (exact SD)) ?_
  (repeat' (first | (show SWp _ _ _ (.region 2 _ _) _ _ _ _; refine (stop_in ?_)) | refine swp_seq [0, 1, 2, 3, 4, 8, 9] ?_ | (show SWp _ _ _ (.region _ _ true) _ _ _ _; refine xG mixed [] ?_) | refine st2 ?_ | (show CallQ ..; first | refine cQ (fun hcc => (by fail)) ?_ | (refine lP ?_; refine lQ (fun hcc m => (by fail)) ?_)) | (show XCallQ ..; first | refine xQ (fun hcc => (by fail)) ?_ | (refine xlP ?_; refine xlQ (fun hcc m => (by fail)) ?_)) | (show Fct ..; refine fctI (fun hf => ?_)) | (show SWp _ _ _ (.cond _ _ _) _ _ _ _; first | refine cB (fun hc => ?_) (fun hc => ?_) | refine cU ?_ ?_)))
  refine stop_out ?_
  rw [eS]
  clear eS
  generalize v + p.inf.getD k default - p.rel.getD ri default - aftI p k v (p.rel.getD ri default) = SP at *
  (repeat' (first | refine swp_seq [0, 1, 2, 3, 4, 8, 9] ?_ | refine st2 ?_ | (show CallQ ..; first | refine cQ (fun hcc => (by first | exact cf _)) ?_ | (refine lP ?_; refine lQ (fun hcc m => (by first | exact cf _)) ?_)) | (show XCallQ ..; first | refine xQ (fun hcc => (by first | exact cf _)) ?_ | (refine xlP ?_; refine xlQ (fun hcc m => (by first | exact cf _)) ?_)) | (show Fct ..; refine fctI (fun hf => ?_)) | (show SWp _ _ _ (.cond _ _ _) _ _ _ _; first | refine cB (fun hc => ?_) (fun hc => ?_) | refine cU ?_ ?_)))
  exact DVR
theorem relB_ref {x : Int} {a : Int × Bool} {c : Int} (hx : -1 ≤ x) (ha : -1 ≤ a.1) : relB x a c = (a.2 && (decide (a.1 < 0) || (decide (0 ≤ x) && decide (x ≤ c + a.1)))) := by
  unfold relB
  have e1 : decide (a.1 = -1) = decide (a.1 < 0) := by rw [decide_eq_decide]; omega
  have e2 : (!decide (x = -1)) = decide (0 ≤ x) := by rw [Bool.eq_iff_iff]; simp; omega
  rw [e1, e2]
set_option maxRecDepth 20000 in
set_option maxHeartbeats 8000000 in
theorem rstep_f (p : Plan) (R : List Int) (k ri : Nat) (v x : Int) (m : Nat) (hp : planB p = true) (hk : k < p.inf.length) (hr : ri < p.rel.length) (hv : 0 ≤ v ∧ v ≤ 1099511627776) (hx : -1 ≤ x ∧ x ≤ 1152921504606846976) (hl : R.length ≤ 1048576) (he : R.length % 2 = 0) (hy : ∀ a, -1 ≤ (atR R a).1 ∧ (atR R a).1 ≤ 1152921504606846976) :
    DCalls Tryz.prog 66 [planD p, li k, li v, li x, li (p.rel.getD ri default), ints R] (hget []) m (lb (stB p k v x R (p.rel.getD ri default))) (hget []) := by
  have cp := fun m => possible_f p k ri v m hp hk hr hv
  have ca := fun m => after_f p k ri v m hp hk hr hv
  have cr := fun m => price_f p k ri v m hp hk hr hv
  have cat := fun m => at_f R (aftI p k v (p.rel.getD ri default)) m (by omega) he
  have hcst := cost_in hp hk hv hr
  have hya := hy (aftI p k v (p.rel.getD ri default))
  have hS : stB p k v x R (p.rel.getD ri default) = (!possB p k v (p.rel.getD ri default) || relB x (atR R (aftI p k v (p.rel.getD ri default))) (costI p k v (p.rel.getD ri default))) := rfl
  rw [hS, relB_ref hx.1 hya.1]
  clear hS
  generalize costI p k v (p.rel.getD ri default) = C at *
  generalize atR R (aftI p k v (p.rel.getD ri default)) = A at *
  obtain ⟨y, ok⟩ := A
  cases hpo : possB p k v (p.rel.getD ri default) <;> simp only [hpo] at cp
  · refine pureC (n := 48) (rs := [.tmp 12]) (ts := [4]) Tryz.func66 rfl (by decide) [] (by (exact SD)) ?_
    (repeat' (first | refine swp_seq [0, 1, 2, 3, 4, 5, 6, 12, 13, 14, 20, 32, 34] ?_ | refine st2 ?_ | (show CallQ ..; first | refine cQ (fun hcc => (by first | exact cp _)) ?_ | (refine lP ?_; refine lQ (fun hcc m => (by first | exact cp _)) ?_)) | (show Fct ..; refine fctI (fun hf => ?_)) | (show SWp _ _ _ (.cond _ _ _) _ _ _ _; first | refine cB (fun hc => ?_) (fun hc => ?_) | refine cU ?_ ?_)))
    exact DVR
  cases ok
  · refine pureC (n := 48) (rs := [.tmp 12]) (ts := [4]) Tryz.func66 rfl (by decide) [] (by (exact SD)) ?_
    (repeat' (first | refine swp_seq [0, 1, 2, 3, 4, 5, 6, 12, 13, 14, 20, 32, 34] ?_ | refine st2 ?_ | (show CallQ ..; first | refine cQ (fun hcc => (by first | exact cp _ | exact ca _ | exact cat _)) ?_ | (refine lP ?_; refine lQ (fun hcc m => (by first | exact cp _ | exact ca _ | exact cat _)) ?_)) | (show Fct ..; refine fctI (fun hf => ?_)) | (show SWp _ _ _ (.cond _ _ _) _ _ _ _; first | refine cB (fun hc => ?_) (fun hc => ?_) | refine cU ?_ ?_)))
    exact DVR
  by_cases hy0 : y < 0
  · (have := Nonempty.intro hy0)
    rw [show decide ((y, true).1 < 0) = true from decide_eq_true hy0]
    refine pureC (n := 48) (rs := [.tmp 12]) (ts := [4]) Tryz.func66 rfl (by decide) [] (by (exact SD)) ?_
    (repeat' (first | refine swp_seq [0, 1, 2, 3, 4, 5, 6, 12, 13, 14, 20, 32, 34] ?_ | refine st2 ?_ | (show CallQ ..; first | refine cQ (fun hcc => (by first | exact cp _ | exact ca _ | exact cat _)) ?_ | (refine lP ?_; refine lQ (fun hcc m => (by first | exact cp _ | exact ca _ | exact cat _)) ?_)) | (show Fct ..; refine fctI (fun hf => ?_)) | (show SWp _ _ _ (.cond _ _ _) _ _ _ _; first | refine cB (fun hc => ?_) (fun hc => ?_) | refine cU ?_ ?_)))
    exact DVR
  (have := Nonempty.intro hy0)
  rw [show decide ((y, true).1 < 0) = false from decide_eq_false hy0]
  dsimp only at hya
  by_cases hx0 : 0 ≤ x
  · (have := Nonempty.intro hx0)
    rw [decide_eq_true hx0]
    refine pureC (n := 48) (rs := [.tmp 12]) (ts := [4]) Tryz.func66 rfl (by decide) [] (by (exact SD)) ?_
    (repeat' (first | refine swp_seq [0, 1, 2, 3, 4, 5, 6, 12, 13, 14, 20, 32, 34] ?_ | refine st2 ?_ | (show CallQ ..; first | refine cQ (fun hcc => (by first | exact cp _ | exact ca _ | exact cat _ | exact cr _)) ?_ | (refine lP ?_; refine lQ (fun hcc m => (by first | exact cp _ | exact ca _ | exact cat _ | exact cr _)) ?_)) | (show Fct ..; refine fctI (fun hf => ?_)) | (show SWp _ _ _ (.cond _ _ _) _ _ _ _; first | refine cB (fun hc => ?_) (fun hc => ?_) | refine cU ?_ ?_)))
    exact DVR
  · (have := Nonempty.intro hx0)
    rw [decide_eq_false hx0]
    refine pureC (n := 48) (rs := [.tmp 12]) (ts := [4]) Tryz.func66 rfl (by decide) [] (by (exact SD)) ?_
    (repeat' (first | refine swp_seq [0, 1, 2, 3, 4, 5, 6, 12, 13, 14, 20, 32, 34] ?_ | refine st2 ?_ | (show CallQ ..; first | refine cQ (fun hcc => (by first | exact cp _ | exact ca _ | exact cat _ | exact cr _)) ?_ | (refine lP ?_; refine lQ (fun hcc m => (by first | exact cp _ | exact ca _ | exact cat _ | exact cr _)) ?_)) | (show Fct ..; refine fctI (fun hf => ?_)) | (show SWp _ _ _ (.cond _ _ _) _ _ _ _; first | refine cB (fun hc => ?_) (fun hc => ?_) | refine cU ?_ ?_)))
    exact DVR
open Go.RowKit Go.Maps Go.Sort Go.Shelf
abbrev vI (x : Int) : Value := .int .i64 x
def CollI {H : Type} (D0 : DataW H) (left : Lit → Bool) (ss : List Int) : Prop := ss.Nodup ∧ ∀ x, x ∈ ss ↔ (Maps.has D0 (.int .i64 x) = true ∧ left (.int .i64 x) = false)
section
variable {H : Type} {D0 : DataW H} {left : Lit → Bool} {ss : List Int}
theorem CollI.start (D0 : DataW H) : CollI D0 (Maps.has D0) [] := ⟨List.nodup_nil, fun x => by cases Maps.has D0 (.int .i64 x) <;> simp⟩
theorem CollI.step (h : CollI D0 left ss) {x : Int} {y : DataW H} (hlk : left (.int .i64 x) = true) (hat : ∀ zd, D0.atKey (.int .i64 x) zd = y) : CollI D0 (fun z => left z && !z.sameKey (.int .i64 x)) (ss ++ [x]) := by
  have hhas : Maps.has D0 (.int .i64 x) = true := has_true_of_atKey hat
  have hnew : x ∉ ss := fun hx => by have := ((h.2 x).1 hx).2; rw [hlk] at this; cases this
  refine ⟨List.nodup_append.2 ⟨h.1, by simp, fun a ha b hb => by simp at hb; subst hb; exact fun e => hnew (e ▸ ha)⟩, fun y => ?_⟩
  by_cases hy : y = x
  · subst hy; simp [hhas, Lit.sameKey]
  · simp [h.2 y, hy, Lit.sameKey]
end
def mapT : TypeId := 87
set_option maxRecDepth 100000 in
set_option maxHeartbeats 1000000 in
theorem keys1_in {H : Type} (F : Fence) (n : Nat) (h10 : F.fn 72) (hro : F.round = none) (hn : 1 ≤ n) (l Bm b nn : Nat) (D0 : DataW H) {R : Value → Option (DataW H × List MemPlace)} (J : List Int → World → Prop)
    (hY : ∀ pre x W, J pre W → pre.length < Maps.size D0 → YieldAt F (n - 1) Tryz.prog l #[vI x] W fun e W' => e = .returned (.bool true) ∧ J (pre ++ [x]) W' ∧ KeepsWalks W W')
    (W : World) (hJ : AbidesFrom W.heap.size J) (hm : W.cell? ⟨Bm, 0, none⟩ = some (.map (some b))) (hown : W.ownsMap Tryz.prog 3 R b nn D0) (h0 : J [] W) :
    CallsIn F n Tryz.prog 72 #[.func (.yield l) #[] #[], .pointer (some ⟨Bm, 0, none⟩)] W fun e W' => (∃ v, e = .returned v) ∧ ∃ ss : List Int, CollI D0 (fun _ => false) ss ∧ J ss W' := by
  refine callsIn_of_wp Tryz.func72 rfl h10 ?_ hro
  simp only [Tryz.ntmps72, List.size_toArray, List.length_cons, List.length_nil, Nat.reduceAdd, Nat.reduceSub, Array.replicate_succ, Array.replicate_zero, List.push_toArray, List.append_toArray, List.nil_append, List.cons_append]
  gi_wp2_with (first
    | (gi_at_range; refine wpListIn_range_own _ rfl _ 87 rfl 3 4 (int_keyed Tryz.underlying3) Tryz.underlying87 _ b nn _ rfl hown ?_; intro w0 hrg0 hg0 hs0)
    | gi_in)
  go_frame
  gi_loopw [3] (fun _ wr => ∃ (left : Lit → Bool) (cnt : Nat) (ss : List Int), wr.ranges Tryz.prog 3 R b W.heap.size nn D0 left cnt ∧ ss.length + cnt ≤ Maps.size D0 ∧ CollI D0 left ss ∧ J ss wr)
    (fun _ wr => wr.rangeLeft b W.heap.size)
  case atStart =>
    exact ⟨_, _, [], hrg0, by simp, CollI.start D0, hJ [] W w0 none h0 hg0 (fun r e => by cases e)⟩
  case round =>
    obtain ⟨left, cnt, ss, hrg, hcs, hC, hJs⟩ := hrel
    gi_wp2_with (first
      | (gi_at_next; refine wpListIn_next_ranges _ rfl _ rfl 3 (int_keyed Tryz.underlying3) R vI id (fun key kl hk => by obtain ⟨x, hx, _⟩ := Maps.keyOf_int_inv Tryz.underlying3 hk; exact ⟨x, hx⟩) (fun v _ _ => ⟨v, rfl⟩) b W.heap.size nn _ _ _ rfl hrg ?_ ?_)
      | gi_in)
    · intro hc0 hl0
      gi_wp2
      go_end0
      exact ⟨⟨_, rfl⟩, ss, ⟨hC.1, fun x => by rw [hC.2 x, hl0]⟩, hJs⟩
    · intro x c kl yd yp w2 cnt2 hkey hlk hv hat hrg2 hlt hg2 hs2 hen
      obtain ⟨x', ex, rfl, _⟩ := Maps.keyOf_int_inv Tryz.underlying3 hkey
      obtain rfl : x = x' := by simpa [vI] using ex
      have hJ2 : J ss w2 := hJ ss wr w2 (some W.heap.size) hJs hg2 (fun r e => by cases e; exact ⟨Nat.le_refl _, hrg.iter_walk⟩)
      obtain ⟨fn, tmps, assign, body, hy, hR⟩ := hY ss x w2 hJ2 (by omega)
      clear hs2
      gi_wp2
      refine hR.mono ?_
      rintro e W3 ⟨rfl, hJ3, hk3⟩
      gi_wp2
      have hrg3 := hrg2.of_walks hk3
      go_roundw
      case rel => exact ⟨_, cnt2, ss ++ [x], hrg3, by simp; omega, hC.step hlk hat, hJ3⟩
      case measure => rw [hrg3.left_eq, hrg.left_eq]; exact hlt

end Go.Proofs.YtlailhdmgehniaaGreat
