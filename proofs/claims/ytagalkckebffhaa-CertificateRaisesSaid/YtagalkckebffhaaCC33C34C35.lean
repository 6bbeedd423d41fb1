/-
  Contracts of functions of the program, over the engine.
  No condition.
-/
import Derived.Test.YtagalkckebffhaaCC29C30
import Derived.Test.YtagalkckebffhaaCC2C3C24
import Derived.Test.YtagalkckebffhaaCC31C32
namespace Go.Proofs.Ytagalkckebffhaa
open Go.Eng
set_option linter.all false
attribute [local irreducible] DCallsG SWp Fct CallQ XCallQ LCallQ XLCallQ drun xrun

def rowC (p : Plan) (r : List Int) (k : Nat) : Bool := decide (p.res ≤ r.getD k default) && decide (r.getD k default ≤ p.cap) && (decide (k = 0) || decide (r.getD (k - 2) default < r.getD k default)) && decide (-1 ≤ r.getD (k + 1) default) && decide (r.getD (k + 1) default ≤ 1152921504606846976)
def rowB (p : Plan) (r : List Int) : Bool := decide (r.length % 2 = 0) && (List.range (r.length / 2)).all fun j => rowC p r (2 * j)
def shapedB (p : Plan) (l : List (List Int)) : Bool := decide (l.length = p.inf.length + 1) && l.all (rowB p)
theorem tmod2z (n : Nat) : ((n : Int).tmod 2 = 0) ↔ n % 2 = 0 := by rw [Int.tmod_eq_emod_of_nonneg (by omega)]; omega
set_option maxRecDepth 20000 in
set_option maxHeartbeats 8000000 in
theorem row_f (p : Plan) (r : List Int) (m : Nat) (hp : planOk p) (hr : r.length ≤ 281474976710656) : DCalls Try.prog 87 [planD p, ints r] (hget []) m (lb (rowB p r)) (hget []) := by
  by_cases ho : r.length % 2 = 0
  case neg =>
    have h9 : ¬ ((r.length : Int).tmod 2 = 0) := fun e => ho ((tmod2z _).1 e)
    (have := Nonempty.intro h9)
    rw [show rowB p r = false by unfold rowB; rw [decide_eq_false ho]; rfl]
    refine pureC (n := 64) (rs := [.tmp 4]) (ts := [4]) Try.func87 rfl (by decide) [] (by (exact SD)) ?_
    (repeat' (first | refine swp_seq [0, 1, 2, 4, 5, 9, 13, 63] ?_ | refine st1 ?_ | (show Fct ..; refine fctI (fun hf => ?_)) | (show SWp _ _ _ (.region _ _ true) _ _ _ _; refine xG mixed [] ?_) | (show SWp _ _ _ (.cond _ _ _) _ _ _ _; first | (refine cB (fun hc => ?_) (fun hc => ?_) <;> first | exact False.elim hc | exact absurd hc Bool.false_ne_true | exact absurd hc.symm Bool.false_ne_true | skip) | refine cU ?_ ?_)))
    exact DVR
  have h9 : (r.length : Int).tmod 2 = 0 := (tmod2z _).2 ho
  (have := Nonempty.intro h9)
  have hB : rowB p r = (List.range (r.length / 2)).all fun j => rowC p r (2 * j) := by unfold rowB; rw [decide_eq_true ho]; rfl
  rw [hB]
  refine pureC (n := 64) (rs := [.tmp 4]) (ts := [4]) Try.func87 rfl (by decide) [] (by (exact SD)) ?_
  (repeat' (first | refine swp_seq [0, 1, 2, 4, 5, 9, 13, 63] ?_ | refine st1 ?_ | (show Fct ..; refine fctI (fun hf => ?_)) | (show SWp _ _ _ (.region _ _ true) _ _ _ _; refine xG mixed [] ?_) | (show SWp _ _ _ (.cond _ _ _) _ _ _ _; first | (refine cB (fun hc => ?_) (fun hc => ?_) <;> first | exact False.elim hc | exact absurd hc Bool.false_ne_true | exact absurd hc.symm Bool.false_ne_true | skip) | refine cU ?_ ?_)))
  refine loop_swp [1, 2, 5] [0] 1 (fun q A H => ∃ j k : Nat, k = 2 * j ∧ k ≤ r.length ∧ q = r.length - k ∧ (∀ i, i < j → rowC p r (2 * i) = true) ∧ A = [(1, ints r), (2, .ptr 0 0), (5, li k)] ∧ H = [(0, .blk 26 (planC p))]) (by omega) ?_ ?_ ?_
  · rintro q A H ⟨j, k, hk, g1, g2, g3, rfl, rfl⟩
    exact ⟨by (exact SD), by (exact SD)⟩
  · refine ⟨_, 0, 0, rfl, by omega, rfl, by omega, ?_, ?_⟩
    · exact DVR
    · exact DVR
  rintro q A H ⟨j, k, hk, g1, g2, g3, rfl, rfl⟩
  by_cases hj : k < r.length
  · have hj3 : (k : Int) < (r.length : Int) := by omega
    (have := Nonempty.intro hj3)
    have hj5 : k + 1 < r.length := by omega
    (have := Nonempty.intro hj5)
    have hjl : j < r.length / 2 := by omega
    (repeat' (first | refine swp_seq [0, 1, 2, 4, 5, 9, 13, 63] ?_ | refine st1 ?_ | (show Fct ..; refine fctI (fun hf => ?_)) | (show SWp _ _ _ (.region _ _ true) _ _ _ _; refine xG mixed [] ?_) | (show SWp _ _ _ (.cond _ _ _) _ _ _ _; first | (refine cB (fun hc => ?_) (fun hc => ?_) <;> first | exact False.elim hc | exact absurd hc Bool.false_ne_true | exact absurd hc.symm Bool.false_ne_true | skip) | refine cU ?_ ?_)))
    · (((simp only [push_cast, reduceIte, reduceDIte, reduceCtorEq, Nat.reduceLT, Nat.reduceLeDiff, Nat.reduceEqDiff, Nat.reduceAdd, Nat.reduceMul, Nat.reduceBEq, Nat.reducePow, Int.zero_add, Int.reduceAdd, Int.reduceSub, Int.reduceLT, Int.reduceLE, Int.reduceToNat, Int.reduceNeg, Nat.reduceSub, Int.reduceBNe, Int.reduceBEq, Int.reduceTDiv, Int.reduceTMod, Int.reduceMul]); repeat (simp (disch := omega) only [idx_nat, idx_mapT, i64w, rows_getS, rows_get, getD_set_self, famR_get]; try (simp only [push_cast, reduceIte, reduceDIte, reduceCtorEq, Nat.reduceLT, Nat.reduceLeDiff, Nat.reduceEqDiff, Nat.reduceAdd, Nat.reduceMul, Nat.reduceBEq, Nat.reducePow, Int.zero_add, Int.reduceAdd, Int.reduceSub, Int.reduceLT, Int.reduceLE, Int.reduceToNat, Int.reduceNeg, Nat.reduceSub, Int.reduceBNe, Int.reduceBEq, Int.reduceTDiv, Int.reduceTMod, Int.reduceMul]))))
      refine lbC ?_
      rw [rall_false (f := fun j => rowC p r (2 * j)) hjl (by show rowC p r (2 * j) = false; rw [← hk]; unfold rowC; grind)]
    · (refine lN [0] ?_)
      exact ⟨_, by omega, j + 1, k + 2, by omega, by omega, rfl, fun i hi => by
        by_cases e : i = j
        · subst e; rw [← hk]; unfold rowC; grind
        · exact g3 i (by omega), rfl, rfl⟩
  have hj3 : ¬ ((k : Int) < (r.length : Int)) := by omega
  (have := Nonempty.intro hj3)
  rw [rall_true (f := fun j => rowC p r (2 * j)) fun i hi => g3 i (by omega)]
  (repeat' (first | refine swp_seq [0, 1, 2, 4, 5, 9, 13, 63] ?_ | refine st1 ?_ | (show Fct ..; refine fctI (fun hf => ?_)) | (show SWp _ _ _ (.region _ _ true) _ _ _ _; refine xG mixed [] ?_) | (show SWp _ _ _ (.cond _ _ _) _ _ _ _; first | (refine cB (fun hc => ?_) (fun hc => ?_) <;> first | exact False.elim hc | exact absurd hc Bool.false_ne_true | exact absurd hc.symm Bool.false_ne_true | skip) | refine cU ?_ ?_)))
  exact DVR
set_option maxRecDepth 20000 in
set_option maxHeartbeats 8000000 in
theorem shaped_f (p : Plan) (l : List (List Int)) (m : Nat) (hp : planOk p) (hl : rowsOk l) (hi2 : p.inf.length ≤ 1048576) : DCalls Try.prog 70 [planD p, intss l] (hget []) m (lb (shapedB p l)) (hget []) := by
  have h1 := hl.1
  by_cases hn : (l.length : Int) = (p.inf.length : Int) + 1
  case neg =>
    (have := Nonempty.intro hn)
    rw [show shapedB p l = false by unfold shapedB; rw [decide_eq_false (by omega)]; rfl]
    refine pureC (n := 74) (rs := [.tmp 4]) (ts := [4]) Try.func70 rfl (by decide) [] (by (exact SD)) ?_
    (repeat' (first | refine swp_seq [0, 1, 2, 4, 6, 7, 8, 9, 16, 17, 18, 19, 20, 26, 30, 72] ?_ | refine st1 ?_ | (show Fct ..; refine fctI (fun hf => ?_)) | (show SWp _ _ _ (.region _ _ true) _ _ _ _; refine xG mixed [] ?_) | (show SWp _ _ _ (.cond _ _ _) _ _ _ _; first | (refine cB (fun hc => ?_) (fun hc => ?_) <;> first | exact False.elim hc | exact absurd hc Bool.false_ne_true | exact absurd hc.symm Bool.false_ne_true | skip) | refine cU ?_ ?_)))
    exact DVR
  (have := Nonempty.intro hn)
  have hS : shapedB p l = l.all (rowB p) := by unfold shapedB; rw [decide_eq_true (by omega)]; rfl
  rw [hS]
  refine pureC (n := 74) (rs := [.tmp 4]) (ts := [4]) Try.func70 rfl (by decide) [] (by (exact SD)) ?_
  (repeat' (first | refine swp_seq [0, 1, 2, 4, 6, 7, 8, 9, 16, 17, 18, 19, 20, 26, 30, 72] ?_ | refine st1 ?_ | (show Fct ..; refine fctI (fun hf => ?_)) | (show SWp _ _ _ (.region _ _ true) _ _ _ _; refine xG mixed [] ?_) | (show SWp _ _ _ (.cond _ _ _) _ _ _ _; first | (refine cB (fun hc => ?_) (fun hc => ?_) <;> first | exact False.elim hc | exact absurd hc Bool.false_ne_true | exact absurd hc.symm Bool.false_ne_true | skip) | refine cU ?_ ?_)))
  refine loop_swp [2, 17, 18, 19] [0] 1 (fun q A H => ∃ i : Nat, i ≤ l.length ∧ q = l.length - i ∧ (∀ j, j < i → rowB p (l.getD j default) = true) ∧ A = [(2, .ptr 0 0), (17, intss l), (18, li l.length), (19, li i)] ∧ H = [(0, .blk 26 (planC p))]) (by omega) ?_ ?_ ?_
  · rintro q A H ⟨i, g1, g2, g3, rfl, rfl⟩
    exact ⟨by (exact SD), by (exact SD)⟩
  · refine ⟨_, 0, by omega, rfl, by omega, ?_, ?_⟩
    · exact DVR
    · exact DVR
  rintro q A H ⟨i, g1, g2, g3, rfl, rfl⟩
  by_cases hi : i < l.length
  · have hi3 : (i : Int) < (l.length : Int) := by omega
    (have := Nonempty.intro hi3)
    (have := Nonempty.intro hi)
    have hr := rows_len hl hi
    have hret : rowB p (l.getD i default) = false → l.all (rowB p) = false := fun h => List.all_eq_false.2 ⟨_, getD_mem hi, by rw [h]; decide⟩
    by_cases ho : (l.getD i default).length % 2 = 0
    case neg =>
      have h9 : ¬ (((l.getD i default).length : Int).tmod 2 = 0) := fun e => ho ((tmod2z _).1 e)
      (have := Nonempty.intro h9)
      rw [hret (by unfold rowB; rw [decide_eq_false ho]; rfl)]
      (repeat' (first | refine swp_seq [0, 1, 2, 4, 6, 7, 8, 9, 16, 17, 18, 19, 20, 26, 30, 72] ?_ | refine st1 ?_ | (show Fct ..; refine fctI (fun hf => ?_)) | (show SWp _ _ _ (.region _ _ true) _ _ _ _; refine xG mixed [] ?_) | (show SWp _ _ _ (.cond _ _ _) _ _ _ _; first | (refine cB (fun hc => ?_) (fun hc => ?_) <;> first | exact False.elim hc | exact absurd hc Bool.false_ne_true | exact absurd hc.symm Bool.false_ne_true | skip) | refine cU ?_ ?_)))
      exact DVR
    have h9 : ((l.getD i default).length : Int).tmod 2 = 0 := (tmod2z _).2 ho
    (have := Nonempty.intro h9)
    have hB : rowB p (l.getD i default) = (List.range ((l.getD i default).length / 2)).all fun j => rowC p (l.getD i default) (2 * j) := by unfold rowB; rw [decide_eq_true ho]; rfl
    (repeat' (first | refine swp_seq [0, 1, 2, 4, 6, 7, 8, 9, 16, 17, 18, 19, 20, 26, 30, 72] ?_ | refine st1 ?_ | (show Fct ..; refine fctI (fun hf => ?_)) | (show SWp _ _ _ (.region _ _ true) _ _ _ _; refine xG mixed [] ?_) | (show SWp _ _ _ (.cond _ _ _) _ _ _ _; first | (refine cB (fun hc => ?_) (fun hc => ?_) <;> first | exact False.elim hc | exact absurd hc Bool.false_ne_true | exact absurd hc.symm Bool.false_ne_true | skip) | refine cU ?_ ?_)))
    refine loop_swp [2, 6, 7, 17, 18, 19] [0] 1 (fun q A H => ∃ j k : Nat, k = 2 * j ∧ k ≤ (l.getD i default).length ∧ q = (l.getD i default).length - k ∧ (∀ i2, i2 < j → rowC p (l.getD i default) (2 * i2) = true) ∧ A = [(2, .ptr 0 0), (6, ints (l.getD i default)), (7, li k), (17, intss l), (18, li l.length), (19, li i)] ∧ H = [(0, .blk 26 (planC p))]) (by omega) ?_ ?_ ?_
    · rintro q A H ⟨j, k, hk, g1, g2, g3, rfl, rfl⟩
      exact ⟨by (exact SD), by (exact SD)⟩
    · refine ⟨_, 0, 0, rfl, by omega, rfl, by omega, ?_, ?_⟩
      · exact DVR
      · exact DVR
    rintro q A H ⟨j, k, hk, f1, f2, f3, rfl, rfl⟩
    by_cases hj : k < (l.getD i default).length
    · have hj3 : (k : Int) < ((l.getD i default).length : Int) := by omega
      (have := Nonempty.intro hj3)
      have hj5 : k + 1 < (l.getD i default).length := by omega
      (have := Nonempty.intro hj5)
      have hjl : j < (l.getD i default).length / 2 := by omega
      (repeat' (first | refine swp_seq [0, 1, 2, 4, 6, 7, 8, 9, 16, 17, 18, 19, 20, 26, 30, 72] ?_ | refine st1 ?_ | (show Fct ..; refine fctI (fun hf => ?_)) | (show SWp _ _ _ (.region _ _ true) _ _ _ _; refine xG mixed [] ?_) | (show SWp _ _ _ (.cond _ _ _) _ _ _ _; first | (refine cB (fun hc => ?_) (fun hc => ?_) <;> first | exact False.elim hc | exact absurd hc Bool.false_ne_true | exact absurd hc.symm Bool.false_ne_true | skip) | refine cU ?_ ?_)))
      · rw [hret (by rw [hB]; exact rall_false (f := fun j => rowC p (l.getD i default) (2 * j)) hjl (by show rowC p (l.getD i default) (2 * j) = false; rw [← hk]; unfold rowC; grind))]
        exact DVR
      · (refine lN [0] ?_)
        exact ⟨_, by omega, j + 1, k + 2, by omega, by omega, rfl, fun i2 hi2 => by
          by_cases e : i2 = j
          · subst e; rw [← hk]; unfold rowC; grind
          · exact f3 i2 (by omega), rfl, rfl⟩
    have hj3 : ¬ ((k : Int) < ((l.getD i default).length : Int)) := by omega
    (have := Nonempty.intro hj3)
    (repeat' (first | refine swp_seq [0, 1, 2, 4, 6, 7, 8, 9, 16, 17, 18, 19, 20, 26, 30, 72] ?_ | refine st1 ?_ | (show Fct ..; refine fctI (fun hf => ?_)) | (show SWp _ _ _ (.region _ _ true) _ _ _ _; refine xG mixed [] ?_) | (show SWp _ _ _ (.cond _ _ _) _ _ _ _; first | (refine cB (fun hc => ?_) (fun hc => ?_) <;> first | exact False.elim hc | exact absurd hc Bool.false_ne_true | exact absurd hc.symm Bool.false_ne_true | skip) | refine cU ?_ ?_)))
    (refine lN [0] ?_)
    exact ⟨_, by omega, i + 1, by omega, rfl, fun j2 hj2 => by
      by_cases e : j2 = i
      · rw [e, hB]; exact rall_true (f := fun j => rowC p (l.getD i default) (2 * j)) fun i2 hi2 => f3 i2 (by omega)
      · exact g3 j2 (by omega), rfl, rfl⟩
  have hi3 : ¬ ((i : Int) < (l.length : Int)) := by omega
  (have := Nonempty.intro hi3)
  have hall : l.all (rowB p) = true := List.all_eq_true.2 fun r hr => by
    obtain ⟨j, hj, rfl⟩ := List.mem_iff_getElem.1 hr
    have := g3 j (by omega)
    rwa [List.getD_eq_getElem?_getD, List.getElem?_eq_getElem hj] at this
  rw [hall]
  (repeat' (first | refine swp_seq [0, 1, 2, 4, 6, 7, 8, 9, 16, 17, 18, 19, 20, 26, 30, 72] ?_ | refine st1 ?_ | (show Fct ..; refine fctI (fun hf => ?_)) | (show SWp _ _ _ (.region _ _ true) _ _ _ _; refine xG mixed [] ?_) | (show SWp _ _ _ (.cond _ _ _) _ _ _ _; first | (refine cB (fun hc => ?_) (fun hc => ?_) <;> first | exact False.elim hc | exact absurd hc Bool.false_ne_true | exact absurd hc.symm Bool.false_ne_true | skip) | refine cU ?_ ?_)))
  exact DVR
def givenE (p : Plan) (l : List (List Int)) : Int := if planB p = false then 1 else if l.any bigB = true then 4 else if shapedB p l = false then 25 else 0
theorem planB_sz {p : Plan} (h : planB p = true) : p.inf.length ≤ 200 ∧ p.rel.length ≤ 20 := by
  unfold planB headB at h
  simp only [Bool.and_eq_true, decide_eq_true_eq] at h
  omega
theorem given_f (p : Plan) (l : List (List Int)) (m : Nat) (hp : planOk p) (hl : rowsOk l) : DCalls Try.prog 32 [planD p, intss l] (hget []) m (li (givenE p l)) (hget []) := by
  have h1 := hl.1
  have cv := fun m => pValid_f p m hp
  cases hv : planB p <;> simp only [hv] at cv
  · rw [show givenE p l = 1 by unfold givenE; rw [if_pos hv]]
    refine pureC (n := 17) (rs := [.tmp 4]) (ts := [32]) Try.func32 rfl (by decide) [] (by (exact SD)) ?_
    (repeat' (first | refine swp_seq [0, 1, 2, 4, 5, 9, 12] ?_ | refine st1 ?_ | (show CallQ ..; first | refine cF ?_ | refine cQ (fun hcc => (cv _)) ?_ | (refine lP ?_; refine lQ (fun hcc m => (cv _)) ?_)) | (show Fct ..; refine fctI (fun hf => ?_)) | (show SWp _ _ _ (.cond _ _ _) _ _ _ _; first | (refine cB (fun hc => ?_) (fun hc => ?_) <;> first | exact False.elim hc | exact absurd hc Bool.false_ne_true | exact absurd hc.symm Bool.false_ne_true | skip) | refine cU ?_ ?_)))
    exact DVR
  have hsz := planB_sz hv
  have cb := fun m => conInts_f 69 bigB l m h1 (fun x hx m => long_f x m (hl.2 x hx).1)
  cases hb : l.any bigB <;> simp only [hb] at cb
  · have cs := fun m => shaped_f p l m hp hl (by omega)
    cases hs : shapedB p l <;> simp only [hs] at cs
    · rw [show givenE p l = 25 by unfold givenE; rw [if_neg (by rw [hv]; decide), if_neg (by rw [hb]; decide), if_pos hs]]
      refine pureC (n := 17) (rs := [.tmp 4]) (ts := [32]) Try.func32 rfl (by decide) [] (by (exact SD)) ?_
      (repeat' (first | refine swp_seq [0, 1, 2, 4, 5, 9, 12] ?_ | refine st1 ?_ | (show CallQ ..; first | refine cF ?_ | refine cQ (fun hcc => (by first | exact cv _ | exact cb _ | exact cs _)) ?_ | (refine lP ?_; refine lQ (fun hcc m => (by first | exact cv _ | exact cb _ | exact cs _)) ?_)) | (show Fct ..; refine fctI (fun hf => ?_)) | (show SWp _ _ _ (.cond _ _ _) _ _ _ _; first | (refine cB (fun hc => ?_) (fun hc => ?_) <;> first | exact False.elim hc | exact absurd hc Bool.false_ne_true | exact absurd hc.symm Bool.false_ne_true | skip) | refine cU ?_ ?_)))
      exact DVR
    · rw [show givenE p l = 0 by unfold givenE; rw [if_neg (by rw [hv]; decide), if_neg (by rw [hb]; decide), if_neg (by rw [hs]; decide)]]
      refine pureC (n := 17) (rs := [.tmp 4]) (ts := [32]) Try.func32 rfl (by decide) [] (by (exact SD)) ?_
      (repeat' (first | refine swp_seq [0, 1, 2, 4, 5, 9, 12] ?_ | refine st1 ?_ | (show CallQ ..; first | refine cF ?_ | refine cQ (fun hcc => (by first | exact cv _ | exact cb _ | exact cs _)) ?_ | (refine lP ?_; refine lQ (fun hcc m => (by first | exact cv _ | exact cb _ | exact cs _)) ?_)) | (show Fct ..; refine fctI (fun hf => ?_)) | (show SWp _ _ _ (.cond _ _ _) _ _ _ _; first | (refine cB (fun hc => ?_) (fun hc => ?_) <;> first | exact False.elim hc | exact absurd hc Bool.false_ne_true | exact absurd hc.symm Bool.false_ne_true | skip) | refine cU ?_ ?_)))
      exact DVR
  · rw [show givenE p l = 4 by unfold givenE; rw [if_neg (by rw [hv]; decide), if_pos hb]]
    refine pureC (n := 17) (rs := [.tmp 4]) (ts := [32]) Try.func32 rfl (by decide) [] (by (exact SD)) ?_
    (repeat' (first | refine swp_seq [0, 1, 2, 4, 5, 9, 12] ?_ | refine st1 ?_ | (show CallQ ..; first | refine cF ?_ | refine cQ (fun hcc => (by first | exact cv _ | exact cb _)) ?_ | (refine lP ?_; refine lQ (fun hcc m => (by first | exact cv _ | exact cb _)) ?_)) | (show Fct ..; refine fctI (fun hf => ?_)) | (show SWp _ _ _ (.cond _ _ _) _ _ _ _; first | (refine cB (fun hc => ?_) (fun hc => ?_) <;> first | exact False.elim hc | exact absurd hc Bool.false_ne_true | exact absurd hc.symm Bool.false_ne_true | skip) | refine cU ?_ ?_)))
    exact DVR
theorem full_self (l : List (List Int)) : fullB l l.length = l.any bigB := by unfold fullB; rw [decide_eq_false (by omega)]; rfl
set_option maxRecDepth 20000 in
set_option maxHeartbeats 8000000 in
theorem rGiven_f (p : Plan) (l : List (List Int)) (m : Nat) (hp : planOk p) (hl : rowsOk l) : DCalls Try.prog 80 [planD p, intss l] (hget []) m (li (givenE p l)) (hget []) := by
  have h1 := hl.1
  have cv := fun m => rPValid_f p m hp
  cases hv : planB p <;> simp only [hv] at cv
  · rw [show givenE p l = 1 by unfold givenE; rw [if_pos hv]]
    refine pureC (n := 33) (rs := [.tmp 4]) (ts := [3]) Try.func80 rfl (by decide) [] (by (exact SD)) ?_
    (repeat' (first | refine swp_seq [0, 1, 2, 4, 5, 8, 12, 19, 23, 32] ?_ | refine st1 ?_ | (show CallQ ..; first | refine cF ?_ | refine cQ (fun hcc => (cv _)) ?_ | (refine lP ?_; refine lQ (fun hcc m => (cv _)) ?_)) | (show Fct ..; refine fctI (fun hf => ?_)) | (show XCallQ ..; first | refine xcF ?_ | refine xQ (fun hcc => (cv _)) ?_ | (refine xlP ?_; refine xlQ (fun hcc m => (cv _)) ?_)) | (show SWp _ _ _ (.region _ _ true) _ _ _ _; refine xG mixed [] ?_) | (show SWp _ _ _ (.cond _ _ _) _ _ _ _; first | (refine cB (fun hc => ?_) (fun hc => ?_) <;> first | exact False.elim hc | exact absurd hc Bool.false_ne_true | exact absurd hc.symm Bool.false_ne_true | skip) | refine cU ?_ ?_)))
    exact DVR
  have hsz := planB_sz hv
  have cb := fun m => rfull_f l l.length m hl
  simp only [full_self] at cb
  cases hb : l.any bigB <;> simp only [hb] at cb
  case true =>
    rw [show givenE p l = 4 by unfold givenE; rw [if_neg (by rw [hv]; decide), if_pos hb]]
    refine pureC (n := 33) (rs := [.tmp 4]) (ts := [3]) Try.func80 rfl (by decide) [] (by (exact SD)) ?_
    (repeat' (first | refine swp_seq [0, 1, 2, 4, 5, 8, 12, 19, 23, 32] ?_ | refine st1 ?_ | (show CallQ ..; first | refine cF ?_ | refine cQ (fun hcc => (by first | exact cv _ | exact cb _)) ?_ | (refine lP ?_; refine lQ (fun hcc m => (by first | exact cv _ | exact cb _)) ?_)) | (show Fct ..; refine fctI (fun hf => ?_)) | (show XCallQ ..; first | refine xcF ?_ | refine xQ (fun hcc => (by first | exact cv _ | exact cb _)) ?_ | (refine xlP ?_; refine xlQ (fun hcc m => (by first | exact cv _ | exact cb _)) ?_)) | (show SWp _ _ _ (.region _ _ true) _ _ _ _; refine xG mixed [] ?_) | (show SWp _ _ _ (.cond _ _ _) _ _ _ _; first | (refine cB (fun hc => ?_) (fun hc => ?_) <;> first | exact False.elim hc | exact absurd hc Bool.false_ne_true | exact absurd hc.symm Bool.false_ne_true | skip) | refine cU ?_ ?_)))
    exact DVR
  have hG : givenE p l = if shapedB p l = false then 25 else 0 := by unfold givenE; rw [if_neg (by rw [hv]; decide), if_neg (by rw [hb]; decide)]
  rw [hG]
  by_cases hn : (l.length : Int) = (p.inf.length : Int) + 1
  case neg =>
    (have := Nonempty.intro hn)
    rw [if_pos (by unfold shapedB; rw [decide_eq_false (by omega)]; rfl)]
    refine pureC (n := 33) (rs := [.tmp 4]) (ts := [3]) Try.func80 rfl (by decide) [] (by (exact SD)) ?_
    (repeat' (first | refine swp_seq [0, 1, 2, 4, 5, 8, 12, 19, 23, 32] ?_ | refine st1 ?_ | (show CallQ ..; first | refine cF ?_ | refine cQ (fun hcc => (by first | exact cv _ | exact cb _)) ?_ | (refine lP ?_; refine lQ (fun hcc m => (by first | exact cv _ | exact cb _)) ?_)) | (show Fct ..; refine fctI (fun hf => ?_)) | (show XCallQ ..; first | refine xcF ?_ | refine xQ (fun hcc => (by first | exact cv _ | exact cb _)) ?_ | (refine xlP ?_; refine xlQ (fun hcc m => (by first | exact cv _ | exact cb _)) ?_)) | (show SWp _ _ _ (.region _ _ true) _ _ _ _; refine xG mixed [] ?_) | (show SWp _ _ _ (.cond _ _ _) _ _ _ _; first | (refine cB (fun hc => ?_) (fun hc => ?_) <;> first | exact False.elim hc | exact absurd hc Bool.false_ne_true | exact absurd hc.symm Bool.false_ne_true | skip) | refine cU ?_ ?_)))
    exact DVR
  (have := Nonempty.intro hn)
  have hS : shapedB p l = l.all (rowB p) := by unfold shapedB; rw [decide_eq_true (by omega)]; rfl
  rw [hS]
  refine pureC (n := 33) (rs := [.tmp 4]) (ts := [3]) Try.func80 rfl (by decide) [] (by (exact SD)) ?_
  (repeat' (first | refine swp_seq [0, 1, 2, 4, 5, 8, 12, 19, 23, 32] ?_ | refine st1 ?_ | (show CallQ ..; first | refine cF ?_ | refine cQ (fun hcc => (by first | exact cv _ | exact cb _)) ?_ | (refine lP ?_; refine lQ (fun hcc m => (by first | exact cv _ | exact cb _)) ?_)) | (show Fct ..; refine fctI (fun hf => ?_)) | (show XCallQ ..; first | refine xcF ?_ | refine xQ (fun hcc => (by first | exact cv _ | exact cb _)) ?_ | (refine xlP ?_; refine xlQ (fun hcc m => (by first | exact cv _ | exact cb _)) ?_)) | (show SWp _ _ _ (.region _ _ true) _ _ _ _; refine xG mixed [] ?_) | (show SWp _ _ _ (.cond _ _ _) _ _ _ _; first | (refine cB (fun hc => ?_) (fun hc => ?_) <;> first | exact False.elim hc | exact absurd hc Bool.false_ne_true | exact absurd hc.symm Bool.false_ne_true | skip) | refine cU ?_ ?_)))
  refine loop_swp [1, 2, 5] [0] 1 (fun q A H => ∃ i : Nat, i ≤ l.length ∧ q = l.length - i ∧ (∀ j, j < i → rowB p (l.getD j default) = true) ∧ A = [(1, intss l), (2, .ptr 0 0), (5, li i)] ∧ H = [(0, .blk 26 (planC p))]) (by omega) ?_ ?_ ?_
  · rintro q A H ⟨i, g1, g2, g3, rfl, rfl⟩
    exact ⟨by (exact SD), by (exact SD)⟩
  · refine ⟨_, 0, by omega, rfl, by omega, ?_, ?_⟩
    · exact DVR
    · exact DVR
  rintro q A H ⟨i, g1, g2, g3, rfl, rfl⟩
  by_cases hi : i < l.length
  · have hi3 : (i : Int) < (l.length : Int) := by omega
    (have := Nonempty.intro hi3)
    (have := Nonempty.intro hi)
    have hr := rows_len hl hi
    have cr := fun m => row_f p (l.getD i default) m hp hr
    cases hB : rowB p (l.getD i default) <;> simp only [hB] at cr
    · rw [if_pos (List.all_eq_false.2 ⟨_, getD_mem hi, by rw [hB]; decide⟩)]
      (repeat' (first | refine swp_seq [0, 1, 2, 4, 5, 8, 12, 19, 23, 32] ?_ | refine st1 ?_ | (show CallQ ..; first | refine cF ?_ | refine cQ (fun hcc => (cr _)) ?_ | (refine lP ?_; refine lQ (fun hcc m => (cr _)) ?_)) | (show Fct ..; refine fctI (fun hf => ?_)) | (show XCallQ ..; first | refine xcF ?_ | refine xQ (fun hcc => (cr _)) ?_ | (refine xlP ?_; refine xlQ (fun hcc m => (cr _)) ?_)) | (show SWp _ _ _ (.region _ _ true) _ _ _ _; refine xG mixed [] ?_) | (show SWp _ _ _ (.cond _ _ _) _ _ _ _; first | (refine cB (fun hc => ?_) (fun hc => ?_) <;> first | exact False.elim hc | exact absurd hc Bool.false_ne_true | exact absurd hc.symm Bool.false_ne_true | skip) | refine cU ?_ ?_)))
      exact DVR
    · (repeat' (first | refine swp_seq [0, 1, 2, 4, 5, 8, 12, 19, 23, 32] ?_ | refine st1 ?_ | (show CallQ ..; first | refine cF ?_ | refine cQ (fun hcc => (cr _)) ?_ | (refine lP ?_; refine lQ (fun hcc m => (cr _)) ?_)) | (show Fct ..; refine fctI (fun hf => ?_)) | (show XCallQ ..; first | refine xcF ?_ | refine xQ (fun hcc => (cr _)) ?_ | (refine xlP ?_; refine xlQ (fun hcc m => (cr _)) ?_)) | (show SWp _ _ _ (.region _ _ true) _ _ _ _; refine xG mixed [] ?_) | (show SWp _ _ _ (.cond _ _ _) _ _ _ _; first | (refine cB (fun hc => ?_) (fun hc => ?_) <;> first | exact False.elim hc | exact absurd hc Bool.false_ne_true | exact absurd hc.symm Bool.false_ne_true | skip) | refine cU ?_ ?_)))
      (refine lN [0] ?_)
      exact ⟨_, by omega, i + 1, by omega, rfl, fun j2 hj2 => by
        by_cases e : j2 = i
        · rw [e, hB]
        · exact g3 j2 (by omega), rfl, rfl⟩
  have hi3 : ¬ ((i : Int) < (l.length : Int)) := by omega
  (have := Nonempty.intro hi3)
  have hall : l.all (rowB p) = true := List.all_eq_true.2 fun r hr => by
    obtain ⟨j, hj, rfl⟩ := List.mem_iff_getElem.1 hr
    have := g3 j (by omega)
    rwa [List.getD_eq_getElem?_getD, List.getElem?_eq_getElem hj] at this
  rw [if_neg (by rw [hall]; decide)]
  (repeat' (first | refine swp_seq [0, 1, 2, 4, 5, 8, 12, 19, 23, 32] ?_ | refine st1 ?_ | (show Fct ..; refine fctI (fun hf => ?_)) | (show SWp _ _ _ (.region _ _ true) _ _ _ _; refine xG mixed [] ?_) | (show SWp _ _ _ (.cond _ _ _) _ _ _ _; first | (refine cB (fun hc => ?_) (fun hc => ?_) <;> first | exact False.elim hc | exact absurd hc Bool.false_ne_true | exact absurd hc.symm Bool.false_ne_true | skip) | refine cU ?_ ?_)))
  exact DVR

end Go.Proofs.Ytagalkckebffhaa
