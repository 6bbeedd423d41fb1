/-
  Contracts of functions of the program, over the engine.
  No condition.
-/
import Derived.Test.YtagalkckebffhaaCS9S10
import Derived.Test.YtagalkckebffhaaCC16
namespace Go.Proofs.Ytagalkckebffhaa
open Go.Eng
set_option linter.all false
attribute [local irreducible] DCallsG SWp Fct CallQ XCallQ LCallQ XLCallQ drun xrun

theorem goS_path {p : Plan} {a : List UInt8} : ∀ i, ∀ out v, goS p a i = some (out, v) → out.length = i ∧ (∀ j, j < i → out.getD j default ∈ p.rel) ∧ ∀ rs, (∀ j, j < i → rs.getD j default = out.getD j default) → ∃ s, pathC p rs i = some (s, v) := by
  intro i
  induction i with
  | zero =>
    intro out v h
    rw [goS] at h
    cases h
    exact ⟨rfl, fun j hj => by omega, fun rs _ => ⟨0, rfl⟩⟩
  | succ i ih =>
    intro out v h
    rw [goS] at h
    cases h0 : goS p a i with
    | none => rw [h0] at h; cases h
    | some x =>
      obtain ⟨out0, v0⟩ := x
      rw [h0] at h
      dsimp only at h
      split at h
      · cases h
      next hC =>
      cases h
      obtain ⟨h1, h2, h3⟩ := ih out0 v0 h0
      have hm := List.mem_filter.1 (pick_mem (a := a) hC)
      have hlast : (out0 ++ [pickS p a i v0]).getD i default = pickS p a i v0 := by
        rw [List.getD_eq_getElem?_getD, List.getElem?_append_right (by omega), h1, Nat.sub_self]; rfl
      have hold : ∀ j, j < i → (out0 ++ [pickS p a i v0]).getD j default = out0.getD j default := fun j hj => by
        rw [List.getD_eq_getElem?_getD, List.getElem?_append_left (by omega), ← List.getD_eq_getElem?_getD]
      refine ⟨by simp [h1], fun j hj => ?_, fun rs hrs => ?_⟩
      · by_cases e : j = i
        · rw [e, hlast]; exact hm.1
        · rw [hold j (by omega)]; exact h2 j (by omega)
      · obtain ⟨s0, hs0⟩ := h3 rs fun j hj => by rw [hrs j (by omega), hold j hj]
        have e : rs.getD i default = pickS p a i v0 := by rw [hrs i (by omega), hlast]
        exact ⟨s0 + costI p i v0 (pickS p a i v0), by rw [path_next hs0, e, if_pos hm.2]⟩
theorem sched_cost {p : Plan} {a : List UInt8} (hp : planB p = true) (h : (schedR p a).2 = true) : ∃ s v, (schedR p a).1.length = p.inf.length ∧ (∀ i, i < p.inf.length → (schedR p a).1.getD i default ∈ p.rel) ∧ pathC p (schedR p a).1 p.inf.length = some (s, v) ∧ costR p (schedR p a).1 = (s, volsC p (schedR p a).1 p.inf.length, 0) := by
  cases hg : goS p a p.inf.length with
  | none =>
    have : schedR p a = ([], false) := by unfold schedR; rw [hg]
    rw [this] at h; cases h
  | some x =>
    obtain ⟨out, v⟩ := x
    have e : schedR p a = (out, true) := by unfold schedR; rw [hg]
    rw [e]
    obtain ⟨h1, h2, h3⟩ := goS_path _ _ _ hg
    obtain ⟨s, hs⟩ := h3 out fun _ _ => rfl
    refine ⟨s, v, h1, h2, hs, ?_⟩
    have hany : (out.any fun r => !p.rel.any (eqB r)) = false := by
      rw [List.any_eq_false]
      intro x hx
      obtain ⟨j, hj, rfl⟩ := List.mem_iff_getElem.1 hx
      have hm := h2 j (by omega)
      have e2 : out.getD j default = out[j] := by rw [List.getD_eq_getElem?_getD, List.getElem?_eq_getElem hj]; rfl
      rw [e2] at hm
      have : p.rel.any (eqB out[j]) = true := List.any_eq_true.2 ⟨_, hm, decide_eq_true rfl⟩
      rw [this]; simp
    unfold costR
    rw [if_neg (by rw [hp]; decide), if_neg (by rw [h1]; simp), hany, if_neg (by decide)]
    dsimp only
    rw [h1, hs]
theorem given_ready {p : Plan} {l : List (List Int)} (h : failK p l < l.length → False) (h0 : givenE p l = 0) : checkR p l = (true, 0, 0) := by
  unfold checkR
  rw [if_neg (fun k => k h0), if_neg h]
set_option maxRecDepth 20000 in
set_option maxHeartbeats 8000000 in
theorem bounds_f (p : Plan) (l : List (List Int)) (a : List UInt8) (m : Nat) (hq : planOk p) (hl : rowsOk l) (ha : a.length ≤ 281474976710656) : DCalls Try.prog 3 [planD p, intss l, bys a] (hget []) m (lb true) (hget []) := by
  have cr := fun m => ready_f p m hq
  cases hr : readyB p <;> simp only [hr] at cr
  · refine pureC (n := 110) (rs := [.tmp 6]) (ts := [4]) Try.func3 rfl (by decide) [] (by (exact SD)) ?_
    (repeat' (first | refine swp_seq [0, 1, 2, 3, 6, 7, 9, 10, 11, 12, 13, 14, 16, 17, 18, 20, 28, 47, 65, 93] ?_ | refine st1 ?_ | (show CallQ ..; first | refine cF ?_ | refine cQ (fun hcc => (by first | exact awake_f _ | exact cr _)) ?_ | (refine lP ?_; refine lQ (fun hcc m => (by first | exact awake_f _ | exact cr _)) ?_)) | (show Fct ..; refine fctI (fun hf => ?_)) | (show XCallQ ..; first | refine xcF ?_ | refine xQ (fun hcc => (by first | exact awake_f _ | exact cr _)) ?_ | (refine xlP ?_; refine xlQ (fun hcc m => (by first | exact awake_f _ | exact cr _)) ?_)) | (show SWp _ _ _ (.region _ _ true) _ _ _ _; refine xG mixed [] ?_) | (show SWp _ _ _ (.cond _ _ _) _ _ _ _; first | (refine cB (fun hc => ?_) (fun hc => ?_) <;> first | exact False.elim hc | exact absurd hc Bool.false_ne_true | exact absurd hc.symm Bool.false_ne_true | skip) | refine cU ?_ ?_)))
    (((simp only [push_cast, reduceIte, reduceDIte, reduceCtorEq, Nat.reduceLT, Nat.reduceLeDiff, Nat.reduceEqDiff, Nat.reduceAdd, Nat.reduceMul, Nat.reduceBEq, Nat.reducePow, Int.zero_add, Int.reduceAdd, Int.reduceSub, Int.reduceLT, Int.reduceLE, Int.reduceToNat, Int.reduceNeg, Nat.reduceSub, Int.reduceBNe, Int.reduceBEq, Int.reduceTDiv, Int.reduceTMod, Int.reduceMul]); repeat (simp (disch := omega) only [idx_nat, idx_mapT, i64w, rows_getS, rows_get, getD_set_self, famR_get]; try (simp only [push_cast, reduceIte, reduceDIte, reduceCtorEq, Nat.reduceLT, Nat.reduceLeDiff, Nat.reduceEqDiff, Nat.reduceAdd, Nat.reduceMul, Nat.reduceBEq, Nat.reducePow, Int.zero_add, Int.reduceAdd, Int.reduceSub, Int.reduceLT, Int.reduceLE, Int.reduceToNat, Int.reduceNeg, Nat.reduceSub, Int.reduceBNe, Int.reduceBEq, Int.reduceTDiv, Int.reduceTMod, Int.reduceMul]))))
  have hp : planB p = true := by
    unfold readyB at hr
    simp only [Bool.and_eq_true] at hr
    exact hr.2
  have sa := fun m => short_f l m hl
  cases hsa : shortB l <;> simp only [hsa] at sa
  · refine pureC (n := 110) (rs := [.tmp 6]) (ts := [4]) Try.func3 rfl (by decide) [] (by (exact SD)) ?_
    (repeat' (first | refine swp_seq [0, 1, 2, 3, 6, 7, 9, 10, 11, 12, 13, 14, 16, 17, 18, 20, 28, 47, 65, 93] ?_ | refine st1 ?_ | (show CallQ ..; first | refine cF ?_ | refine cQ (fun hcc => (by first | exact awake_f _ | exact cr _ | exact sa _)) ?_ | (refine lP ?_; refine lQ (fun hcc m => (by first | exact awake_f _ | exact cr _ | exact sa _)) ?_)) | (show Fct ..; refine fctI (fun hf => ?_)) | (show XCallQ ..; first | refine xcF ?_ | refine xQ (fun hcc => (by first | exact awake_f _ | exact cr _ | exact sa _)) ?_ | (refine xlP ?_; refine xlQ (fun hcc m => (by first | exact awake_f _ | exact cr _ | exact sa _)) ?_)) | (show SWp _ _ _ (.region _ _ true) _ _ _ _; refine xG mixed [] ?_) | (show SWp _ _ _ (.cond _ _ _) _ _ _ _; first | (refine cB (fun hc => ?_) (fun hc => ?_) <;> first | exact False.elim hc | exact absurd hc Bool.false_ne_true | exact absurd hc.symm Bool.false_ne_true | skip) | refine cU ?_ ?_)))
    (((simp only [push_cast, reduceIte, reduceDIte, reduceCtorEq, Nat.reduceLT, Nat.reduceLeDiff, Nat.reduceEqDiff, Nat.reduceAdd, Nat.reduceMul, Nat.reduceBEq, Nat.reducePow, Int.zero_add, Int.reduceAdd, Int.reduceSub, Int.reduceLT, Int.reduceLE, Int.reduceToNat, Int.reduceNeg, Nat.reduceSub, Int.reduceBNe, Int.reduceBEq, Int.reduceTDiv, Int.reduceTMod, Int.reduceMul]); repeat (simp (disch := omega) only [idx_nat, idx_mapT, i64w, rows_getS, rows_get, getD_set_self, famR_get]; try (simp only [push_cast, reduceIte, reduceDIte, reduceCtorEq, Nat.reduceLT, Nat.reduceLeDiff, Nat.reduceEqDiff, Nat.reduceAdd, Nat.reduceMul, Nat.reduceBEq, Nat.reducePow, Int.zero_add, Int.reduceAdd, Int.reduceSub, Int.reduceLT, Int.reduceLE, Int.reduceToNat, Int.reduceNeg, Nat.reduceSub, Int.reduceBNe, Int.reduceBEq, Int.reduceTDiv, Int.reduceTMod, Int.reduceMul]))))
  have cc := fun m => check_f p l m hq hl
  have cb := fun m => bound_f p l m hq hl
  by_cases h0 : givenE p l = 0
  case neg =>
    rw [show checkR p l = (false, 0, givenE p l) from if_pos h0] at cc
    rw [show boundR p l = (0, givenE p l) from if_pos h0] at cb
    generalize givenE p l = E at *
    (have := Nonempty.intro h0)
    refine pureC (n := 110) (rs := [.tmp 6]) (ts := [4]) Try.func3 rfl (by decide) [] (by (exact SD)) ?_
    (repeat' (first | refine swp_seq [0, 1, 2, 3, 6, 7, 9, 10, 11, 12, 13, 14, 16, 17, 18, 20, 28, 47, 65, 93] ?_ | refine st1 ?_ | (show CallQ ..; first | refine cF ?_ | refine cQ (fun hcc => (by first | exact awake_f _ | exact cr _ | exact sa _ | exact cc _ | exact cb _)) ?_ | (refine lP ?_; refine lQ (fun hcc m => (by first | exact awake_f _ | exact cr _ | exact sa _ | exact cc _ | exact cb _)) ?_)) | (show Fct ..; refine fctI (fun hf => ?_)) | (show XCallQ ..; first | refine xcF ?_ | refine xQ (fun hcc => (by first | exact awake_f _ | exact cr _ | exact sa _ | exact cc _ | exact cb _)) ?_ | (refine xlP ?_; refine xlQ (fun hcc m => (by first | exact awake_f _ | exact cr _ | exact sa _ | exact cc _ | exact cb _)) ?_)) | (show SWp _ _ _ (.region _ _ true) _ _ _ _; refine xG mixed [] ?_) | (show SWp _ _ _ (.cond _ _ _) _ _ _ _; first | (refine cB (fun hc => ?_) (fun hc => ?_) <;> first | exact False.elim hc | exact absurd hc Bool.false_ne_true | exact absurd hc.symm Bool.false_ne_true | skip) | refine cU ?_ ?_)))
    (((simp only [push_cast, reduceIte, reduceDIte, reduceCtorEq, Nat.reduceLT, Nat.reduceLeDiff, Nat.reduceEqDiff, Nat.reduceAdd, Nat.reduceMul, Nat.reduceBEq, Nat.reducePow, Int.zero_add, Int.reduceAdd, Int.reduceSub, Int.reduceLT, Int.reduceLE, Int.reduceToNat, Int.reduceNeg, Nat.reduceSub, Int.reduceBNe, Int.reduceBEq, Int.reduceTDiv, Int.reduceTMod, Int.reduceMul]); repeat (simp (disch := omega) only [idx_nat, idx_mapT, i64w, rows_getS, rows_get, getD_set_self, famR_get]; try (simp only [push_cast, reduceIte, reduceDIte, reduceCtorEq, Nat.reduceLT, Nat.reduceLeDiff, Nat.reduceEqDiff, Nat.reduceAdd, Nat.reduceMul, Nat.reduceBEq, Nat.reducePow, Int.zero_add, Int.reduceAdd, Int.reduceSub, Int.reduceLT, Int.reduceLE, Int.reduceToNat, Int.reduceNeg, Nat.reduceSub, Int.reduceBNe, Int.reduceBEq, Int.reduceTDiv, Int.reduceTMod, Int.reduceMul]))))
  have hB : boundR p l = if failK p l < l.length then (0, 13) else if (atR (l.getD 0 default) p.start).1 = -1 then (0, 12) else ((atR (l.getD 0 default) p.start).1, 0) := if_neg (fun k => k h0)
  by_cases h1 : failK p l < l.length
  · have hC : checkR p l = (false, (failK p l : Int), 0) := by unfold checkR; rw [if_neg (fun k => k h0), if_pos h1]
    rw [hC] at cc
    rw [hB, if_pos h1] at cb
    refine pureC (n := 110) (rs := [.tmp 6]) (ts := [4]) Try.func3 rfl (by decide) [] (by (exact SD)) ?_
    (repeat' (first | refine swp_seq [0, 1, 2, 3, 6, 7, 9, 10, 11, 12, 13, 14, 16, 17, 18, 20, 28, 47, 65, 93] ?_ | refine st1 ?_ | (show CallQ ..; first | refine cF ?_ | refine cQ (fun hcc => (by first | exact awake_f _ | exact cr _ | exact sa _ | exact cc _ | exact cb _)) ?_ | (refine lP ?_; refine lQ (fun hcc m => (by first | exact awake_f _ | exact cr _ | exact sa _ | exact cc _ | exact cb _)) ?_)) | (show Fct ..; refine fctI (fun hf => ?_)) | (show XCallQ ..; first | refine xcF ?_ | refine xQ (fun hcc => (by first | exact awake_f _ | exact cr _ | exact sa _ | exact cc _ | exact cb _)) ?_ | (refine xlP ?_; refine xlQ (fun hcc m => (by first | exact awake_f _ | exact cr _ | exact sa _ | exact cc _ | exact cb _)) ?_)) | (show SWp _ _ _ (.region _ _ true) _ _ _ _; refine xG mixed [] ?_) | (show SWp _ _ _ (.cond _ _ _) _ _ _ _; first | (refine cB (fun hc => ?_) (fun hc => ?_) <;> first | exact False.elim hc | exact absurd hc Bool.false_ne_true | exact absurd hc.symm Bool.false_ne_true | skip) | refine cU ?_ ?_)))
    (((simp only [push_cast, reduceIte, reduceDIte, reduceCtorEq, Nat.reduceLT, Nat.reduceLeDiff, Nat.reduceEqDiff, Nat.reduceAdd, Nat.reduceMul, Nat.reduceBEq, Nat.reducePow, Int.zero_add, Int.reduceAdd, Int.reduceSub, Int.reduceLT, Int.reduceLE, Int.reduceToNat, Int.reduceNeg, Nat.reduceSub, Int.reduceBNe, Int.reduceBEq, Int.reduceTDiv, Int.reduceTMod, Int.reduceMul]); repeat (simp (disch := omega) only [idx_nat, idx_mapT, i64w, rows_getS, rows_get, getD_set_self, famR_get]; try (simp only [push_cast, reduceIte, reduceDIte, reduceCtorEq, Nat.reduceLT, Nat.reduceLeDiff, Nat.reduceEqDiff, Nat.reduceAdd, Nat.reduceMul, Nat.reduceBEq, Nat.reducePow, Int.zero_add, Int.reduceAdd, Int.reduceSub, Int.reduceLT, Int.reduceLE, Int.reduceToNat, Int.reduceNeg, Nat.reduceSub, Int.reduceBNe, Int.reduceBEq, Int.reduceTDiv, Int.reduceTMod, Int.reduceMul]))))
  rw [given_ready h1 h0] at cc
  rw [hB, if_neg h1] at cb
  have hbin := bound_in (p := p) (l := l)
  rw [hB, if_neg h1] at hbin
  have cs := fun m => schedule_f p a m hp ha
  obtain ⟨_, hln, hrow⟩ := given_in h0
  have hcost := sched_cost (a := a) hp
  have hle := fun hx s v => bound_le (p := p) (l := l) (fun k hk => failK_all h1 hk) hln (rs := (schedR p a).1) hx (s := s) (v := v)
  have cg := fun m hx => gap_f p l (schedR p a).1 m hq hl hx
  have cco := fun m hx => cost_f p (schedR p a).1 m hq hx
  have hG : gapR p l (schedR p a).1 = if ¬ (boundR p l).2 = 0 then (0, (boundR p l).2) else if ¬ (costR p (schedR p a).1).2.2 = 0 then (0, (costR p (schedR p a).1).2.2) else ((costR p (schedR p a).1).1 - (boundR p l).1, 0) := rfl
  rw [hB, if_neg h1] at hG
  generalize schedR p a = S at *
  obtain ⟨rs, way⟩ := S
  generalize (atR (l.getD 0 default) p.start).1 = b at *
  cases way
  · by_cases hb : b = -1
    · rw [if_pos hb] at cb
      refine pureC (n := 110) (rs := [.tmp 6]) (ts := [4]) Try.func3 rfl (by decide) [] (by (exact SD)) ?_
      (repeat' (first | refine swp_seq [0, 1, 2, 3, 6, 7, 9, 10, 11, 12, 13, 14, 16, 17, 18, 20, 28, 47, 65, 93] ?_ | refine st1 ?_ | (show CallQ ..; first | refine cF ?_ | refine cQ (fun hcc => (by first | exact awake_f _ | exact cr _ | exact sa _ | exact cc _ | exact cb _ | exact cs _)) ?_ | (refine lP ?_; refine lQ (fun hcc m => (by first | exact awake_f _ | exact cr _ | exact sa _ | exact cc _ | exact cb _ | exact cs _)) ?_)) | (show Fct ..; refine fctI (fun hf => ?_)) | (show XCallQ ..; first | refine xcF ?_ | refine xQ (fun hcc => (by first | exact awake_f _ | exact cr _ | exact sa _ | exact cc _ | exact cb _ | exact cs _)) ?_ | (refine xlP ?_; refine xlQ (fun hcc m => (by first | exact awake_f _ | exact cr _ | exact sa _ | exact cc _ | exact cb _ | exact cs _)) ?_)) | (show SWp _ _ _ (.region _ _ true) _ _ _ _; refine xG mixed [] ?_) | (show SWp _ _ _ (.cond _ _ _) _ _ _ _; first | (refine cB (fun hc => ?_) (fun hc => ?_) <;> first | exact False.elim hc | exact absurd hc Bool.false_ne_true | exact absurd hc.symm Bool.false_ne_true | skip) | refine cU ?_ ?_)))
      (((simp only [push_cast, reduceIte, reduceDIte, reduceCtorEq, Nat.reduceLT, Nat.reduceLeDiff, Nat.reduceEqDiff, Nat.reduceAdd, Nat.reduceMul, Nat.reduceBEq, Nat.reducePow, Int.zero_add, Int.reduceAdd, Int.reduceSub, Int.reduceLT, Int.reduceLE, Int.reduceToNat, Int.reduceNeg, Nat.reduceSub, Int.reduceBNe, Int.reduceBEq, Int.reduceTDiv, Int.reduceTMod, Int.reduceMul]); repeat (simp (disch := omega) only [idx_nat, idx_mapT, i64w, rows_getS, rows_get, getD_set_self, famR_get]; try (simp only [push_cast, reduceIte, reduceDIte, reduceCtorEq, Nat.reduceLT, Nat.reduceLeDiff, Nat.reduceEqDiff, Nat.reduceAdd, Nat.reduceMul, Nat.reduceBEq, Nat.reducePow, Int.zero_add, Int.reduceAdd, Int.reduceSub, Int.reduceLT, Int.reduceLE, Int.reduceToNat, Int.reduceNeg, Nat.reduceSub, Int.reduceBNe, Int.reduceBEq, Int.reduceTDiv, Int.reduceTMod, Int.reduceMul]))))
    · rw [if_neg hb] at cb hbin
      have hb0 : (0 : Int) ≤ b := hbin.1
      (have := Nonempty.intro hb0)
      refine pureC (n := 110) (rs := [.tmp 6]) (ts := [4]) Try.func3 rfl (by decide) [] (by (exact SD)) ?_
      (repeat' (first | refine swp_seq [0, 1, 2, 3, 6, 7, 9, 10, 11, 12, 13, 14, 16, 17, 18, 20, 28, 47, 65, 93] ?_ | refine st1 ?_ | (show CallQ ..; first | refine cF ?_ | refine cQ (fun hcc => (by first | exact awake_f _ | exact cr _ | exact sa _ | exact cc _ | exact cb _ | exact cs _)) ?_ | (refine lP ?_; refine lQ (fun hcc m => (by first | exact awake_f _ | exact cr _ | exact sa _ | exact cc _ | exact cb _ | exact cs _)) ?_)) | (show Fct ..; refine fctI (fun hf => ?_)) | (show XCallQ ..; first | refine xcF ?_ | refine xQ (fun hcc => (by first | exact awake_f _ | exact cr _ | exact sa _ | exact cc _ | exact cb _ | exact cs _)) ?_ | (refine xlP ?_; refine xlQ (fun hcc m => (by first | exact awake_f _ | exact cr _ | exact sa _ | exact cc _ | exact cb _ | exact cs _)) ?_)) | (show SWp _ _ _ (.region _ _ true) _ _ _ _; refine xG mixed [] ?_) | (show SWp _ _ _ (.cond _ _ _) _ _ _ _; first | (refine cB (fun hc => ?_) (fun hc => ?_) <;> first | exact False.elim hc | exact absurd hc Bool.false_ne_true | exact absurd hc.symm Bool.false_ne_true | skip) | refine cU ?_ ?_)))
      (((simp only [push_cast, reduceIte, reduceDIte, reduceCtorEq, Nat.reduceLT, Nat.reduceLeDiff, Nat.reduceEqDiff, Nat.reduceAdd, Nat.reduceMul, Nat.reduceBEq, Nat.reducePow, Int.zero_add, Int.reduceAdd, Int.reduceSub, Int.reduceLT, Int.reduceLE, Int.reduceToNat, Int.reduceNeg, Nat.reduceSub, Int.reduceBNe, Int.reduceBEq, Int.reduceTDiv, Int.reduceTMod, Int.reduceMul]); repeat (simp (disch := omega) only [idx_nat, idx_mapT, i64w, rows_getS, rows_get, getD_set_self, famR_get]; try (simp only [push_cast, reduceIte, reduceDIte, reduceCtorEq, Nat.reduceLT, Nat.reduceLeDiff, Nat.reduceEqDiff, Nat.reduceAdd, Nat.reduceMul, Nat.reduceBEq, Nat.reducePow, Int.zero_add, Int.reduceAdd, Int.reduceSub, Int.reduceLT, Int.reduceLE, Int.reduceToNat, Int.reduceNeg, Nat.reduceSub, Int.reduceBNe, Int.reduceBEq, Int.reduceTDiv, Int.reduceTMod, Int.reduceMul]))))
  obtain ⟨s, v, r1, r2, r3, r4⟩ := hcost rfl
  obtain ⟨q1, q2⟩ := hle r2 s v r3
  rw [if_neg q1] at cb hbin hG
  dsimp only at r1 r2 r3 r4 hG hbin cco cg cs
  have hsm := cost_sm (p := p) (rs := rs)
  rw [r4] at hG hsm
  rw [if_neg (fun k => k rfl), if_neg (fun k => k rfl)] at hG
  have hrl : rs.length ≤ 281474976710656 := by have := (planB_in hp).2.2.2.1; omega
  have cg := fun m => cg m hrl
  have cco := fun m => cco m hrl
  rw [hG] at cg
  rw [r4] at cco
  dsimp only at hsm hbin
  have hsb : ¬ (s < b) := by omega
  (have := Nonempty.intro hsb)
  have hdd : s - b = s - b := rfl
  (have := Nonempty.intro hdd)
  generalize volsC p rs p.inf.length = vs at *
  refine pureC (n := 110) (rs := [.tmp 6]) (ts := [4]) Try.func3 rfl (by decide) [] (by (exact SD)) ?_
  (repeat' (first | refine swp_seq [0, 1, 2, 3, 6, 7, 9, 10, 11, 12, 13, 14, 16, 17, 18, 20, 28, 47, 65, 93] ?_ | refine st1 ?_ | (show CallQ ..; first | refine cF ?_ | refine cQ (fun hcc => (by first | exact awake_f _ | exact cr _ | exact sa _ | exact cc _ | exact cb _ | exact cs _ | exact cco _ | exact cg _)) ?_ | (refine lP ?_; refine lQ (fun hcc m => (by first | exact awake_f _ | exact cr _ | exact sa _ | exact cc _ | exact cb _ | exact cs _ | exact cco _ | exact cg _)) ?_)) | (show Fct ..; refine fctI (fun hf => ?_)) | (show XCallQ ..; first | refine xcF ?_ | refine xQ (fun hcc => (by first | exact awake_f _ | exact cr _ | exact sa _ | exact cc _ | exact cb _ | exact cs _ | exact cco _ | exact cg _)) ?_ | (refine xlP ?_; refine xlQ (fun hcc m => (by first | exact awake_f _ | exact cr _ | exact sa _ | exact cc _ | exact cb _ | exact cs _ | exact cco _ | exact cg _)) ?_)) | (show SWp _ _ _ (.region _ _ true) _ _ _ _; refine xG mixed [] ?_) | (show SWp _ _ _ (.cond _ _ _) _ _ _ _; first | (refine cB (fun hc => ?_) (fun hc => ?_) <;> first | exact False.elim hc | exact absurd hc Bool.false_ne_true | exact absurd hc.symm Bool.false_ne_true | skip) | refine cU ?_ ?_)))
  (((simp only [push_cast, reduceIte, reduceDIte, reduceCtorEq, Nat.reduceLT, Nat.reduceLeDiff, Nat.reduceEqDiff, Nat.reduceAdd, Nat.reduceMul, Nat.reduceBEq, Nat.reducePow, Int.zero_add, Int.reduceAdd, Int.reduceSub, Int.reduceLT, Int.reduceLE, Int.reduceToNat, Int.reduceNeg, Nat.reduceSub, Int.reduceBNe, Int.reduceBEq, Int.reduceTDiv, Int.reduceTMod, Int.reduceMul]); repeat (simp (disch := omega) only [idx_nat, idx_mapT, i64w, rows_getS, rows_get, getD_set_self, famR_get]; try (simp only [push_cast, reduceIte, reduceDIte, reduceCtorEq, Nat.reduceLT, Nat.reduceLeDiff, Nat.reduceEqDiff, Nat.reduceAdd, Nat.reduceMul, Nat.reduceBEq, Nat.reducePow, Int.zero_add, Int.reduceAdd, Int.reduceSub, Int.reduceLT, Int.reduceLE, Int.reduceToNat, Int.reduceNeg, Nat.reduceSub, Int.reduceBNe, Int.reduceBEq, Int.reduceTDiv, Int.reduceTMod, Int.reduceMul]))))

end Go.Proofs.Ytagalkckebffhaa
