/-
  Contracts of functions of the program, over the engine.
  No condition.
-/
import Derived.Test.YtnfbaeeohepajaaGreatCT4T4bT4eT4f
import Derived.Test.YtnfbaeeohepajaaGreatCT3T3n
namespace Go.Proofs.YtnfbaeeohepajaaGreat
open Go.Eng
set_option linter.all false
attribute [local irreducible] DCallsG SWp Fct CallQ XCallQ LCallQ XLCallQ drun xrun
theorem plainOk {x : Link} (h : linkOk x) : linkOk (plainL x) := by
  obtain ⟨k1, k2, k3, k4, k5, k6, k7, k8, k9, k10, k11, k12⟩ := h
  have z : i64ok 0 := by unfold i64ok; omega
  have b : ByteArray.empty.size ≤ 281474976710656 := by decide
  unfold plainL
  refine ⟨k1, k2, k3, k4, ?_, k6, ?_, ?_, ?_, ?_, ?_⟩ <;> dsimp only <;> split <;> first | assumption | exact ⟨k11, k12⟩ | exact ⟨by simp, by simp⟩
set_option maxRecDepth 20000 in
set_option maxHeartbeats 8000000 in
theorem rightLink_f (x : Link) (m : Nat) (hx : linkOk x) : DCalls Tryz.prog 90 [linkD x] (hget []) m (lb (linkR x)) (hget []) := by
  have cp := fun m => plain_f x m
  have cS := fun m => sameLink_f x (plainL x) m hx (plainOk hx)
  obtain ⟨k1, k2, k3, k4, k5, k6, k7, k8, k9, k10, k11, k12⟩ := hx
  have c1 := fun m => name_f x.name m k1
  have c2 := fun m => name_f x.fro m k2
  have c3 := fun m => name_f x.til m k3
  have hL : ∀ n, (!([n] : List Int).any fun n => !levB n) = levB n := fun n => by simp
  have c4 : ∀ m, DCalls Tryz.prog 133 [ints [x.up]] (hget []) m (lb (levB x.up)) (hget []) := fun m => hL x.up ▸ level_f [x.up] m (by simp)
  have c5 : ∀ m, DCalls Tryz.prog 133 [ints [x.down]] (hget []) m (lb (levB x.down)) (hget []) := fun m => hL x.down ▸ level_f [x.down] m (by simp)
  have c6 := fun m => between_f x.length 1 16777216 m
  refine pureC (n := 97) (rs := [.tmp 2]) (ts := [4]) Tryz.func90 rfl (by decide) [] (by (exact SD)) ?_
  rw [linkR_eq]
  cases h1 : nameB x.name <;> simp only [h1] at c1
  · (repeat' (first | refine swp_seq [0, 1, 2, 39, 41, 42, 58, 63, 73] ?_ | (show SWp _ _ _ (.region _ _ true) _ _ _ _; refine xG mixed [224] ?_) | refine st2 ?_ | (show CallQ ..; first | refine cQ (fun hcc => (by first | exact c1 _ | exact callR)) ?_ | (refine lP ?_; refine lQ (fun hcc m => (by first | exact c1 _ | exact callR)) ?_)) | (show XCallQ ..; first | refine xQ (fun hcc => (by first | exact c1 _ | exact callR)) ?_ | (refine xlP ?_; refine xlQ (fun hcc m => (by first | exact c1 _ | exact callR)) ?_)) | (show Fct ..; refine fctI (fun hf => ?_)) | (show SWp _ _ _ (.cond _ _ _) _ _ _ _; first | refine cB (fun hc => ?_) (fun hc => ?_) | refine cU ?_ ?_)))
    exact DVR
  cases h2 : nameB x.fro <;> simp only [h2] at c2
  · (repeat' (first | refine swp_seq [0, 1, 2, 39, 41, 42, 58, 63, 73] ?_ | (show SWp _ _ _ (.region _ _ true) _ _ _ _; refine xG mixed [224] ?_) | refine st2 ?_ | (show CallQ ..; first | refine cQ (fun hcc => (by first | exact c1 _ | exact c2 _ | exact callR)) ?_ | (refine lP ?_; refine lQ (fun hcc m => (by first | exact c1 _ | exact c2 _ | exact callR)) ?_)) | (show XCallQ ..; first | refine xQ (fun hcc => (by first | exact c1 _ | exact c2 _ | exact callR)) ?_ | (refine xlP ?_; refine xlQ (fun hcc m => (by first | exact c1 _ | exact c2 _ | exact callR)) ?_)) | (show Fct ..; refine fctI (fun hf => ?_)) | (show SWp _ _ _ (.cond _ _ _) _ _ _ _; first | refine cB (fun hc => ?_) (fun hc => ?_) | refine cU ?_ ?_)))
    exact DVR
  cases h3 : nameB x.til <;> simp only [h3] at c3
  · (repeat' (first | refine swp_seq [0, 1, 2, 39, 41, 42, 58, 63, 73] ?_ | (show SWp _ _ _ (.region _ _ true) _ _ _ _; refine xG mixed [224] ?_) | refine st2 ?_ | (show CallQ ..; first | refine cQ (fun hcc => (by first | exact c1 _ | exact c2 _ | exact c3 _ | exact callR)) ?_ | (refine lP ?_; refine lQ (fun hcc m => (by first | exact c1 _ | exact c2 _ | exact c3 _ | exact callR)) ?_)) | (show XCallQ ..; first | refine xQ (fun hcc => (by first | exact c1 _ | exact c2 _ | exact c3 _ | exact callR)) ?_ | (refine xlP ?_; refine xlQ (fun hcc m => (by first | exact c1 _ | exact c2 _ | exact c3 _ | exact callR)) ?_)) | (show Fct ..; refine fctI (fun hf => ?_)) | (show SWp _ _ _ (.cond _ _ _) _ _ _ _; first | refine cB (fun hc => ?_) (fun hc => ?_) | refine cU ?_ ?_)))
    exact DVR
  by_cases h4 : x.fro = x.til
  · (have := Nonempty.intro h4)
    (repeat' (first | refine swp_seq [0, 1, 2, 39, 41, 42, 58, 63, 73] ?_ | (show SWp _ _ _ (.region _ _ true) _ _ _ _; refine xG mixed [224] ?_) | refine st2 ?_ | (show CallQ ..; first | refine cQ (fun hcc => (by first | exact c1 _ | exact c2 _ | exact c3 _ | exact callR)) ?_ | (refine lP ?_; refine lQ (fun hcc m => (by first | exact c1 _ | exact c2 _ | exact c3 _ | exact callR)) ?_)) | (show XCallQ ..; first | refine xQ (fun hcc => (by first | exact c1 _ | exact c2 _ | exact c3 _ | exact callR)) ?_ | (refine xlP ?_; refine xlQ (fun hcc m => (by first | exact c1 _ | exact c2 _ | exact c3 _ | exact callR)) ?_)) | (show Fct ..; refine fctI (fun hf => ?_)) | (show SWp _ _ _ (.cond _ _ _) _ _ _ _; first | refine cB (fun hc => ?_) (fun hc => ?_) | refine cU ?_ ?_)))
    exact DVR
  (have := Nonempty.intro h4)
  cases h5 : levB x.up <;> simp only [h5] at c4
  · (repeat' (first | refine swp_seq [0, 1, 2, 39, 41, 42, 58, 63, 73] ?_ | (show SWp _ _ _ (.region _ _ true) _ _ _ _; refine xG mixed [224] ?_) | refine st2 ?_ | (show CallQ ..; first | refine cQ (fun hcc => (by first | exact c1 _ | exact c2 _ | exact c3 _ | exact c4 _ | exact callR)) ?_ | (refine lP ?_; refine lQ (fun hcc m => (by first | exact c1 _ | exact c2 _ | exact c3 _ | exact c4 _ | exact callR)) ?_)) | (show XCallQ ..; first | refine xQ (fun hcc => (by first | exact c1 _ | exact c2 _ | exact c3 _ | exact c4 _ | exact callR)) ?_ | (refine xlP ?_; refine xlQ (fun hcc m => (by first | exact c1 _ | exact c2 _ | exact c3 _ | exact c4 _ | exact callR)) ?_)) | (show Fct ..; refine fctI (fun hf => ?_)) | (show SWp _ _ _ (.cond _ _ _) _ _ _ _; first | refine cB (fun hc => ?_) (fun hc => ?_) | refine cU ?_ ?_)))
    exact DVR
  cases h6 : decide (x = plainL x) <;> simp only [h6] at cS
  · (repeat' (first | refine swp_seq [0, 1, 2, 39, 41, 42, 58, 63, 73] ?_ | (show SWp _ _ _ (.region _ _ true) _ _ _ _; refine xG mixed [224] ?_) | refine st2 ?_ | (show CallQ ..; first | refine cQ (fun hcc => (by first | exact c1 _ | exact c2 _ | exact c3 _ | exact c4 _ | exact cp _ | exact cS _ | exact callR)) ?_ | (refine lP ?_; refine lQ (fun hcc m => (by first | exact c1 _ | exact c2 _ | exact c3 _ | exact c4 _ | exact cp _ | exact cS _ | exact callR)) ?_)) | (show XCallQ ..; first | refine xQ (fun hcc => (by first | exact c1 _ | exact c2 _ | exact c3 _ | exact c4 _ | exact cp _ | exact cS _ | exact callR)) ?_ | (refine xlP ?_; refine xlQ (fun hcc m => (by first | exact c1 _ | exact c2 _ | exact c3 _ | exact c4 _ | exact cp _ | exact cS _ | exact callR)) ?_)) | (show Fct ..; refine fctI (fun hf => ?_)) | (show SWp _ _ _ (.cond _ _ _) _ _ _ _; first | refine cB (fun hc => ?_) (fun hc => ?_) | refine cU ?_ ?_)))
    exact DVR
  clear h6
  simp only [decide_eq_false h4, Bool.not_false, Bool.true_and]
  unfold kindP
  by_cases q1 : x.kind = 1
  · rw [if_pos q1]
    (have := Nonempty.intro q1)
    cases h7 : btwB x.length 1 16777216 <;> simp only [h7] at c6
    · (repeat' (first | refine swp_seq [0, 1, 2, 39, 41, 42, 58, 63, 73] ?_ | (show SWp _ _ _ (.region _ _ true) _ _ _ _; refine xG mixed [224] ?_) | refine st2 ?_ | (show CallQ ..; first | refine cQ (fun hcc => (by first | exact c1 _ | exact c2 _ | exact c3 _ | exact c4 _ | exact cp _ | exact cS _ | exact c6 _ | exact callR)) ?_ | (refine lP ?_; refine lQ (fun hcc m => (by first | exact c1 _ | exact c2 _ | exact c3 _ | exact c4 _ | exact cp _ | exact cS _ | exact c6 _ | exact callR)) ?_)) | (show XCallQ ..; first | refine xQ (fun hcc => (by first | exact c1 _ | exact c2 _ | exact c3 _ | exact c4 _ | exact cp _ | exact cS _ | exact c6 _ | exact callR)) ?_ | (refine xlP ?_; refine xlQ (fun hcc m => (by first | exact c1 _ | exact c2 _ | exact c3 _ | exact c4 _ | exact cp _ | exact cS _ | exact c6 _ | exact callR)) ?_)) | (show Fct ..; refine fctI (fun hf => ?_)) | (show SWp _ _ _ (.cond _ _ _) _ _ _ _; first | refine cB (fun hc => ?_) (fun hc => ?_) | refine cU ?_ ?_)))
      exact DVR
    · (repeat' (first | refine swp_seq [0, 1, 2, 39, 41, 42, 58, 63, 73] ?_ | (show SWp _ _ _ (.region _ _ true) _ _ _ _; refine xG mixed [224] ?_) | refine st2 ?_ | (show CallQ ..; first | refine cQ (fun hcc => (by first | exact c1 _ | exact c2 _ | exact c3 _ | exact c4 _ | exact cp _ | exact cS _ | exact c6 _ | exact c5 _ | exact callR)) ?_ | (refine lP ?_; refine lQ (fun hcc m => (by first | exact c1 _ | exact c2 _ | exact c3 _ | exact c4 _ | exact cp _ | exact cS _ | exact c6 _ | exact c5 _ | exact callR)) ?_)) | (show XCallQ ..; first | refine xQ (fun hcc => (by first | exact c1 _ | exact c2 _ | exact c3 _ | exact c4 _ | exact cp _ | exact cS _ | exact c6 _ | exact c5 _ | exact callR)) ?_ | (refine xlP ?_; refine xlQ (fun hcc m => (by first | exact c1 _ | exact c2 _ | exact c3 _ | exact c4 _ | exact cp _ | exact cS _ | exact c6 _ | exact c5 _ | exact callR)) ?_)) | (show Fct ..; refine fctI (fun hf => ?_)) | (show SWp _ _ _ (.cond _ _ _) _ _ _ _; first | refine cB (fun hc => ?_) (fun hc => ?_) | refine cU ?_ ?_)))
      exact DVR
  rw [if_neg q1]
  (have := Nonempty.intro q1)
  by_cases q2 : x.kind = 2
  · rw [if_pos q2]
    (have := Nonempty.intro q2)
    (repeat' (first | refine swp_seq [0, 1, 2, 39, 41, 42, 58, 63, 73] ?_ | (show SWp _ _ _ (.region _ _ true) _ _ _ _; refine xG mixed [224] ?_) | refine st2 ?_ | (show CallQ ..; first | refine cQ (fun hcc => (by first | exact c1 _ | exact c2 _ | exact c3 _ | exact c4 _ | exact cp _ | exact cS _ | exact callR)) ?_ | (refine lP ?_; refine lQ (fun hcc m => (by first | exact c1 _ | exact c2 _ | exact c3 _ | exact c4 _ | exact cp _ | exact cS _ | exact callR)) ?_)) | (show XCallQ ..; first | refine xQ (fun hcc => (by first | exact c1 _ | exact c2 _ | exact c3 _ | exact c4 _ | exact cp _ | exact cS _ | exact callR)) ?_ | (refine xlP ?_; refine xlQ (fun hcc m => (by first | exact c1 _ | exact c2 _ | exact c3 _ | exact c4 _ | exact cp _ | exact cS _ | exact callR)) ?_)) | (show Fct ..; refine fctI (fun hf => ?_)) | (show SWp _ _ _ (.cond _ _ _) _ _ _ _; first | refine cB (fun hc => ?_) (fun hc => ?_) | refine cU ?_ ?_)))
    exact DVR
  rw [if_neg q2]
  (have := Nonempty.intro q2)
  by_cases q3 : x.kind = 3
  · rw [if_pos q3]
    (have := Nonempty.intro q3)
    (repeat' (first | refine swp_seq [0, 1, 2, 39, 41, 42, 58, 63, 73] ?_ | (show SWp _ _ _ (.region _ _ true) _ _ _ _; refine xG mixed [224] ?_) | refine st2 ?_ | (show CallQ ..; first | refine cQ (fun hcc => (by first | exact c1 _ | exact c2 _ | exact c3 _ | exact c4 _ | exact cp _ | exact cS _ | exact callR)) ?_ | (refine lP ?_; refine lQ (fun hcc m => (by first | exact c1 _ | exact c2 _ | exact c3 _ | exact c4 _ | exact cp _ | exact cS _ | exact callR)) ?_)) | (show XCallQ ..; first | refine xQ (fun hcc => (by first | exact c1 _ | exact c2 _ | exact c3 _ | exact c4 _ | exact cp _ | exact cS _ | exact callR)) ?_ | (refine xlP ?_; refine xlQ (fun hcc m => (by first | exact c1 _ | exact c2 _ | exact c3 _ | exact c4 _ | exact cp _ | exact cS _ | exact callR)) ?_)) | (show Fct ..; refine fctI (fun hf => ?_)) | (show SWp _ _ _ (.cond _ _ _) _ _ _ _; first | refine cB (fun hc => ?_) (fun hc => ?_) | refine cU ?_ ?_)))
    exact DVR
  rw [if_neg q3]
  (have := Nonempty.intro q3)
  by_cases q4 : x.kind = 4
  · rw [if_pos q4]
    (have := Nonempty.intro q4)
    have ct := fun m => tab_f x.curve m k11
    have cc := fun m => conKnot_f 140 (fun k => !(btwB k.x 0 4194304 && btwB k.y 0 1099511627776)) x.curve m k11 (fun k _ m => rl1_f k m)
    (repeat' (first | refine swp_seq [0, 1, 2, 39, 41, 42, 58, 63, 73] ?_ | (show SWp _ _ _ (.region _ _ true) _ _ _ _; refine xG mixed [224] ?_) | refine st2 ?_ | (show CallQ ..; first | refine cQ (fun hcc => (by first | exact c1 _ | exact c2 _ | exact c3 _ | exact c4 _ | exact cp _ | exact cS _ | exact c5 _ | exact ct _ | exact cc _ | exact callR)) ?_ | (refine lP ?_; refine lQ (fun hcc m => (by first | exact c1 _ | exact c2 _ | exact c3 _ | exact c4 _ | exact cp _ | exact cS _ | exact c5 _ | exact ct _ | exact cc _ | exact callR)) ?_)) | (show XCallQ ..; first | refine xQ (fun hcc => (by first | exact c1 _ | exact c2 _ | exact c3 _ | exact c4 _ | exact cp _ | exact cS _ | exact c5 _ | exact ct _ | exact cc _ | exact callR)) ?_ | (refine xlP ?_; refine xlQ (fun hcc m => (by first | exact c1 _ | exact c2 _ | exact c3 _ | exact c4 _ | exact cp _ | exact cS _ | exact c5 _ | exact ct _ | exact cc _ | exact callR)) ?_)) | (show Fct ..; refine fctI (fun hf => ?_)) | (show SWp _ _ _ (.cond _ _ _) _ _ _ _; first | refine cB (fun hc => ?_) (fun hc => ?_) | refine cU ?_ ?_)))
    (refine DVQ ?_)
    refine lbC ?_
    cases ht : tabB x.curve
    · have : curveB x.curve = false := by unfold curveB; rw [ht]; rfl
      rw [this]; simp
    · rw [← curve_all ht]
      cases levB x.down <;> grind
  rw [if_neg q4]
  (have := Nonempty.intro q4)
  (repeat' (first | refine swp_seq [0, 1, 2, 39, 41, 42, 58, 63, 73] ?_ | (show SWp _ _ _ (.region _ _ true) _ _ _ _; refine xG mixed [224] ?_) | refine st2 ?_ | (show CallQ ..; first | refine cQ (fun hcc => (by first | exact c1 _ | exact c2 _ | exact c3 _ | exact c4 _ | exact cp _ | exact cS _ | exact callR)) ?_ | (refine lP ?_; refine lQ (fun hcc m => (by first | exact c1 _ | exact c2 _ | exact c3 _ | exact c4 _ | exact cp _ | exact cS _ | exact callR)) ?_)) | (show XCallQ ..; first | refine xQ (fun hcc => (by first | exact c1 _ | exact c2 _ | exact c3 _ | exact c4 _ | exact cp _ | exact cS _ | exact callR)) ?_ | (refine xlP ?_; refine xlQ (fun hcc m => (by first | exact c1 _ | exact c2 _ | exact c3 _ | exact c4 _ | exact cp _ | exact cS _ | exact callR)) ?_)) | (show Fct ..; refine fctI (fun hf => ?_)) | (show SWp _ _ _ (.cond _ _ _) _ _ _ _; first | refine cB (fun hc => ?_) (fun hc => ?_) | refine cU ?_ ?_)))
  exact DVR

end Go.Proofs.YtnfbaeeohepajaaGreat
