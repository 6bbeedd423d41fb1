/-
  Contracts of functions of the program, over the engine.
  No condition.
-/
import Derived.Test.YtnfbaeeohepajaaGreatCT2T2e
import Derived.Test.YtnfbaeeohepajaaGreatCNmT1
namespace Go.Proofs.YtnfbaeeohepajaaGreat
open Go.Eng
set_option linter.all false
attribute [local irreducible] DCallsG SWp Fct CallQ XCallQ LCallQ XLCallQ drun xrun

def levB (n : Int) : Bool := decide (-4194304 ≤ n) && decide (n ≤ 4194304)
def btwB (n lo hi : Int) : Bool := decide (lo ≤ n) && decide (n ≤ hi)
theorem between_f (n lo hi : Int) (m : Nat) : DCalls Tryz.prog 132 [li n, li lo, li hi] (hget []) m (lb (btwB n lo hi)) (hget []) := by
  refine pureC (n := 15) (rs := [.tmp 6]) (ts := [4]) Tryz.func132 rfl (by decide) [] (by (exact SD)) ?_
  (repeat' (first | refine swp_seq [0, 1, 2, 6] ?_ | refine st2 ?_ | (show Fct ..; refine fctI (fun hf => ?_)) | (show SWp _ _ _ (.cond _ _ _) _ _ _ _; first | refine cB (fun hc => ?_) (fun hc => ?_) | refine cU ?_ ?_)))
  exact DVR
theorem level1_f (n : Int) (m : Nat) : DCalls Tryz.prog 176 [li n] (hget []) m (lb (!levB n)) (hget []) := by
  refine pureC (n := 9) (rs := [.tmp 2]) (ts := [4]) Tryz.func176 rfl (by decide) [] (by (exact SD)) ?_
  (repeat' (first | refine swp_seq [0, 2] ?_ | refine st2 ?_ | (show Fct ..; refine fctI (fun hf => ?_)) | (show SWp _ _ _ (.cond _ _ _) _ _ _ _; first | refine cB (fun hc => ?_) (fun hc => ?_) | refine cU ?_ ?_)))
  (refine DVQ ?_)
  refine lbC ?_
  unfold levB; grind
theorem level_f (l : List Int) (m : Nat) (hl : l.length ≤ 281474976710656) : DCalls Tryz.prog 133 [ints l] (hget []) m (lb (!l.any fun n => !levB n)) (hget []) := by
  refine pureC (n := 6) (rs := [.tmp 2]) (ts := [4]) Tryz.func133 rfl (by decide) [] (by (exact SD)) ?_
  (repeat' (first | refine swp_seq [0, 2] ?_ | refine st2 ?_ | (show CallQ ..; first | refine cQ (fun hcc => (conInt_f _ (fun n => !levB n) l _ hl (fun n _ m => level1_f n m))) ?_ | (refine lP ?_; refine lQ (fun hcc m => (conInt_f _ (fun n => !levB n) l _ hl (fun n _ m => level1_f n m))) ?_)) | (show Fct ..; refine fctI (fun hf => ?_)) | (show SWp _ _ _ (.cond _ _ _) _ _ _ _; first | refine cB (fun hc => ?_) (fun hc => ?_) | refine cU ?_ ?_)))
  exact DVR
def shapeB (t : List Knot) (depth : Int) : Bool := tabB t && decide ((t.getD 0 default).x = 0) && decide ((t.getD 0 default).y = 0) && decide ((t.getD (t.length - 1) default).x = depth) && decide ((t.getD (t.length - 1) default).y ≤ 1125899906842624)
theorem callS {g : FuncId} {C : List Nat} {args : List DV} {h h' : Nat → Option HV} {m : Nat} {d : DV} (k : DCallsG Tryz.prog g C args h m d h' := by first | exact tab_f _ _ SC | exact rTab_f _ _ SC | exact between_f _ _ _ _ | exact level_f _ _ SC | exact name_f _ _ SC) : DCallsG Tryz.prog g C args h m d h' := k
theorem tabB_len {t : List Knot} (h : tabB t = true) : 1 ≤ t.length ∧ t.length ≤ 100 := by unfold tabB at h; simp at h; omega
theorem shaped_f (t : List Knot) (d : Int) (m : Nat) (hl : t.length ≤ 281474976710656) : DCalls Tryz.prog 134 [knotL t, li d] (hget []) m (lb (shapeB t d)) (hget []) := by
  refine pureC (n := 31) (rs := [.tmp 4]) (ts := [4]) Tryz.func134 rfl (by decide) [] (by (exact SD)) ?_
  (repeat' (first | refine swp_seq [0, 1, 4, 5, 8] ?_ | refine st2 ?_ | (show CallQ ..; first | refine cQ (fun hcc => callS) ?_ | (refine lP ?_; refine lQ (fun hcc m => callS) ?_)) | (show Fct ..; refine fctI (fun hf => ?_)) | (show SWp _ _ _ (.cond _ _ _) _ _ _ _; first | refine cB (fun hc => ?_) (fun hc => ?_) | refine cU ?_ ?_)))
  · (refine DVQ ?_)
    refine lbC ?_
    unfold shapeB; rw [hc]; rfl
  · have h2 := tabB_len hc
    (repeat' (first | refine swp_seq [0, 1, 4, 5, 8] ?_ | refine st2 ?_ | (show CallQ ..; first | refine cQ (fun hcc => callS) ?_ | (refine lP ?_; refine lQ (fun hcc m => callS) ?_)) | (show Fct ..; refine fctI (fun hf => ?_)) | (show SWp _ _ _ (.cond _ _ _) _ _ _ _; first | refine cB (fun hc => ?_) (fun hc => ?_) | refine cU ?_ ?_)))
    (refine DVQ ?_)
    refine lbC ?_
    unfold shapeB; rw [hc]
    grind
theorem shapeB_len {t : List Knot} {d : Int} (h : shapeB t d = true) : 1 ≤ t.length ∧ t.length ≤ 100 := tabB_len (by unfold shapeB at h; simp at h; exact h.1.1.1.1)
def kindB (x : Node) : Bool :=
  if x.kind = 1 ∨ x.kind = 2 then decide (x.inv < x.gnd) && shapeB x.shape (x.gnd - x.inv) && !(decide (x.kind = 1) && x.prot) && (if x.prot then btwB x.res 0 (x.shape.getD (x.shape.length - 1) default).y else decide (x.res = 0))
  else if x.kind = 3 then decide (x.inv ≤ x.gnd) && decide (x.shape.length = 0) && !x.prot && decide (x.res = 0) else false
def nodeR (x : Node) : Bool := nameB x.name && btwB x.pos.x (-16777216) 16777216 && btwB x.pos.y (-16777216) 16777216 && levB x.inv && levB x.gnd && kindB x
theorem callR {g : FuncId} {C : List Nat} {args : List DV} {h h' : Nat → Option HV} {m : Nat} {d : DV} (k : DCallsG Tryz.prog g C args h m d h' := by first | exact callS | exact shaped_f _ _ _ SC) : DCallsG Tryz.prog g C args h m d h' := k
set_option maxHeartbeats 2000000 in
theorem rightNode_f (x : Node) (m : Nat) (hx : nodeOk x) : DCalls Tryz.prog 88 [nodeD x] (hget []) m (lb (nodeR x)) (hget []) := by
  obtain ⟨k1, k2, k3, k4, k5, k6, k7⟩ := hx
  have cn := fun m => name_f x.name m k1
  have cx := fun m => between_f x.pos.x (-16777216) 16777216 m
  have cy := fun m => between_f x.pos.y (-16777216) 16777216 m
  refine pureC (n := 101) (rs := [.tmp 2]) (ts := [4]) Tryz.func88 rfl (by decide) [] (by (exact SD)) ?_
  cases hn : nameB x.name
  · simp only [hn] at cn
    (repeat' (first | refine swp_seq [0, 1, 2, 29, 31, 32, 59, 62, 78] ?_ | refine st2 ?_ | (show CallQ ..; first | refine cQ (fun hcc => (by first | exact cn _ | exact callR)) ?_ | (refine lP ?_; refine lQ (fun hcc m => (by first | exact cn _ | exact callR)) ?_)) | (show XCallQ ..; first | refine xQ (fun hcc => (by first | exact cn _ | exact callR)) ?_ | (refine xlP ?_; refine xlQ (fun hcc m => (by first | exact cn _ | exact callR)) ?_)) | (show Fct ..; refine fctI (fun hf => ?_)) | (show SWp _ _ _ (.cond _ _ _) _ _ _ _; first | refine cB (fun hc => ?_) (fun hc => ?_) | refine cU ?_ ?_)))
    (refine DVQ ?_)
    refine lbC ?_
    unfold nodeR; rw [hn]; simp
  simp only [hn] at cn
  cases hx : btwB x.pos.x (-16777216) 16777216
  · simp only [hx] at cx
    (repeat' (first | refine swp_seq [0, 1, 2, 29, 31, 32, 59, 62, 78] ?_ | refine st2 ?_ | (show CallQ ..; first | refine cQ (fun hcc => (by first | exact cn _ | exact cx _ | exact callR)) ?_ | (refine lP ?_; refine lQ (fun hcc m => (by first | exact cn _ | exact cx _ | exact callR)) ?_)) | (show XCallQ ..; first | refine xQ (fun hcc => (by first | exact cn _ | exact cx _ | exact callR)) ?_ | (refine xlP ?_; refine xlQ (fun hcc m => (by first | exact cn _ | exact cx _ | exact callR)) ?_)) | (show Fct ..; refine fctI (fun hf => ?_)) | (show SWp _ _ _ (.cond _ _ _) _ _ _ _; first | refine cB (fun hc => ?_) (fun hc => ?_) | refine cU ?_ ?_)))
    (refine DVQ ?_)
    refine lbC ?_
    unfold nodeR; rw [hx]; simp
  simp only [hx] at cx
  cases hy : btwB x.pos.y (-16777216) 16777216
  · simp only [hy] at cy
    (repeat' (first | refine swp_seq [0, 1, 2, 29, 31, 32, 59, 62, 78] ?_ | refine st2 ?_ | (show CallQ ..; first | refine cQ (fun hcc => (by first | exact cn _ | exact cx _ | exact cy _ | exact callR)) ?_ | (refine lP ?_; refine lQ (fun hcc m => (by first | exact cn _ | exact cx _ | exact cy _ | exact callR)) ?_)) | (show XCallQ ..; first | refine xQ (fun hcc => (by first | exact cn _ | exact cx _ | exact cy _ | exact callR)) ?_ | (refine xlP ?_; refine xlQ (fun hcc m => (by first | exact cn _ | exact cx _ | exact cy _ | exact callR)) ?_)) | (show Fct ..; refine fctI (fun hf => ?_)) | (show SWp _ _ _ (.cond _ _ _) _ _ _ _; first | refine cB (fun hc => ?_) (fun hc => ?_) | refine cU ?_ ?_)))
    (refine DVQ ?_)
    refine lbC ?_
    unfold nodeR; rw [hy]; simp
  simp only [hy] at cy
  have hlv : ((!([x.inv, x.gnd] : List Int).any fun n => !levB n)) = (levB x.inv && levB x.gnd) := by simp
  have cl : ∀ m, DCalls Tryz.prog 133 [ints [x.inv, x.gnd]] (hget []) m (lb (levB x.inv && levB x.gnd)) (hget []) := fun m => hlv ▸ level_f [x.inv, x.gnd] m (by simp)
  cases hl : levB x.inv && levB x.gnd
  · simp only [hl] at cl
    (repeat' (first | refine swp_seq [0, 1, 2, 29, 31, 32, 59, 62, 78] ?_ | refine st2 ?_ | (show CallQ ..; first | refine cQ (fun hcc => (by first | exact cn _ | exact cx _ | exact cy _ | exact cl _ | exact callR)) ?_ | (refine lP ?_; refine lQ (fun hcc m => (by first | exact cn _ | exact cx _ | exact cy _ | exact cl _ | exact callR)) ?_)) | (show XCallQ ..; first | refine xQ (fun hcc => (by first | exact cn _ | exact cx _ | exact cy _ | exact cl _ | exact callR)) ?_ | (refine xlP ?_; refine xlQ (fun hcc m => (by first | exact cn _ | exact cx _ | exact cy _ | exact cl _ | exact callR)) ?_)) | (show Fct ..; refine fctI (fun hf => ?_)) | (show SWp _ _ _ (.cond _ _ _) _ _ _ _; first | refine cB (fun hc => ?_) (fun hc => ?_) | refine cU ?_ ?_)))
    (refine DVQ ?_)
    refine lbC ?_
    clear cn cx cy cl hlv
    unfold nodeR; rw [Bool.and_assoc, Bool.and_assoc]
    simp at hl ⊢
    grind
  simp only [hl] at cl
  have hl2 : (-4194304 ≤ x.inv ∧ x.inv ≤ 4194304) ∧ (-4194304 ≤ x.gnd ∧ x.gnd ≤ 4194304) := by
    unfold levB at hl; simp at hl; omega
  have hnr : nodeR x = kindB x := by unfold nodeR; rw [hn, hx, hy, Bool.and_assoc, Bool.and_assoc, ← Bool.and_assoc (levB x.inv), hl]; simp
  rw [hnr]
  have cs := fun m => shaped_f x.shape (x.gnd - x.inv) m k6.1
  cases hs : shapeB x.shape (x.gnd - x.inv) <;> simp only [hs] at cs
  · (repeat' (first | refine swp_seq [0, 1, 2, 29, 31, 32, 59, 62, 78] ?_ | refine st2 ?_ | (show CallQ ..; first | refine cQ (fun hcc => (by first | exact cn _ | exact cx _ | exact cy _ | exact cl _ | exact cs _ | exact callR)) ?_ | (refine lP ?_; refine lQ (fun hcc m => (by first | exact cn _ | exact cx _ | exact cy _ | exact cl _ | exact cs _ | exact callR)) ?_)) | (show XCallQ ..; first | refine xQ (fun hcc => (by first | exact cn _ | exact cx _ | exact cy _ | exact cl _ | exact cs _ | exact callR)) ?_ | (refine xlP ?_; refine xlQ (fun hcc m => (by first | exact cn _ | exact cx _ | exact cy _ | exact cl _ | exact cs _ | exact callR)) ?_)) | (show Fct ..; refine fctI (fun hf => ?_)) | (show SWp _ _ _ (.cond _ _ _) _ _ _ _; first | refine cB (fun hc => ?_) (fun hc => ?_) | refine cU ?_ ?_)))
    all_goals ((refine DVQ ?_); refine lbC ?_; unfold kindB; rw [hs]; clear cn cx cy cl cs hlv hnr; grind)
  · have h3 := shapeB_len hs
    (repeat' (first | refine swp_seq [0, 1, 2, 29, 31, 32, 59, 62, 78] ?_ | refine st2 ?_ | (show CallQ ..; first | refine cQ (fun hcc => (by first | exact cn _ | exact cx _ | exact cy _ | exact cl _ | exact cs _ | exact callR)) ?_ | (refine lP ?_; refine lQ (fun hcc m => (by first | exact cn _ | exact cx _ | exact cy _ | exact cl _ | exact cs _ | exact callR)) ?_)) | (show XCallQ ..; first | refine xQ (fun hcc => (by first | exact cn _ | exact cx _ | exact cy _ | exact cl _ | exact cs _ | exact callR)) ?_ | (refine xlP ?_; refine xlQ (fun hcc m => (by first | exact cn _ | exact cx _ | exact cy _ | exact cl _ | exact cs _ | exact callR)) ?_)) | (show Fct ..; refine fctI (fun hf => ?_)) | (show SWp _ _ _ (.cond _ _ _) _ _ _ _; first | refine cB (fun hc => ?_) (fun hc => ?_) | refine cU ?_ ?_)))
    all_goals ((refine DVQ ?_); refine lbC ?_; unfold kindB; rw [hs]; clear cn cx cy cl cs hlv hnr; grind)

end Go.Proofs.YtnfbaeeohepajaaGreat
