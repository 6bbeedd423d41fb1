/-
  Contracts of functions of the program, over the engine.
  No condition.
-/
import Derived.Test.YtnfbaeeohepajaaGreatCT4T4bT4eT4f
namespace Go.Proofs.YtnfbaeeohepajaaGreat
open Go.Eng
set_option linter.all false
attribute [local irreducible] DCallsG SWp Fct CallQ XCallQ LCallQ XLCallQ drun xrun
theorem rLevel_f (n : Int) (m : Nat) : DCalls Tryz.prog 106 [li n] (hget []) m (lb (levB n)) (hget []) := by
  refine pureC (n := 9) (rs := [.tmp 2]) (ts := [4]) Tryz.func106 rfl (by decide) [] (by (exact SD)) ?_
  (repeat' (first | refine swp_seq [0, 2] ?_ | refine st2 ?_ | (show Fct ..; refine fctI (fun hf => ?_)) | (show SWp _ _ _ (.cond _ _ _) _ _ _ _; first | refine cB (fun hc => ?_) (fun hc => ?_) | refine cU ?_ ?_)))
  exact DVR
theorem rPos_f (n : Int) (m : Nat) : DCalls Tryz.prog 155 [li n] (hget []) m (lb (btwB n (-16777216) 16777216)) (hget []) := by
  refine pureC (n := 9) (rs := [.tmp 2]) (ts := [4]) Tryz.func155 rfl (by decide) [] (by (exact SD)) ?_
  (repeat' (first | refine swp_seq [0, 2] ?_ | refine st2 ?_ | (show Fct ..; refine fctI (fun hf => ?_)) | (show SWp _ _ _ (.cond _ _ _) _ _ _ _; first | refine cB (fun hc => ?_) (fun hc => ?_) | refine cU ?_ ?_)))
  exact DVR
theorem rWithin_f (n k : Int) (m : Nat) : DCalls Tryz.prog 107 [li n, li k] (hget []) m (lb (btwB n 1 k)) (hget []) := by
  refine pureC (n := 12) (rs := [.tmp 4]) (ts := [4]) Tryz.func107 rfl (by decide) [] (by (exact SD)) ?_
  (repeat' (first | refine swp_seq [0, 1, 4] ?_ | refine st2 ?_ | (show Fct ..; refine fctI (fun hf => ?_)) | (show SWp _ _ _ (.cond _ _ _) _ _ _ _; first | refine cB (fun hc => ?_) (fun hc => ?_) | refine cU ?_ ?_)))
  exact DVR
theorem rShape_f (t : List Knot) (d : Int) (m : Nat) (hl : t.length ≤ 281474976710656) : DCalls Tryz.prog 156 [knotL t, li d] (hget []) m (lb (shapeB t d)) (hget []) := by
  refine pureC (n := 38) (rs := [.tmp 4]) (ts := [4]) Tryz.func156 rfl (by decide) [] (by (exact SD)) ?_
  (repeat' (first | refine swp_seq [0, 1, 4, 5, 8] ?_ | refine st2 ?_ | (show CallQ ..; first | refine cQ (fun hcc => (rTab_f _ _ SC)) ?_ | (refine lP ?_; refine lQ (fun hcc m => (rTab_f _ _ SC)) ?_)) | (show Fct ..; refine fctI (fun hf => ?_)) | (show SWp _ _ _ (.cond _ _ _) _ _ _ _; first | refine cB (fun hc => ?_) (fun hc => ?_) | refine cU ?_ ?_)))
  · (refine DVQ ?_)
    refine lbC ?_
    unfold shapeB; rw [hc]; rfl
  · have h2 := tabB_len hc
    (repeat' (first | refine swp_seq [0, 1, 4, 5, 8] ?_ | refine st2 ?_ | (show CallQ ..; first | refine cQ (fun hcc => (rTab_f _ _ SC)) ?_ | (refine lP ?_; refine lQ (fun hcc m => (rTab_f _ _ SC)) ?_)) | (show Fct ..; refine fctI (fun hf => ?_)) | (show SWp _ _ _ (.cond _ _ _) _ _ _ _; first | refine cB (fun hc => ?_) (fun hc => ?_) | refine cU ?_ ?_)))
    (refine DVQ ?_)
    refine lbC ?_
    unfold shapeB; rw [hc]
    grind
theorem rCurve_f (t : List Knot) (m : Nat) (hl : t.length ≤ 281474976710656) : DCalls Tryz.prog 108 [knotL t] (hget []) m (lb (curveB t)) (hget []) := by
  have ct := fun m => rTab_f t m hl
  refine pureC (n := 39) (rs := [.tmp 2]) (ts := [4]) Tryz.func108 rfl (by decide) [] (by (exact SD)) ?_
  cases ht : tabB t <;> simp only [ht] at ct
  · (repeat' (first | refine swp_seq [0, 2] ?_ | refine st2 ?_ | (show CallQ ..; first | refine cQ (fun hcc => (ct _)) ?_ | (refine lP ?_; refine lQ (fun hcc m => (ct _)) ?_)) | (show Fct ..; refine fctI (fun hf => ?_)) | (show SWp _ _ _ (.cond _ _ _) _ _ _ _; first | refine cB (fun hc => ?_) (fun hc => ?_) | refine cU ?_ ?_)))
    (refine DVQ ?_)
    refine lbC ?_
    unfold curveB
    rw [ht]; simp
  · have h2 := tabB_len ht
    (repeat' (first | refine swp_seq [0, 2] ?_ | refine st2 ?_ | (show CallQ ..; first | refine cQ (fun hcc => (ct _)) ?_ | (refine lP ?_; refine lQ (fun hcc m => (ct _)) ?_)) | (show Fct ..; refine fctI (fun hf => ?_)) | (show SWp _ _ _ (.cond _ _ _) _ _ _ _; first | refine cB (fun hc => ?_) (fun hc => ?_) | refine cU ?_ ?_)))
    (refine DVQ ?_)
    refine lbC ?_
    unfold curveB
    rw [ht]; grind
theorem callRN {g : FuncId} {C : List Nat} {args : List DV} {h h' : Nat → Option HV} {m : Nat} {d : DV} (k : DCallsG Tryz.prog g C args h m d h' := by first | exact rName_f _ _ SC | exact rPos_f _ _ | exact rLevel_f _ _ | exact rWithin_f _ _ _ | exact rShape_f _ _ _ SC | exact rCurve_f _ _ SC) : DCallsG Tryz.prog g C args h m d h' := k
theorem levB_in {n : Int} (h : levB n = true) : -4194304 ≤ n ∧ n ≤ 4194304 := by unfold levB at h; simp at h; omega
set_option maxRecDepth 20000 in
set_option maxHeartbeats 8000000 in
theorem rRightNode_f (x : Node) (m : Nat) (hx : nodeOk x) : DCalls Tryz.prog 109 [nodeD x] (hget []) m (lb (nodeR x)) (hget []) := by
  obtain ⟨k1, k2, k3, k4, k5, k6, k7⟩ := hx
  have ca := fun m => rLevel_f x.inv m
  have cb := fun m => rLevel_f x.gnd m
  have cs := fun m => rShape_f x.shape (x.gnd - x.inv) m k6.1
  refine pureC (n := 105) (rs := [.tmp 2]) (ts := [4]) Tryz.func109 rfl (by decide) [] (by (exact SD)) ?_
  cases ha : levB x.inv <;> simp only [ha] at ca
  · (repeat' (first | refine swp_seq [0, 1, 2, 32, 34, 35, 58, 76, 79] ?_ | refine st2 ?_ | (show CallQ ..; first | refine cQ (fun hcc => (by first | exact ca _ | exact callRN)) ?_ | (refine lP ?_; refine lQ (fun hcc m => (by first | exact ca _ | exact callRN)) ?_)) | (show XCallQ ..; first | refine xQ (fun hcc => (by first | exact ca _ | exact callRN)) ?_ | (refine xlP ?_; refine xlQ (fun hcc m => (by first | exact ca _ | exact callRN)) ?_)) | (show Fct ..; refine fctI (fun hf => ?_)) | (show SWp _ _ _ (.cond _ _ _) _ _ _ _; first | refine cB (fun hc => ?_) (fun hc => ?_) | refine cU ?_ ?_)))
    (refine DVQ ?_); refine lbC ?_; unfold nodeR; rw [ha]; simp
  cases hb : levB x.gnd <;> simp only [hb] at cb
  · (repeat' (first | refine swp_seq [0, 1, 2, 32, 34, 35, 58, 76, 79] ?_ | refine st2 ?_ | (show CallQ ..; first | refine cQ (fun hcc => (by first | exact ca _ | exact cb _ | exact callRN)) ?_ | (refine lP ?_; refine lQ (fun hcc m => (by first | exact ca _ | exact cb _ | exact callRN)) ?_)) | (show XCallQ ..; first | refine xQ (fun hcc => (by first | exact ca _ | exact cb _ | exact callRN)) ?_ | (refine xlP ?_; refine xlQ (fun hcc m => (by first | exact ca _ | exact cb _ | exact callRN)) ?_)) | (show Fct ..; refine fctI (fun hf => ?_)) | (show SWp _ _ _ (.cond _ _ _) _ _ _ _; first | refine cB (fun hc => ?_) (fun hc => ?_) | refine cU ?_ ?_)))
    (refine DVQ ?_); refine lbC ?_; unfold nodeR; rw [hb]; simp
  have ha2 := levB_in ha
  have hb2 := levB_in hb
  cases hs : shapeB x.shape (x.gnd - x.inv) <;> simp only [hs] at cs
  · (repeat' (first | refine swp_seq [0, 1, 2, 32, 34, 35, 58, 76, 79] ?_ | refine st2 ?_ | (show CallQ ..; first | refine cQ (fun hcc => (by first | exact ca _ | exact cb _ | exact cs _ | exact callRN)) ?_ | (refine lP ?_; refine lQ (fun hcc m => (by first | exact ca _ | exact cb _ | exact cs _ | exact callRN)) ?_)) | (show XCallQ ..; first | refine xQ (fun hcc => (by first | exact ca _ | exact cb _ | exact cs _ | exact callRN)) ?_ | (refine xlP ?_; refine xlQ (fun hcc m => (by first | exact ca _ | exact cb _ | exact cs _ | exact callRN)) ?_)) | (show Fct ..; refine fctI (fun hf => ?_)) | (show SWp _ _ _ (.cond _ _ _) _ _ _ _; first | refine cB (fun hc => ?_) (fun hc => ?_) | refine cU ?_ ?_)))
    all_goals ((refine DVQ ?_); refine lbC ?_; unfold nodeR kindB; rw [hs]; clear ca cb cs; first | grind | (simp_all [btwB]; done) | (simp_all [btwB]; omega))
  · have h3 := shapeB_len hs
    (repeat' (first | refine swp_seq [0, 1, 2, 32, 34, 35, 58, 76, 79] ?_ | refine st2 ?_ | (show CallQ ..; first | refine cQ (fun hcc => (by first | exact ca _ | exact cb _ | exact cs _ | exact callRN)) ?_ | (refine lP ?_; refine lQ (fun hcc m => (by first | exact ca _ | exact cb _ | exact cs _ | exact callRN)) ?_)) | (show XCallQ ..; first | refine xQ (fun hcc => (by first | exact ca _ | exact cb _ | exact cs _ | exact callRN)) ?_ | (refine xlP ?_; refine xlQ (fun hcc m => (by first | exact ca _ | exact cb _ | exact cs _ | exact callRN)) ?_)) | (show Fct ..; refine fctI (fun hf => ?_)) | (show SWp _ _ _ (.cond _ _ _) _ _ _ _; first | refine cB (fun hc => ?_) (fun hc => ?_) | refine cU ?_ ?_)))
    all_goals ((refine DVQ ?_); refine lbC ?_; unfold nodeR kindB; rw [hs]; clear ca cb cs; first | grind | (simp_all [btwB]; done) | (simp_all [btwB]; omega))
set_option maxRecDepth 20000 in
set_option maxHeartbeats 8000000 in
theorem rRightLink_f (x : Link) (m : Nat) (hx : linkOk x) : DCalls Tryz.prog 60 [linkD x] (hget []) m (lb (linkR x)) (hget []) := by
  obtain ⟨k1, k2, k3, k4, k5, k6, k7, k8, k9, k10, k11, k12⟩ := hx
  refine pureC (n := 160) (rs := [.tmp 2]) (ts := [4]) Tryz.func60 rfl (by decide) [] (by (exact SD)) ?_
  (repeat' (first | refine swp_seq [0, 1, 2, 37, 39, 40, 66, 97, 128] ?_ | refine st2 ?_ | (show CallQ ..; first | refine cQ (fun hcc => callRN) ?_ | (refine lP ?_; refine lQ (fun hcc m => callRN) ?_)) | (show Fct ..; refine fctI (fun hf => ?_)) | (show SWp _ _ _ (.cond _ _ _) _ _ _ _; first | refine cB (fun hc => ?_) (fun hc => ?_) | refine cU ?_ ?_)))
  all_goals ((refine DVQ ?_); refine lbC ?_; unfold linkR kindL; grind)

end Go.Proofs.YtnfbaeeohepajaaGreat
