/-
  Contracts of functions of the program, over the engine.
  No condition.
-/
import Derived.Test.YtnfbaeeohepajaaGreatCT5T6
import Derived.Test.YtnfbaeeohepajaaGreatCT4cT4d
namespace Go.Proofs.YtnfbaeeohepajaaGreat
open Go.Eng
set_option linter.all false
attribute [local irreducible] DCallsG SWp Fct CallQ XCallQ LCallQ XLCallQ drun xrun
set_option maxRecDepth 20000 in
set_option maxHeartbeats 8000000 in
theorem rNetValid_f (n : Net) (m : Nat) (hn : netOk n) : DCalls Tryz.prog 62 [netD n] (hget []) m (lb (netB n)) (hget []) := by
  obtain ⟨⟨a1, a2⟩, b1, b2⟩ := hn
  refine pureC (n := 88) (rs := [.tmp 2]) (ts := [4]) Tryz.func62 rfl (by decide) [] (by (exact SD)) ?_
  (repeat' (first | refine swp_seq [0, 1, 2, 3, 4, 5, 6, 16, 21, 42, 47, 72, 87] ?_ | refine st2 ?_ | (show Fct ..; refine fctI (fun hf => ?_)) | (show SWp _ _ _ (.cond _ _ _) _ _ _ _; first | refine cB (fun hc => ?_) (fun hc => ?_) | refine cU ?_ ?_)))
  · (refine DVQ ?_)
    refine lbC ?_
    unfold netB
    rcases hc with h | h
    · rw [decide_eq_false (p := n.nodes.length ≤ 300) (by omega)]; rfl
    · rw [decide_eq_false (p := n.links.length ≤ 400) (by omega)]; simp
  refine loop_swp [1, 3] [0] 1 (fun q A H => ∃ i : Nat, i ≤ n.nodes.length ∧ q = n.nodes.length - i ∧ (∀ j, j < i → okN n j = true) ∧ A = [(1, .ptr 0 0), (3, li i)] ∧ H = [(0, .blk 25 (netC n))]) (by omega) ?_ ?_ ?_
  · rintro q A H ⟨i, h1, h2, h3, rfl, rfl⟩
    exact ⟨by (exact SD), by (exact SD)⟩
  · refine ⟨_, 0, by omega, rfl, by omega, ?_, ?_⟩
    · exact DVR
    · exact DVR
  rintro q A H ⟨i, h1, h2, h3, rfl, rfl⟩
  by_cases hi : i < n.nodes.length
  · have cr := fun m => rRightNode_f (n.nodes.getD i default) m (a2 _ (getD_mem hi))
    have cn := fun m => rFindNode_f n (n.nodes.getD i default).name m a1
    (repeat' (first | refine swp_seq [0, 1, 2, 3, 4, 5, 6, 16, 21, 42, 47, 72, 87] ?_ | refine st2 ?_ | (show CallQ ..; first | refine cQ (fun hcc => (by first | exact cr _ | exact cn _)) ?_ | (refine lP ?_; refine lQ (fun hcc m => (by first | exact cr _ | exact cn _)) ?_)) | (show XCallQ ..; first | refine xQ (fun hcc => (by first | exact cr _ | exact cn _)) ?_ | (refine xlP ?_; refine xlQ (fun hcc m => (by first | exact cr _ | exact cn _)) ?_)) | (show Fct ..; refine fctI (fun hf => ?_)) | (show SWp _ _ _ (.cond _ _ _) _ _ _ _; first | refine cB (fun hc => ?_) (fun hc => ?_) | refine cU ?_ ?_)))
    · (refine DVQ ?_)
      refine lbC ?_
      rw [netB_no1 hi (by unfold okN; clear cr cn h3; grind)]
    · (refine lN [0] ?_)
      exact ⟨_, by omega, i + 1, by omega, rfl, all_next h3 (by unfold okN; clear cr cn h3; grind), rfl, rfl⟩
    · omega
  have hi2 : i = n.nodes.length := by omega
  subst hi2
  (repeat' (first | refine swp_seq [0, 1, 2, 3, 4, 5, 6, 16, 21, 42, 47, 72, 87] ?_ | refine st2 ?_ | (show Fct ..; refine fctI (fun hf => ?_)) | (show SWp _ _ _ (.cond _ _ _) _ _ _ _; first | refine cB (fun hc => ?_) (fun hc => ?_) | refine cU ?_ ?_)))
  · omega
  clear h1 h2 hi hc
  refine loop_swp [1, 4] [0] 1 (fun q A H => ∃ i : Nat, i ≤ n.links.length ∧ q = n.links.length - i ∧ (∀ j, j < i → okL n j = true) ∧ A = [(1, .ptr 0 0), (4, li i)] ∧ H = [(0, .blk 25 (netC n))]) (by omega) ?_ ?_ ?_
  · rintro q A H ⟨i, h1, h2, h3, rfl, rfl⟩
    exact ⟨by (exact SD), by (exact SD)⟩
  · refine ⟨_, 0, by omega, rfl, by omega, ?_, ?_⟩
    · exact DVR
    · exact DVR
  rintro q A H ⟨i, h1, h2, h4, rfl, rfl⟩
  by_cases hi : i < n.links.length
  · have cr := fun m => rRightLink_f (n.links.getD i default) m (b2 _ (getD_mem hi))
    have cl := fun m => rFindLink_f n (n.links.getD i default).name m b1
    have cf := fun m => rFindNode_f n (n.links.getD i default).fro m a1
    have ct := fun m => rFindNode_f n (n.links.getD i default).til m a1
    have hlt := idxI_lt (fun x => decide (x.name = (n.links.getD i default).fro)) n.nodes
    change -1 ≤ nodeIx n.nodes (n.links.getD i default).fro ∧ nodeIx n.nodes (n.links.getD i default).fro < n.nodes.length at hlt
    by_cases hf : nodeIx n.nodes (n.links.getD i default).fro < 0
    · (have := Nonempty.intro hf)
      (repeat' (first | refine swp_seq [0, 1, 2, 3, 4, 5, 6, 16, 21, 42, 47, 72, 87] ?_ | refine st2 ?_ | (show CallQ ..; first | refine cQ (fun hcc => (by first | exact cr _ | exact cl _ | exact cf _ | exact ct _)) ?_ | (refine lP ?_; refine lQ (fun hcc m => (by first | exact cr _ | exact cl _ | exact cf _ | exact ct _)) ?_)) | (show XCallQ ..; first | refine xQ (fun hcc => (by first | exact cr _ | exact cl _ | exact cf _ | exact ct _)) ?_ | (refine xlP ?_; refine xlQ (fun hcc m => (by first | exact cr _ | exact cl _ | exact cf _ | exact ct _)) ?_)) | (show Fct ..; refine fctI (fun hf => ?_)) | (show SWp _ _ _ (.cond _ _ _) _ _ _ _; first | refine cB (fun hc => ?_) (fun hc => ?_) | refine cU ?_ ?_)))
      · (refine DVQ ?_)
        refine lbC ?_
        rw [netB_no2 hi (by unfold okL; clear cr cl cf ct h3 h4; grind)]
      · (refine DVQ ?_)
        refine lbC ?_
        rw [netB_no2 hi (by unfold okL; clear cr cl cf ct h3 h4; grind)]
      · omega
    · (have := Nonempty.intro hf)
      (repeat' (first | refine swp_seq [0, 1, 2, 3, 4, 5, 6, 16, 21, 42, 47, 72, 87] ?_ | refine st2 ?_ | (show CallQ ..; first | refine cQ (fun hcc => (by first | exact cr _ | exact cl _ | exact cf _ | exact ct _)) ?_ | (refine lP ?_; refine lQ (fun hcc m => (by first | exact cr _ | exact cl _ | exact cf _ | exact ct _)) ?_)) | (show XCallQ ..; first | refine xQ (fun hcc => (by first | exact cr _ | exact cl _ | exact cf _ | exact ct _)) ?_ | (refine xlP ?_; refine xlQ (fun hcc m => (by first | exact cr _ | exact cl _ | exact cf _ | exact ct _)) ?_)) | (show Fct ..; refine fctI (fun hf => ?_)) | (show SWp _ _ _ (.cond _ _ _) _ _ _ _; first | refine cB (fun hc => ?_) (fun hc => ?_) | refine cU ?_ ?_)))
      · (refine DVQ ?_)
        refine lbC ?_
        rw [netB_no2 hi (by unfold okL; clear cr cl cf ct h3 h4; grind)]
      · (refine DVQ ?_)
        refine lbC ?_
        rw [netB_no2 hi (by unfold okL; clear cr cl cf ct h3 h4; grind)]
      · (refine lN [0] ?_)
        exact ⟨_, by omega, i + 1, by omega, rfl, all_next h4 (by unfold okL; clear cr cl cf ct h3 h4; grind), rfl, rfl⟩
      · omega
  have hi2 : i = n.links.length := by omega
  subst hi2
  (repeat' (first | refine swp_seq [0, 1, 2, 3, 4, 5, 6, 16, 21, 42, 47, 72, 87] ?_ | refine st2 ?_ | (show Fct ..; refine fctI (fun hf => ?_)) | (show SWp _ _ _ (.cond _ _ _) _ _ _ _; first | refine cB (fun hc => ?_) (fun hc => ?_) | refine cU ?_ ?_)))
  · omega
  (refine DVQ ?_)
  refine lbC ?_
  rw [netB_yes (by omega) (by omega) h3 h4]

end Go.Proofs.YtnfbaeeohepajaaGreat
