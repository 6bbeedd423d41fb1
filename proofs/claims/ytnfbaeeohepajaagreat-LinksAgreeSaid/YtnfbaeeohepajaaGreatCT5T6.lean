/-
  Contracts of functions of the program, over the engine.
  No condition.
-/
import Derived.Test.YtnfbaeeohepajaaGreatCT2T2e
import Derived.Test.YtnfbaeeohepajaaGreatCNmT1
import Derived.Test.YtnfbaeeohepajaaGreatCT4g
namespace Go.Proofs.YtnfbaeeohepajaaGreat
open Go.Eng
set_option linter.all false
attribute [local irreducible] DCallsG SWp Fct CallQ XCallQ LCallQ XLCallQ drun xrun

def nodeIx (l : List Node) (s : ByteArray) : Int := idxI (fun x => decide (x.name = s)) l
def linkIx (l : List Link) (s : ByteArray) : Int := idxI (fun x => decide (x.name = s)) l
theorem idxI_lt {α : Type} (p : α → Bool) (l : List α) : -1 ≤ idxI p l ∧ idxI p l < l.length := by
  unfold idxI
  cases h : l.findIdx? p with
  | none => simp; omega
  | some i =>
    rw [List.findIdx?_eq_some_iff_getElem] at h
    obtain ⟨hi, _⟩ := h
    simp; omega
theorem node1_f (x : Node) (s : ByteArray) (m : Nat) : DCalls Tryz.prog 135 [nodeD x, .ptr 0 0] (hget [(0, .blk 9 [.p (.lit (.string s))])]) m (lb (decide (x.name = s))) (hget [(0, .blk 9 [.p (.lit (.string s))])]) := by
  refine contract (n := 8) (rs := [.tmp 3]) (ts := [4]) Tryz.func135 rfl (by decide) 1 1 [] [] [] (lb (decide (x.name = s))) [(0, .blk 9 [.p (.lit (.string s))])] (by (exact SD)) (by (exact SD)) ?_
  (repeat' (first | refine swp_seq [0, 1, 2, 3] ?_ | refine st2 ?_ | (show Fct ..; refine fctI (fun hf => ?_)) | (show SWp _ _ _ (.cond _ _ _) _ _ _ _; first | refine cB (fun hc => ?_) (fun hc => ?_) | refine cU ?_ ?_)))
  exact DVR
theorem link1_f (x : Link) (s : ByteArray) (m : Nat) : DCalls Tryz.prog 141 [linkD x, .ptr 0 0] (hget [(0, .blk 9 [.p (.lit (.string s))])]) m (lb (decide (x.name = s))) (hget [(0, .blk 9 [.p (.lit (.string s))])]) := by
  refine contract (n := 8) (rs := [.tmp 3]) (ts := [4]) Tryz.func141 rfl (by decide) 1 1 [] [] [] (lb (decide (x.name = s))) [(0, .blk 9 [.p (.lit (.string s))])] (by (exact SD)) (by (exact SD)) ?_
  (repeat' (first | refine swp_seq [0, 1, 2, 3] ?_ | refine st2 ?_ | (show Fct ..; refine fctI (fun hf => ?_)) | (show SWp _ _ _ (.cond _ _ _) _ _ _ _; first | refine cB (fun hc => ?_) (fun hc => ?_) | refine cU ?_ ?_)))
  exact DVR
theorem node_f (n : Net) (s : ByteArray) (m : Nat) (hl : n.nodes.length ≤ 281474976710656) : DCalls Tryz.prog 89 [netD n, ls s] (hget []) m (li (nodeIx n.nodes s)) (hget []) := by
  refine pureC (n := 9) (rs := [.tmp 4]) (ts := [3]) Tryz.func89 rfl (by decide) [] (by (exact SD)) ?_
  (repeat' (first | refine swp_seq [0, 1, 2, 3, 4] ?_ | refine st2 ?_ | (show Fct ..; refine fctI (fun hf => ?_)) | (show SWp _ _ _ (.cond _ _ _) _ _ _ _; first | refine cB (fun hc => ?_) (fun hc => ?_) | refine cU ?_ ?_)))
  (refine cQT [8] (fun hcc => (idxNodeC_f 135 9 [.lit (.string s)] (fun x => decide (x.name = s)) n.nodes hl (fun x _ m => node1_f x s m))) ?_)
  (repeat' (first | refine swp_seq [0, 1, 2, 3, 4] ?_ | refine st2 ?_ | (show Fct ..; refine fctI (fun hf => ?_)) | (show SWp _ _ _ (.cond _ _ _) _ _ _ _; first | refine cB (fun hc => ?_) (fun hc => ?_) | refine cU ?_ ?_)))
  exact DVR
theorem link_f (n : Net) (s : ByteArray) (m : Nat) (hl : n.links.length ≤ 281474976710656) : DCalls Tryz.prog 91 [netD n, ls s] (hget []) m (li (linkIx n.links s)) (hget []) := by
  refine pureC (n := 9) (rs := [.tmp 4]) (ts := [3]) Tryz.func91 rfl (by decide) [] (by (exact SD)) ?_
  (repeat' (first | refine swp_seq [0, 1, 2, 3, 4] ?_ | refine st2 ?_ | (show Fct ..; refine fctI (fun hf => ?_)) | (show SWp _ _ _ (.cond _ _ _) _ _ _ _; first | refine cB (fun hc => ?_) (fun hc => ?_) | refine cU ?_ ?_)))
  (refine cQT [8] (fun hcc => (idxLinkC_f 141 9 [.lit (.string s)] (fun x => decide (x.name = s)) n.links hl (fun x _ m => link1_f x s m))) ?_)
  (repeat' (first | refine swp_seq [0, 1, 2, 3, 4] ?_ | refine st2 ?_ | (show Fct ..; refine fctI (fun hf => ?_)) | (show SWp _ _ _ (.cond _ _ _) _ _ _ _; first | refine cB (fun hc => ?_) (fun hc => ?_) | refine cU ?_ ?_)))
  exact DVR
set_option maxHeartbeats 1000000 in
theorem rFindNode_f (n : Net) (s : ByteArray) (m : Nat) (hl : n.nodes.length ≤ 281474976710656) : DCalls Tryz.prog 65 [netD n, ls s] (hget []) m (li (nodeIx n.nodes s)) (hget []) := by
  refine pureC (n := 22) (rs := [.tmp 4]) (ts := [3]) Tryz.func65 rfl (by decide) [] (by (exact SD)) ?_
  (repeat' (first | refine swp_seq [0, 1, 2, 4, 5, 10, 20] ?_ | refine st2 ?_ | (show Fct ..; refine fctI (fun hf => ?_)) | (show SWp _ _ _ (.cond _ _ _) _ _ _ _; first | refine cB (fun hc => ?_) (fun hc => ?_) | refine cU ?_ ?_)))
  refine loop_swp [1, 2, 5] [0] 1 (fun q A H => ∃ i : Nat, i ≤ n.nodes.length ∧ q = n.nodes.length - i ∧ (n.nodes.take i).any (fun x => decide (x.name = s)) = false ∧ A = [(1, ls s), (2, .ptr 0 0), (5, li i)] ∧ H = [(0, .blk 25 (netC n))]) (by omega) ?_ ?_ ?_
  · rintro q A H ⟨i, h1, h2, h3, rfl, rfl⟩
    exact ⟨by (exact SD), by (exact SD)⟩
  · refine ⟨_, 0, by omega, rfl, by simp, ?_, ?_⟩
    · exact DVR
    · exact DVR
  · rintro q A H ⟨i, h1, h2, h3, rfl, rfl⟩
    (repeat' (first | refine swp_seq [0, 1, 2, 4, 5, 10, 20] ?_ | refine st2 ?_ | (show Fct ..; refine fctI (fun hf => ?_)) | (show SWp _ _ _ (.cond _ _ _) _ _ _ _; first | refine cB (fun hc => ?_) (fun hc => ?_) | refine cU ?_ ?_)))
    · (refine DVQ ?_)
      unfold nodeIx
      rw [idxI_hit h3 (by omega) (by simpa using hc)]
    · (refine lN [0] ?_)
      exact ⟨_, by omega, i + 1, by omega, rfl, any_step h3 (by omega) (by simpa using hc), rfl, rfl⟩
    · (refine DVQ ?_)
      rw [List.take_of_length_le (by omega)] at h3
      unfold nodeIx
      rw [idxI_none h3]
set_option maxHeartbeats 1000000 in
theorem rFindLink_f (n : Net) (s : ByteArray) (m : Nat) (hl : n.links.length ≤ 281474976710656) : DCalls Tryz.prog 110 [netD n, ls s] (hget []) m (li (linkIx n.links s)) (hget []) := by
  refine pureC (n := 22) (rs := [.tmp 4]) (ts := [3]) Tryz.func110 rfl (by decide) [] (by (exact SD)) ?_
  (repeat' (first | refine swp_seq [0, 1, 2, 4, 5, 10, 20] ?_ | refine st2 ?_ | (show Fct ..; refine fctI (fun hf => ?_)) | (show SWp _ _ _ (.cond _ _ _) _ _ _ _; first | refine cB (fun hc => ?_) (fun hc => ?_) | refine cU ?_ ?_)))
  refine loop_swp [1, 2, 5] [0] 1 (fun q A H => ∃ i : Nat, i ≤ n.links.length ∧ q = n.links.length - i ∧ (n.links.take i).any (fun x => decide (x.name = s)) = false ∧ A = [(1, ls s), (2, .ptr 0 0), (5, li i)] ∧ H = [(0, .blk 25 (netC n))]) (by omega) ?_ ?_ ?_
  · rintro q A H ⟨i, h1, h2, h3, rfl, rfl⟩
    exact ⟨by (exact SD), by (exact SD)⟩
  · refine ⟨_, 0, by omega, rfl, by simp, ?_, ?_⟩
    · exact DVR
    · exact DVR
  · rintro q A H ⟨i, h1, h2, h3, rfl, rfl⟩
    (repeat' (first | refine swp_seq [0, 1, 2, 4, 5, 10, 20] ?_ | refine st2 ?_ | (show Fct ..; refine fctI (fun hf => ?_)) | (show SWp _ _ _ (.cond _ _ _) _ _ _ _; first | refine cB (fun hc => ?_) (fun hc => ?_) | refine cU ?_ ?_)))
    · (refine DVQ ?_)
      unfold linkIx
      rw [idxI_hit h3 (by omega) (by simpa using hc)]
    · (refine lN [0] ?_)
      exact ⟨_, by omega, i + 1, by omega, rfl, any_step h3 (by omega) (by simpa using hc), rfl, rfl⟩
    · (refine DVQ ?_)
      rw [List.take_of_length_le (by omega)] at h3
      unfold linkIx
      rw [idxI_none h3]
def okN (n : Net) (i : Nat) : Bool := nodeR (n.nodes.getD i default) && decide (nodeIx n.nodes (n.nodes.getD i default).name = i)
def okL (n : Net) (i : Nat) : Bool := linkR (n.links.getD i default) && decide (linkIx n.links (n.links.getD i default).name = i) && decide (0 ≤ nodeIx n.nodes (n.links.getD i default).fro) && decide (0 ≤ nodeIx n.nodes (n.links.getD i default).til) && !decide ((n.nodes.getD (nodeIx n.nodes (n.links.getD i default).fro).toNat default).kind = 3)
def netB (n : Net) : Bool := decide (n.nodes.length ≤ 300) && decide (n.links.length ≤ 400) && (List.range n.nodes.length).all (okN n) && (List.range n.links.length).all (okL n)
theorem netB_no1 {n : Net} {i : Nat} (hi : i < n.nodes.length) (h : okN n i = false) : netB n = false := by
  unfold netB; rw [rall_false hi h]; simp
theorem netB_no2 {n : Net} {i : Nat} (hi : i < n.links.length) (h : okL n i = false) : netB n = false := by
  unfold netB; rw [rall_false hi h]; simp
theorem netB_yes {n : Net} (h1 : n.nodes.length ≤ 300) (h2 : n.links.length ≤ 400) (h3 : ∀ i, i < n.nodes.length → okN n i = true) (h4 : ∀ i, i < n.links.length → okL n i = true) : netB n = true := by
  unfold netB; rw [rall_true h3, rall_true h4, decide_eq_true h1, decide_eq_true h2]; rfl
theorem all_next {f : Nat → Bool} {i : Nat} (h : ∀ j, j < i → f j = true) (hi : f i = true) : ∀ j, j < i + 1 → f j = true := fun j hj => by
  by_cases e : j = i
  · subst e; exact hi
  · exact h j (by omega)
set_option maxRecDepth 20000 in
set_option maxHeartbeats 8000000 in
theorem netValid_f (n : Net) (m : Nat) (hn : netOk n) : DCalls Tryz.prog 46 [netD n] (hget []) m (lb (netB n)) (hget []) := by
  obtain ⟨⟨a1, a2⟩, b1, b2⟩ := hn
  refine pureC (n := 80) (rs := [.tmp 2]) (ts := [4]) Tryz.func46 rfl (by decide) [] (by (exact SD)) ?_
  (repeat' (first | refine swp_seq [0, 1, 2, 3, 4, 5, 6, 7, 17, 19, 20, 21, 22, 36, 39, 40, 41, 42, 56, 78] ?_ | refine st2 ?_ | (show Fct ..; refine fctI (fun hf => ?_)) | (show SWp _ _ _ (.cond _ _ _) _ _ _ _; first | refine cB (fun hc => ?_) (fun hc => ?_) | refine cU ?_ ?_)))
  · (refine DVQ ?_)
    refine lbC ?_
    unfold netB
    rcases hc with h | h
    · rw [decide_eq_false (p := n.nodes.length ≤ 300) (by omega)]; rfl
    · rw [decide_eq_false (p := n.links.length ≤ 400) (by omega)]; simp
  refine loop_swp [1, 19, 20, 21] [0] 1 (fun q A H => ∃ i : Nat, i ≤ n.nodes.length ∧ q = n.nodes.length - i ∧ (∀ j, j < i → okN n j = true) ∧ A = [(1, .ptr 0 0), (19, nodeL n.nodes), (20, li n.nodes.length), (21, li i)] ∧ H = [(0, .blk 25 (netC n))]) (by omega) ?_ ?_ ?_
  · rintro q A H ⟨i, h1, h2, h3, rfl, rfl⟩
    exact ⟨by (exact SD), by (exact SD)⟩
  · refine ⟨_, 0, by omega, rfl, by omega, ?_, ?_⟩
    · exact DVR
    · exact DVR
  rintro q A H ⟨i, h1, h2, h3, rfl, rfl⟩
  by_cases hi : i < n.nodes.length
  · have cr := fun m => rightNode_f (n.nodes.getD i default) m (a2 _ (getD_mem hi))
    have cn := fun m => node_f n (n.nodes.getD i default).name m a1
    (repeat' (first | refine swp_seq [0, 1, 2, 3, 4, 5, 6, 7, 17, 19, 20, 21, 22, 36, 39, 40, 41, 42, 56, 78] ?_ | refine st2 ?_ | (show CallQ ..; first | refine cQ (fun hcc => (by first | exact cr _ | exact cn _)) ?_ | (refine lP ?_; refine lQ (fun hcc m => (by first | exact cr _ | exact cn _)) ?_)) | (show Fct ..; refine fctI (fun hf => ?_)) | (show SWp _ _ _ (.cond _ _ _) _ _ _ _; first | refine cB (fun hc => ?_) (fun hc => ?_) | refine cU ?_ ?_)))
    · (refine DVQ ?_)
      refine lbC ?_
      rw [netB_no1 hi (by unfold okN; clear cr cn h3; grind)]
    · (refine lN [0] ?_)
      exact ⟨_, by omega, i + 1, by omega, rfl, all_next h3 (by unfold okN; clear cr cn h3; grind), rfl, rfl⟩
    · omega
  have hi2 : i = n.nodes.length := by omega
  subst hi2
  (repeat' (first | refine swp_seq [0, 1, 2, 3, 4, 5, 6, 7, 17, 19, 20, 21, 22, 36, 39, 40, 41, 42, 56, 78] ?_ | refine st2 ?_ | (show Fct ..; refine fctI (fun hf => ?_)) | (show SWp _ _ _ (.cond _ _ _) _ _ _ _; first | refine cB (fun hc => ?_) (fun hc => ?_) | refine cU ?_ ?_)))
  · omega
  clear h1 h2 hi hc
  refine loop_swp [1, 39, 40, 41] [0] 1 (fun q A H => ∃ i : Nat, i ≤ n.links.length ∧ q = n.links.length - i ∧ (∀ j, j < i → okL n j = true) ∧ A = [(1, .ptr 0 0), (39, linkL n.links), (40, li n.links.length), (41, li i)] ∧ H = [(0, .blk 25 (netC n))]) (by omega) ?_ ?_ ?_
  · rintro q A H ⟨i, h1, h2, h3, rfl, rfl⟩
    exact ⟨by (exact SD), by (exact SD)⟩
  · refine ⟨_, 0, by omega, rfl, by omega, ?_, ?_⟩
    · exact DVR
    · exact DVR
  rintro q A H ⟨i, h1, h2, h4, rfl, rfl⟩
  by_cases hi : i < n.links.length
  · have cr := fun m => rightLink_f (n.links.getD i default) m (b2 _ (getD_mem hi))
    have cl := fun m => link_f n (n.links.getD i default).name m b1
    have cf := fun m => node_f n (n.links.getD i default).fro m a1
    have ct := fun m => node_f n (n.links.getD i default).til m a1
    have hlt := idxI_lt (fun x => decide (x.name = (n.links.getD i default).fro)) n.nodes
    change -1 ≤ nodeIx n.nodes (n.links.getD i default).fro ∧ nodeIx n.nodes (n.links.getD i default).fro < n.nodes.length at hlt
    by_cases hf : nodeIx n.nodes (n.links.getD i default).fro < 0
    · (have := Nonempty.intro hf)
      (repeat' (first | refine swp_seq [0, 1, 2, 3, 4, 5, 6, 7, 17, 19, 20, 21, 22, 36, 39, 40, 41, 42, 56, 78] ?_ | refine st2 ?_ | (show CallQ ..; first | refine cQ (fun hcc => (by first | exact cr _ | exact cl _ | exact cf _ | exact ct _)) ?_ | (refine lP ?_; refine lQ (fun hcc m => (by first | exact cr _ | exact cl _ | exact cf _ | exact ct _)) ?_)) | (show Fct ..; refine fctI (fun hf => ?_)) | (show SWp _ _ _ (.cond _ _ _) _ _ _ _; first | refine cB (fun hc => ?_) (fun hc => ?_) | refine cU ?_ ?_)))
      · (refine DVQ ?_)
        refine lbC ?_
        rw [netB_no2 hi (by unfold okL; clear cr cl cf ct h3 h4; grind)]
      · (refine DVQ ?_)
        refine lbC ?_
        rw [netB_no2 hi (by unfold okL; clear cr cl cf ct h3 h4; grind)]
      · omega
    · (have := Nonempty.intro hf)
      (repeat' (first | refine swp_seq [0, 1, 2, 3, 4, 5, 6, 7, 17, 19, 20, 21, 22, 36, 39, 40, 41, 42, 56, 78] ?_ | refine st2 ?_ | (show CallQ ..; first | refine cQ (fun hcc => (by first | exact cr _ | exact cl _ | exact cf _ | exact ct _)) ?_ | (refine lP ?_; refine lQ (fun hcc m => (by first | exact cr _ | exact cl _ | exact cf _ | exact ct _)) ?_)) | (show Fct ..; refine fctI (fun hf => ?_)) | (show SWp _ _ _ (.cond _ _ _) _ _ _ _; first | refine cB (fun hc => ?_) (fun hc => ?_) | refine cU ?_ ?_)))
      · (refine DVQ ?_)
        refine lbC ?_
        rw [netB_no2 hi (by unfold okL; clear cr cl cf ct h3 h4; grind)]
      · (refine DVQ ?_)
        refine lbC ?_
        rw [netB_no2 hi (by unfold okL; clear cr cl cf ct h3 h4; grind)]
      · (refine lN [0] ?_)
        exact ⟨_, by omega, i + 1, by omega, rfl, all_next h4 (by unfold okL; clear cr cl cf ct h3 h4; grind), rfl, rfl⟩
      · omega
  have hi2 : i = n.links.length := by omega
  subst hi2
  (repeat' (first | refine swp_seq [0, 1, 2, 3, 4, 5, 6, 7, 17, 19, 20, 21, 22, 36, 39, 40, 41, 42, 56, 78] ?_ | refine st2 ?_ | (show Fct ..; refine fctI (fun hf => ?_)) | (show SWp _ _ _ (.cond _ _ _) _ _ _ _; first | refine cB (fun hc => ?_) (fun hc => ?_) | refine cU ?_ ?_)))
  · omega
  (refine DVQ ?_)
  refine lbC ?_
  rw [netB_yes (by omega) (by omega) h3 h4]

end Go.Proofs.YtnfbaeeohepajaaGreat
