/-
  Contracts of functions of the program, over the engine.
  No condition.
-/
import Derived.Test.YtnfbaeeohepajaaGreatCT5T6
namespace Go.Proofs.YtnfbaeeohepajaaGreat
open Go.Eng
set_option linter.all false
attribute [local irreducible] DCallsG SWp Fct CallQ XCallQ LCallQ XLCallQ drun xrun

def capN (x : Node) : Int := if x.kind = 3 then 0 else (x.shape.getD (x.shape.length - 1) default).y
def hasShape (x : Node) : Prop := x.kind = 3 ∨ (1 ≤ x.shape.length ∧ x.shape.length ≤ 100)
theorem nodeR_shape {x : Node} (h : nodeR x = true) : hasShape x := by
  unfold nodeR kindB at h
  by_cases h3 : x.kind = 3
  · exact .inl h3
  · refine .inr (shapeB_len (d := x.gnd - x.inv) ?_)
    by_cases h1 : x.kind = 1 ∨ x.kind = 2
    · simp [h1] at h
      exact h.2.1.1.2
    · simp [h1, h3] at h
theorem swithin_f (n lo hi : Int) (m : Nat) : DCalls Tryz.prog 124 [li n, li lo, li hi] (hget []) m (lb (btwB n lo hi)) (hget []) := by
  refine pureC (n := 15) (rs := [.tmp 6]) (ts := [4]) Tryz.func124 rfl (by decide) [] (by (exact SD)) ?_
  (repeat' (first | refine swp_seq [0, 1, 2, 6] ?_ | refine st2 ?_ | (show Fct ..; refine fctI (fun hf => ?_)) | (show SWp _ _ _ (.cond _ _ _) _ _ _ _; first | refine cB (fun hc => ?_) (fun hc => ?_) | refine cU ?_ ?_)))
  exact DVR
theorem sholds_f (n : Int) (m : Nat) : DCalls Tryz.prog 83 [li n] (hget []) m (lb (volB n)) (hget []) := by
  refine pureC (n := 5) (rs := [.tmp 2]) (ts := [4]) Tryz.func83 rfl (by decide) [] (by (exact SD)) ?_
  (repeat' (first | refine swp_seq [0, 2] ?_ | refine st2 ?_ | (show CallQ ..; first | refine cQ (fun hcc => (swithin_f _ _ _ _)) ?_ | (refine lP ?_; refine lQ (fun hcc m => (swithin_f _ _ _ _)) ?_)) | (show Fct ..; refine fctI (fun hf => ?_)) | (show SWp _ _ _ (.cond _ _ _) _ _ _ _; first | refine cB (fun hc => ?_) (fun hc => ?_) | refine cU ?_ ?_)))
  exact DVR
theorem last_f (t : List Knot) (m : Nat) (h : 1 ≤ t.length ∧ t.length ≤ 100) : DCalls Tryz.prog 170 [knotL t] (hget []) m (knotD (t.getD (t.length - 1) default)) (hget []) := by
  refine pureC (n := 9) (rs := [.cell 2 128]) (ts := [128]) Tryz.func170 rfl (by decide) [] (by (exact SD)) ?_
  (repeat' (first | refine swp_seq [0, 2] ?_ | refine st2 ?_ | (show Fct ..; refine fctI (fun hf => ?_)) | (show SWp _ _ _ (.cond _ _ _) _ _ _ _; first | refine cB (fun hc => ?_) (fun hc => ?_) | refine cU ?_ ?_)))
  (refine DVQ ?_)
  simp
  rfl
theorem capacity_f (x : Node) (m : Nat) (h : hasShape x) : DCalls Tryz.prog 125 [nodeD x] (hget []) m (li (capN x)) (hget []) := by
  refine pureC (n := 10) (rs := [.tmp 2]) (ts := [3]) Tryz.func125 rfl (by decide) [] (by (exact SD)) ?_
  by_cases h3 : x.kind = 3
  · (have := Nonempty.intro h3)
    (repeat' (first | refine swp_seq [0, 1, 2, 5] ?_ | refine st2 ?_ | (show Fct ..; refine fctI (fun hf => ?_)) | (show SWp _ _ _ (.cond _ _ _) _ _ _ _; first | refine cB (fun hc => ?_) (fun hc => ?_) | refine cU ?_ ?_)))
    (refine DVQ ?_)
    unfold capN; rw [if_pos h3]
  · (have := Nonempty.intro h3)
    have h4 := h.resolve_left h3
    (repeat' (first | refine swp_seq [0, 1, 2, 5] ?_ | refine st2 ?_ | (show CallQ ..; first | refine cQ (fun hcc => (last_f _ _ h4)) ?_ | (refine lP ?_; refine lQ (fun hcc m => (last_f _ _ h4)) ?_)) | (show Fct ..; refine fctI (fun hf => ?_)) | (show SWp _ _ _ (.cond _ _ _) _ _ _ _; first | refine cB (fun hc => ?_) (fun hc => ?_) | refine cU ?_ ?_)))
    (refine DVQ ?_)
    unfold capN; rw [if_neg h3]
theorem rCapacity_f (x : Node) (m : Nat) (h : hasShape x) : DCalls Tryz.prog 79 [nodeD x] (hget []) m (li (capN x)) (hget []) := by
  refine pureC (n := 15) (rs := [.tmp 2]) (ts := [3]) Tryz.func79 rfl (by decide) [] (by (exact SD)) ?_
  by_cases h3 : x.kind = 3
  · (have := Nonempty.intro h3)
    (repeat' (first | refine swp_seq [0, 1, 2, 5] ?_ | refine st2 ?_ | (show Fct ..; refine fctI (fun hf => ?_)) | (show SWp _ _ _ (.cond _ _ _) _ _ _ _; first | refine cB (fun hc => ?_) (fun hc => ?_) | refine cU ?_ ?_)))
    (refine DVQ ?_)
    unfold capN; rw [if_pos h3]
  · (have := Nonempty.intro h3)
    have h4 := h.resolve_left h3
    (repeat' (first | refine swp_seq [0, 1, 2, 5] ?_ | refine st2 ?_ | (show Fct ..; refine fctI (fun hf => ?_)) | (show SWp _ _ _ (.cond _ _ _) _ _ _ _; first | refine cB (fun hc => ?_) (fun hc => ?_) | refine cU ?_ ?_)))
    (refine DVQ ?_)
    unfold capN; rw [if_neg h3]
    all_goals simp
theorem netB_one (x : Node) : netB ⟨[x], []⟩ = nodeR x := by
  unfold netB okN okL nodeIx idxI
  simp [List.range_succ]
def okSN (n : Net) (s : Sta) (i : Nat) : Bool := btwB (s.vol.getD i default) 0 (capN (n.nodes.getD i default)) && volB (s.pon.getD i default) && !(decide ((n.nodes.getD i default).kind = 3) && !decide (s.pon.getD i default = 0))
def okSL (n : Net) (s : Sta) (i : Nat) : Bool := btwB (s.set.getD i default) 0 1000 && !(s.on.getD i default && !decide ((n.links.getD i default).kind = 4))
def lensB (n : Net) (s : Sta) : Bool := decide (s.vol.length = n.nodes.length) && decide (s.pon.length = n.nodes.length) && decide (s.set.length = n.links.length) && decide (s.on.length = n.links.length)
def staB (n : Net) (s : Sta) : Bool := lensB n s && (List.range n.nodes.length).all (okSN n s) && (List.range n.links.length).all (okSL n s)
theorem netB_len {n : Net} (h : netB n = true) : n.nodes.length ≤ 300 ∧ n.links.length ≤ 400 := by unfold netB at h; simp at h; omega
theorem netB_okN {n : Net} (h : netB n = true) {i : Nat} (hi : i < n.nodes.length) : okN n i = true := by
  unfold netB at h; simp only [Bool.and_eq_true, List.all_eq_true, List.mem_range] at h; exact h.1.2 i hi
theorem netB_okL {n : Net} (h : netB n = true) {i : Nat} (hi : i < n.links.length) : okL n i = true := by
  unfold netB at h; simp only [Bool.and_eq_true, List.all_eq_true, List.mem_range] at h; exact h.2 i hi
theorem netB_node {n : Net} (h : netB n = true) {i : Nat} (hi : i < n.nodes.length) : nodeR (n.nodes.getD i default) = true := by
  have := netB_okN h hi
  unfold okN at this; simp only [Bool.and_eq_true] at this; exact this.1
theorem lensB_of {n : Net} {s : Sta} (h : lensB n s = true) : s.vol.length = n.nodes.length ∧ s.pon.length = n.nodes.length ∧ s.set.length = n.links.length ∧ s.on.length = n.links.length := by
  unfold lensB at h; simp at h; omega
theorem staB_no0 {n : Net} {s : Sta} (h : lensB n s = false) : staB n s = false := by unfold staB; rw [h]; rfl
theorem staB_no1 {n : Net} {s : Sta} {i : Nat} (hi : i < n.nodes.length) (h : okSN n s i = false) : staB n s = false := by
  unfold staB; rw [rall_false hi h]; simp
theorem staB_no2 {n : Net} {s : Sta} {i : Nat} (hi : i < n.links.length) (h : okSL n s i = false) : staB n s = false := by
  unfold staB; rw [rall_false hi h]; simp
theorem staB_yes {n : Net} {s : Sta} (h : lensB n s = true) (h3 : ∀ i, i < n.nodes.length → okSN n s i = true) (h4 : ∀ i, i < n.links.length → okSL n s i = true) : staB n s = true := by
  unfold staB; rw [h, rall_true h3, rall_true h4]; rfl
set_option maxRecDepth 20000 in
set_option maxHeartbeats 8000000 in
theorem staValid_f (n : Net) (s : Sta) (m : Nat) (hn : netOk n) (hs : staOk s) : DCalls Tryz.prog 73 [netD n, staD s] (hget []) m (lb (netB n && staB n s)) (hget []) := by
  have cv := fun m => netValid_f n m hn
  obtain ⟨⟨a1, a2⟩, b1, b2⟩ := hn
  obtain ⟨⟨s1, _⟩, ⟨s2, _⟩, ⟨s3, _⟩, s4⟩ := hs
  refine pureC (n := 116) (rs := [.tmp 4]) (ts := [4]) Tryz.func73 rfl (by decide) [] (by (exact SD)) ?_
  cases hv : netB n <;> simp only [hv] at cv
  · (repeat' (first | refine swp_seq [0, 1, 2, 3, 4, 5, 6, 7, 8, 47, 49, 50, 51, 52, 86, 89, 90, 91, 92, 114] ?_ | refine st2 ?_ | (show CallQ ..; first | refine cQ (fun hcc => (cv _)) ?_ | (refine lP ?_; refine lQ (fun hcc m => (cv _)) ?_)) | (show XCallQ ..; first | refine xQ (fun hcc => (cv _)) ?_ | (refine xlP ?_; refine xlQ (fun hcc m => (cv _)) ?_)) | (show Fct ..; refine fctI (fun hf => ?_)) | (show SWp _ _ _ (.cond _ _ _) _ _ _ _; first | refine cB (fun hc => ?_) (fun hc => ?_) | refine cU ?_ ?_)))
    exact DVR
  cases hl : lensB n s
  · (repeat' (first | refine swp_seq [0, 1, 2, 3, 4, 5, 6, 7, 8, 47, 49, 50, 51, 52, 86, 89, 90, 91, 92, 114] ?_ | refine st2 ?_ | (show CallQ ..; first | refine cQ (fun hcc => (cv _)) ?_ | (refine lP ?_; refine lQ (fun hcc m => (cv _)) ?_)) | (show XCallQ ..; first | refine xQ (fun hcc => (cv _)) ?_ | (refine xlP ?_; refine xlQ (fun hcc m => (cv _)) ?_)) | (show Fct ..; refine fctI (fun hf => ?_)) | (show SWp _ _ _ (.cond _ _ _) _ _ _ _; first | refine cB (fun hc => ?_) (fun hc => ?_) | refine cU ?_ ?_)))
    · (refine DVQ ?_)
      rw [staB_no0 hl]
    · exfalso
      unfold lensB at hl; simp at hl; omega
  obtain ⟨l1, l2, l3, l4⟩ := lensB_of hl
  (repeat' (first | refine swp_seq [0, 1, 2, 3, 4, 5, 6, 7, 8, 47, 49, 50, 51, 52, 86, 89, 90, 91, 92, 114] ?_ | refine st2 ?_ | (show CallQ ..; first | refine cQ (fun hcc => (cv _)) ?_ | (refine lP ?_; refine lQ (fun hcc m => (cv _)) ?_)) | (show XCallQ ..; first | refine xQ (fun hcc => (cv _)) ?_ | (refine xlP ?_; refine xlQ (fun hcc m => (cv _)) ?_)) | (show Fct ..; refine fctI (fun hf => ?_)) | (show SWp _ _ _ (.cond _ _ _) _ _ _ _; first | refine cB (fun hc => ?_) (fun hc => ?_) | refine cU ?_ ?_)))
  · omega
  refine loop_swp [2, 3, 49, 50, 51] [0, 8] 9 (fun q A H => ∃ i : Nat, i ≤ n.nodes.length ∧ q = n.nodes.length - i ∧ (∀ j, j < i → okSN n s j = true) ∧ A = [(2, .ptr 0 0), (3, .ptr 8 0), (49, nodeL n.nodes), (50, li n.nodes.length), (51, li i)] ∧ H = [(0, .blk 25 (netC n)), (8, .blk 75 (staC s))]) (by omega) ?_ ?_ ?_
  · rintro q A H ⟨i, h1, h2, h3, rfl, rfl⟩
    exact ⟨by (exact SD), by (exact SD)⟩
  · refine ⟨_, 0, by omega, rfl, by omega, ?_, ?_⟩
    · exact DVR
    · exact DVR
  rintro q A H ⟨i, h1, h2, h3, rfl, rfl⟩
  by_cases hi : i < n.nodes.length
  · have cc := fun m => capacity_f (n.nodes.getD i default) m (nodeR_shape (netB_node hv hi))
    (repeat' (first | refine swp_seq [0, 1, 2, 3, 4, 5, 6, 7, 8, 47, 49, 50, 51, 52, 86, 89, 90, 91, 92, 114] ?_ | refine st2 ?_ | (show CallQ ..; first | refine cQ (fun hcc => (by first | exact cc _ | exact swithin_f _ _ _ _ | exact sholds_f _ _)) ?_ | (refine lP ?_; refine lQ (fun hcc m => (by first | exact cc _ | exact swithin_f _ _ _ _ | exact sholds_f _ _)) ?_)) | (show XCallQ ..; first | refine xQ (fun hcc => (by first | exact cc _ | exact swithin_f _ _ _ _ | exact sholds_f _ _)) ?_ | (refine xlP ?_; refine xlQ (fun hcc m => (by first | exact cc _ | exact swithin_f _ _ _ _ | exact sholds_f _ _)) ?_)) | (show Fct ..; refine fctI (fun hf => ?_)) | (show SWp _ _ _ (.cond _ _ _) _ _ _ _; first | refine cB (fun hc => ?_) (fun hc => ?_) | refine cU ?_ ?_)))
    · (refine DVQ ?_)
      refine lbC ?_
      rw [staB_no1 hi (by unfold okSN; clear cv cc h3; grind)]
    · (refine lN [0, 8] ?_)
      exact ⟨_, by omega, i + 1, by omega, rfl, all_next h3 (by unfold okSN; clear cv cc h3; grind), rfl, rfl⟩
    · omega
  have hi2 : i = n.nodes.length := by omega
  subst hi2
  (repeat' (first | refine swp_seq [0, 1, 2, 3, 4, 5, 6, 7, 8, 47, 49, 50, 51, 52, 86, 89, 90, 91, 92, 114] ?_ | refine st2 ?_ | (show Fct ..; refine fctI (fun hf => ?_)) | (show SWp _ _ _ (.cond _ _ _) _ _ _ _; first | refine cB (fun hc => ?_) (fun hc => ?_) | refine cU ?_ ?_)))
  · omega
  clear h1 h2 hi hc
  refine loop_swp [2, 3, 89, 90, 91] [0, 8] 9 (fun q A H => ∃ i : Nat, i ≤ n.links.length ∧ q = n.links.length - i ∧ (∀ j, j < i → okSL n s j = true) ∧ A = [(2, .ptr 0 0), (3, .ptr 8 0), (89, linkL n.links), (90, li n.links.length), (91, li i)] ∧ H = [(0, .blk 25 (netC n)), (8, .blk 75 (staC s))]) (by omega) ?_ ?_ ?_
  · rintro q A H ⟨i, h1, h2, h3, rfl, rfl⟩
    exact ⟨by (exact SD), by (exact SD)⟩
  · refine ⟨_, 0, by omega, rfl, by omega, ?_, ?_⟩
    · exact DVR
    · exact DVR
  rintro q A H ⟨i, h1, h2, h4, rfl, rfl⟩
  by_cases hi : i < n.links.length
  · (repeat' (first | refine swp_seq [0, 1, 2, 3, 4, 5, 6, 7, 8, 47, 49, 50, 51, 52, 86, 89, 90, 91, 92, 114] ?_ | refine st2 ?_ | (show CallQ ..; first | refine cQ (fun hcc => (swithin_f _ _ _ _)) ?_ | (refine lP ?_; refine lQ (fun hcc m => (swithin_f _ _ _ _)) ?_)) | (show XCallQ ..; first | refine xQ (fun hcc => (swithin_f _ _ _ _)) ?_ | (refine xlP ?_; refine xlQ (fun hcc m => (swithin_f _ _ _ _)) ?_)) | (show Fct ..; refine fctI (fun hf => ?_)) | (show SWp _ _ _ (.cond _ _ _) _ _ _ _; first | refine cB (fun hc => ?_) (fun hc => ?_) | refine cU ?_ ?_)))
    · (refine DVQ ?_)
      refine lbC ?_
      rw [staB_no2 hi (by unfold okSL; clear cv h3 h4; grind)]
    · (refine lN [0, 8] ?_)
      exact ⟨_, by omega, i + 1, by omega, rfl, all_next h4 (by unfold okSL; clear cv h3 h4; grind), rfl, rfl⟩
    · omega
  have hi2 : i = n.links.length := by omega
  subst hi2
  (repeat' (first | refine swp_seq [0, 1, 2, 3, 4, 5, 6, 7, 8, 47, 49, 50, 51, 52, 86, 89, 90, 91, 92, 114] ?_ | refine st2 ?_ | (show Fct ..; refine fctI (fun hf => ?_)) | (show SWp _ _ _ (.cond _ _ _) _ _ _ _; first | refine cB (fun hc => ?_) (fun hc => ?_) | refine cU ?_ ?_)))
  · omega
  (refine DVQ ?_)
  refine lbC ?_
  rw [staB_yes hl h3 h4]

end Go.Proofs.YtnfbaeeohepajaaGreat
