/-
  Contracts of functions of the program, over the engine.
  No condition.
-/
import Derived.Test.YtlailhdmgehniaaGreatCC9C10C13C19C29
import Derived.Test.YtlailhdmgehniaaGreatCC2C3C6
namespace Go.Proofs.YtlailhdmgehniaaGreat
open Go.Eng
set_option linter.all false
attribute [local irreducible] DCallsG SWp Fct CallQ XCallQ LCallQ XLCallQ drun xrun

def volP (n : Int) : Bool := decide (0 ≤ n) && decide (n ≤ 1099511627776)
def relR (l : List Int) (i : Nat) : Bool := volP (l.getD i default) && (decide (i = 0) || decide (l.getD (i - 1) default < l.getD i default))
def headB (p : Plan) : Bool := (decide (1 ≤ p.cap) && decide (p.cap ≤ 1099511627776)) && (decide (0 ≤ p.res) && decide (p.res ≤ p.cap)) && (decide (p.res ≤ p.start) && decide (p.start ≤ p.cap)) && decide (p.inf.length ≤ 200) && (decide (1 ≤ p.rel.length) && decide (p.rel.length ≤ 20)) && (decide (0 ≤ p.wei) && decide (p.wei ≤ 1000)) && tabB p.pen
def planB (p : Plan) : Bool := headB p && (List.range p.inf.length).all (fun i => volP (p.inf.getD i default)) && (List.range p.rel.length).all (relR p.rel) && (decide (0 ≤ (p.pen.getD 0 default).y) && decide ((p.pen.getD (p.pen.length - 1) default).y ≤ 1099511627776))
theorem withinP_f (n a b : Int) (m : Nat) : DCalls Tryz.prog 28 [li n, li a, li b] (hget []) m (lb (decide (a ≤ n) && decide (n ≤ b))) (hget []) := by
  refine pureC (n := 15) (rs := [.tmp 6]) (ts := [4]) Tryz.func28 rfl (by decide) [] (by (exact SD)) ?_
  (repeat' (first | refine swp_seq [0, 1, 2, 6] ?_ | refine st2 ?_ | (show Fct ..; refine fctI (fun hf => ?_)) | (show SWp _ _ _ (.cond _ _ _) _ _ _ _; first | refine cB (fun hc => ?_) (fun hc => ?_) | refine cU ?_ ?_)))
  exact DVR
set_option maxRecDepth 20000 in
set_option maxHeartbeats 8000000 in
theorem pValid_f (p : Plan) (m : Nat) (hp : planOk p) : DCalls Tryz.prog 49 [planD p] (hget []) m (lb (planB p)) (hget []) := by
  obtain ⟨k1, k2, k3, k4, k5, k6, k7⟩ := hp
  have ct := fun m => tab_f p.pen m k6.1
  refine pureC (n := 109) (rs := [.tmp 2]) (ts := [4]) Tryz.func49 rfl (by decide) [] (by (exact SD)) ?_
  (repeat' (first | refine swp_seq [0, 1, 2, 4, 5, 6, 53, 55, 56, 57, 58, 63, 66, 67, 68, 69, 89] ?_ | refine st2 ?_ | (show CallQ ..; first | refine cQ (fun hcc => (by first | exact withinP_f _ _ _ _ | exact ct _)) ?_ | (refine lP ?_; refine lQ (fun hcc m => (by first | exact withinP_f _ _ _ _ | exact ct _)) ?_)) | (show Fct ..; refine fctI (fun hf => ?_)) | (show SWp _ _ _ (.cond _ _ _) _ _ _ _; first | refine cB (fun hc => ?_) (fun hc => ?_) | refine cU ?_ ?_)))
  · have h0 : headB p = false := by unfold headB; grind
    (refine DVQ ?_)
    refine lbC ?_
    unfold planB; rw [h0]; rfl
  have h0 : headB p = true := by unfold headB; grind
  have hpl : 1 ≤ p.pen.length := by
    unfold headB at h0
    simp only [Bool.and_eq_true] at h0
    have := h0.2
    unfold tabB at this
    simp only [Bool.and_eq_true, decide_eq_true_eq] at this
    exact this.1.1
  refine loop_swp [1, 55, 56, 57] [0] 1 (fun q A H => ∃ i : Nat, i ≤ p.inf.length ∧ q = p.inf.length - i ∧ (∀ j, j < i → volP (p.inf.getD j default) = true) ∧ A = [(1, .ptr 0 0), (55, ints p.inf), (56, li p.inf.length), (57, li i)] ∧ H = [(0, .blk 26 (planC p))]) (by omega) ?_ ?_ ?_
  · rintro q A H ⟨i, g1, g2, g3, rfl, rfl⟩
    exact ⟨by (exact SD), by (exact SD)⟩
  · refine ⟨_, 0, by omega, rfl, by omega, ?_, ?_⟩
    · exact DVR
    · exact DVR
  rintro q A H ⟨i, g1, g2, g3, rfl, rfl⟩
  by_cases hi : i < p.inf.length
  · have hi3 : (i : Int) < (p.inf.length : Int) := by omega
    (have := Nonempty.intro hi3)
    have cw : ∀ m, DCalls Tryz.prog 28 [li (p.inf.getD i default), li 0, li 1099511627776] (hget []) m (lb (volP (p.inf.getD i default))) (hget []) := fun m => withinP_f _ 0 1099511627776 m
    cases hv : volP (p.inf.getD i default) <;> simp only [hv] at cw
    · (repeat' (first | refine swp_seq [0, 1, 2, 4, 5, 6, 53, 55, 56, 57, 58, 63, 66, 67, 68, 69, 89] ?_ | refine st2 ?_ | (show CallQ ..; first | refine cQ (fun hcc => (cw _)) ?_ | (refine lP ?_; refine lQ (fun hcc m => (cw _)) ?_)) | (show Fct ..; refine fctI (fun hf => ?_)) | (show SWp _ _ _ (.cond _ _ _) _ _ _ _; first | refine cB (fun hc => ?_) (fun hc => ?_) | refine cU ?_ ?_)))
      (refine DVQ ?_)
      refine lbC ?_
      rw [planB, rall_false (f := fun i => volP (p.inf.getD i default)) hi hv]; simp
    · (repeat' (first | refine swp_seq [0, 1, 2, 4, 5, 6, 53, 55, 56, 57, 58, 63, 66, 67, 68, 69, 89] ?_ | refine st2 ?_ | (show CallQ ..; first | refine cQ (fun hcc => (cw _)) ?_ | (refine lP ?_; refine lQ (fun hcc m => (cw _)) ?_)) | (show Fct ..; refine fctI (fun hf => ?_)) | (show SWp _ _ _ (.cond _ _ _) _ _ _ _; first | refine cB (fun hc => ?_) (fun hc => ?_) | refine cU ?_ ?_)))
      (refine lN [0] ?_)
      exact ⟨_, by omega, i + 1, by omega, rfl, fun j hj => by
        by_cases e : j = i
        · subst e; exact hv
        · exact g3 j (by omega), rfl, rfl⟩
  have hi3 : ¬ ((i : Int) < (p.inf.length : Int)) := by omega
  (have := Nonempty.intro hi3)
  have hall1 := rall_true (f := fun i => volP (p.inf.getD i default)) (n := p.inf.length) fun j hj => g3 j (by omega)
  (repeat' (first | refine swp_seq [0, 1, 2, 4, 5, 6, 53, 55, 56, 57, 58, 63, 66, 67, 68, 69, 89] ?_ | refine st2 ?_ | (show Fct ..; refine fctI (fun hf => ?_)) | (show SWp _ _ _ (.cond _ _ _) _ _ _ _; first | refine cB (fun hc => ?_) (fun hc => ?_) | refine cU ?_ ?_)))
  refine loop_swp [1, 66, 67, 68] [0] 1 (fun q A H => ∃ i : Nat, i ≤ p.rel.length ∧ q = p.rel.length - i ∧ (∀ j, j < i → relR p.rel j = true) ∧ A = [(1, .ptr 0 0), (66, ints p.rel), (67, li p.rel.length), (68, li i)] ∧ H = [(0, .blk 26 (planC p))]) (by omega) ?_ ?_ ?_
  · rintro q A H ⟨i, g1, g2, g3, rfl, rfl⟩
    exact ⟨by (exact SD), by (exact SD)⟩
  · refine ⟨_, 0, by omega, rfl, by omega, ?_, ?_⟩
    · exact DVR
    · exact DVR
  clear hi hi3 g1 g2 g3
  rintro q A H ⟨i, g1, g2, g3, rfl, rfl⟩
  by_cases hi : i < p.rel.length
  · have hi3 : (i : Int) < (p.rel.length : Int) := by omega
    (have := Nonempty.intro hi3)
    have cw : ∀ m, DCalls Tryz.prog 28 [li (p.rel.getD i default), li 0, li 1099511627776] (hget []) m (lb (volP (p.rel.getD i default))) (hget []) := fun m => withinP_f _ 0 1099511627776 m
    have hret : relR p.rel i = false → planB p = false := fun hr => by
      rw [planB, rall_false (f := relR p.rel) hi hr]; simp
    have hgo : relR p.rel i = true → ∀ j, j < i + 1 → relR p.rel j = true := fun hr j hj => by
      by_cases e : j = i
      · subst e; exact hr
      · exact g3 j (by omega)
    cases hv : volP (p.rel.getD i default) <;> simp only [hv] at cw
    · (repeat' (first | refine swp_seq [0, 1, 2, 4, 5, 6, 53, 55, 56, 57, 58, 63, 66, 67, 68, 69, 89] ?_ | refine st2 ?_ | (show CallQ ..; first | refine cQ (fun hcc => (cw _)) ?_ | (refine lP ?_; refine lQ (fun hcc m => (cw _)) ?_)) | (show Fct ..; refine fctI (fun hf => ?_)) | (show SWp _ _ _ (.cond _ _ _) _ _ _ _; first | refine cB (fun hc => ?_) (fun hc => ?_) | refine cU ?_ ?_)))
      (refine DVQ ?_)
      refine lbC ?_
      rw [hret (by unfold relR; rw [hv]; rfl)]
    · by_cases hz : 0 < (i : Int)
      · (have := Nonempty.intro hz)
        by_cases hl : p.rel.getD i default ≤ p.rel.getD (i - 1) default
        · (have := Nonempty.intro hl)
          (repeat' (first | refine swp_seq [0, 1, 2, 4, 5, 6, 53, 55, 56, 57, 58, 63, 66, 67, 68, 69, 89] ?_ | refine st2 ?_ | (show CallQ ..; first | refine cQ (fun hcc => (cw _)) ?_ | (refine lP ?_; refine lQ (fun hcc m => (cw _)) ?_)) | (show Fct ..; refine fctI (fun hf => ?_)) | (show SWp _ _ _ (.cond _ _ _) _ _ _ _; first | refine cB (fun hc => ?_) (fun hc => ?_) | refine cU ?_ ?_)))
          (refine DVQ ?_)
          refine lbC ?_
          rw [hret (by unfold relR; rw [hv, decide_eq_false (by omega), decide_eq_false (by omega)]; rfl)]
        · (have := Nonempty.intro hl)
          (repeat' (first | refine swp_seq [0, 1, 2, 4, 5, 6, 53, 55, 56, 57, 58, 63, 66, 67, 68, 69, 89] ?_ | refine st2 ?_ | (show CallQ ..; first | refine cQ (fun hcc => (cw _)) ?_ | (refine lP ?_; refine lQ (fun hcc m => (cw _)) ?_)) | (show Fct ..; refine fctI (fun hf => ?_)) | (show SWp _ _ _ (.cond _ _ _) _ _ _ _; first | refine cB (fun hc => ?_) (fun hc => ?_) | refine cU ?_ ?_)))
          (refine lN [0] ?_)
          exact ⟨_, by omega, i + 1, by omega, rfl, hgo (by unfold relR; rw [hv, decide_eq_true (p := p.rel.getD (i - 1) default < p.rel.getD i default) (by omega)]; simp), rfl, rfl⟩
      · (have := Nonempty.intro hz)
        (repeat' (first | refine swp_seq [0, 1, 2, 4, 5, 6, 53, 55, 56, 57, 58, 63, 66, 67, 68, 69, 89] ?_ | refine st2 ?_ | (show CallQ ..; first | refine cQ (fun hcc => (cw _)) ?_ | (refine lP ?_; refine lQ (fun hcc m => (cw _)) ?_)) | (show Fct ..; refine fctI (fun hf => ?_)) | (show SWp _ _ _ (.cond _ _ _) _ _ _ _; first | refine cB (fun hc => ?_) (fun hc => ?_) | refine cU ?_ ?_)))
        (refine lN [0] ?_)
        exact ⟨_, by omega, i + 1, by omega, rfl, hgo (by unfold relR; rw [hv, decide_eq_true (p := i = 0) (by omega)]; rfl), rfl, rfl⟩
  have hi3 : ¬ ((i : Int) < (p.rel.length : Int)) := by omega
  (have := Nonempty.intro hi3)
  have hall2 := rall_true (f := relR p.rel) (n := p.rel.length) fun j hj => g3 j (by omega)
  (repeat' (first | refine swp_seq [0, 1, 2, 4, 5, 6, 53, 55, 56, 57, 58, 63, 66, 67, 68, 69, 89] ?_ | refine st2 ?_ | (show Fct ..; refine fctI (fun hf => ?_)) | (show SWp _ _ _ (.cond _ _ _) _ _ _ _; first | refine cB (fun hc => ?_) (fun hc => ?_) | refine cU ?_ ?_)))
  (refine DVQ ?_)
  refine lbC ?_
  unfold planB
  rw [h0, hall1, hall2]
  simp only [Bool.true_and]
theorem rVolume_f (n : Int) (m : Nat) : DCalls Tryz.prog 31 [li n] (hget []) m (lb (volP n)) (hget []) := by
  refine pureC (n := 9) (rs := [.tmp 2]) (ts := [4]) Tryz.func31 rfl (by decide) [] (by (exact SD)) ?_
  (repeat' (first | refine swp_seq [0, 2] ?_ | refine st2 ?_ | (show Fct ..; refine fctI (fun hf => ?_)) | (show SWp _ _ _ (.cond _ _ _) _ _ _ _; first | refine cB (fun hc => ?_) (fun hc => ?_) | refine cU ?_ ?_)))
  exact DVR
theorem tab_mono {t : List Knot} (h : tabB t = true) : ∀ {i j : Nat}, i ≤ j → j < t.length → (t.getD i default).y ≤ (t.getD j default).y := fun {i j} hij hj => by
  have hs : ∀ k, k + 1 < t.length → (t.getD k default).y ≤ (t.getD (k + 1) default).y := fun k hk => by
    unfold tabB at h
    simp only [Bool.and_eq_true, List.all_eq_true, List.mem_range] at h
    have := h.2 (k + 1) hk
    unfold tabR at this
    simp only [Bool.and_eq_true, Bool.or_eq_true, decide_eq_true_eq] at this
    rcases this.2 with q | q
    · omega
    · simpa using q.2
  induction j with
  | zero => have : i = 0 := by omega
            rw [this]; exact Int.le_refl _
  | succ j ih =>
    by_cases e : i = j + 1
    · rw [e]; exact Int.le_refl _
    · exact Int.le_trans (ih (by omega) (by omega)) (hs j (by omega))
theorem pen_ends {t : List Knot} (h : tabB t = true) : (decide (0 ≤ (t.getD 0 default).y) && decide ((t.getD (t.length - 1) default).y ≤ 1099511627776)) = (List.range t.length).all fun i => volP (t.getD i default).y := by
  have hl : 1 ≤ t.length := by
    unfold tabB at h
    simp only [Bool.and_eq_true, decide_eq_true_eq] at h
    exact h.1.1
  rw [Bool.eq_iff_iff, Bool.and_eq_true, decide_eq_true_eq, decide_eq_true_eq, List.all_eq_true]
  constructor
  · rintro ⟨h1, h2⟩ i hi
    have hi := List.mem_range.1 hi
    have a := tab_mono h (Nat.zero_le i) hi
    have b := tab_mono h (by omega : i ≤ t.length - 1) (by omega)
    unfold volP
    rw [Bool.and_eq_true, decide_eq_true_eq, decide_eq_true_eq]
    omega
  · intro hv
    have a := hv 0 (List.mem_range.2 (by omega))
    have b := hv (t.length - 1) (List.mem_range.2 (by omega))
    unfold volP at a b
    rw [Bool.and_eq_true, decide_eq_true_eq, decide_eq_true_eq] at a b
    exact ⟨a.1, b.2⟩
set_option maxRecDepth 20000 in
set_option maxHeartbeats 8000000 in
theorem rPValid_f (p : Plan) (m : Nat) (hp : planOk p) : DCalls Tryz.prog 9 [planD p] (hget []) m (lb (planB p)) (hget []) := by
  obtain ⟨k1, k2, k3, k4, k5, k6, k7⟩ := hp
  have ct := fun m => rTab_f p.pen m k6.1
  refine pureC (n := 143) (rs := [.tmp 2]) (ts := [4]) Tryz.func9 rfl (by decide) [] (by (exact SD)) ?_
  (repeat' (first | refine swp_seq [0, 1, 2, 3, 4, 5, 73, 78, 87, 92, 119, 124, 142] ?_ | refine st2 ?_ | (show CallQ ..; first | refine cQ (fun hcc => (ct _)) ?_ | (refine lP ?_; refine lQ (fun hcc m => (ct _)) ?_)) | (show XCallQ ..; first | refine xQ (fun hcc => (ct _)) ?_ | (refine xlP ?_; refine xlQ (fun hcc m => (ct _)) ?_)) | (show Fct ..; refine fctI (fun hf => ?_)) | (show SWp _ _ _ (.cond _ _ _) _ _ _ _; first | refine cB (fun hc => ?_) (fun hc => ?_) | refine cU ?_ ?_)))
  · have h0 : headB p = false := by unfold headB; grind
    (refine DVQ ?_)
    refine lbC ?_
    unfold planB; rw [h0]; rfl
  have h0 : headB p = true := by unfold headB; grind
  have hpl : 1 ≤ p.pen.length := by
    unfold headB at h0
    simp only [Bool.and_eq_true] at h0
    have := h0.2
    unfold tabB at this
    simp only [Bool.and_eq_true, decide_eq_true_eq] at this
    exact this.1.1
  refine loop_swp [1, 3] [0] 1 (fun q A H => ∃ i : Nat, i ≤ p.inf.length ∧ q = p.inf.length - i ∧ (∀ j, j < i → volP (p.inf.getD j default) = true) ∧ A = [(1, .ptr 0 0), (3, li i)] ∧ H = [(0, .blk 26 (planC p))]) (by omega) ?_ ?_ ?_
  · rintro q A H ⟨i, g1, g2, g3, rfl, rfl⟩
    exact ⟨by (exact SD), by (exact SD)⟩
  · refine ⟨_, 0, by omega, rfl, by omega, ?_, ?_⟩
    · exact DVR
    · exact DVR
  rintro q A H ⟨i, g1, g2, g3, rfl, rfl⟩
  by_cases hi : i < p.inf.length
  · have hi3 : (i : Int) < (p.inf.length : Int) := by omega
    (have := Nonempty.intro hi3)
    have cw : ∀ m, DCalls Tryz.prog 31 [li (p.inf.getD i default)] (hget []) m (lb (volP (p.inf.getD i default))) (hget []) := fun m => rVolume_f _ m
    cases hv : volP (p.inf.getD i default) <;> simp only [hv] at cw
    · (repeat' (first | refine swp_seq [0, 1, 2, 3, 4, 5, 73, 78, 87, 92, 119, 124, 142] ?_ | refine st2 ?_ | (show CallQ ..; first | refine cQ (fun hcc => (cw _)) ?_ | (refine lP ?_; refine lQ (fun hcc m => (cw _)) ?_)) | (show XCallQ ..; first | refine xQ (fun hcc => (cw _)) ?_ | (refine xlP ?_; refine xlQ (fun hcc m => (cw _)) ?_)) | (show Fct ..; refine fctI (fun hf => ?_)) | (show SWp _ _ _ (.cond _ _ _) _ _ _ _; first | refine cB (fun hc => ?_) (fun hc => ?_) | refine cU ?_ ?_)))
      (refine DVQ ?_)
      refine lbC ?_
      rw [planB, rall_false (f := fun i => volP (p.inf.getD i default)) hi hv]; simp
    · (repeat' (first | refine swp_seq [0, 1, 2, 3, 4, 5, 73, 78, 87, 92, 119, 124, 142] ?_ | refine st2 ?_ | (show CallQ ..; first | refine cQ (fun hcc => (cw _)) ?_ | (refine lP ?_; refine lQ (fun hcc m => (cw _)) ?_)) | (show XCallQ ..; first | refine xQ (fun hcc => (cw _)) ?_ | (refine xlP ?_; refine xlQ (fun hcc m => (cw _)) ?_)) | (show Fct ..; refine fctI (fun hf => ?_)) | (show SWp _ _ _ (.cond _ _ _) _ _ _ _; first | refine cB (fun hc => ?_) (fun hc => ?_) | refine cU ?_ ?_)))
      (refine lN [0] ?_)
      exact ⟨_, by omega, i + 1, by omega, rfl, fun j hj => by
        by_cases e : j = i
        · subst e; exact hv
        · exact g3 j (by omega), rfl, rfl⟩
  have hi3 : ¬ ((i : Int) < (p.inf.length : Int)) := by omega
  (have := Nonempty.intro hi3)
  have hall1 := rall_true (f := fun i => volP (p.inf.getD i default)) (n := p.inf.length) fun j hj => g3 j (by omega)
  (repeat' (first | refine swp_seq [0, 1, 2, 3, 4, 5, 73, 78, 87, 92, 119, 124, 142] ?_ | refine st2 ?_ | (show Fct ..; refine fctI (fun hf => ?_)) | (show SWp _ _ _ (.cond _ _ _) _ _ _ _; first | refine cB (fun hc => ?_) (fun hc => ?_) | refine cU ?_ ?_)))
  refine loop_swp [1, 4] [0] 1 (fun q A H => ∃ i : Nat, i ≤ p.rel.length ∧ q = p.rel.length - i ∧ (∀ j, j < i → relR p.rel j = true) ∧ A = [(1, .ptr 0 0), (4, li i)] ∧ H = [(0, .blk 26 (planC p))]) (by omega) ?_ ?_ ?_
  · rintro q A H ⟨i, g1, g2, g3, rfl, rfl⟩
    exact ⟨by (exact SD), by (exact SD)⟩
  · refine ⟨_, 0, by omega, rfl, by omega, ?_, ?_⟩
    · exact DVR
    · exact DVR
  clear hi hi3 g1 g2 g3
  rintro q A H ⟨i, g1, g2, g3, rfl, rfl⟩
  by_cases hi : i < p.rel.length
  · have hi3 : (i : Int) < (p.rel.length : Int) := by omega
    (have := Nonempty.intro hi3)
    have cw : ∀ m, DCalls Tryz.prog 31 [li (p.rel.getD i default)] (hget []) m (lb (volP (p.rel.getD i default))) (hget []) := fun m => rVolume_f _ m
    have hret : relR p.rel i = false → planB p = false := fun hr => by
      rw [planB, rall_false (f := relR p.rel) hi hr]; simp
    have hgo : relR p.rel i = true → ∀ j, j < i + 1 → relR p.rel j = true := fun hr j hj => by
      by_cases e : j = i
      · subst e; exact hr
      · exact g3 j (by omega)
    cases hv : volP (p.rel.getD i default) <;> simp only [hv] at cw
    · (repeat' (first | refine swp_seq [0, 1, 2, 3, 4, 5, 73, 78, 87, 92, 119, 124, 142] ?_ | refine st2 ?_ | (show CallQ ..; first | refine cQ (fun hcc => (cw _)) ?_ | (refine lP ?_; refine lQ (fun hcc m => (cw _)) ?_)) | (show XCallQ ..; first | refine xQ (fun hcc => (cw _)) ?_ | (refine xlP ?_; refine xlQ (fun hcc m => (cw _)) ?_)) | (show Fct ..; refine fctI (fun hf => ?_)) | (show SWp _ _ _ (.cond _ _ _) _ _ _ _; first | refine cB (fun hc => ?_) (fun hc => ?_) | refine cU ?_ ?_)))
      (refine DVQ ?_)
      refine lbC ?_
      rw [hret (by unfold relR; rw [hv]; rfl)]
    · by_cases hz : 0 < (i : Int)
      · (have := Nonempty.intro hz)
        by_cases hl : p.rel.getD i default ≤ p.rel.getD (i - 1) default
        · (have := Nonempty.intro hl)
          (repeat' (first | refine swp_seq [0, 1, 2, 3, 4, 5, 73, 78, 87, 92, 119, 124, 142] ?_ | refine st2 ?_ | (show CallQ ..; first | refine cQ (fun hcc => (cw _)) ?_ | (refine lP ?_; refine lQ (fun hcc m => (cw _)) ?_)) | (show XCallQ ..; first | refine xQ (fun hcc => (cw _)) ?_ | (refine xlP ?_; refine xlQ (fun hcc m => (cw _)) ?_)) | (show Fct ..; refine fctI (fun hf => ?_)) | (show SWp _ _ _ (.cond _ _ _) _ _ _ _; first | refine cB (fun hc => ?_) (fun hc => ?_) | refine cU ?_ ?_)))
          (refine DVQ ?_)
          refine lbC ?_
          rw [hret (by unfold relR; rw [hv, decide_eq_false (by omega), decide_eq_false (by omega)]; rfl)]
        · (have := Nonempty.intro hl)
          (repeat' (first | refine swp_seq [0, 1, 2, 3, 4, 5, 73, 78, 87, 92, 119, 124, 142] ?_ | refine st2 ?_ | (show CallQ ..; first | refine cQ (fun hcc => (cw _)) ?_ | (refine lP ?_; refine lQ (fun hcc m => (cw _)) ?_)) | (show XCallQ ..; first | refine xQ (fun hcc => (cw _)) ?_ | (refine xlP ?_; refine xlQ (fun hcc m => (cw _)) ?_)) | (show Fct ..; refine fctI (fun hf => ?_)) | (show SWp _ _ _ (.cond _ _ _) _ _ _ _; first | refine cB (fun hc => ?_) (fun hc => ?_) | refine cU ?_ ?_)))
          (refine lN [0] ?_)
          exact ⟨_, by omega, i + 1, by omega, rfl, hgo (by unfold relR; rw [hv, decide_eq_true (p := p.rel.getD (i - 1) default < p.rel.getD i default) (by omega)]; simp), rfl, rfl⟩
      · (have := Nonempty.intro hz)
        (repeat' (first | refine swp_seq [0, 1, 2, 3, 4, 5, 73, 78, 87, 92, 119, 124, 142] ?_ | refine st2 ?_ | (show CallQ ..; first | refine cQ (fun hcc => (cw _)) ?_ | (refine lP ?_; refine lQ (fun hcc m => (cw _)) ?_)) | (show XCallQ ..; first | refine xQ (fun hcc => (cw _)) ?_ | (refine xlP ?_; refine xlQ (fun hcc m => (cw _)) ?_)) | (show Fct ..; refine fctI (fun hf => ?_)) | (show SWp _ _ _ (.cond _ _ _) _ _ _ _; first | refine cB (fun hc => ?_) (fun hc => ?_) | refine cU ?_ ?_)))
        (refine lN [0] ?_)
        exact ⟨_, by omega, i + 1, by omega, rfl, hgo (by unfold relR; rw [hv, decide_eq_true (p := i = 0) (by omega)]; rfl), rfl, rfl⟩
  have hi3 : ¬ ((i : Int) < (p.rel.length : Int)) := by omega
  (have := Nonempty.intro hi3)
  have hall2 := rall_true (f := relR p.rel) (n := p.rel.length) fun j hj => g3 j (by omega)
  have htb : tabB p.pen = true := by
    unfold headB at h0
    simp only [Bool.and_eq_true] at h0
    exact h0.2
  have hends := pen_ends htb
  have hp2 : planB p = (List.range p.pen.length).all fun i => volP (p.pen.getD i default).y := by
    unfold planB; rw [h0, hall1, hall2, hends]; simp only [Bool.true_and]
  rw [hp2]
  (repeat' (first | refine swp_seq [0, 1, 2, 3, 4, 5, 73, 78, 87, 92, 119, 124, 142] ?_ | refine st2 ?_ | (show Fct ..; refine fctI (fun hf => ?_)) | (show SWp _ _ _ (.cond _ _ _) _ _ _ _; first | refine cB (fun hc => ?_) (fun hc => ?_) | refine cU ?_ ?_)))
  refine loop_swp [1, 5] [0] 1 (fun q A H => ∃ i : Nat, i ≤ p.pen.length ∧ q = p.pen.length - i ∧ (∀ j, j < i → volP (p.pen.getD j default).y = true) ∧ A = [(1, .ptr 0 0), (5, li i)] ∧ H = [(0, .blk 26 (planC p))]) (by omega) ?_ ?_ ?_
  · rintro q A H ⟨i, g1, g2, g3, rfl, rfl⟩
    exact ⟨by (exact SD), by (exact SD)⟩
  · refine ⟨_, 0, by omega, rfl, by omega, ?_, ?_⟩
    · exact DVR
    · exact DVR
  clear hi hi3 g1 g2 g3
  rintro q A H ⟨i, g1, g2, g3, rfl, rfl⟩
  by_cases hi : i < p.pen.length
  · have hi3 : (i : Int) < (p.pen.length : Int) := by omega
    (have := Nonempty.intro hi3)
    have hret : volP (p.pen.getD i default).y = false → ((List.range p.pen.length).all fun i => volP (p.pen.getD i default).y) = false := fun hr => rall_false (f := fun i => volP (p.pen.getD i default).y) hi hr
    by_cases y1 : (p.pen.getD i default).y < 0
    · (have := Nonempty.intro y1)
      (repeat' (first | refine swp_seq [0, 1, 2, 3, 4, 5, 73, 78, 87, 92, 119, 124, 142] ?_ | refine st2 ?_ | (show Fct ..; refine fctI (fun hf => ?_)) | (show SWp _ _ _ (.cond _ _ _) _ _ _ _; first | refine cB (fun hc => ?_) (fun hc => ?_) | refine cU ?_ ?_)))
      (refine DVQ ?_)
      refine lbC ?_
      rw [hret (by unfold volP; rw [decide_eq_false (by omega)]; rfl)]
    · (have := Nonempty.intro y1)
      by_cases y2 : 1099511627776 < (p.pen.getD i default).y
      · (have := Nonempty.intro y2)
        (repeat' (first | refine swp_seq [0, 1, 2, 3, 4, 5, 73, 78, 87, 92, 119, 124, 142] ?_ | refine st2 ?_ | (show Fct ..; refine fctI (fun hf => ?_)) | (show SWp _ _ _ (.cond _ _ _) _ _ _ _; first | refine cB (fun hc => ?_) (fun hc => ?_) | refine cU ?_ ?_)))
        (refine DVQ ?_)
        refine lbC ?_
        rw [hret (by unfold volP; rw [decide_eq_false (p := (p.pen.getD i default).y ≤ 1099511627776) (by omega), Bool.and_false])]
      · (have := Nonempty.intro y2)
        (repeat' (first | refine swp_seq [0, 1, 2, 3, 4, 5, 73, 78, 87, 92, 119, 124, 142] ?_ | refine st2 ?_ | (show Fct ..; refine fctI (fun hf => ?_)) | (show SWp _ _ _ (.cond _ _ _) _ _ _ _; first | refine cB (fun hc => ?_) (fun hc => ?_) | refine cU ?_ ?_)))
        (refine lN [0] ?_)
        exact ⟨_, by omega, i + 1, by omega, rfl, fun j hj => by
          by_cases e : j = i
          · subst e; unfold volP; rw [decide_eq_true (by omega), decide_eq_true (by omega)]; rfl
          · exact g3 j (by omega), rfl, rfl⟩
  have hi3 : ¬ ((i : Int) < (p.pen.length : Int)) := by omega
  (have := Nonempty.intro hi3)
  have hall3 := rall_true (f := fun i => volP (p.pen.getD i default).y) (n := p.pen.length) fun j hj => g3 j (by omega)
  rw [hall3]
  (repeat' (first | refine swp_seq [0, 1, 2, 3, 4, 5, 73, 78, 87, 92, 119, 124, 142] ?_ | refine st2 ?_ | (show Fct ..; refine fctI (fun hf => ?_)) | (show SWp _ _ _ (.cond _ _ _) _ _ _ _; first | refine cB (fun hc => ?_) (fun hc => ?_) | refine cU ?_ ?_)))
  exact DVR
def rowC (p : Plan) (r : List Int) (k : Nat) : Bool := decide (p.res ≤ r.getD k default) && decide (r.getD k default ≤ p.cap) && (decide (k = 0) || decide (r.getD (k - 2) default < r.getD k default)) && decide (-1 ≤ r.getD (k + 1) default) && decide (r.getD (k + 1) default ≤ 1152921504606846976)
def rowB (p : Plan) (r : List Int) : Bool := decide (r.length % 2 = 0) && (List.range (r.length / 2)).all fun j => rowC p r (2 * j)
def shapedB (p : Plan) (l : List (List Int)) : Bool := decide (l.length = p.inf.length + 1) && l.all (rowB p)
theorem tmod2z (n : Nat) : ((n : Int).tmod 2 = 0) ↔ n % 2 = 0 := by rw [Int.tmod_eq_emod_of_nonneg (by omega)]; omega
set_option maxRecDepth 20000 in
set_option maxHeartbeats 8000000 in
theorem row_f (p : Plan) (r : List Int) (m : Nat) (hp : planOk p) (hr : r.length ≤ 281474976710656) : DCalls Tryz.prog 65 [planD p, ints r] (hget []) m (lb (rowB p r)) (hget []) := by
  by_cases ho : r.length % 2 = 0
  case neg =>
    have h9 : ¬ ((r.length : Int).tmod 2 = 0) := fun e => ho ((tmod2z _).1 e)
    (have := Nonempty.intro h9)
    rw [show rowB p r = false by unfold rowB; rw [decide_eq_false ho]; rfl]
    refine pureC (n := 64) (rs := [.tmp 4]) (ts := [4]) Tryz.func65 rfl (by decide) [] (by (exact SD)) ?_
    (repeat' (first | refine swp_seq [0, 1, 2, 4, 5, 9, 13, 63] ?_ | refine st2 ?_ | (show Fct ..; refine fctI (fun hf => ?_)) | (show SWp _ _ _ (.cond _ _ _) _ _ _ _; first | refine cB (fun hc => ?_) (fun hc => ?_) | refine cU ?_ ?_)))
    exact DVR
  have h9 : (r.length : Int).tmod 2 = 0 := (tmod2z _).2 ho
  (have := Nonempty.intro h9)
  have hB : rowB p r = (List.range (r.length / 2)).all fun j => rowC p r (2 * j) := by unfold rowB; rw [decide_eq_true ho]; rfl
  rw [hB]
  refine pureC (n := 64) (rs := [.tmp 4]) (ts := [4]) Tryz.func65 rfl (by decide) [] (by (exact SD)) ?_
  (repeat' (first | refine swp_seq [0, 1, 2, 4, 5, 9, 13, 63] ?_ | refine st2 ?_ | (show Fct ..; refine fctI (fun hf => ?_)) | (show SWp _ _ _ (.cond _ _ _) _ _ _ _; first | refine cB (fun hc => ?_) (fun hc => ?_) | refine cU ?_ ?_)))
  refine loop_swp [1, 2, 5] [0] 1 (fun q A H => ∃ j k : Nat, k = 2 * j ∧ k ≤ r.length ∧ q = r.length - k ∧ (∀ i, i < j → rowC p r (2 * i) = true) ∧ A = [(1, ints r), (2, .ptr 0 0), (5, li k)] ∧ H = [(0, .blk 26 (planC p))]) (by omega) ?_ ?_ ?_
  · rintro q A H ⟨j, k, hk, g1, g2, g3, rfl, rfl⟩
    exact ⟨by (exact SD), by (exact SD)⟩
  · refine ⟨_, 0, 0, rfl, by omega, rfl, by omega, ?_, ?_⟩
    · exact DVR
    · exact DVR
  rintro q A H ⟨j, k, hk, g1, g2, g3, rfl, rfl⟩
  by_cases hj : k < r.length
  · have hj3 : (k : Int) < (r.length : Int) := by omega
    (have := Nonempty.intro hj3)
    have hj5 : k + 1 < r.length := by omega
    (have := Nonempty.intro hj5)
    have hjl : j < r.length / 2 := by omega
    (repeat' (first | refine swp_seq [0, 1, 2, 4, 5, 9, 13, 63] ?_ | refine st2 ?_ | (show Fct ..; refine fctI (fun hf => ?_)) | (show SWp _ _ _ (.cond _ _ _) _ _ _ _; first | refine cB (fun hc => ?_) (fun hc => ?_) | refine cU ?_ ?_)))
    · (refine DVQ ?_)
      refine lbC ?_
      rw [rall_false (f := fun j => rowC p r (2 * j)) hjl (by show rowC p r (2 * j) = false; rw [← hk]; unfold rowC; grind)]
    · (refine lN [0] ?_)
      exact ⟨_, by omega, j + 1, k + 2, by omega, by omega, rfl, fun i hi => by
        by_cases e : i = j
        · subst e; rw [← hk]; unfold rowC; grind
        · exact g3 i (by omega), rfl, rfl⟩
  have hj3 : ¬ ((k : Int) < (r.length : Int)) := by omega
  (have := Nonempty.intro hj3)
  rw [rall_true (f := fun j => rowC p r (2 * j)) fun i hi => g3 i (by omega)]
  (repeat' (first | refine swp_seq [0, 1, 2, 4, 5, 9, 13, 63] ?_ | refine st2 ?_ | (show Fct ..; refine fctI (fun hf => ?_)) | (show SWp _ _ _ (.cond _ _ _) _ _ _ _; first | refine cB (fun hc => ?_) (fun hc => ?_) | refine cU ?_ ?_)))
  exact DVR

end Go.Proofs.YtlailhdmgehniaaGreat
