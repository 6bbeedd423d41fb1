/-
  Contracts of functions of the program, over the engine.
  No condition.
-/
import Derived.Test.YtedocinehadodaaCC2C3C9
import Derived.Test.YtedocinehadodaaCC10C13C19C29
namespace Go.Proofs.Ytedocinehadodaa
open Go.Eng
set_option linter.all false
attribute [local irreducible] DCallsG SWp Fct CallQ XCallQ LCallQ XLCallQ drun xrun

theorem idx_nz1 {α : Type} [Inhabited α] (f : α → List PV) (l : List α) (k : Nat) [h : Nonempty (k + 1 < l.length)] : idx (l.map f) ((k : Int) + 1) = f (l.getD (k + 1) default) := by
  have := idx_nat f l (k + 1) (h.elim id)
  push_cast at this
  exact this
attribute [push_cast] idx_nz1
theorem all_next (f : Nat → Bool) (i : Nat) : (List.range (i + 1)).all f = ((List.range i).all f && f i) := by simp [List.range_succ]
theorem any_next (f : Nat → Bool) (i : Nat) : (List.range (i + 1)).any f = ((List.range i).any f || f i) := by simp [List.range_succ]
theorem tmod2 (n : Nat) : ((n : Int).tmod 2 = 0) ↔ ¬ n % 2 = 1 := by rw [Int.tmod_eq_emod_of_nonneg (by omega)]; omega
theorem odd_f (r : List Int) (m : Nat) (hr : r.length ≤ 281474976710656) : DCalls Try.prog 71 [ints r] (hget []) m (lb (oddB r)) (hget []) := by
  by_cases h : r.length % 2 = 1
  · have h9 : ¬ ((r.length : Int).tmod 2 = 0) := fun e => (tmod2 _).1 e h
    (have := Nonempty.intro h9)
    refine pureC (n := 7) (rs := [.tmp 2]) (ts := [4]) Try.func71 rfl (by decide) [] (by (exact SD)) ?_
    (repeat' (first | refine swp_seq [0, 2] ?_ | refine st2 ?_ | (show Fct ..; refine fctI (fun hf => ?_)) | (show SWp _ _ _ (.cond _ _ _) _ _ _ _; first | refine cB (fun hc => ?_) (fun hc => ?_) | refine cU ?_ ?_)))
    unfold oddB
    rw [decide_eq_true h]
    exact DVR
  · have h9 : (r.length : Int).tmod 2 = 0 := (tmod2 _).2 h
    (have := Nonempty.intro h9)
    refine pureC (n := 7) (rs := [.tmp 2]) (ts := [4]) Try.func71 rfl (by decide) [] (by (exact SD)) ?_
    (repeat' (first | refine swp_seq [0, 2] ?_ | refine st2 ?_ | (show Fct ..; refine fctI (fun hf => ?_)) | (show SWp _ _ _ (.cond _ _ _) _ _ _ _; first | refine cB (fun hc => ?_) (fun hc => ?_) | refine cU ?_ ?_)))
    unfold oddB
    rw [decide_eq_false h]
    exact DVR
theorem same2_f (x y : List Int) (m : Nat) (hx : x.length ≤ 281474976710656) (hy : y.length ≤ 281474976710656) : DCalls Try.prog 74 [ints x, ints y] (hget []) m (lb (decide (x.length = y.length))) (hget []) := by
  refine pureC (n := 10) (rs := [.tmp 4]) (ts := [4]) Try.func74 rfl (by decide) [] (by (exact SD)) ?_
  (repeat' (first | refine swp_seq [0, 1, 4] ?_ | refine st2 ?_ | (show Fct ..; refine fctI (fun hf => ?_)) | (show SWp _ _ _ (.cond _ _ _) _ _ _ _; first | refine cB (fun hc => ?_) (fun hc => ?_) | refine cU ?_ ?_)))
  (refine DVQ ?_)
  refine lbC ?_
  rw [Bool.eq_iff_iff]
  simp
  try omega
theorem eqf_f (g : FuncId) (p : List Int → List Int → Bool) (a b : List (List Int)) (m : Nat) (ha : rowsOk a) (hb : rowsOk b) (hg : ∀ x y m, x.length ≤ 281474976710656 → y.length ≤ 281474976710656 → DCalls Try.prog g [ints x, ints y] (hget []) m (lb (p x y)) (hget [])) :
    DCalls Try.prog 73 [intss a, intss b, .clo g []] (hget []) m (lb (decide (a.length = b.length) && (List.range a.length).all fun i => p (a.getD i default) (b.getD i default))) (hget []) := by
  have h1 := ha.1
  have h2 := hb.1
  by_cases hn : (a.length : Int) = (b.length : Int)
  · (have := Nonempty.intro hn)
    have hn2 : a.length = b.length := by omega
    rw [decide_eq_true hn2, Bool.true_and]
    refine pureC (n := 32) (rs := [.tmp 6]) (ts := [4]) Try.func73 rfl (by decide) [] (by (exact SD)) ?_
    (repeat' (first | refine swp_seq [0, 1, 2, 6, 7, 8, 9, 14, 15, 16, 17, 18, 30] ?_ | refine st2 ?_ | (show Fct ..; refine fctI (fun hf => ?_)) | (show SWp _ _ _ (.cond _ _ _) _ _ _ _; first | refine cB (fun hc => ?_) (fun hc => ?_) | refine cU ?_ ?_)))
    refine loop_swp [1, 2, 15, 16, 17] [] 0 (fun q A H => ∃ i : Nat, i ≤ a.length ∧ q = a.length - i ∧ ((List.range i).all fun i => p (a.getD i default) (b.getD i default)) = true ∧ A = [(1, intss b), (2, .clo g []), (15, intss a), (16, li a.length), (17, li i)] ∧ H = []) (by omega) ?_ ?_ ?_
    · rintro q A H ⟨i, g1, g2, g3, rfl, rfl⟩
      exact ⟨by (exact SD), by (exact SD)⟩
    · refine ⟨_, 0, by omega, rfl, rfl, ?_, ?_⟩
      · exact DVR
      · exact DVR
    rintro q A H ⟨i, g1, g2, g3, rfl, rfl⟩
    by_cases hi : i < a.length
    · have hi3 : (i : Int) < (a.length : Int) := by omega
      (have := Nonempty.intro hi3)
      have hi4 : i < b.length := by omega
      (have := Nonempty.intro hi)
      (have := Nonempty.intro hi4)
      have cg := fun m => hg (a.getD i default) (b.getD i default) m (rows_len ha hi) (rows_len hb hi4)
      cases hp : p (a.getD i default) (b.getD i default) <;> simp only [hp] at cg
      · (repeat' (first | refine swp_seq [0, 1, 2, 6, 7, 8, 9, 14, 15, 16, 17, 18, 30] ?_ | refine st2 ?_ | (show CallQ ..; first | refine cQ (fun hcc => (cg _)) ?_ | (refine lP ?_; refine lQ (fun hcc m => (cg _)) ?_)) | (show Fct ..; refine fctI (fun hf => ?_)) | (show SWp _ _ _ (.cond _ _ _) _ _ _ _; first | refine cB (fun hc => ?_) (fun hc => ?_) | refine cU ?_ ?_)))
        (refine DVQ ?_)
        refine lbC (Eq.symm ?_)
        rw [List.all_eq_false]
        exact ⟨i, List.mem_range.2 hi, by rw [hp]; decide⟩
      · (repeat' (first | refine swp_seq [0, 1, 2, 6, 7, 8, 9, 14, 15, 16, 17, 18, 30] ?_ | refine st2 ?_ | (show CallQ ..; first | refine cQ (fun hcc => (cg _)) ?_ | (refine lP ?_; refine lQ (fun hcc m => (cg _)) ?_)) | (show Fct ..; refine fctI (fun hf => ?_)) | (show SWp _ _ _ (.cond _ _ _) _ _ _ _; first | refine cB (fun hc => ?_) (fun hc => ?_) | refine cU ?_ ?_)))
        (refine lN [] ?_)
        exact ⟨_, by omega, i + 1, by omega, rfl, by rw [all_next, g3, hp]; rfl, rfl, rfl⟩
    have hi2 : i = a.length := by omega
    have hi3 : ¬ ((i : Int) < (a.length : Int)) := by omega
    (have := Nonempty.intro hi3)
    rw [hi2] at g3
    (repeat' (first | refine swp_seq [0, 1, 2, 6, 7, 8, 9, 14, 15, 16, 17, 18, 30] ?_ | refine st2 ?_ | (show Fct ..; refine fctI (fun hf => ?_)) | (show SWp _ _ _ (.cond _ _ _) _ _ _ _; first | refine cB (fun hc => ?_) (fun hc => ?_) | refine cU ?_ ?_)))
    (refine DVQ ?_)
    rw [g3]
  · (have := Nonempty.intro hn)
    have hn2 : ¬ a.length = b.length := by omega
    rw [decide_eq_false hn2, Bool.false_and]
    refine pureC (n := 32) (rs := [.tmp 6]) (ts := [4]) Try.func73 rfl (by decide) [] (by (exact SD)) ?_
    (repeat' (first | refine swp_seq [0, 1, 2, 6, 7, 8, 9, 14, 15, 16, 17, 18, 30] ?_ | refine st2 ?_ | (show Fct ..; refine fctI (fun hf => ?_)) | (show SWp _ _ _ (.cond _ _ _) _ _ _ _; first | refine cB (fun hc => ?_) (fun hc => ?_) | refine cU ?_ ?_)))
    exact DVR
set_option maxRecDepth 20000 in
set_option maxHeartbeats 8000000 in
theorem weaker_f (a b : List (List Int)) (m : Nat) (ha : rowsOk a) (hb : rowsOk b) : DCalls Try.prog 35 [intss a, intss b] (hget []) m (.tup [lb (weakR a b).1, li (weakR a b).2]) (hget []) := by
  have h1 := ha.1
  have h2 := hb.1
  have ca := fun m => full_f a m ha
  have cb := fun m => full_f b m hb
  cases hfa : fullB a 201 <;> simp only [hfa] at ca
  case true =>
    rw [show weakR a b = (false, 4) by unfold weakR; rw [hfa]; rfl]
    refine pureC (n := 80) (rs := [.tmp 4, .tmp 5]) (ts := [4, 29]) Try.func35 rfl (by decide) [] (by (exact SD)) ?_
    (repeat' (first | refine swp_seq [0, 1, 4, 5, 6, 7, 8, 9, 10, 11, 12, 13, 20, 25, 29, 30, 31, 32, 39, 53, 77] ?_ | refine st2 ?_ | (show CallQ ..; first | refine cQ (fun hcc => (by first | exact ca _)) ?_ | (refine lP ?_; refine lQ (fun hcc m => (by first | exact ca _)) ?_)) | (show XCallQ ..; first | refine xQ (fun hcc => (by first | exact ca _)) ?_ | (refine xlP ?_; refine xlQ (fun hcc m => (by first | exact ca _)) ?_)) | (show Fct ..; refine fctI (fun hf => ?_)) | (show SWp _ _ _ (.cond _ _ _) _ _ _ _; first | refine cB (fun hc => ?_) (fun hc => ?_) | refine cU ?_ ?_)))
    exact DVR
  cases hfb : fullB b 201 <;> simp only [hfb] at cb
  case true =>
    rw [show weakR a b = (false, 4) by unfold weakR; rw [hfa, hfb]; rfl]
    refine pureC (n := 80) (rs := [.tmp 4, .tmp 5]) (ts := [4, 29]) Try.func35 rfl (by decide) [] (by (exact SD)) ?_
    (repeat' (first | refine swp_seq [0, 1, 4, 5, 6, 7, 8, 9, 10, 11, 12, 13, 20, 25, 29, 30, 31, 32, 39, 53, 77] ?_ | refine st2 ?_ | (show CallQ ..; first | refine cQ (fun hcc => (by first | exact ca _ | exact cb _)) ?_ | (refine lP ?_; refine lQ (fun hcc m => (by first | exact ca _ | exact cb _)) ?_)) | (show XCallQ ..; first | refine xQ (fun hcc => (by first | exact ca _ | exact cb _)) ?_ | (refine xlP ?_; refine xlQ (fun hcc m => (by first | exact ca _ | exact cb _)) ?_)) | (show Fct ..; refine fctI (fun hf => ?_)) | (show SWp _ _ _ (.cond _ _ _) _ _ _ _; first | refine cB (fun hc => ?_) (fun hc => ?_) | refine cU ?_ ?_)))
    exact DVR
  have ce := fun m => eqf_f 74 (fun x y => decide (x.length = y.length)) a b m ha hb (fun x y m hx hy => same2_f x y m hx hy)
  have hse : (decide (a.length = b.length) && (List.range a.length).all fun i => decide ((a.getD i default).length = (b.getD i default).length)) = sizesB a b := rfl
  simp only [hse] at ce
  cases hsz : sizesB a b <;> simp only [hsz] at ce
  case false =>
    rw [show weakR a b = (false, 3) by unfold weakR; rw [hfa, hfb, hsz]; rfl]
    refine pureC (n := 80) (rs := [.tmp 4, .tmp 5]) (ts := [4, 29]) Try.func35 rfl (by decide) [] (by (exact SD)) ?_
    (repeat' (first | refine swp_seq [0, 1, 4, 5, 6, 7, 8, 9, 10, 11, 12, 13, 20, 25, 29, 30, 31, 32, 39, 53, 77] ?_ | refine st2 ?_ | (show CallQ ..; first | refine cQ (fun hcc => (by first | exact ca _ | exact cb _ | exact ce _)) ?_ | (refine lP ?_; refine lQ (fun hcc m => (by first | exact ca _ | exact cb _ | exact ce _)) ?_)) | (show XCallQ ..; first | refine xQ (fun hcc => (by first | exact ca _ | exact cb _ | exact ce _)) ?_ | (refine xlP ?_; refine xlQ (fun hcc m => (by first | exact ca _ | exact cb _ | exact ce _)) ?_)) | (show Fct ..; refine fctI (fun hf => ?_)) | (show SWp _ _ _ (.cond _ _ _) _ _ _ _; first | refine cB (fun hc => ?_) (fun hc => ?_) | refine cU ?_ ?_)))
    exact DVR
  have co := fun m => conInts_f 71 oddB a m h1 (fun x hx m => odd_f x m (ha.2 x hx).1)
  cases hod : a.any oddB <;> simp only [hod] at co
  case true =>
    rw [show weakR a b = (false, 1) by unfold weakR; rw [hfa, hfb, hsz, hod]; rfl]
    refine pureC (n := 80) (rs := [.tmp 4, .tmp 5]) (ts := [4, 29]) Try.func35 rfl (by decide) [] (by (exact SD)) ?_
    (repeat' (first | refine swp_seq [0, 1, 4, 5, 6, 7, 8, 9, 10, 11, 12, 13, 20, 25, 29, 30, 31, 32, 39, 53, 77] ?_ | refine st2 ?_ | (show CallQ ..; first | refine cQ (fun hcc => (by first | exact ca _ | exact cb _ | exact ce _ | exact co _)) ?_ | (refine lP ?_; refine lQ (fun hcc m => (by first | exact ca _ | exact cb _ | exact ce _ | exact co _)) ?_)) | (show XCallQ ..; first | refine xQ (fun hcc => (by first | exact ca _ | exact cb _ | exact ce _ | exact co _)) ?_ | (refine xlP ?_; refine xlQ (fun hcc m => (by first | exact ca _ | exact cb _ | exact ce _ | exact co _)) ?_)) | (show Fct ..; refine fctI (fun hf => ?_)) | (show SWp _ _ _ (.cond _ _ _) _ _ _ _; first | refine cB (fun hc => ?_) (fun hc => ?_) | refine cU ?_ ?_)))
    exact DVR
  have hW : weakR a b = if ((List.range a.length).any fun i => evM (a.getD i default) (b.getD i default)) = true then (false, 25) else ((List.range a.length).all fun i => evW (a.getD i default) (b.getD i default), 0) := by
    unfold weakR; rw [hfa, hfb, hsz, hod]; rfl
  have hszs : a.length = b.length ∧ ∀ i, i < a.length → (a.getD i default).length = (b.getD i default).length := by
    unfold sizesB at hsz
    rw [Bool.and_eq_true, decide_eq_true_eq, List.all_eq_true] at hsz
    exact ⟨hsz.1, fun i hi => of_decide_eq_true (hsz.2 i (List.mem_range.2 hi))⟩
  have hev : ∀ i, i < a.length → (a.getD i default).length % 2 = 0 := fun i hi => by
    have := List.any_eq_false.1 hod _ (getD_mem hi)
    unfold oddB at this
    have h8 : ¬ (a.getD i default).length % 2 = 1 := fun q => this (decide_eq_true q)
    omega
  rw [hW]
  refine pureC (n := 80) (rs := [.tmp 4, .tmp 5]) (ts := [4, 29]) Try.func35 rfl (by decide) [] (by (exact SD)) ?_
  (repeat' (first | refine swp_seq [0, 1, 4, 5, 6, 7, 8, 9, 10, 11, 12, 13, 20, 25, 29, 30, 31, 32, 39, 53, 77] ?_ | refine st2 ?_ | (show CallQ ..; first | refine cQ (fun hcc => (by first | exact ca _ | exact cb _ | exact ce _ | exact co _)) ?_ | (refine lP ?_; refine lQ (fun hcc m => (by first | exact ca _ | exact cb _ | exact ce _ | exact co _)) ?_)) | (show XCallQ ..; first | refine xQ (fun hcc => (by first | exact ca _ | exact cb _ | exact ce _ | exact co _)) ?_ | (refine xlP ?_; refine xlQ (fun hcc m => (by first | exact ca _ | exact cb _ | exact ce _ | exact co _)) ?_)) | (show Fct ..; refine fctI (fun hf => ?_)) | (show SWp _ _ _ (.cond _ _ _) _ _ _ _; first | refine cB (fun hc => ?_) (fun hc => ?_) | refine cU ?_ ?_)))
  refine loop_swp [1, 7, 29, 30, 31] [] 0 (fun q A H => ∃ i : Nat, i ≤ a.length ∧ q = a.length - i ∧ ((List.range i).any fun i => evM (a.getD i default) (b.getD i default)) = false ∧ A = [(1, intss b), (7, lb ((List.range i).all fun i => evW (a.getD i default) (b.getD i default))), (29, intss a), (30, li a.length), (31, li i)] ∧ H = []) (by omega) ?_ ?_ ?_
  · rintro q A H ⟨i, g1, g2, g3, rfl, rfl⟩
    exact ⟨by (exact SD), by (exact SD)⟩
  · refine ⟨_, 0, by omega, rfl, rfl, ?_, ?_⟩
    · exact DVR
    · exact DVR
  rintro q A H ⟨i, g1, g2, g3, rfl, rfl⟩
  by_cases hi : i < a.length
  · have hi3 : (i : Int) < (a.length : Int) := by omega
    (have := Nonempty.intro hi3)
    have hi4 : i < b.length := by omega
    (have := Nonempty.intro hi)
    (have := Nonempty.intro hi4)
    have hl2 := hszs.2 i hi
    have hev2 := hev i hi
    have hra := rows_len ha hi
    have hnx := all_next (fun i => evW (a.getD i default) (b.getD i default)) i
    have hny := any_next (fun i => evM (a.getD i default) (b.getD i default)) i
    have hmi : evM (a.getD i default) (b.getD i default) = true → ((List.range a.length).any fun i => evM (a.getD i default) (b.getD i default)) = true := fun h => List.any_eq_true.2 ⟨i, List.mem_range.2 hi, h⟩
    generalize hWW : ((List.range i).all fun i => evW (a.getD i default) (b.getD i default)) = W at *
    (repeat' (first | refine swp_seq [0, 1, 4, 5, 6, 7, 8, 9, 10, 11, 12, 13, 20, 25, 29, 30, 31, 32, 39, 53, 77] ?_ | refine st2 ?_ | (show Fct ..; refine fctI (fun hf => ?_)) | (show SWp _ _ _ (.cond _ _ _) _ _ _ _; first | refine cB (fun hc => ?_) (fun hc => ?_) | refine cU ?_ ?_)))
    refine loop_swp [1, 7, 8, 9, 10, 29, 30, 31] [] 0 (fun q A H => ∃ j k : Nat, k = 2 * j ∧ k ≤ (a.getD i default).length ∧ q = (a.getD i default).length - k ∧ ((List.range j).any fun j => decide (¬ (a.getD i default).getD (2 * j) default = (b.getD i default).getD (2 * j) default)) = false ∧ A = [(1, intss b), (7, lb (W && (List.range j).all fun j => wkP ((a.getD i default).getD (2 * j + 1) default) ((b.getD i default).getD (2 * j + 1) default))), (8, li i), (9, ints (a.getD i default)), (10, li k), (29, intss a), (30, li a.length), (31, li i)] ∧ H = []) (by omega) ?_ ?_ ?_
    · rintro q A H ⟨j, k, hk, g4, g5, g6, rfl, rfl⟩
      exact ⟨by (exact SD), by (exact SD)⟩
    · refine ⟨_, 0, 0, rfl, by omega, rfl, rfl, ?_, ?_⟩
      · simp only [List.range_zero, List.all_nil, Bool.and_true]
        exact DVR
      · exact DVR
    rintro q A H ⟨j, k, hk, g4, g5, g6, rfl, rfl⟩
    by_cases hj : k < (a.getD i default).length
    · have hj3 : (k : Int) < ((a.getD i default).length : Int) := by omega
      (have := Nonempty.intro hj3)
      (have := Nonempty.intro hj)
      have hj4 : k < (b.getD i default).length := by omega
      (have := Nonempty.intro hj4)
      have hj5 : k + 1 < (a.getD i default).length := by omega
      (have := Nonempty.intro hj5)
      have hj6 : k + 1 < (b.getD i default).length := by omega
      (have := Nonempty.intro hj6)
      have hjl : j < (a.getD i default).length / 2 := by omega
      by_cases hne : (a.getD i default).getD k default = (b.getD i default).getD k default
      · (have := Nonempty.intro hne)
        have hwn := all_next (fun j => wkP ((a.getD i default).getD (2 * j + 1) default) ((b.getD i default).getD (2 * j + 1) default)) j
        have hwm := any_next (fun j => decide (¬ (a.getD i default).getD (2 * j) default = (b.getD i default).getD (2 * j) default)) j
        rw [g6, ← hk, decide_eq_false (fun q => q hne)] at hwm
        rw [← hk] at hwn
        generalize hVV : ((List.range j).all fun j => wkP ((a.getD i default).getD (2 * j + 1) default) ((b.getD i default).getD (2 * j + 1) default)) = V at *
        by_cases y1 : (b.getD i default).getD (k + 1) default = -1
        · (have := Nonempty.intro y1)
          (repeat' (first | refine swp_seq [0, 1, 4, 5, 6, 7, 8, 9, 10, 11, 12, 13, 20, 25, 29, 30, 31, 32, 39, 53, 77] ?_ | refine st2 ?_ | (show Fct ..; refine fctI (fun hf => ?_)) | (show SWp _ _ _ (.cond _ _ _) _ _ _ _; first | refine cB (fun hc => ?_) (fun hc => ?_) | refine cU ?_ ?_)))
          (refine lN [] ?_)
          exact ⟨_, by omega, j + 1, k + 2, by omega, by omega, rfl, hwm, by rw [hwn]; unfold wkP; rw [decide_eq_true y1]; simp only [Bool.true_or, Bool.and_true]; rfl, rfl⟩
        · (have := Nonempty.intro y1)
          by_cases x1 : (a.getD i default).getD (k + 1) default = -1
          · (have := Nonempty.intro x1)
            (repeat' (first | refine swp_seq [0, 1, 4, 5, 6, 7, 8, 9, 10, 11, 12, 13, 20, 25, 29, 30, 31, 32, 39, 53, 77] ?_ | refine st2 ?_ | (show Fct ..; refine fctI (fun hf => ?_)) | (show SWp _ _ _ (.cond _ _ _) _ _ _ _; first | refine cB (fun hc => ?_) (fun hc => ?_) | refine cU ?_ ?_)))
            (refine lN [] ?_)
            exact ⟨_, by omega, j + 1, k + 2, by omega, by omega, rfl, hwm, by rw [hwn]; unfold wkP; rw [decide_eq_false y1, decide_eq_true x1]; simp only [Bool.not_true, Bool.false_and, Bool.or_false, Bool.and_false]; rfl, rfl⟩
          · (have := Nonempty.intro x1)
            by_cases x2 : (b.getD i default).getD (k + 1) default < (a.getD i default).getD (k + 1) default
            · (have := Nonempty.intro x2)
              (repeat' (first | refine swp_seq [0, 1, 4, 5, 6, 7, 8, 9, 10, 11, 12, 13, 20, 25, 29, 30, 31, 32, 39, 53, 77] ?_ | refine st2 ?_ | (show Fct ..; refine fctI (fun hf => ?_)) | (show SWp _ _ _ (.cond _ _ _) _ _ _ _; first | refine cB (fun hc => ?_) (fun hc => ?_) | refine cU ?_ ?_)))
              (refine lN [] ?_)
              exact ⟨_, by omega, j + 1, k + 2, by omega, by omega, rfl, hwm, by rw [hwn]; unfold wkP; rw [decide_eq_false y1, decide_eq_false x1, decide_eq_false (by omega)]; simp only [Bool.and_false, Bool.or_false]; rfl, rfl⟩
            · (have := Nonempty.intro x2)
              (repeat' (first | refine swp_seq [0, 1, 4, 5, 6, 7, 8, 9, 10, 11, 12, 13, 20, 25, 29, 30, 31, 32, 39, 53, 77] ?_ | refine st2 ?_ | (show Fct ..; refine fctI (fun hf => ?_)) | (show SWp _ _ _ (.cond _ _ _) _ _ _ _; first | refine cB (fun hc => ?_) (fun hc => ?_) | refine cU ?_ ?_)))
              (refine lN [] ?_)
              exact ⟨_, by omega, j + 1, k + 2, by omega, by omega, rfl, hwm, by rw [hwn]; unfold wkP; rw [decide_eq_false y1, decide_eq_false x1, decide_eq_true (by omega)]; simp only [Bool.not_false, Bool.true_and, Bool.or_true, Bool.and_true]; rfl, rfl⟩
      · (have := Nonempty.intro hne)
        have hT := hmi (by
          unfold evM
          exact List.any_eq_true.2 ⟨j, List.mem_range.2 hjl, by rw [← hk]; exact decide_eq_true hne⟩)
        rw [if_pos hT]
        (repeat' (first | refine swp_seq [0, 1, 4, 5, 6, 7, 8, 9, 10, 11, 12, 13, 20, 25, 29, 30, 31, 32, 39, 53, 77] ?_ | refine st2 ?_ | (show Fct ..; refine fctI (fun hf => ?_)) | (show SWp _ _ _ (.cond _ _ _) _ _ _ _; first | refine cB (fun hc => ?_) (fun hc => ?_) | refine cU ?_ ?_)))
        exact DVR
    have hj2 : k = (a.getD i default).length := by omega
    have hj3 : ¬ ((k : Int) < ((a.getD i default).length : Int)) := by omega
    (have := Nonempty.intro hj3)
    have hjl : j = (a.getD i default).length / 2 := by omega
    rw [hjl] at g6 ⊢
    (repeat' (first | refine swp_seq [0, 1, 4, 5, 6, 7, 8, 9, 10, 11, 12, 13, 20, 25, 29, 30, 31, 32, 39, 53, 77] ?_ | refine st2 ?_ | (show Fct ..; refine fctI (fun hf => ?_)) | (show SWp _ _ _ (.cond _ _ _) _ _ _ _; first | refine cB (fun hc => ?_) (fun hc => ?_) | refine cU ?_ ?_)))
    (refine lN [] ?_)
    refine ⟨_, by omega, i + 1, by omega, rfl, ?_, ?_, rfl⟩
    · rw [hny, g3]; unfold evM; rw [g6]; rfl
    · rw [hnx]; unfold evW; rfl
  have hi2 : i = a.length := by omega
  have hi3 : ¬ ((i : Int) < (a.length : Int)) := by omega
  (have := Nonempty.intro hi3)
  rw [hi2] at g3
  rw [if_neg (by rw [g3]; decide)]
  (repeat' (first | refine swp_seq [0, 1, 4, 5, 6, 7, 8, 9, 10, 11, 12, 13, 20, 25, 29, 30, 31, 32, 39, 53, 77] ?_ | refine st2 ?_ | (show Fct ..; refine fctI (fun hf => ?_)) | (show SWp _ _ _ (.cond _ _ _) _ _ _ _; first | refine cB (fun hc => ?_) (fun hc => ?_) | refine cU ?_ ?_)))
  rw [hi2]
  exact DVR
set_option maxRecDepth 20000 in
set_option maxHeartbeats 4000000 in
theorem pValid_x (m : Nat) : DCalls Try.prog 18 [planD exP] (hget []) m (lb true) (hget []) := by
  refine pureC (n := 109) (rs := [.tmp 2]) (ts := [4]) Try.func18 rfl (by decide) [] (by (exact SD)) ?_
  (repeat' (first | (show SWp _ _ _ (.loop _) _ _ _ _; refine swp_rounds (lwp_round ?_)) | (show roundK ..; first | refine roundK_ret ?_ | refine roundK_exit ?_ | refine roundK_normal [0, 1, 2, 4, 5, 6, 53, 55, 56, 57, 58, 63, 66, 67, 68, 69, 89] (by (refine DVQ ?_) <;> rfl) ?_) | refine swp_seq [0, 1, 2, 4, 5, 6, 53, 55, 56, 57, 58, 63, 66, 67, 68, 69, 89] ?_ | refine st1 ?_ | (show CallQ ..; first | refine cF ?_ | refine cQ (fun hcc => (by first | exact wit_a _ _ _ _ (by decide) (by decide) | exact tValid_x _)) ?_ | (refine lP ?_; refine lQ (fun hcc m => (by first | exact wit_a _ _ _ _ (by decide) (by decide) | exact tValid_x _)) ?_)) | (show Fct ..; refine fctI (fun hf => ?_)) | (show XCallQ ..; first | refine xcF ?_ | refine xQ (fun hcc => (by first | exact wit_a _ _ _ _ (by decide) (by decide) | exact tValid_x _)) ?_ | (refine xlP ?_; refine xlQ (fun hcc m => (by first | exact wit_a _ _ _ _ (by decide) (by decide) | exact tValid_x _)) ?_)) | (show SWp _ _ _ (.region _ _ true) _ _ _ _; refine xG mixed [] ?_) | (show SWp _ _ _ (.cond _ _ _) _ _ _ _; first | (refine cB (fun hc => ?_) (fun hc => ?_) <;> first | exact False.elim hc | exact absurd hc Bool.false_ne_true | exact absurd hc.symm Bool.false_ne_true | skip) | refine cU ?_ ?_)))
  all_goals first | rfl | (exact DVR)
abbrev rA : List Int := [5, 0]
abbrev rB : List Int := [6, 0, 10, 0]
abbrev rC : List Int := [5, 1]
set_option maxRecDepth 20000 in
set_option maxHeartbeats 4000000 in
theorem find_1 (m : Nat) : DCalls Try.prog 68 [ints [5, 0], li 5] (hget []) m (.tup [li 0, lb true]) (hget []) := by
  refine pureC (n := 49) (rs := [.tmp 4, .tmp 5]) (ts := [3, 4]) Try.func68 rfl (by decide) [] (by (exact SD)) ?_
  (repeat' (first | (show SWp _ _ _ (.loop _) _ _ _ _; refine swp_rounds (lwp_round ?_)) | (show roundK ..; first | refine roundK_ret ?_ | refine roundK_exit ?_ | refine roundK_normal [0, 1, 4, 5, 6, 7, 8, 14, 25, 42] (by (refine DVQ ?_) <;> rfl) ?_) | refine swp_seq [0, 1, 4, 5, 6, 7, 8, 14, 25, 42] ?_ | refine st1 ?_ | (show CallQ ..; first | refine cF ?_ | refine cQ (fun hcc => (by fail)) ?_ | (refine lP ?_; refine lQ (fun hcc m => (by fail)) ?_)) | (show Fct ..; refine fctI (fun hf => ?_)) | (show XCallQ ..; first | refine xcF ?_ | refine xQ (fun hcc => (by fail)) ?_ | (refine xlP ?_; refine xlQ (fun hcc m => (by fail)) ?_)) | (show SWp _ _ _ (.region _ _ true) _ _ _ _; refine xG mixed [] ?_) | (show SWp _ _ _ (.cond _ _ _) _ _ _ _; first | (refine cB (fun hc => ?_) (fun hc => ?_) <;> first | exact False.elim hc | exact absurd hc Bool.false_ne_true | exact absurd hc.symm Bool.false_ne_true | skip) | refine cU ?_ ?_)))
  all_goals first | rfl | (exact DVR)
set_option maxRecDepth 20000 in
set_option maxHeartbeats 4000000 in
theorem find_2 (m : Nat) : DCalls Try.prog 68 [ints [6, 0, 10, 0], li 5] (hget []) m (.tup [li 0, lb false]) (hget []) := by
  refine pureC (n := 49) (rs := [.tmp 4, .tmp 5]) (ts := [3, 4]) Try.func68 rfl (by decide) [] (by (exact SD)) ?_
  (repeat' (first | (show SWp _ _ _ (.loop _) _ _ _ _; refine swp_rounds (lwp_round ?_)) | (show roundK ..; first | refine roundK_ret ?_ | refine roundK_exit ?_ | refine roundK_normal [0, 1, 4, 5, 6, 7, 8, 14, 25, 42] (by (refine DVQ ?_) <;> rfl) ?_) | refine swp_seq [0, 1, 4, 5, 6, 7, 8, 14, 25, 42] ?_ | refine st1 ?_ | (show CallQ ..; first | refine cF ?_ | refine cQ (fun hcc => (by fail)) ?_ | (refine lP ?_; refine lQ (fun hcc m => (by fail)) ?_)) | (show Fct ..; refine fctI (fun hf => ?_)) | (show XCallQ ..; first | refine xcF ?_ | refine xQ (fun hcc => (by fail)) ?_ | (refine xlP ?_; refine xlQ (fun hcc m => (by fail)) ?_)) | (show SWp _ _ _ (.region _ _ true) _ _ _ _; refine xG mixed [] ?_) | (show SWp _ _ _ (.cond _ _ _) _ _ _ _; first | (refine cB (fun hc => ?_) (fun hc => ?_) <;> first | exact False.elim hc | exact absurd hc Bool.false_ne_true | exact absurd hc.symm Bool.false_ne_true | skip) | refine cU ?_ ?_)))
  all_goals first | rfl | (exact DVR)
set_option maxRecDepth 20000 in
set_option maxHeartbeats 4000000 in
theorem find_3 (m : Nat) : DCalls Try.prog 68 [ints [6, 0, 10, 0], li 10] (hget []) m (.tup [li 0, lb true]) (hget []) := by
  refine pureC (n := 49) (rs := [.tmp 4, .tmp 5]) (ts := [3, 4]) Try.func68 rfl (by decide) [] (by (exact SD)) ?_
  (repeat' (first | (show SWp _ _ _ (.loop _) _ _ _ _; refine swp_rounds (lwp_round ?_)) | (show roundK ..; first | refine roundK_ret ?_ | refine roundK_exit ?_ | refine roundK_normal [0, 1, 4, 5, 6, 7, 8, 14, 25, 42] (by (refine DVQ ?_) <;> rfl) ?_) | refine swp_seq [0, 1, 4, 5, 6, 7, 8, 14, 25, 42] ?_ | refine st1 ?_ | (show CallQ ..; first | refine cF ?_ | refine cQ (fun hcc => (by fail)) ?_ | (refine lP ?_; refine lQ (fun hcc m => (by fail)) ?_)) | (show Fct ..; refine fctI (fun hf => ?_)) | (show XCallQ ..; first | refine xcF ?_ | refine xQ (fun hcc => (by fail)) ?_ | (refine xlP ?_; refine xlQ (fun hcc m => (by fail)) ?_)) | (show SWp _ _ _ (.region _ _ true) _ _ _ _; refine xG mixed [] ?_) | (show SWp _ _ _ (.cond _ _ _) _ _ _ _; first | (refine cB (fun hc => ?_) (fun hc => ?_) <;> first | exact False.elim hc | exact absurd hc Bool.false_ne_true | exact absurd hc.symm Bool.false_ne_true | skip) | refine cU ?_ ?_)))
  all_goals first | rfl | (exact DVR)
set_option maxRecDepth 20000 in
set_option maxHeartbeats 4000000 in
theorem find_4 (m : Nat) : DCalls Try.prog 68 [ints [6, 0, 10, 0], li 6] (hget []) m (.tup [li 0, lb true]) (hget []) := by
  refine pureC (n := 49) (rs := [.tmp 4, .tmp 5]) (ts := [3, 4]) Try.func68 rfl (by decide) [] (by (exact SD)) ?_
  (repeat' (first | (show SWp _ _ _ (.loop _) _ _ _ _; refine swp_rounds (lwp_round ?_)) | (show roundK ..; first | refine roundK_ret ?_ | refine roundK_exit ?_ | refine roundK_normal [0, 1, 4, 5, 6, 7, 8, 14, 25, 42] (by (refine DVQ ?_) <;> rfl) ?_) | refine swp_seq [0, 1, 4, 5, 6, 7, 8, 14, 25, 42] ?_ | refine st1 ?_ | (show CallQ ..; first | refine cF ?_ | refine cQ (fun hcc => (by fail)) ?_ | (refine lP ?_; refine lQ (fun hcc m => (by fail)) ?_)) | (show Fct ..; refine fctI (fun hf => ?_)) | (show XCallQ ..; first | refine xcF ?_ | refine xQ (fun hcc => (by fail)) ?_ | (refine xlP ?_; refine xlQ (fun hcc m => (by fail)) ?_)) | (show SWp _ _ _ (.region _ _ true) _ _ _ _; refine xG mixed [] ?_) | (show SWp _ _ _ (.cond _ _ _) _ _ _ _; first | (refine cB (fun hc => ?_) (fun hc => ?_) <;> first | exact False.elim hc | exact absurd hc Bool.false_ne_true | exact absurd hc.symm Bool.false_ne_true | skip) | refine cU ?_ ?_)))
  all_goals first | rfl | (exact DVR)
set_option maxRecDepth 20000 in
set_option maxHeartbeats 4000000 in
theorem find_5 (m : Nat) : DCalls Try.prog 68 [ints [5, 1], li 5] (hget []) m (.tup [li 1, lb true]) (hget []) := by
  refine pureC (n := 49) (rs := [.tmp 4, .tmp 5]) (ts := [3, 4]) Try.func68 rfl (by decide) [] (by (exact SD)) ?_
  (repeat' (first | (show SWp _ _ _ (.loop _) _ _ _ _; refine swp_rounds (lwp_round ?_)) | (show roundK ..; first | refine roundK_ret ?_ | refine roundK_exit ?_ | refine roundK_normal [0, 1, 4, 5, 6, 7, 8, 14, 25, 42] (by (refine DVQ ?_) <;> rfl) ?_) | refine swp_seq [0, 1, 4, 5, 6, 7, 8, 14, 25, 42] ?_ | refine st1 ?_ | (show CallQ ..; first | refine cF ?_ | refine cQ (fun hcc => (by fail)) ?_ | (refine lP ?_; refine lQ (fun hcc m => (by fail)) ?_)) | (show Fct ..; refine fctI (fun hf => ?_)) | (show XCallQ ..; first | refine xcF ?_ | refine xQ (fun hcc => (by fail)) ?_ | (refine xlP ?_; refine xlQ (fun hcc m => (by fail)) ?_)) | (show SWp _ _ _ (.region _ _ true) _ _ _ _; refine xG mixed [] ?_) | (show SWp _ _ _ (.cond _ _ _) _ _ _ _; first | (refine cB (fun hc => ?_) (fun hc => ?_) <;> first | exact False.elim hc | exact absurd hc Bool.false_ne_true | exact absurd hc.symm Bool.false_ne_true | skip) | refine cU ?_ ?_)))
  all_goals first | rfl | (exact DVR)
set_option maxRecDepth 20000 in
set_option maxHeartbeats 4000000 in
theorem shaped_1 (m : Nat) : DCalls Try.prog 87 [planD exP, intss [[5, 0], [6, 0, 10, 0]]] (hget []) m (lb true) (hget []) := by
  refine pureC (n := 74) (rs := [.tmp 4]) (ts := [4]) Try.func87 rfl (by decide) [] (by (exact SD)) ?_
  (repeat' (first | (show SWp _ _ _ (.loop _) _ _ _ _; refine swp_rounds (lwp_round ?_)) | (show roundK ..; first | refine roundK_ret ?_ | refine roundK_exit ?_ | refine roundK_normal [0, 1, 2, 4, 6, 7, 8, 9, 16, 17, 18, 19, 20, 26, 30, 72] (by (refine DVQ ?_) <;> rfl) ?_) | refine swp_seq [0, 1, 2, 4, 6, 7, 8, 9, 16, 17, 18, 19, 20, 26, 30, 72] ?_ | refine st1 ?_ | (show CallQ ..; first | refine cF ?_ | refine cQ (fun hcc => (by fail)) ?_ | (refine lP ?_; refine lQ (fun hcc m => (by fail)) ?_)) | (show Fct ..; refine fctI (fun hf => ?_)) | (show XCallQ ..; first | refine xcF ?_ | refine xQ (fun hcc => (by fail)) ?_ | (refine xlP ?_; refine xlQ (fun hcc m => (by fail)) ?_)) | (show SWp _ _ _ (.region _ _ true) _ _ _ _; refine xG mixed [] ?_) | (show SWp _ _ _ (.cond _ _ _) _ _ _ _; first | (refine cB (fun hc => ?_) (fun hc => ?_) <;> first | exact False.elim hc | exact absurd hc Bool.false_ne_true | exact absurd hc.symm Bool.false_ne_true | skip) | refine cU ?_ ?_)))
  all_goals first | rfl | (exact DVR)
set_option maxRecDepth 20000 in
set_option maxHeartbeats 4000000 in
theorem shaped_2 (m : Nat) : DCalls Try.prog 87 [planD exP, intss [[5, 1], [6, 0, 10, 0]]] (hget []) m (lb true) (hget []) := by
  refine pureC (n := 74) (rs := [.tmp 4]) (ts := [4]) Try.func87 rfl (by decide) [] (by (exact SD)) ?_
  (repeat' (first | (show SWp _ _ _ (.loop _) _ _ _ _; refine swp_rounds (lwp_round ?_)) | (show roundK ..; first | refine roundK_ret ?_ | refine roundK_exit ?_ | refine roundK_normal [0, 1, 2, 4, 6, 7, 8, 9, 16, 17, 18, 19, 20, 26, 30, 72] (by (refine DVQ ?_) <;> rfl) ?_) | refine swp_seq [0, 1, 2, 4, 6, 7, 8, 9, 16, 17, 18, 19, 20, 26, 30, 72] ?_ | refine st1 ?_ | (show CallQ ..; first | refine cF ?_ | refine cQ (fun hcc => (by fail)) ?_ | (refine lP ?_; refine lQ (fun hcc m => (by fail)) ?_)) | (show Fct ..; refine fctI (fun hf => ?_)) | (show XCallQ ..; first | refine xcF ?_ | refine xQ (fun hcc => (by fail)) ?_ | (refine xlP ?_; refine xlQ (fun hcc m => (by fail)) ?_)) | (show SWp _ _ _ (.region _ _ true) _ _ _ _; refine xG mixed [] ?_) | (show SWp _ _ _ (.cond _ _ _) _ _ _ _; first | (refine cB (fun hc => ?_) (fun hc => ?_) <;> first | exact False.elim hc | exact absurd hc Bool.false_ne_true | exact absurd hc.symm Bool.false_ne_true | skip) | refine cU ?_ ?_)))
  all_goals first | rfl | (exact DVR)
abbrev vA : List (List Int) := [[5, 0], [6, 0, 10, 0]]
abbrev vC : List (List Int) := [[5, 1], [6, 0, 10, 0]]
abbrev hH (v : List (List Int)) (i x : Int) : LH := [(8, .blk 39 [intss v]), (16, .blk 3 [li i]), (320, .blk 3 [li x])]
abbrev hF : DV := .clo 88 [.ptr 8 0, .ptr 16 0, .ptr 320 0]
set_option maxRecDepth 20000 in
theorem h1_1 (m : Nat) : DCalls Try.prog 88 [li 10, li 0, .ptr 8 0, .ptr 16 0, .ptr 320 0] (hget (hH vA 0 0)) m (lb true) (hget (hH vA 0 0)) := by
  refine contract (n := 36) (rs := [.tmp 7]) (ts := [4]) Try.func88 rfl (by decide) 321 321 [] [] [] (lb true) (hH vA 0 0) (by (exact SD)) (by (exact SD)) ?_
  (repeat' (first | (show SWp _ _ _ (.loop _) _ _ _ _; refine swp_rounds (lwp_round ?_)) | (show roundK ..; first | refine roundK_ret ?_ | refine roundK_exit ?_ | refine roundK_normal [0, 1, 2, 3, 4, 7, 8, 9] (by (refine DVQ ?_) <;> rfl) ?_) | refine swp_seq [0, 1, 2, 3, 4, 7, 8, 9] ?_ | refine st1 ?_ | (show CallQ ..; first | refine cF ?_ | refine cQ (fun hcc => (by first | exact find_3 _)) ?_ | (refine lP ?_; refine lQ (fun hcc m => (by first | exact find_3 _)) ?_)) | (show Fct ..; refine fctI (fun hf => ?_)) | (show XCallQ ..; first | refine xcF ?_ | refine xQ (fun hcc => (by first | exact find_3 _)) ?_ | (refine xlP ?_; refine xlQ (fun hcc m => (by first | exact find_3 _)) ?_)) | (show SWp _ _ _ (.region _ _ true) _ _ _ _; refine xG mixed [] ?_) | (show SWp _ _ _ (.cond _ _ _) _ _ _ _; first | (refine cB (fun hc => ?_) (fun hc => ?_) <;> first | exact False.elim hc | exact absurd hc Bool.false_ne_true | exact absurd hc.symm Bool.false_ne_true | skip) | refine cU ?_ ?_)))
  all_goals first | rfl | (exact DVR) | (exact DVS)
set_option maxRecDepth 20000 in
theorem h1_2 (m : Nat) : DCalls Try.prog 88 [li 6, li 8, .ptr 8 0, .ptr 16 0, .ptr 320 0] (hget (hH vA 0 0)) m (lb true) (hget (hH vA 0 0)) := by
  refine contract (n := 36) (rs := [.tmp 7]) (ts := [4]) Try.func88 rfl (by decide) 321 321 [] [] [] (lb true) (hH vA 0 0) (by (exact SD)) (by (exact SD)) ?_
  (repeat' (first | (show SWp _ _ _ (.loop _) _ _ _ _; refine swp_rounds (lwp_round ?_)) | (show roundK ..; first | refine roundK_ret ?_ | refine roundK_exit ?_ | refine roundK_normal [0, 1, 2, 3, 4, 7, 8, 9] (by (refine DVQ ?_) <;> rfl) ?_) | refine swp_seq [0, 1, 2, 3, 4, 7, 8, 9] ?_ | refine st1 ?_ | (show CallQ ..; first | refine cF ?_ | refine cQ (fun hcc => (by first | exact find_4 _)) ?_ | (refine lP ?_; refine lQ (fun hcc m => (by first | exact find_4 _)) ?_)) | (show Fct ..; refine fctI (fun hf => ?_)) | (show XCallQ ..; first | refine xcF ?_ | refine xQ (fun hcc => (by first | exact find_4 _)) ?_ | (refine xlP ?_; refine xlQ (fun hcc m => (by first | exact find_4 _)) ?_)) | (show SWp _ _ _ (.region _ _ true) _ _ _ _; refine xG mixed [] ?_) | (show SWp _ _ _ (.cond _ _ _) _ _ _ _; first | (refine cB (fun hc => ?_) (fun hc => ?_) <;> first | exact False.elim hc | exact absurd hc Bool.false_ne_true | exact absurd hc.symm Bool.false_ne_true | skip) | refine cU ?_ ?_)))
  all_goals first | rfl | (exact DVR) | (exact DVS)
set_option maxRecDepth 20000 in
theorem h1_3 (m : Nat) : DCalls Try.prog 88 [li 10, li 0, .ptr 8 0, .ptr 16 0, .ptr 320 0] (hget (hH vC 0 1)) m (lb false) (hget (hH vC 0 1)) := by
  refine contract (n := 36) (rs := [.tmp 7]) (ts := [4]) Try.func88 rfl (by decide) 321 321 [] [] [] (lb false) (hH vC 0 1) (by (exact SD)) (by (exact SD)) ?_
  (repeat' (first | (show SWp _ _ _ (.loop _) _ _ _ _; refine swp_rounds (lwp_round ?_)) | (show roundK ..; first | refine roundK_ret ?_ | refine roundK_exit ?_ | refine roundK_normal [0, 1, 2, 3, 4, 7, 8, 9] (by (refine DVQ ?_) <;> rfl) ?_) | refine swp_seq [0, 1, 2, 3, 4, 7, 8, 9] ?_ | refine st1 ?_ | (show CallQ ..; first | refine cF ?_ | refine cQ (fun hcc => (by first | exact find_3 _)) ?_ | (refine lP ?_; refine lQ (fun hcc m => (by first | exact find_3 _)) ?_)) | (show Fct ..; refine fctI (fun hf => ?_)) | (show XCallQ ..; first | refine xcF ?_ | refine xQ (fun hcc => (by first | exact find_3 _)) ?_ | (refine xlP ?_; refine xlQ (fun hcc m => (by first | exact find_3 _)) ?_)) | (show SWp _ _ _ (.region _ _ true) _ _ _ _; refine xG mixed [] ?_) | (show SWp _ _ _ (.cond _ _ _) _ _ _ _; first | (refine cB (fun hc => ?_) (fun hc => ?_) <;> first | exact False.elim hc | exact absurd hc Bool.false_ne_true | exact absurd hc.symm Bool.false_ne_true | skip) | refine cU ?_ ?_)))
  all_goals first | rfl | (exact DVR) | (exact DVS)
set_option maxRecDepth 20000 in
set_option maxHeartbeats 4000000 in
theorem steps_1 (m : Nat) : DCalls Try.prog 66 [planD exP, li 0, li 5, hF] (hget (hH vA 0 0)) m (lb true) (hget (hH vA 0 0)) := by
  refine contract (n := 61) (rs := [.tmp 8]) (ts := [4]) Try.func66 rfl (by decide) 321 321 [] [] [] (lb true) (hH vA 0 0) (by (exact SD)) (by (exact SD)) ?_
  (repeat' (first | (show SWp _ _ _ (.loop _) _ _ _ _; refine swp_rounds (lwp_round ?_)) | (show roundK ..; first | refine roundK_ret ?_ | refine roundK_exit ?_ | refine roundK_normal [0, 1, 2, 3, 4, 8, 10, 11, 12, 13, 14, 16, 17, 18, 19, 34, 43, 59] (by (refine DVQ ?_) <;> rfl) ?_) | refine swp_seq [0, 1, 2, 3, 4, 8, 10, 11, 12, 13, 14, 16, 17, 18, 19, 34, 43, 59] ?_ | refine st1 ?_ | (show CallQ ..; first | refine cF ?_ | refine cQ (fun hcc => (by first | exact floor_0 _ | exact floor_4 _ | exact h1_1 _ | exact h1_2 _)) ?_ | (refine lP ?_; refine lQ (fun hcc m => (by first | exact floor_0 _ | exact floor_4 _ | exact h1_1 _ | exact h1_2 _)) ?_)) | (show Fct ..; refine fctI (fun hf => ?_)) | (show XCallQ ..; first | refine xcF ?_ | refine xQ (fun hcc => (by first | exact floor_0 _ | exact floor_4 _ | exact h1_1 _ | exact h1_2 _)) ?_ | (refine xlP ?_; refine xlQ (fun hcc m => (by first | exact floor_0 _ | exact floor_4 _ | exact h1_1 _ | exact h1_2 _)) ?_)) | (show SWp _ _ _ (.region _ _ true) _ _ _ _; refine xG mixed [] ?_) | (show SWp _ _ _ (.cond _ _ _) _ _ _ _; first | (refine cB (fun hc => ?_) (fun hc => ?_) <;> first | exact False.elim hc | exact absurd hc Bool.false_ne_true | exact absurd hc.symm Bool.false_ne_true | skip) | refine cU ?_ ?_)))
  all_goals first | rfl | (exact DVR) | (exact DVS)
set_option maxRecDepth 20000 in
set_option maxHeartbeats 4000000 in
theorem steps_3 (m : Nat) : DCalls Try.prog 66 [planD exP, li 0, li 5, hF] (hget (hH vC 0 1)) m (lb false) (hget (hH vC 0 1)) := by
  refine contract (n := 61) (rs := [.tmp 8]) (ts := [4]) Try.func66 rfl (by decide) 321 321 [] [] [] (lb false) (hH vC 0 1) (by (exact SD)) (by (exact SD)) ?_
  (repeat' (first | (show SWp _ _ _ (.loop _) _ _ _ _; refine swp_rounds (lwp_round ?_)) | (show roundK ..; first | refine roundK_ret ?_ | refine roundK_exit ?_ | refine roundK_normal [0, 1, 2, 3, 4, 8, 10, 11, 12, 13, 14, 16, 17, 18, 19, 34, 43, 59] (by (refine DVQ ?_) <;> rfl) ?_) | refine swp_seq [0, 1, 2, 3, 4, 8, 10, 11, 12, 13, 14, 16, 17, 18, 19, 34, 43, 59] ?_ | refine st1 ?_ | (show CallQ ..; first | refine cF ?_ | refine cQ (fun hcc => (by first | exact floor_0 _ | exact floor_4 _ | exact h1_3 _)) ?_ | (refine lP ?_; refine lQ (fun hcc m => (by first | exact floor_0 _ | exact floor_4 _ | exact h1_3 _)) ?_)) | (show Fct ..; refine fctI (fun hf => ?_)) | (show XCallQ ..; first | refine xcF ?_ | refine xQ (fun hcc => (by first | exact floor_0 _ | exact floor_4 _ | exact h1_3 _)) ?_ | (refine xlP ?_; refine xlQ (fun hcc m => (by first | exact floor_0 _ | exact floor_4 _ | exact h1_3 _)) ?_)) | (show SWp _ _ _ (.region _ _ true) _ _ _ _; refine xG mixed [] ?_) | (show SWp _ _ _ (.cond _ _ _) _ _ _ _; first | (refine cB (fun hc => ?_) (fun hc => ?_) <;> first | exact False.elim hc | exact absurd hc Bool.false_ne_true | exact absurd hc.symm Bool.false_ne_true | skip) | refine cU ?_ ?_)))
  all_goals first | rfl | (exact DVR) | (exact DVS)
set_option maxRecDepth 20000 in
set_option maxHeartbeats 4000000 in
theorem holds_1 (m : Nat) : DCalls Try.prog 70 [planD exP, intss vA, li 0] (hget []) m (lb true) (hget []) := by
  refine pureC (n := 58) (rs := [.tmp 6]) (ts := [4]) Try.func70 rfl (by decide) [] (by (exact SD)) ?_
  (repeat' (first | (show SWp _ _ _ (.loop _) _ _ _ _; refine swp_rounds (lwp_round ?_)) | (show roundK ..; first | refine roundK_ret ?_ | refine roundK_exit ?_ | refine roundK_normal [0, 1, 2, 3, 4, 5, 6, 7, 9, 10, 11, 12, 29, 38, 46, 48, 57] (by (refine DVQ ?_) <;> rfl) ?_) | refine swp_seq [0, 1, 2, 3, 4, 5, 6, 7, 9, 10, 11, 12, 29, 38, 46, 48, 57] ?_ | refine st1 ?_ | (show CallQ ..; first | refine cF ?_ | refine cQ (fun hcc => (by first | exact find_1 _ | exact steps_1 _)) ?_ | (refine lP ?_; refine lQ (fun hcc m => (by first | exact find_1 _ | exact steps_1 _)) ?_)) | (show Fct ..; refine fctI (fun hf => ?_)) | (show XCallQ ..; first | refine xcF ?_ | refine xQ (fun hcc => (by first | exact find_1 _ | exact steps_1 _)) ?_ | (refine xlP ?_; refine xlQ (fun hcc m => (by first | exact find_1 _ | exact steps_1 _)) ?_)) | (show SWp _ _ _ (.region _ _ true) _ _ _ _; refine xG mixed [8, 16, 320] ?_) | (show SWp _ _ _ (.cond _ _ _) _ _ _ _; first | (refine cB (fun hc => ?_) (fun hc => ?_) <;> first | exact False.elim hc | exact absurd hc Bool.false_ne_true | exact absurd hc.symm Bool.false_ne_true | skip) | refine cU ?_ ?_)))
  all_goals first | rfl | (exact DVR)
set_option maxRecDepth 20000 in
set_option maxHeartbeats 4000000 in
theorem holds_2 (m : Nat) : DCalls Try.prog 70 [planD exP, intss vA, li 1] (hget []) m (lb true) (hget []) := by
  refine pureC (n := 58) (rs := [.tmp 6]) (ts := [4]) Try.func70 rfl (by decide) [] (by (exact SD)) ?_
  (repeat' (first | (show SWp _ _ _ (.loop _) _ _ _ _; refine swp_rounds (lwp_round ?_)) | (show roundK ..; first | refine roundK_ret ?_ | refine roundK_exit ?_ | refine roundK_normal [0, 1, 2, 3, 4, 5, 6, 7, 9, 10, 11, 12, 29, 38, 46, 48, 57] (by (refine DVQ ?_) <;> rfl) ?_) | refine swp_seq [0, 1, 2, 3, 4, 5, 6, 7, 9, 10, 11, 12, 29, 38, 46, 48, 57] ?_ | refine st1 ?_ | (show CallQ ..; first | refine cF ?_ | refine cQ (fun hcc => (by first | exact find_2 _)) ?_ | (refine lP ?_; refine lQ (fun hcc m => (by first | exact find_2 _)) ?_)) | (show Fct ..; refine fctI (fun hf => ?_)) | (show XCallQ ..; first | refine xcF ?_ | refine xQ (fun hcc => (by first | exact find_2 _)) ?_ | (refine xlP ?_; refine xlQ (fun hcc m => (by first | exact find_2 _)) ?_)) | (show SWp _ _ _ (.region _ _ true) _ _ _ _; refine xG mixed [8, 16, 320] ?_) | (show SWp _ _ _ (.cond _ _ _) _ _ _ _; first | (refine cB (fun hc => ?_) (fun hc => ?_) <;> first | exact False.elim hc | exact absurd hc Bool.false_ne_true | exact absurd hc.symm Bool.false_ne_true | skip) | refine cU ?_ ?_)))
  all_goals first | rfl | (exact DVR)
set_option maxRecDepth 20000 in
set_option maxHeartbeats 4000000 in
theorem holds_3 (m : Nat) : DCalls Try.prog 70 [planD exP, intss vC, li 0] (hget []) m (lb false) (hget []) := by
  refine pureC (n := 58) (rs := [.tmp 6]) (ts := [4]) Try.func70 rfl (by decide) [] (by (exact SD)) ?_
  (repeat' (first | (show SWp _ _ _ (.loop _) _ _ _ _; refine swp_rounds (lwp_round ?_)) | (show roundK ..; first | refine roundK_ret ?_ | refine roundK_exit ?_ | refine roundK_normal [0, 1, 2, 3, 4, 5, 6, 7, 9, 10, 11, 12, 29, 38, 46, 48, 57] (by (refine DVQ ?_) <;> rfl) ?_) | refine swp_seq [0, 1, 2, 3, 4, 5, 6, 7, 9, 10, 11, 12, 29, 38, 46, 48, 57] ?_ | refine st1 ?_ | (show CallQ ..; first | refine cF ?_ | refine cQ (fun hcc => (by first | exact find_5 _ | exact steps_3 _)) ?_ | (refine lP ?_; refine lQ (fun hcc m => (by first | exact find_5 _ | exact steps_3 _)) ?_)) | (show Fct ..; refine fctI (fun hf => ?_)) | (show XCallQ ..; first | refine xcF ?_ | refine xQ (fun hcc => (by first | exact find_5 _ | exact steps_3 _)) ?_ | (refine xlP ?_; refine xlQ (fun hcc m => (by first | exact find_5 _ | exact steps_3 _)) ?_)) | (show SWp _ _ _ (.region _ _ true) _ _ _ _; refine xG mixed [8, 16, 320] ?_) | (show SWp _ _ _ (.cond _ _ _) _ _ _ _; first | (refine cB (fun hc => ?_) (fun hc => ?_) <;> first | exact False.elim hc | exact absurd hc Bool.false_ne_true | exact absurd hc.symm Bool.false_ne_true | skip) | refine cU ?_ ?_)))
  all_goals first | rfl | (exact DVR)
theorem big_1 (m : Nat) : DCalls Try.prog 64 [intss vA, .clo 86 []] (hget []) m (lb false) (hget []) :=
  conInts_f _ bigB vA m (by decide) (fun x hx m => long_f x m (by simp only [List.mem_cons, List.not_mem_nil, or_false] at hx; rcases hx with rfl | rfl <;> decide))
theorem big_3 (m : Nat) : DCalls Try.prog 64 [intss vC, .clo 86 []] (hget []) m (lb false) (hget []) :=
  conInts_f _ bigB vC m (by decide) (fun x hx m => long_f x m (by simp only [List.mem_cons, List.not_mem_nil, or_false] at hx; rcases hx with rfl | rfl <;> decide))
theorem given_1 (m : Nat) : DCalls Try.prog 69 [planD exP, intss vA] (hget []) m (li 0) (hget []) := by
  refine pureC (n := 17) (rs := [.tmp 4]) (ts := [29]) Try.func69 rfl (by decide) [] (by (exact SD)) ?_
  (repeat' (first | (show SWp _ _ _ (.loop _) _ _ _ _; refine swp_rounds (lwp_round ?_)) | (show roundK ..; first | refine roundK_ret ?_ | refine roundK_exit ?_ | refine roundK_normal [0, 1, 2, 4, 5, 9, 12] (by (refine DVQ ?_) <;> rfl) ?_) | refine swp_seq [0, 1, 2, 4, 5, 9, 12] ?_ | refine st1 ?_ | (show CallQ ..; first | refine cF ?_ | refine cQ (fun hcc => (by first | exact pValid_x _ | exact big_1 _ | exact shaped_1 _)) ?_ | (refine lP ?_; refine lQ (fun hcc m => (by first | exact pValid_x _ | exact big_1 _ | exact shaped_1 _)) ?_)) | (show Fct ..; refine fctI (fun hf => ?_)) | (show XCallQ ..; first | refine xcF ?_ | refine xQ (fun hcc => (by first | exact pValid_x _ | exact big_1 _ | exact shaped_1 _)) ?_ | (refine xlP ?_; refine xlQ (fun hcc m => (by first | exact pValid_x _ | exact big_1 _ | exact shaped_1 _)) ?_)) | (show SWp _ _ _ (.region _ _ true) _ _ _ _; refine xG mixed [] ?_) | (show SWp _ _ _ (.cond _ _ _) _ _ _ _; first | (refine cB (fun hc => ?_) (fun hc => ?_) <;> first | exact False.elim hc | exact absurd hc Bool.false_ne_true | exact absurd hc.symm Bool.false_ne_true | skip) | refine cU ?_ ?_)))
  all_goals first | rfl | (exact DVR)
theorem given_3 (m : Nat) : DCalls Try.prog 69 [planD exP, intss vC] (hget []) m (li 0) (hget []) := by
  refine pureC (n := 17) (rs := [.tmp 4]) (ts := [29]) Try.func69 rfl (by decide) [] (by (exact SD)) ?_
  (repeat' (first | (show SWp _ _ _ (.loop _) _ _ _ _; refine swp_rounds (lwp_round ?_)) | (show roundK ..; first | refine roundK_ret ?_ | refine roundK_exit ?_ | refine roundK_normal [0, 1, 2, 4, 5, 9, 12] (by (refine DVQ ?_) <;> rfl) ?_) | refine swp_seq [0, 1, 2, 4, 5, 9, 12] ?_ | refine st1 ?_ | (show CallQ ..; first | refine cF ?_ | refine cQ (fun hcc => (by first | exact pValid_x _ | exact big_3 _ | exact shaped_2 _)) ?_ | (refine lP ?_; refine lQ (fun hcc m => (by first | exact pValid_x _ | exact big_3 _ | exact shaped_2 _)) ?_)) | (show Fct ..; refine fctI (fun hf => ?_)) | (show XCallQ ..; first | refine xcF ?_ | refine xQ (fun hcc => (by first | exact pValid_x _ | exact big_3 _ | exact shaped_2 _)) ?_ | (refine xlP ?_; refine xlQ (fun hcc m => (by first | exact pValid_x _ | exact big_3 _ | exact shaped_2 _)) ?_)) | (show SWp _ _ _ (.region _ _ true) _ _ _ _; refine xG mixed [] ?_) | (show SWp _ _ _ (.cond _ _ _) _ _ _ _; first | (refine cB (fun hc => ?_) (fun hc => ?_) <;> first | exact False.elim hc | exact absurd hc Bool.false_ne_true | exact absurd hc.symm Bool.false_ne_true | skip) | refine cU ?_ ?_)))
  all_goals first | rfl | (exact DVR)
set_option maxRecDepth 20000 in
set_option maxHeartbeats 4000000 in
theorem check_1 (m : Nat) : DCalls Try.prog 34 [planD exP, intss vA] (hget []) m (.tup [lb true, li 0, li 0]) (hget []) := by
  refine pureC (n := 27) (rs := [.tmp 4, .tmp 5, .tmp 6]) (ts := [4, 3, 29]) Try.func34 rfl (by decide) [] (by (exact SD)) ?_
  (repeat' (first | (show SWp _ _ _ (.loop _) _ _ _ _; refine swp_rounds (lwp_round ?_)) | (show roundK ..; first | refine roundK_ret ?_ | refine roundK_exit ?_ | refine roundK_normal [0, 1, 2, 4, 5, 6, 7, 8, 13, 16, 17, 18, 24] (by (refine DVQ ?_) <;> rfl) ?_) | refine swp_seq [0, 1, 2, 4, 5, 6, 7, 8, 13, 16, 17, 18, 24] ?_ | refine st1 ?_ | (show CallQ ..; first | refine cF ?_ | refine cQ (fun hcc => (by first | exact given_1 _ | exact holds_1 _ | exact holds_2 _)) ?_ | (refine lP ?_; refine lQ (fun hcc m => (by first | exact given_1 _ | exact holds_1 _ | exact holds_2 _)) ?_)) | (show Fct ..; refine fctI (fun hf => ?_)) | (show XCallQ ..; first | refine xcF ?_ | refine xQ (fun hcc => (by first | exact given_1 _ | exact holds_1 _ | exact holds_2 _)) ?_ | (refine xlP ?_; refine xlQ (fun hcc m => (by first | exact given_1 _ | exact holds_1 _ | exact holds_2 _)) ?_)) | (show SWp _ _ _ (.region _ _ true) _ _ _ _; refine xG mixed [] ?_) | (show SWp _ _ _ (.cond _ _ _) _ _ _ _; first | (refine cB (fun hc => ?_) (fun hc => ?_) <;> first | exact False.elim hc | exact absurd hc Bool.false_ne_true | exact absurd hc.symm Bool.false_ne_true | skip) | refine cU ?_ ?_)))
  all_goals first | rfl | (exact DVR)
set_option maxRecDepth 20000 in
set_option maxHeartbeats 4000000 in
theorem check_3 (m : Nat) : DCalls Try.prog 34 [planD exP, intss vC] (hget []) m (.tup [lb false, li 0, li 0]) (hget []) := by
  refine pureC (n := 27) (rs := [.tmp 4, .tmp 5, .tmp 6]) (ts := [4, 3, 29]) Try.func34 rfl (by decide) [] (by (exact SD)) ?_
  (repeat' (first | (show SWp _ _ _ (.loop _) _ _ _ _; refine swp_rounds (lwp_round ?_)) | (show roundK ..; first | refine roundK_ret ?_ | refine roundK_exit ?_ | refine roundK_normal [0, 1, 2, 4, 5, 6, 7, 8, 13, 16, 17, 18, 24] (by (refine DVQ ?_) <;> rfl) ?_) | refine swp_seq [0, 1, 2, 4, 5, 6, 7, 8, 13, 16, 17, 18, 24] ?_ | refine st1 ?_ | (show CallQ ..; first | refine cF ?_ | refine cQ (fun hcc => (by first | exact given_3 _ | exact holds_3 _)) ?_ | (refine lP ?_; refine lQ (fun hcc m => (by first | exact given_3 _ | exact holds_3 _)) ?_)) | (show Fct ..; refine fctI (fun hf => ?_)) | (show XCallQ ..; first | refine xcF ?_ | refine xQ (fun hcc => (by first | exact given_3 _ | exact holds_3 _)) ?_ | (refine xlP ?_; refine xlQ (fun hcc m => (by first | exact given_3 _ | exact holds_3 _)) ?_)) | (show SWp _ _ _ (.region _ _ true) _ _ _ _; refine xG mixed [] ?_) | (show SWp _ _ _ (.cond _ _ _) _ _ _ _; first | (refine cB (fun hc => ?_) (fun hc => ?_) <;> first | exact False.elim hc | exact absurd hc Bool.false_ne_true | exact absurd hc.symm Bool.false_ne_true | skip) | refine cU ?_ ?_)))
  all_goals first | rfl | (exact DVR)
set_option maxRecDepth 20000 in
set_option maxHeartbeats 4000000 in
theorem bound_1 (m : Nat) : DCalls Try.prog 36 [planD exP, intss vA] (hget []) m (.tup [li 0, li 0]) (hget []) := by
  refine pureC (n := 35) (rs := [.tmp 4, .tmp 5]) (ts := [3, 29]) Try.func36 rfl (by decide) [] (by (exact SD)) ?_
  (repeat' (first | (show SWp _ _ _ (.loop _) _ _ _ _; refine swp_rounds (lwp_round ?_)) | (show roundK ..; first | refine roundK_ret ?_ | refine roundK_exit ?_ | refine roundK_normal [0, 1, 2, 4, 5, 6, 8, 9, 19, 22, 33] (by (refine DVQ ?_) <;> rfl) ?_) | refine swp_seq [0, 1, 2, 4, 5, 6, 8, 9, 19, 22, 33] ?_ | refine st1 ?_ | (show CallQ ..; first | refine cF ?_ | refine cQ (fun hcc => (by first | exact check_1 _ | exact find_1 _)) ?_ | (refine lP ?_; refine lQ (fun hcc m => (by first | exact check_1 _ | exact find_1 _)) ?_)) | (show Fct ..; refine fctI (fun hf => ?_)) | (show XCallQ ..; first | refine xcF ?_ | refine xQ (fun hcc => (by first | exact check_1 _ | exact find_1 _)) ?_ | (refine xlP ?_; refine xlQ (fun hcc m => (by first | exact check_1 _ | exact find_1 _)) ?_)) | (show SWp _ _ _ (.region _ _ true) _ _ _ _; refine xG mixed [] ?_) | (show SWp _ _ _ (.cond _ _ _) _ _ _ _; first | (refine cB (fun hc => ?_) (fun hc => ?_) <;> first | exact False.elim hc | exact absurd hc Bool.false_ne_true | exact absurd hc.symm Bool.false_ne_true | skip) | refine cU ?_ ?_)))
  all_goals first | rfl | (exact DVR)
abbrev vH (x y : List Int) : LH := [(0, .lst 3 1 (rows inRow x)), (1, .lst 3 1 (rows inRow y)), (2, .lst 22 1 [[.gl 0], [.gl 1]])]
theorem give_v {g : FuncId} {x y : List Int} {d : DV} (h : DCalls Try.prog g [planD exP, intss [x, y]] (hget []) 3 d (hget [])) : DCallsG Try.prog g [0, 1, 2] [planD exP, .gl 2] (hget (vH x y)) 3 d (hget []) :=
  DCallsG.giveG (x := .elems 1 (x.map inRow)) (by simp only [HV.fv]; rw [rows_pv]; rfl) rfl (DCallsG.giveG (x := .elems 1 (y.map inRow)) (by simp only [HV.frz, HV.fv, frz_rows]; rw [rows_pv]; rfl) rfl (DCallsG.giveG (x := .elems 1 [[.dat 1 (x.map inRow)], [.dat 1 (y.map inRow)]]) rfl rfl h))
set_option maxRecDepth 20000 in
set_option maxHeartbeats 4000000 in
theorem awake_f (m : Nat) : DCalls Try.prog 30 [] (hget []) m (lb true) (hget []) := by
  refine pureC (n := 64) (rs := [.tmp 0]) (ts := [4]) Try.func30 rfl (by decide) [] (by (exact SD)) ?_
  (repeat' (first | refine swp_seq [0, 1, 2, 3, 4, 5, 6, 7, 8] ?_ | refine st2 ?_ | (show CallQ ..; first | refine cQ (fun hcc => (by first | exact example_f _)) ?_ | (refine lP ?_; refine lQ (fun hcc m => (by first | exact example_f _)) ?_)) | (show Fct ..; refine fctI (fun hf => ?_)) | (show SWp _ _ _ (.cond _ _ _) _ _ _ _; first | refine cB (fun hc => ?_) (fun hc => ?_) | refine cU ?_ ?_)))
  refine cQT [16, 24, 32] (fun hcc => give_v (check_1 3)) ?_ (hC := fun _ _ => Nat.zero_le _) (hCn := by intro i hi; simp only [List.map_cons, List.map_nil, List.mem_cons, List.not_mem_nil, or_false] at hi; rcases hi with rfl | rfl | rfl <;> rfl)
  (repeat' (first | refine swp_seq [0, 1, 2, 3, 4, 5, 6, 7, 8] ?_ | refine st2 ?_ | (show CallQ ..; first | refine cQ (fun hcc => (by first | exact example_f _)) ?_ | (refine lP ?_; refine lQ (fun hcc m => (by first | exact example_f _)) ?_)) | (show Fct ..; refine fctI (fun hf => ?_)) | (show SWp _ _ _ (.cond _ _ _) _ _ _ _; first | refine cB (fun hc => ?_) (fun hc => ?_) | refine cU ?_ ?_)))
  refine cQT [112, 120, 128] (fun hcc => give_v (check_3 3)) ?_ (hC := fun _ _ => Nat.zero_le _) (hCn := by intro i hi; simp only [List.map_cons, List.map_nil, List.mem_cons, List.not_mem_nil, or_false] at hi; rcases hi with rfl | rfl | rfl <;> rfl)
  (repeat' (first | refine swp_seq [0, 1, 2, 3, 4, 5, 6, 7, 8] ?_ | refine st2 ?_ | (show CallQ ..; first | refine cQ (fun hcc => (by first | exact example_f _)) ?_ | (refine lP ?_; refine lQ (fun hcc m => (by first | exact example_f _)) ?_)) | (show Fct ..; refine fctI (fun hf => ?_)) | (show SWp _ _ _ (.cond _ _ _) _ _ _ _; first | refine cB (fun hc => ?_) (fun hc => ?_) | refine cU ?_ ?_)))
  refine cQT [208, 216, 224] (fun hcc => give_v (bound_1 3)) ?_ (hC := fun _ _ => Nat.zero_le _) (hCn := by intro i hi; simp only [List.map_cons, List.map_nil, List.mem_cons, List.not_mem_nil, or_false] at hi; rcases hi with rfl | rfl | rfl <;> rfl)
  (repeat' (first | refine swp_seq [0, 1, 2, 3, 4, 5, 6, 7, 8] ?_ | refine st2 ?_ | (show CallQ ..; first | refine cQ (fun hcc => (by first | exact example_f _)) ?_ | (refine lP ?_; refine lQ (fun hcc m => (by first | exact example_f _)) ?_)) | (show Fct ..; refine fctI (fun hf => ?_)) | (show SWp _ _ _ (.cond _ _ _) _ _ _ _; first | refine cB (fun hc => ?_) (fun hc => ?_) | refine cU ?_ ?_)))
  all_goals first | rfl | (exact DVR)

end Go.Proofs.Ytedocinehadodaa
