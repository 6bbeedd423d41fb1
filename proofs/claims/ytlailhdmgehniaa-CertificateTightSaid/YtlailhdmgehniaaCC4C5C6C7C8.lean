/-
  Contracts of functions of the program, over the engine.
  No condition.
-/
import Derived.Test.YtlailhdmgehniaaCC0C1C2C3
namespace Go.Proofs.Ytlailhdmgehniaa
open Go.Eng
set_option linter.all false
attribute [local irreducible] DCallsG SWp Fct CallQ XCallQ LCallQ XLCallQ drun xrun

theorem idx_nz1 {α : Type} [Inhabited α] (f : α → List PV) (l : List α) (k : Nat) [h : Nonempty (k + 1 < l.length)] : idx (l.map f) ((k : Int) + 1) = f (l.getD (k + 1) default) := by
  have := idx_nat f l (k + 1) (h.elim id)
  push_cast at this
  exact this
attribute [push_cast] idx_nz1
theorem all_next (f : Nat → Bool) (i : Nat) : (List.range (i + 1)).all f = ((List.range i).all f && f i) := by simp [List.range_succ]
theorem any_next (f : Nat → Bool) (i : Nat) : (List.range (i + 1)).any f = ((List.range i).any f || f i) := by simp [List.range_succ]
theorem tmod2 (n : Nat) : ((n : Int).tmod 2 = 0) ↔ ¬ n % 2 = 1 := by rw [Int.tmod_eq_emod_of_nonneg (by omega)]; omega
theorem odd_f (r : List Int) (m : Nat) (hr : r.length ≤ 281474976710656) : DCalls Try.prog 26 [ints r] (hget []) m (lb (oddB r)) (hget []) := by
  by_cases h : r.length % 2 = 1
  · have h9 : ¬ ((r.length : Int).tmod 2 = 0) := fun e => (tmod2 _).1 e h
    (have := Nonempty.intro h9)
    refine pureC (n := 7) (rs := [.tmp 2]) (ts := [4]) Try.func26 rfl (by decide) [] (by (exact SD)) ?_
    (repeat' (first | refine swp_seq [0, 2] ?_ | refine st2 ?_ | (show Fct ..; refine fctI (fun hf => ?_)) | (show SWp _ _ _ (.cond _ _ _) _ _ _ _; first | refine cB (fun hc => ?_) (fun hc => ?_) | refine cU ?_ ?_)))
    unfold oddB
    rw [decide_eq_true h]
    exact DVR
  · have h9 : (r.length : Int).tmod 2 = 0 := (tmod2 _).2 h
    (have := Nonempty.intro h9)
    refine pureC (n := 7) (rs := [.tmp 2]) (ts := [4]) Try.func26 rfl (by decide) [] (by (exact SD)) ?_
    (repeat' (first | refine swp_seq [0, 2] ?_ | refine st2 ?_ | (show Fct ..; refine fctI (fun hf => ?_)) | (show SWp _ _ _ (.cond _ _ _) _ _ _ _; first | refine cB (fun hc => ?_) (fun hc => ?_) | refine cU ?_ ?_)))
    unfold oddB
    rw [decide_eq_false h]
    exact DVR
theorem same2_f (x y : List Int) (m : Nat) (hx : x.length ≤ 281474976710656) (hy : y.length ≤ 281474976710656) : DCalls Try.prog 29 [ints x, ints y] (hget []) m (lb (decide (x.length = y.length))) (hget []) := by
  refine pureC (n := 10) (rs := [.tmp 4]) (ts := [4]) Try.func29 rfl (by decide) [] (by (exact SD)) ?_
  (repeat' (first | refine swp_seq [0, 1, 4] ?_ | refine st2 ?_ | (show Fct ..; refine fctI (fun hf => ?_)) | (show SWp _ _ _ (.cond _ _ _) _ _ _ _; first | refine cB (fun hc => ?_) (fun hc => ?_) | refine cU ?_ ?_)))
  (refine DVQ ?_)
  refine lbC ?_
  rw [Bool.eq_iff_iff]
  simp
  try omega
theorem eqf_f (g : FuncId) (p : List Int → List Int → Bool) (a b : List (List Int)) (m : Nat) (ha : rowsOk a) (hb : rowsOk b) (hg : ∀ x y m, x.length ≤ 281474976710656 → y.length ≤ 281474976710656 → DCalls Try.prog g [ints x, ints y] (hget []) m (lb (p x y)) (hget [])) :
    DCalls Try.prog 28 [intss a, intss b, .clo g []] (hget []) m (lb (decide (a.length = b.length) && (List.range a.length).all fun i => p (a.getD i default) (b.getD i default))) (hget []) := by
  have h1 := ha.1
  have h2 := hb.1
  by_cases hn : (a.length : Int) = (b.length : Int)
  · (have := Nonempty.intro hn)
    have hn2 : a.length = b.length := by omega
    rw [decide_eq_true hn2, Bool.true_and]
    refine pureC (n := 32) (rs := [.tmp 6]) (ts := [4]) Try.func28 rfl (by decide) [] (by (exact SD)) ?_
    (repeat' (first | refine swp_seq [0, 1, 2, 6, 7, 8, 9, 14, 15, 16, 17, 18, 30] ?_ | refine st2 ?_ | (show Fct ..; refine fctI (fun hf => ?_)) | (show SWp _ _ _ (.cond _ _ _) _ _ _ _; first | refine cB (fun hc => ?_) (fun hc => ?_) | refine cU ?_ ?_)))
    refine loop_swp [1, 2, 15, 16, 17] [] 0 (fun q A H => ∃ i : Nat, i ≤ a.length ∧ q = a.length - i ∧ ((List.range i).all fun i => p (a.getD i default) (b.getD i default)) = true ∧ A = [(1, intss b), (2, .clo g []), (15, intss a), (16, li a.length), (17, li i)] ∧ H = []) (by omega) ?_ ?_ ?_
    · rintro q A H ⟨i, g1, g2, g3, rfl, rfl⟩
      exact ⟨by (exact SD), by (exact SD)⟩
    · refine ⟨_, 0, by omega, rfl, rfl, ?_, ?_⟩
      · exact DVR
      · exact DVR
    rintro q A H ⟨i, g1, g2, g3, rfl, rfl⟩
    by_cases hi : i < a.length
    · have hi3 : (i : Int) < (a.length : Int) := by omega
      (have := Nonempty.intro hi3)
      have hi4 : i < b.length := by omega
      (have := Nonempty.intro hi)
      (have := Nonempty.intro hi4)
      have cg := fun m => hg (a.getD i default) (b.getD i default) m (rows_len ha hi) (rows_len hb hi4)
      cases hp : p (a.getD i default) (b.getD i default) <;> simp only [hp] at cg
      · (repeat' (first | refine swp_seq [0, 1, 2, 6, 7, 8, 9, 14, 15, 16, 17, 18, 30] ?_ | refine st2 ?_ | (show CallQ ..; first | refine cQ (fun hcc => (cg _)) ?_ | (refine lP ?_; refine lQ (fun hcc m => (cg _)) ?_)) | (show Fct ..; refine fctI (fun hf => ?_)) | (show SWp _ _ _ (.cond _ _ _) _ _ _ _; first | refine cB (fun hc => ?_) (fun hc => ?_) | refine cU ?_ ?_)))
        (refine DVQ ?_)
        refine lbC (Eq.symm ?_)
        rw [List.all_eq_false]
        exact ⟨i, List.mem_range.2 hi, by rw [hp]; decide⟩
      · (repeat' (first | refine swp_seq [0, 1, 2, 6, 7, 8, 9, 14, 15, 16, 17, 18, 30] ?_ | refine st2 ?_ | (show CallQ ..; first | refine cQ (fun hcc => (cg _)) ?_ | (refine lP ?_; refine lQ (fun hcc m => (cg _)) ?_)) | (show Fct ..; refine fctI (fun hf => ?_)) | (show SWp _ _ _ (.cond _ _ _) _ _ _ _; first | refine cB (fun hc => ?_) (fun hc => ?_) | refine cU ?_ ?_)))
        (refine lN [] ?_)
        exact ⟨_, by omega, i + 1, by omega, rfl, by rw [all_next, g3, hp]; rfl, rfl, rfl⟩
    have hi2 : i = a.length := by omega
    have hi3 : ¬ ((i : Int) < (a.length : Int)) := by omega
    (have := Nonempty.intro hi3)
    rw [hi2] at g3
    (repeat' (first | refine swp_seq [0, 1, 2, 6, 7, 8, 9, 14, 15, 16, 17, 18, 30] ?_ | refine st2 ?_ | (show Fct ..; refine fctI (fun hf => ?_)) | (show SWp _ _ _ (.cond _ _ _) _ _ _ _; first | refine cB (fun hc => ?_) (fun hc => ?_) | refine cU ?_ ?_)))
    (refine DVQ ?_)
    rw [g3]
  · (have := Nonempty.intro hn)
    have hn2 : ¬ a.length = b.length := by omega
    rw [decide_eq_false hn2, Bool.false_and]
    refine pureC (n := 32) (rs := [.tmp 6]) (ts := [4]) Try.func28 rfl (by decide) [] (by (exact SD)) ?_
    (repeat' (first | refine swp_seq [0, 1, 2, 6, 7, 8, 9, 14, 15, 16, 17, 18, 30] ?_ | refine st2 ?_ | (show Fct ..; refine fctI (fun hf => ?_)) | (show SWp _ _ _ (.cond _ _ _) _ _ _ _; first | refine cB (fun hc => ?_) (fun hc => ?_) | refine cU ?_ ?_)))
    exact DVR
set_option maxRecDepth 20000 in
set_option maxHeartbeats 8000000 in
theorem weaker_f (a b : List (List Int)) (m : Nat) (ha : rowsOk a) (hb : rowsOk b) : DCalls Try.prog 13 [intss a, intss b] (hget []) m (.tup [lb (weakR a b).1, li (weakR a b).2]) (hget []) := by
  have h1 := ha.1
  have h2 := hb.1
  have ca := fun m => full_f a m ha
  have cb := fun m => full_f b m hb
  cases hfa : fullB a 201 <;> simp only [hfa] at ca
  case true =>
    rw [show weakR a b = (false, 4) by unfold weakR; rw [hfa]; rfl]
    refine pureC (n := 80) (rs := [.tmp 4, .tmp 5]) (ts := [4, 30]) Try.func13 rfl (by decide) [] (by (exact SD)) ?_
    (repeat' (first | refine swp_seq [0, 1, 4, 5, 6, 7, 8, 9, 10, 11, 12, 13, 20, 25, 29, 30, 31, 32, 39, 53, 77] ?_ | refine st2 ?_ | (show CallQ ..; first | refine cQ (fun hcc => (by first | exact ca _)) ?_ | (refine lP ?_; refine lQ (fun hcc m => (by first | exact ca _)) ?_)) | (show XCallQ ..; first | refine xQ (fun hcc => (by first | exact ca _)) ?_ | (refine xlP ?_; refine xlQ (fun hcc m => (by first | exact ca _)) ?_)) | (show Fct ..; refine fctI (fun hf => ?_)) | (show SWp _ _ _ (.cond _ _ _) _ _ _ _; first | refine cB (fun hc => ?_) (fun hc => ?_) | refine cU ?_ ?_)))
    exact DVR
  cases hfb : fullB b 201 <;> simp only [hfb] at cb
  case true =>
    rw [show weakR a b = (false, 4) by unfold weakR; rw [hfa, hfb]; rfl]
    refine pureC (n := 80) (rs := [.tmp 4, .tmp 5]) (ts := [4, 30]) Try.func13 rfl (by decide) [] (by (exact SD)) ?_
    (repeat' (first | refine swp_seq [0, 1, 4, 5, 6, 7, 8, 9, 10, 11, 12, 13, 20, 25, 29, 30, 31, 32, 39, 53, 77] ?_ | refine st2 ?_ | (show CallQ ..; first | refine cQ (fun hcc => (by first | exact ca _ | exact cb _)) ?_ | (refine lP ?_; refine lQ (fun hcc m => (by first | exact ca _ | exact cb _)) ?_)) | (show XCallQ ..; first | refine xQ (fun hcc => (by first | exact ca _ | exact cb _)) ?_ | (refine xlP ?_; refine xlQ (fun hcc m => (by first | exact ca _ | exact cb _)) ?_)) | (show Fct ..; refine fctI (fun hf => ?_)) | (show SWp _ _ _ (.cond _ _ _) _ _ _ _; first | refine cB (fun hc => ?_) (fun hc => ?_) | refine cU ?_ ?_)))
    exact DVR
  have ce := fun m => eqf_f 29 (fun x y => decide (x.length = y.length)) a b m ha hb (fun x y m hx hy => same2_f x y m hx hy)
  have hse : (decide (a.length = b.length) && (List.range a.length).all fun i => decide ((a.getD i default).length = (b.getD i default).length)) = sizesB a b := rfl
  simp only [hse] at ce
  cases hsz : sizesB a b <;> simp only [hsz] at ce
  case false =>
    rw [show weakR a b = (false, 3) by unfold weakR; rw [hfa, hfb, hsz]; rfl]
    refine pureC (n := 80) (rs := [.tmp 4, .tmp 5]) (ts := [4, 30]) Try.func13 rfl (by decide) [] (by (exact SD)) ?_
    (repeat' (first | refine swp_seq [0, 1, 4, 5, 6, 7, 8, 9, 10, 11, 12, 13, 20, 25, 29, 30, 31, 32, 39, 53, 77] ?_ | refine st2 ?_ | (show CallQ ..; first | refine cQ (fun hcc => (by first | exact ca _ | exact cb _ | exact ce _)) ?_ | (refine lP ?_; refine lQ (fun hcc m => (by first | exact ca _ | exact cb _ | exact ce _)) ?_)) | (show XCallQ ..; first | refine xQ (fun hcc => (by first | exact ca _ | exact cb _ | exact ce _)) ?_ | (refine xlP ?_; refine xlQ (fun hcc m => (by first | exact ca _ | exact cb _ | exact ce _)) ?_)) | (show Fct ..; refine fctI (fun hf => ?_)) | (show SWp _ _ _ (.cond _ _ _) _ _ _ _; first | refine cB (fun hc => ?_) (fun hc => ?_) | refine cU ?_ ?_)))
    exact DVR
  have co := fun m => conInts_f 26 oddB a m h1 (fun x hx m => odd_f x m (ha.2 x hx).1)
  cases hod : a.any oddB <;> simp only [hod] at co
  case true =>
    rw [show weakR a b = (false, 1) by unfold weakR; rw [hfa, hfb, hsz, hod]; rfl]
    refine pureC (n := 80) (rs := [.tmp 4, .tmp 5]) (ts := [4, 30]) Try.func13 rfl (by decide) [] (by (exact SD)) ?_
    (repeat' (first | refine swp_seq [0, 1, 4, 5, 6, 7, 8, 9, 10, 11, 12, 13, 20, 25, 29, 30, 31, 32, 39, 53, 77] ?_ | refine st2 ?_ | (show CallQ ..; first | refine cQ (fun hcc => (by first | exact ca _ | exact cb _ | exact ce _ | exact co _)) ?_ | (refine lP ?_; refine lQ (fun hcc m => (by first | exact ca _ | exact cb _ | exact ce _ | exact co _)) ?_)) | (show XCallQ ..; first | refine xQ (fun hcc => (by first | exact ca _ | exact cb _ | exact ce _ | exact co _)) ?_ | (refine xlP ?_; refine xlQ (fun hcc m => (by first | exact ca _ | exact cb _ | exact ce _ | exact co _)) ?_)) | (show Fct ..; refine fctI (fun hf => ?_)) | (show SWp _ _ _ (.cond _ _ _) _ _ _ _; first | refine cB (fun hc => ?_) (fun hc => ?_) | refine cU ?_ ?_)))
    exact DVR
  have hW : weakR a b = if ((List.range a.length).any fun i => evM (a.getD i default) (b.getD i default)) = true then (false, 25) else ((List.range a.length).all fun i => evW (a.getD i default) (b.getD i default), 0) := by
    unfold weakR; rw [hfa, hfb, hsz, hod]; rfl
  have hszs : a.length = b.length ∧ ∀ i, i < a.length → (a.getD i default).length = (b.getD i default).length := by
    unfold sizesB at hsz
    rw [Bool.and_eq_true, decide_eq_true_eq, List.all_eq_true] at hsz
    exact ⟨hsz.1, fun i hi => of_decide_eq_true (hsz.2 i (List.mem_range.2 hi))⟩
  have hev : ∀ i, i < a.length → (a.getD i default).length % 2 = 0 := fun i hi => by
    have := List.any_eq_false.1 hod _ (getD_mem hi)
    unfold oddB at this
    have h8 : ¬ (a.getD i default).length % 2 = 1 := fun q => this (decide_eq_true q)
    omega
  rw [hW]
  refine pureC (n := 80) (rs := [.tmp 4, .tmp 5]) (ts := [4, 30]) Try.func13 rfl (by decide) [] (by (exact SD)) ?_
  (repeat' (first | refine swp_seq [0, 1, 4, 5, 6, 7, 8, 9, 10, 11, 12, 13, 20, 25, 29, 30, 31, 32, 39, 53, 77] ?_ | refine st2 ?_ | (show CallQ ..; first | refine cQ (fun hcc => (by first | exact ca _ | exact cb _ | exact ce _ | exact co _)) ?_ | (refine lP ?_; refine lQ (fun hcc m => (by first | exact ca _ | exact cb _ | exact ce _ | exact co _)) ?_)) | (show XCallQ ..; first | refine xQ (fun hcc => (by first | exact ca _ | exact cb _ | exact ce _ | exact co _)) ?_ | (refine xlP ?_; refine xlQ (fun hcc m => (by first | exact ca _ | exact cb _ | exact ce _ | exact co _)) ?_)) | (show Fct ..; refine fctI (fun hf => ?_)) | (show SWp _ _ _ (.cond _ _ _) _ _ _ _; first | refine cB (fun hc => ?_) (fun hc => ?_) | refine cU ?_ ?_)))
  refine loop_swp [1, 7, 29, 30, 31] [] 0 (fun q A H => ∃ i : Nat, i ≤ a.length ∧ q = a.length - i ∧ ((List.range i).any fun i => evM (a.getD i default) (b.getD i default)) = false ∧ A = [(1, intss b), (7, lb ((List.range i).all fun i => evW (a.getD i default) (b.getD i default))), (29, intss a), (30, li a.length), (31, li i)] ∧ H = []) (by omega) ?_ ?_ ?_
  · rintro q A H ⟨i, g1, g2, g3, rfl, rfl⟩
    exact ⟨by (exact SD), by (exact SD)⟩
  · refine ⟨_, 0, by omega, rfl, rfl, ?_, ?_⟩
    · exact DVR
    · exact DVR
  rintro q A H ⟨i, g1, g2, g3, rfl, rfl⟩
  by_cases hi : i < a.length
  · have hi3 : (i : Int) < (a.length : Int) := by omega
    (have := Nonempty.intro hi3)
    have hi4 : i < b.length := by omega
    (have := Nonempty.intro hi)
    (have := Nonempty.intro hi4)
    have hl2 := hszs.2 i hi
    have hev2 := hev i hi
    have hra := rows_len ha hi
    have hnx := all_next (fun i => evW (a.getD i default) (b.getD i default)) i
    have hny := any_next (fun i => evM (a.getD i default) (b.getD i default)) i
    have hmi : evM (a.getD i default) (b.getD i default) = true → ((List.range a.length).any fun i => evM (a.getD i default) (b.getD i default)) = true := fun h => List.any_eq_true.2 ⟨i, List.mem_range.2 hi, h⟩
    generalize hWW : ((List.range i).all fun i => evW (a.getD i default) (b.getD i default)) = W at *
    (repeat' (first | refine swp_seq [0, 1, 4, 5, 6, 7, 8, 9, 10, 11, 12, 13, 20, 25, 29, 30, 31, 32, 39, 53, 77] ?_ | refine st2 ?_ | (show Fct ..; refine fctI (fun hf => ?_)) | (show SWp _ _ _ (.cond _ _ _) _ _ _ _; first | refine cB (fun hc => ?_) (fun hc => ?_) | refine cU ?_ ?_)))
    refine loop_swp [1, 7, 8, 9, 10, 29, 30, 31] [] 0 (fun q A H => ∃ j k : Nat, k = 2 * j ∧ k ≤ (a.getD i default).length ∧ q = (a.getD i default).length - k ∧ ((List.range j).any fun j => decide (¬ (a.getD i default).getD (2 * j) default = (b.getD i default).getD (2 * j) default)) = false ∧ A = [(1, intss b), (7, lb (W && (List.range j).all fun j => wkP ((a.getD i default).getD (2 * j + 1) default) ((b.getD i default).getD (2 * j + 1) default))), (8, li i), (9, ints (a.getD i default)), (10, li k), (29, intss a), (30, li a.length), (31, li i)] ∧ H = []) (by omega) ?_ ?_ ?_
    · rintro q A H ⟨j, k, hk, g4, g5, g6, rfl, rfl⟩
      exact ⟨by (exact SD), by (exact SD)⟩
    · refine ⟨_, 0, 0, rfl, by omega, rfl, rfl, ?_, ?_⟩
      · simp only [List.range_zero, List.all_nil, Bool.and_true]
        exact DVR
      · exact DVR
    rintro q A H ⟨j, k, hk, g4, g5, g6, rfl, rfl⟩
    by_cases hj : k < (a.getD i default).length
    · have hj3 : (k : Int) < ((a.getD i default).length : Int) := by omega
      (have := Nonempty.intro hj3)
      (have := Nonempty.intro hj)
      have hj4 : k < (b.getD i default).length := by omega
      (have := Nonempty.intro hj4)
      have hj5 : k + 1 < (a.getD i default).length := by omega
      (have := Nonempty.intro hj5)
      have hj6 : k + 1 < (b.getD i default).length := by omega
      (have := Nonempty.intro hj6)
      have hjl : j < (a.getD i default).length / 2 := by omega
      by_cases hne : (a.getD i default).getD k default = (b.getD i default).getD k default
      · (have := Nonempty.intro hne)
        have hwn := all_next (fun j => wkP ((a.getD i default).getD (2 * j + 1) default) ((b.getD i default).getD (2 * j + 1) default)) j
        have hwm := any_next (fun j => decide (¬ (a.getD i default).getD (2 * j) default = (b.getD i default).getD (2 * j) default)) j
        rw [g6, ← hk, decide_eq_false (fun q => q hne)] at hwm
        rw [← hk] at hwn
        generalize hVV : ((List.range j).all fun j => wkP ((a.getD i default).getD (2 * j + 1) default) ((b.getD i default).getD (2 * j + 1) default)) = V at *
        by_cases y1 : (b.getD i default).getD (k + 1) default = -1
        · (have := Nonempty.intro y1)
          (repeat' (first | refine swp_seq [0, 1, 4, 5, 6, 7, 8, 9, 10, 11, 12, 13, 20, 25, 29, 30, 31, 32, 39, 53, 77] ?_ | refine st2 ?_ | (show Fct ..; refine fctI (fun hf => ?_)) | (show SWp _ _ _ (.cond _ _ _) _ _ _ _; first | refine cB (fun hc => ?_) (fun hc => ?_) | refine cU ?_ ?_)))
          (refine lN [] ?_)
          exact ⟨_, by omega, j + 1, k + 2, by omega, by omega, rfl, hwm, by rw [hwn]; unfold wkP; rw [decide_eq_true y1]; simp only [Bool.true_or, Bool.and_true]; rfl, rfl⟩
        · (have := Nonempty.intro y1)
          by_cases x1 : (a.getD i default).getD (k + 1) default = -1
          · (have := Nonempty.intro x1)
            (repeat' (first | refine swp_seq [0, 1, 4, 5, 6, 7, 8, 9, 10, 11, 12, 13, 20, 25, 29, 30, 31, 32, 39, 53, 77] ?_ | refine st2 ?_ | (show Fct ..; refine fctI (fun hf => ?_)) | (show SWp _ _ _ (.cond _ _ _) _ _ _ _; first | refine cB (fun hc => ?_) (fun hc => ?_) | refine cU ?_ ?_)))
            (refine lN [] ?_)
            exact ⟨_, by omega, j + 1, k + 2, by omega, by omega, rfl, hwm, by rw [hwn]; unfold wkP; rw [decide_eq_false y1, decide_eq_true x1]; simp only [Bool.not_true, Bool.false_and, Bool.or_false, Bool.and_false]; rfl, rfl⟩
          · (have := Nonempty.intro x1)
            by_cases x2 : (b.getD i default).getD (k + 1) default < (a.getD i default).getD (k + 1) default
            · (have := Nonempty.intro x2)
              (repeat' (first | refine swp_seq [0, 1, 4, 5, 6, 7, 8, 9, 10, 11, 12, 13, 20, 25, 29, 30, 31, 32, 39, 53, 77] ?_ | refine st2 ?_ | (show Fct ..; refine fctI (fun hf => ?_)) | (show SWp _ _ _ (.cond _ _ _) _ _ _ _; first | refine cB (fun hc => ?_) (fun hc => ?_) | refine cU ?_ ?_)))
              (refine lN [] ?_)
              exact ⟨_, by omega, j + 1, k + 2, by omega, by omega, rfl, hwm, by rw [hwn]; unfold wkP; rw [decide_eq_false y1, decide_eq_false x1, decide_eq_false (by omega)]; simp only [Bool.and_false, Bool.or_false]; rfl, rfl⟩
            · (have := Nonempty.intro x2)
              (repeat' (first | refine swp_seq [0, 1, 4, 5, 6, 7, 8, 9, 10, 11, 12, 13, 20, 25, 29, 30, 31, 32, 39, 53, 77] ?_ | refine st2 ?_ | (show Fct ..; refine fctI (fun hf => ?_)) | (show SWp _ _ _ (.cond _ _ _) _ _ _ _; first | refine cB (fun hc => ?_) (fun hc => ?_) | refine cU ?_ ?_)))
              (refine lN [] ?_)
              exact ⟨_, by omega, j + 1, k + 2, by omega, by omega, rfl, hwm, by rw [hwn]; unfold wkP; rw [decide_eq_false y1, decide_eq_false x1, decide_eq_true (by omega)]; simp only [Bool.not_false, Bool.true_and, Bool.or_true, Bool.and_true]; rfl, rfl⟩
      · (have := Nonempty.intro hne)
        have hT := hmi (by
          unfold evM
          exact List.any_eq_true.2 ⟨j, List.mem_range.2 hjl, by rw [← hk]; exact decide_eq_true hne⟩)
        rw [if_pos hT]
        (repeat' (first | refine swp_seq [0, 1, 4, 5, 6, 7, 8, 9, 10, 11, 12, 13, 20, 25, 29, 30, 31, 32, 39, 53, 77] ?_ | refine st2 ?_ | (show Fct ..; refine fctI (fun hf => ?_)) | (show SWp _ _ _ (.cond _ _ _) _ _ _ _; first | refine cB (fun hc => ?_) (fun hc => ?_) | refine cU ?_ ?_)))
        exact DVR
    have hj2 : k = (a.getD i default).length := by omega
    have hj3 : ¬ ((k : Int) < ((a.getD i default).length : Int)) := by omega
    (have := Nonempty.intro hj3)
    have hjl : j = (a.getD i default).length / 2 := by omega
    rw [hjl] at g6 ⊢
    (repeat' (first | refine swp_seq [0, 1, 4, 5, 6, 7, 8, 9, 10, 11, 12, 13, 20, 25, 29, 30, 31, 32, 39, 53, 77] ?_ | refine st2 ?_ | (show Fct ..; refine fctI (fun hf => ?_)) | (show SWp _ _ _ (.cond _ _ _) _ _ _ _; first | refine cB (fun hc => ?_) (fun hc => ?_) | refine cU ?_ ?_)))
    (refine lN [] ?_)
    refine ⟨_, by omega, i + 1, by omega, rfl, ?_, ?_, rfl⟩
    · rw [hny, g3]; unfold evM; rw [g6]; rfl
    · rw [hnx]; unfold evW; rfl
  have hi2 : i = a.length := by omega
  have hi3 : ¬ ((i : Int) < (a.length : Int)) := by omega
  (have := Nonempty.intro hi3)
  rw [hi2] at g3
  rw [if_neg (by rw [g3]; decide)]
  (repeat' (first | refine swp_seq [0, 1, 4, 5, 6, 7, 8, 9, 10, 11, 12, 13, 20, 25, 29, 30, 31, 32, 39, 53, 77] ?_ | refine st2 ?_ | (show Fct ..; refine fctI (fun hf => ?_)) | (show SWp _ _ _ (.cond _ _ _) _ _ _ _; first | refine cB (fun hc => ?_) (fun hc => ?_) | refine cU ?_ ?_)))
  rw [hi2]
  exact DVR

end Go.Proofs.Ytlailhdmgehniaa
