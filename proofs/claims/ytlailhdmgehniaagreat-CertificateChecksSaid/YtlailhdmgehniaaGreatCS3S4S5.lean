/-
  Contracts of functions of the program, over the engine.
  No condition.
-/
import Derived.Test.YtlailhdmgehniaaGreatCS1S2
import Derived.Test.YtlailhdmgehniaaGreatCC2C3C6
namespace Go.Proofs.YtlailhdmgehniaaGreat
open Go.Eng
set_option linter.all false
attribute [local irreducible] DCallsG SWp Fct CallQ XCallQ LCallQ XLCallQ drun xrun

theorem given_in {p : Plan} {l : List (List Int)} (h : givenE p l = 0) : planB p = true ∧ l.length = p.inf.length + 1 ∧ (∀ i, i < l.length → rowB p (l.getD i default) = true ∧ (l.getD i default).length ≤ 8000) := by
  unfold givenE at h
  split at h
  · cases h
  next h1 =>
  split at h
  · cases h
  next h2 =>
  split at h
  · cases h
  next h3 =>
  have h1 : planB p = true := by simpa using h1
  have h3 : shapedB p l = true := by simpa using h3
  unfold shapedB at h3
  simp only [Bool.and_eq_true, decide_eq_true_eq, List.all_eq_true] at h3
  refine ⟨h1, h3.1, fun i hi => ⟨h3.2 _ (getD_mem hi), ?_⟩⟩
  have h2 : l.any bigB = false := by simpa using h2
  rw [List.any_eq_false] at h2
  have := h2 _ (getD_mem hi)
  unfold bigB at this
  simpa using this
theorem atR_in {p : Plan} {r : List Int} (h : rowB p r = true) (a : Int) : -1 ≤ (atR r a).1 ∧ (atR r a).1 ≤ 1152921504606846976 := by
  cases hb : (atR r a).2 with
  | true =>
    obtain ⟨j, h1, h2, h3⟩ := atR_some hb
    rw [h3]
    exact ((rowB_in h).2.1 j h1).2
  | false =>
    have key : ∀ n j, (atFrom r a n j).2 = false → (atFrom r a n j).1 = 0 := by
      intro n
      induction n with
      | zero => intro j _; rfl
      | succ n ih =>
        intro j hj
        rw [atFrom] at hj ⊢
        split at hj
        · cases hj
        · next q => rw [if_neg q]; exact ih _ hj
    have : (atR r a).1 = 0 := key _ _ hb
    omega
def pairB (p : Plan) (l : List (List Int)) (k j : Nat) : Bool := if k + 1 = l.length then decide ((l.getD k default).getD (2 * j + 1) default = 0) else p.rel.all (stB p k ((l.getD k default).getD (2 * j) default) ((l.getD k default).getD (2 * j + 1) default) (l.getD (k + 1) default))
set_option maxRecDepth 20000 in
set_option maxHeartbeats 8000000 in
theorem holds_f (p : Plan) (l : List (List Int)) (k : Nat) (m : Nat) (hq : planOk p) (hl : rowsOk l) (hg : givenE p l = 0) (hk : k < l.length) : DCalls Tryz.prog 39 [planD p, intss l, li k] (hget []) m (lb (holdsB p l k)) (hget []) := by
  obtain ⟨hp, hln, hrow⟩ := given_in hg
  have hin := planB_in hp
  obtain ⟨hrk, hr8⟩ := hrow k hk
  obtain ⟨he, hval, hsort⟩ := rowB_in hrk
  have hl1 := hl.1
  have cf := fun m => find_f (l.getD k default) p.start m (by omega) he hsort
  (have := Nonempty.intro hk)
  have hP : ∀ j, pairB p l k j = if k + 1 = l.length then decide ((l.getD k default).getD (2 * j + 1) default = 0) else p.rel.all (stB p k ((l.getD k default).getD (2 * j) default) ((l.getD k default).getD (2 * j + 1) default) (l.getD (k + 1) default)) := fun _ => rfl
  have hB : holdsB p l k = ((!decide (k = 0) || (atR (l.getD k default) p.start).2) && (List.range ((l.getD k default).length / 2)).all (pairB p l k)) := rfl
  rw [hB]
  clear hB
  generalize atR (l.getD k default) p.start = A at *
  obtain ⟨y, ok⟩ := A
  by_cases h0 : (k : Int) = 0 ∧ ok = false
  · obtain ⟨h0, rfl⟩ := h0
    rw [decide_eq_true (by omega : k = 0)]
    (have := Nonempty.intro h0)
    refine pureC (n := 58) (rs := [.tmp 6]) (ts := [4]) Tryz.func39 rfl (by decide) [] (by (exact SD)) ?_
    (repeat' (first | refine swp_seq [0, 1, 2, 3, 4, 5, 6, 7, 9, 10, 11, 12, 29, 38, 46, 48, 57] ?_ | refine st2 ?_ | (show CallQ ..; first | refine cQ (fun hcc => (by first | exact cf _)) ?_ | (refine lP ?_; refine lQ (fun hcc m => (by first | exact cf _)) ?_)) | (show XCallQ ..; first | refine xQ (fun hcc => (by first | exact cf _)) ?_ | (refine xlP ?_; refine xlQ (fun hcc m => (by first | exact cf _)) ?_)) | (show Fct ..; refine fctI (fun hf => ?_)) | (show SWp _ _ _ (.cond _ _ _) _ _ _ _; first | refine cB (fun hc => ?_) (fun hc => ?_) | refine cU ?_ ?_)))
    exact DVR
  have hh : (!decide (k = 0) || ok) = true := by
    by_cases e : k = 0
    · subst e
      have : ok = true := by
        cases ok
        · exact absurd ⟨rfl, rfl⟩ h0
        · rfl
      rw [this]; simp
    · rw [decide_eq_false e]; rfl
  rw [hh, Bool.true_and]
  refine pureC (n := 58) (rs := [.tmp 6]) (ts := [4]) Tryz.func39 rfl (by decide) [] (by (exact SD)) ?_
  (repeat' (first | (show SWp _ _ _ (.seq (.seq (.region 2 _ _) _) _) _ _ _ _; refine (stop_in ?_)) | refine swp_seq [0, 1, 2, 3, 4, 5, 6, 7, 9, 10, 11, 12, 29, 38, 46, 48, 57] ?_ | (show SWp _ _ _ (.region _ _ true) _ _ _ _; refine xG mixed [] ?_) | refine st2 ?_ | (show CallQ ..; first | refine cQ (fun hcc => (by fail)) ?_ | (refine lP ?_; refine lQ (fun hcc m => (by fail)) ?_)) | (show XCallQ ..; first | refine xQ (fun hcc => (by fail)) ?_ | (refine xlP ?_; refine xlQ (fun hcc m => (by fail)) ?_)) | (show Fct ..; refine fctI (fun hf => ?_)) | (show SWp _ _ _ (.cond _ _ _) _ _ _ _; first | refine cB (fun hc => ?_) (fun hc => ?_) | refine cU ?_ ?_)))
  refine stop_out ?_
  refine swp_mid [3, 4, 5, 7] [0, 8, 16] 17 (fun A H => A = [(3, .ptr 0 0), (4, .ptr 8 0), (5, .ptr 16 0), (7, ints (l.getD k default))] ∧ H = [(0, .blk 26 (planC p)), (8, .blk 29 [intss l]), (16, .blk 3 [li k])]) (by omega) ?_ ?_ ?_
  · rintro A H ⟨rfl, rfl⟩
    exact ⟨by (exact SD), by (exact SD)⟩
  · (repeat' (first | refine swp_seq [0, 1, 2, 3, 4, 5, 6, 7, 9, 10, 11, 12, 29, 38, 46, 48, 57] ?_ | refine st2 ?_ | (show CallQ ..; first | refine cQ (fun hcc => (by first | exact cf _)) ?_ | (refine lP ?_; refine lQ (fun hcc m => (by first | exact cf _)) ?_)) | (show XCallQ ..; first | refine xQ (fun hcc => (by first | exact cf _)) ?_ | (refine xlP ?_; refine xlQ (fun hcc m => (by first | exact cf _)) ?_)) | (show Fct ..; refine fctI (fun hf => ?_)) | (show SWp _ _ _ (.cond _ _ _) _ _ _ _; first | refine cB (fun hc => ?_) (fun hc => ?_) | refine cU ?_ ?_)))
    · exact absurd hc h0
    · exact midK_normal (A2 := [(3, .ptr 0 0), (4, .ptr 8 0), (5, .ptr 16 0), (7, ints (l.getD k default))]) (H2 := [(0, .blk 26 (planC p)), (8, .blk 29 [intss l]), (16, .blk 3 [li k])]) (by exact DVR) (by exact DVR) ⟨rfl, rfl⟩
  rintro A H ⟨rfl, rfl⟩
  (repeat' (first | refine swp_seq [0, 1, 2, 3, 4, 5, 6, 7, 9, 10, 11, 12, 29, 38, 46, 48, 57] ?_ | refine st2 ?_ | (show Fct ..; refine fctI (fun hf => ?_)) | (show SWp _ _ _ (.cond _ _ _) _ _ _ _; first | refine cB (fun hc => ?_) (fun hc => ?_) | refine cU ?_ ?_)))
  generalize hLB : ((k : Int) == (l.length : Int) - 1) = LB
  refine loop_swp [3, 4, 5, 7, 10, 11] [0, 8, 16] 17 (fun q A H => ∃ j k2 : Nat, k2 = 2 * j ∧ k2 ≤ (l.getD k default).length ∧ q = (l.getD k default).length - k2 ∧ (∀ i, i < j → pairB p l k i = true) ∧ A = [(3, .ptr 0 0), (4, .ptr 8 0), (5, .ptr 16 0), (7, ints (l.getD k default)), (10, lb LB), (11, li k2)] ∧ H = [(0, .blk 26 (planC p)), (8, .blk 29 [intss l]), (16, .blk 3 [li k])]) (by omega) ?_ ?_ ?_
  · rintro q A H ⟨j, k2, hk2, g1, g2, g3, rfl, rfl⟩
    exact ⟨by (exact SD), by (exact SD)⟩
  · refine ⟨_, 0, 0, rfl, by omega, rfl, by omega, ?_, ?_⟩
    · exact DVR
    · exact DVR
  rintro q A H ⟨j, k2, hk2, g1, g2, g3, rfl, rfl⟩
  by_cases hj : k2 < (l.getD k default).length
  · have hj3 : (k2 : Int) < ((l.getD k default).length : Int) := by omega
    (have := Nonempty.intro hj3)
    (have := Nonempty.intro hj)
    have hj5 : k2 + 1 < (l.getD k default).length := by omega
    (have := Nonempty.intro hj5)
    have hjl : j < (l.getD k default).length / 2 := by omega
    cases LB
    case true =>
      have hlast : (k : Int) = (l.length : Int) - 1 := by simpa using hLB
      have hlk : k + 1 = l.length := by omega
      have hPj : pairB p l k j = decide ((l.getD k default).getD (k2 + 1) default = 0) := by rw [hP, if_pos hlk, hk2]
      by_cases hx : (l.getD k default).getD (k2 + 1) default = 0
      · (have := Nonempty.intro hx)
        (repeat' (first | refine swp_seq [0, 1, 2, 3, 4, 5, 6, 7, 9, 10, 11, 12, 29, 38, 46, 48, 57] ?_ | refine st2 ?_ | (show Fct ..; refine fctI (fun hf => ?_)) | (show SWp _ _ _ (.cond _ _ _) _ _ _ _; first | refine cB (fun hc => ?_) (fun hc => ?_) | refine cU ?_ ?_)))
        (refine lN [0, 8, 16] ?_)
        exact ⟨_, by omega, j + 1, k2 + 2, by omega, by omega, rfl, fun i hi => by
          by_cases e : i = j
          · rw [e, hPj]; exact decide_eq_true hx
          · exact g3 i (by omega), rfl, rfl⟩
      · (have := Nonempty.intro hx)
        rw [rall_false (f := pairB p l k) hjl (by rw [hPj]; exact decide_eq_false hx)]
        (repeat' (first | refine swp_seq [0, 1, 2, 3, 4, 5, 6, 7, 9, 10, 11, 12, 29, 38, 46, 48, 57] ?_ | refine st2 ?_ | (show Fct ..; refine fctI (fun hf => ?_)) | (show SWp _ _ _ (.cond _ _ _) _ _ _ _; first | refine cB (fun hc => ?_) (fun hc => ?_) | refine cU ?_ ?_)))
        exact DVR
    case false =>
      have hlast : ¬ (k : Int) = (l.length : Int) - 1 := by simpa using hLB
      have hk1 : k + 1 < l.length := by omega
      obtain ⟨hr2, hr28⟩ := hrow (k + 1) hk1
      obtain ⟨he2, hval2, hsort2⟩ := rowB_in hr2
      have hv0 := hval j hjl
      rw [← hk2] at hv0
      have hPj : pairB p l k j = p.rel.all (stB p k ((l.getD k default).getD k2 default) ((l.getD k default).getD (k2 + 1) default) (l.getD (k + 1) default)) := by rw [hP, if_neg (by omega), hk2]
      have cs := fun m => steps_f p l k ((l.getD k default).getD k2 default) ((l.getD k default).getD (k2 + 1) default) m hp hq hl1 hk1 (by omega) (by omega) (by omega) he2 hsort2 (atR_in hr2)
      (repeat' (first | refine swp_seq [0, 1, 2, 3, 4, 5, 6, 7, 9, 10, 11, 12, 29, 38, 46, 48, 57] ?_ | (show SWp _ _ _ (.region _ _ true) _ _ _ _; refine xG mixed [8, 16, 89] ?_) | refine st2 ?_ | (show Fct ..; refine fctI (fun hf => ?_)) | (show SWp _ _ _ (.cond _ _ _) _ _ _ _; first | refine cB (fun hc => ?_) (fun hc => ?_) | refine cU ?_ ?_)))
      cases hb : p.rel.all (stB p k ((l.getD k default).getD k2 default) ((l.getD k default).getD (k2 + 1) default) (l.getD (k + 1) default)) <;> simp only [hb] at cs hPj
      · rw [rall_false (f := pairB p l k) hjl hPj]
        (refine xQT [8, 16, 89] (fun hcc => (cs _)) ?_)
        (repeat' (first | refine swp_seq [0, 1, 2, 3, 4, 5, 6, 7, 9, 10, 11, 12, 29, 38, 46, 48, 57] ?_ | (show SWp _ _ _ (.region _ _ true) _ _ _ _; refine xG mixed [8, 16, 89] ?_) | refine st2 ?_ | (show Fct ..; refine fctI (fun hf => ?_)) | (show SWp _ _ _ (.cond _ _ _) _ _ _ _; first | refine cB (fun hc => ?_) (fun hc => ?_) | refine cU ?_ ?_)))
        exact DVR
      · (refine xQT [8, 16, 89] (fun hcc => (cs _)) ?_)
        (repeat' (first | refine swp_seq [0, 1, 2, 3, 4, 5, 6, 7, 9, 10, 11, 12, 29, 38, 46, 48, 57] ?_ | (show SWp _ _ _ (.region _ _ true) _ _ _ _; refine xG mixed [8, 16, 89] ?_) | refine st2 ?_ | (show Fct ..; refine fctI (fun hf => ?_)) | (show SWp _ _ _ (.cond _ _ _) _ _ _ _; first | refine cB (fun hc => ?_) (fun hc => ?_) | refine cU ?_ ?_)))
        (refine lN [0, 8, 16] ?_)
        exact ⟨_, by omega, j + 1, k2 + 2, by omega, by omega, rfl, fun i hi => by
          by_cases e : i = j
          · rw [e, hPj]
          · exact g3 i (by omega), rfl, rfl⟩
  have hj3 : ¬ ((k2 : Int) < ((l.getD k default).length : Int)) := by omega
  (have := Nonempty.intro hj3)
  rw [rall_true (f := pairB p l k) fun i hi => g3 i (by omega)]
  (repeat' (first | refine swp_seq [0, 1, 2, 3, 4, 5, 6, 7, 9, 10, 11, 12, 29, 38, 46, 48, 57] ?_ | refine st2 ?_ | (show Fct ..; refine fctI (fun hf => ?_)) | (show SWp _ _ _ (.cond _ _ _) _ _ _ _; first | refine cB (fun hc => ?_) (fun hc => ?_) | refine cU ?_ ?_)))
  exact DVR
theorem failK_eq {p : Plan} {l : List (List Int)} {i : Nat} (hi : i < l.length) (h1 : ∀ j, j < i → holdsB p l j = true) (h2 : holdsB p l i = false) : failK p l = i := by
  unfold failK
  rw [List.findIdx_eq (by rw [List.length_range]; exact hi)]
  refine ⟨by simp [h2], fun j hj => ?_⟩
  simp [h1 j hj]
theorem failK_none {p : Plan} {l : List (List Int)} (h1 : ∀ j, j < l.length → holdsB p l j = true) : ¬ failK p l < l.length := fun h => by
  have h2 : (List.range l.length).findIdx (fun k => !holdsB p l k) < (List.range l.length).length := by rw [List.length_range]; exact h
  obtain ⟨x, hx, hb⟩ := List.findIdx_lt_length.1 h2
  rw [h1 x (List.mem_range.1 hx)] at hb
  cases hb
set_option maxRecDepth 20000 in
set_option maxHeartbeats 8000000 in
theorem check_f (p : Plan) (l : List (List Int)) (m : Nat) (hq : planOk p) (hl : rowsOk l) : DCalls Tryz.prog 19 [planD p, intss l] (hget []) m (.tup [lb (checkR p l).1, li (checkR p l).2.1, li (checkR p l).2.2]) (hget []) := by
  have cg := fun m => given_f p l m hq hl
  have hl1 := hl.1
  by_cases h0 : givenE p l = 0
  case neg =>
    rw [show checkR p l = (false, 0, givenE p l) from if_pos h0]
    generalize givenE p l = E at *
    (have := Nonempty.intro h0)
    refine pureC (n := 27) (rs := [.tmp 4, .tmp 5, .tmp 6]) (ts := [4, 3, 30]) Tryz.func19 rfl (by decide) [] (by (exact SD)) ?_
    (repeat' (first | refine swp_seq [0, 1, 2, 4, 5, 6, 7, 8, 13, 16, 17, 18, 24] ?_ | refine st2 ?_ | (show CallQ ..; first | refine cQ (fun hcc => (by first | exact cg _)) ?_ | (refine lP ?_; refine lQ (fun hcc m => (by first | exact cg _)) ?_)) | (show Fct ..; refine fctI (fun hf => ?_)) | (show SWp _ _ _ (.cond _ _ _) _ _ _ _; first | refine cB (fun hc => ?_) (fun hc => ?_) | refine cU ?_ ?_)))
    exact DVR
  have ch := fun i m hi => holds_f p l i m hq hl h0 hi
  have hC : checkR p l = if failK p l < l.length then (false, (failK p l : Int), 0) else (true, 0, 0) := if_neg (fun k => k h0)
  rw [hC]
  clear hC
  rw [h0] at cg
  refine pureC (n := 27) (rs := [.tmp 4, .tmp 5, .tmp 6]) (ts := [4, 3, 30]) Tryz.func19 rfl (by decide) [] (by (exact SD)) ?_
  (repeat' (first | refine swp_seq [0, 1, 2, 4, 5, 6, 7, 8, 13, 16, 17, 18, 24] ?_ | refine st2 ?_ | (show CallQ ..; first | refine cQ (fun hcc => (by first | exact cg _)) ?_ | (refine lP ?_; refine lQ (fun hcc m => (by first | exact cg _)) ?_)) | (show Fct ..; refine fctI (fun hf => ?_)) | (show SWp _ _ _ (.cond _ _ _) _ _ _ _; first | refine cB (fun hc => ?_) (fun hc => ?_) | refine cU ?_ ?_)))
  refine loop_swp [1, 2, 16, 17] [0] 1 (fun q A H => ∃ i : Nat, i ≤ l.length ∧ q = l.length - i ∧ (∀ j, j < i → holdsB p l j = true) ∧ A = [(1, intss l), (2, .ptr 0 0), (16, li l.length), (17, li i)] ∧ H = [(0, .blk 26 (planC p))]) (by omega) ?_ ?_ ?_
  · rintro q A H ⟨i, g1, g2, g3, rfl, rfl⟩
    exact ⟨by (exact SD), by (exact SD)⟩
  · refine ⟨_, 0, by omega, rfl, by omega, ?_, ?_⟩
    · exact DVR
    · exact DVR
  rintro q A H ⟨i, g1, g2, g3, rfl, rfl⟩
  by_cases hi : i < l.length
  · have hi3 : (i : Int) < (l.length : Int) := by omega
    (have := Nonempty.intro hi3)
    (have := Nonempty.intro hi)
    have chi := fun m => ch i m hi
    cases hb : holdsB p l i <;> simp only [hb] at chi
    · have e := failK_eq hi g3 hb
      rw [if_pos (by omega), e]
      (repeat' (first | refine swp_seq [0, 1, 2, 4, 5, 6, 7, 8, 13, 16, 17, 18, 24] ?_ | refine st2 ?_ | (show CallQ ..; first | refine cQ (fun hcc => (by first | exact chi _)) ?_ | (refine lP ?_; refine lQ (fun hcc m => (by first | exact chi _)) ?_)) | (show Fct ..; refine fctI (fun hf => ?_)) | (show SWp _ _ _ (.cond _ _ _) _ _ _ _; first | refine cB (fun hc => ?_) (fun hc => ?_) | refine cU ?_ ?_)))
      exact DVR
    · (repeat' (first | refine swp_seq [0, 1, 2, 4, 5, 6, 7, 8, 13, 16, 17, 18, 24] ?_ | refine st2 ?_ | (show CallQ ..; first | refine cQ (fun hcc => (by first | exact chi _)) ?_ | (refine lP ?_; refine lQ (fun hcc m => (by first | exact chi _)) ?_)) | (show Fct ..; refine fctI (fun hf => ?_)) | (show SWp _ _ _ (.cond _ _ _) _ _ _ _; first | refine cB (fun hc => ?_) (fun hc => ?_) | refine cU ?_ ?_)))
      (refine lN [0] ?_)
      exact ⟨_, by omega, i + 1, by omega, rfl, fun j hj => by
        by_cases e : j = i
        · rw [e, hb]
        · exact g3 j (by omega), rfl, rfl⟩
  have hi3 : ¬ ((i : Int) < (l.length : Int)) := by omega
  (have := Nonempty.intro hi3)
  rw [if_neg (failK_none fun j hj => g3 j (by omega))]
  (repeat' (first | refine swp_seq [0, 1, 2, 4, 5, 6, 7, 8, 13, 16, 17, 18, 24] ?_ | refine st2 ?_ | (show Fct ..; refine fctI (fun hf => ?_)) | (show SWp _ _ _ (.cond _ _ _) _ _ _ _; first | refine cB (fun hc => ?_) (fun hc => ?_) | refine cU ?_ ?_)))
  exact DVR
set_option maxRecDepth 20000 in
set_option maxHeartbeats 8000000 in
theorem bound_f (p : Plan) (l : List (List Int)) (m : Nat) (hq : planOk p) (hl : rowsOk l) : DCalls Tryz.prog 20 [planD p, intss l] (hget []) m (.tup [li (boundR p l).1, li (boundR p l).2]) (hget []) := by
  have cc := fun m => check_f p l m hq hl
  have hl1 := hl.1
  by_cases h0 : givenE p l = 0
  case neg =>
    rw [show boundR p l = (0, givenE p l) from if_pos h0]
    rw [show checkR p l = (false, 0, givenE p l) from if_pos h0] at cc
    generalize givenE p l = E at *
    (have := Nonempty.intro h0)
    refine pureC (n := 35) (rs := [.tmp 4, .tmp 5]) (ts := [3, 30]) Tryz.func20 rfl (by decide) [] (by (exact SD)) ?_
    (repeat' (first | refine swp_seq [0, 1, 2, 4, 5, 6, 8, 9, 19, 22, 33] ?_ | refine st2 ?_ | (show CallQ ..; first | refine cQ (fun hcc => (by first | exact cc _)) ?_ | (refine lP ?_; refine lQ (fun hcc m => (by first | exact cc _)) ?_)) | (show XCallQ ..; first | refine xQ (fun hcc => (by first | exact cc _)) ?_ | (refine xlP ?_; refine xlQ (fun hcc m => (by first | exact cc _)) ?_)) | (show Fct ..; refine fctI (fun hf => ?_)) | (show SWp _ _ _ (.cond _ _ _) _ _ _ _; first | refine cB (fun hc => ?_) (fun hc => ?_) | refine cU ?_ ?_)))
    exact DVR
  have hC : checkR p l = if failK p l < l.length then (false, (failK p l : Int), 0) else (true, 0, 0) := if_neg (fun k => k h0)
  have hB : boundR p l = if failK p l < l.length then (0, 13) else if (atR (l.getD 0 default) p.start).1 = -1 then (0, 12) else ((atR (l.getD 0 default) p.start).1, 0) := if_neg (fun k => k h0)
  rw [hB]
  rw [hC] at cc
  clear hC hB
  by_cases h1 : failK p l < l.length
  · rw [if_pos h1] at cc ⊢
    refine pureC (n := 35) (rs := [.tmp 4, .tmp 5]) (ts := [3, 30]) Tryz.func20 rfl (by decide) [] (by (exact SD)) ?_
    (repeat' (first | refine swp_seq [0, 1, 2, 4, 5, 6, 8, 9, 19, 22, 33] ?_ | refine st2 ?_ | (show CallQ ..; first | refine cQ (fun hcc => (by first | exact cc _)) ?_ | (refine lP ?_; refine lQ (fun hcc m => (by first | exact cc _)) ?_)) | (show XCallQ ..; first | refine xQ (fun hcc => (by first | exact cc _)) ?_ | (refine xlP ?_; refine xlQ (fun hcc m => (by first | exact cc _)) ?_)) | (show Fct ..; refine fctI (fun hf => ?_)) | (show SWp _ _ _ (.cond _ _ _) _ _ _ _; first | refine cB (fun hc => ?_) (fun hc => ?_) | refine cU ?_ ?_)))
    exact DVR
  rw [if_neg h1] at cc ⊢
  obtain ⟨hp, hln, hrow⟩ := given_in h0
  have hl0 : 0 < l.length := by omega
  have hl03 : (0 : Int) < (l.length : Int) := by omega
  obtain ⟨hrk, hr8⟩ := hrow 0 hl0
  obtain ⟨he, hval, hsort⟩ := rowB_in hrk
  have cf := fun m => find_f (l.getD 0 default) p.start m (by omega) he hsort
  (have := Nonempty.intro hl0)
  (have := Nonempty.intro hl03)
  generalize atR (l.getD 0 default) p.start = A at *
  obtain ⟨y, ok⟩ := A
  by_cases hy : y = -1
  · subst hy
    rw [if_pos rfl]
    refine pureC (n := 35) (rs := [.tmp 4, .tmp 5]) (ts := [3, 30]) Tryz.func20 rfl (by decide) [] (by (exact SD)) ?_
    (repeat' (first | refine swp_seq [0, 1, 2, 4, 5, 6, 8, 9, 19, 22, 33] ?_ | refine st2 ?_ | (show CallQ ..; first | refine cQ (fun hcc => (by first | exact cc _ | exact cf _)) ?_ | (refine lP ?_; refine lQ (fun hcc m => (by first | exact cc _ | exact cf _)) ?_)) | (show XCallQ ..; first | refine xQ (fun hcc => (by first | exact cc _ | exact cf _)) ?_ | (refine xlP ?_; refine xlQ (fun hcc m => (by first | exact cc _ | exact cf _)) ?_)) | (show Fct ..; refine fctI (fun hf => ?_)) | (show SWp _ _ _ (.cond _ _ _) _ _ _ _; first | refine cB (fun hc => ?_) (fun hc => ?_) | refine cU ?_ ?_)))
    exact DVR
  · (have := Nonempty.intro hy)
    rw [if_neg hy]
    refine pureC (n := 35) (rs := [.tmp 4, .tmp 5]) (ts := [3, 30]) Tryz.func20 rfl (by decide) [] (by (exact SD)) ?_
    (repeat' (first | refine swp_seq [0, 1, 2, 4, 5, 6, 8, 9, 19, 22, 33] ?_ | refine st2 ?_ | (show CallQ ..; first | refine cQ (fun hcc => (by first | exact cc _ | exact cf _)) ?_ | (refine lP ?_; refine lQ (fun hcc m => (by first | exact cc _ | exact cf _)) ?_)) | (show XCallQ ..; first | refine xQ (fun hcc => (by first | exact cc _ | exact cf _)) ?_ | (refine xlP ?_; refine xlQ (fun hcc m => (by first | exact cc _ | exact cf _)) ?_)) | (show Fct ..; refine fctI (fun hf => ?_)) | (show SWp _ _ _ (.cond _ _ _) _ _ _ _; first | refine cB (fun hc => ?_) (fun hc => ?_) | refine cU ?_ ?_)))
    exact DVR
set_option maxHeartbeats 1000000 in
theorem idxIntC_f (g : FuncId) (t : TypeId) (cs : List PV) (p : Int → Bool) (l : List (Int)) (hl : l.length ≤ 281474976710656) (hg : ∀ x, x ∈ l → ∀ m, DCalls Tryz.prog g [li x, .ptr 0 0] (hget [(0, .blk t (cs.map .p))]) m (lb (p x)) (hget [(0, .blk t (cs.map .p))])) :
    DCalls Tryz.prog 67 [ints l, .clo g [.ptr 0 0]] (hget [(0, .blk t (cs.map .p))]) 1 (li (idxI p l)) (hget [(0, .blk t (cs.map .p))]) := by
  refine contract (n := 19) (rs := [.tmp 4]) (ts := [3]) Tryz.func67 rfl (by decide) 1 1 [] [] [] (li (idxI p l)) [(0, .blk t (cs.map .p))] (by (exact SD)) (by (exact SD)) ?_
  (repeat' (first | refine swp_seq [0, 1, 4, 5, 7, 8, 9, 16] ?_ | refine st2 ?_ | (show Fct ..; refine fctI (fun hf => ?_)) | (show SWp _ _ _ (.cond _ _ _) _ _ _ _; first | refine cB (fun hc => ?_) (fun hc => ?_) | refine cU ?_ ?_)))
  refine loop_swp [0, 1, 7, 8] [0] 1 (fun q A H => ∃ i : Nat, i ≤ l.length ∧ q = l.length - i ∧ (l.take i).any p = false ∧ A = [(0, ints l), (1, .clo g [.ptr 0 0]), (7, li l.length), (8, li i)] ∧ H = [(0, .blk t (cs.map .p))]) (by omega) ?_ ?_ ?_
  · rintro q A H ⟨i, h1, h2, h3, rfl, rfl⟩
    exact ⟨by (exact SD), by (exact SD)⟩
  · refine ⟨_, 0, by omega, rfl, rfl, ?_, ?_⟩
    · exact DVR
    · exact DVR
  · rintro q A H ⟨i, h1, h2, h3, rfl, rfl⟩
    (repeat' (first | refine swp_seq [0, 1, 4, 5, 7, 8, 9, 16] ?_ | refine st2 ?_ | (show CallQ ..; first | refine cQ (fun hcc => (hg _ (getD_mem SC) _)) ?_ | (refine lP ?_; refine lQ (fun hcc m => (hg _ (getD_mem SC) _)) ?_)) | (show Fct ..; refine fctI (fun hf => ?_)) | (show SWp _ _ _ (.cond _ _ _) _ _ _ _; first | refine cB (fun hc => ?_) (fun hc => ?_) | refine cU ?_ ?_)))
    · (refine DVQ ?_)
      rw [idxI_hit h3 (by omega) (by assumption)]
    · (refine lN [0] ?_)
      exact ⟨_, by omega, i + 1, by omega, rfl, any_step h3 (by omega) (by assumption), rfl, rfl⟩
    · (refine DVQ ?_)
      rw [List.take_of_length_le (by omega)] at h3
      rw [idxI_none h3]
theorem conIntC_f (g : FuncId) (t : TypeId) (cs : List PV) (p : Int → Bool) (l : List Int) (hl : l.length ≤ 281474976710656) (hg : ∀ x, x ∈ l → ∀ m, DCalls Tryz.prog g [li x, .ptr 0 0] (hget [(0, .blk t (cs.map .p))]) m (lb (p x)) (hget [(0, .blk t (cs.map .p))])) :
    DCalls Tryz.prog 45 [ints l, .clo g [.ptr 0 0]] (hget [(0, .blk t (cs.map .p))]) 1 (lb (l.any p)) (hget [(0, .blk t (cs.map .p))]) := by
  have ci := idxIntC_f g t cs p l hl hg
  refine contract (n := 9) (rs := [.tmp 4]) (ts := [4]) Tryz.func45 rfl (by decide) 1 1 [] [] [] (lb (l.any p)) [(0, .blk t (cs.map .p))] (by (exact SD)) (by (exact SD)) ?_
  (repeat' (first | refine swp_seq [0, 1, 4] ?_ | refine st2 ?_ | (show Fct ..; refine fctI (fun hf => ?_)) | (show SWp _ _ _ (.cond _ _ _) _ _ _ _; first | refine cB (fun hc => ?_) (fun hc => ?_) | refine cU ?_ ?_)))
  (refine cQT [0] (fun hcc => ci) ?_)
  (repeat' (first | refine swp_seq [0, 1, 4] ?_ | refine st2 ?_ | (show Fct ..; refine fctI (fun hf => ?_)) | (show SWp _ _ _ (.cond _ _ _) _ _ _ _; first | refine cB (fun hc => ?_) (fun hc => ?_) | refine cU ?_ ?_)))
  (refine DVQ ?_)
  refine lbC ?_
  rw [idxI_any]
def eqB (r x : Int) : Bool := decide (r = x)
set_option maxHeartbeats 1000000 in
theorem index_f (l : List Int) (r : Int) (m : Nat) (hl : l.length ≤ 281474976710656) : DCalls Tryz.prog 48 [ints l, li r] (hget []) m (li (idxI (eqB r) l)) (hget []) := by
  refine pureC (n := 19) (rs := [.tmp 4]) (ts := [3]) Tryz.func48 rfl (by decide) [] (by (exact SD)) ?_
  (repeat' (first | refine swp_seq [0, 1, 4, 5, 7, 8, 9, 16] ?_ | refine st2 ?_ | (show Fct ..; refine fctI (fun hf => ?_)) | (show SWp _ _ _ (.cond _ _ _) _ _ _ _; first | refine cB (fun hc => ?_) (fun hc => ?_) | refine cU ?_ ?_)))
  refine loop_swp [0, 1, 7, 8] [] 0 (fun q A H => ∃ i : Nat, i ≤ l.length ∧ q = l.length - i ∧ (l.take i).any (eqB r) = false ∧ A = [(0, ints l), (1, li r), (7, li l.length), (8, li i)] ∧ H = []) (by omega) ?_ ?_ ?_
  · rintro q A H ⟨i, h1, h2, h3, rfl, rfl⟩
    exact ⟨by (exact SD), by (exact SD)⟩
  · refine ⟨_, 0, by omega, rfl, rfl, ?_, ?_⟩
    · exact DVR
    · exact DVR
  rintro q A H ⟨i, h1, h2, h3, rfl, rfl⟩
  by_cases hi : i < l.length
  · have hi3 : (i : Int) < (l.length : Int) := by omega
    (have := Nonempty.intro hi3)
    (have := Nonempty.intro hi)
    by_cases hx : r = l.getD i default
    · (have := Nonempty.intro hx)
      rw [idxI_hit h3 hi (decide_eq_true hx)]
      (repeat' (first | refine swp_seq [0, 1, 4, 5, 7, 8, 9, 16] ?_ | refine st2 ?_ | (show Fct ..; refine fctI (fun hf => ?_)) | (show SWp _ _ _ (.cond _ _ _) _ _ _ _; first | refine cB (fun hc => ?_) (fun hc => ?_) | refine cU ?_ ?_)))
      exact DVR
    · (have := Nonempty.intro hx)
      (repeat' (first | refine swp_seq [0, 1, 4, 5, 7, 8, 9, 16] ?_ | refine st2 ?_ | (show Fct ..; refine fctI (fun hf => ?_)) | (show SWp _ _ _ (.cond _ _ _) _ _ _ _; first | refine cB (fun hc => ?_) (fun hc => ?_) | refine cU ?_ ?_)))
      (refine lN [] ?_)
      exact ⟨_, by omega, i + 1, by omega, rfl, any_step h3 hi (decide_eq_false hx), rfl, rfl⟩
  have hi3 : ¬ ((i : Int) < (l.length : Int)) := by omega
  (have := Nonempty.intro hi3)
  rw [List.take_of_length_le (by omega)] at h3
  rw [idxI_none h3]
  (repeat' (first | refine swp_seq [0, 1, 4, 5, 7, 8, 9, 16] ?_ | refine st2 ?_ | (show Fct ..; refine fctI (fun hf => ?_)) | (show SWp _ _ _ (.cond _ _ _) _ _ _ _; first | refine cB (fun hc => ?_) (fun hc => ?_) | refine cU ?_ ?_)))
  exact DVR
theorem contains_f (l : List Int) (r : Int) (m : Nat) (hl : l.length ≤ 281474976710656) : DCalls Tryz.prog 47 [ints l, li r] (hget []) m (lb (l.any (eqB r))) (hget []) := by
  refine pureC (n := 9) (rs := [.tmp 4]) (ts := [4]) Tryz.func47 rfl (by decide) [] (by (exact SD)) ?_
  (repeat' (first | refine swp_seq [0, 1, 4] ?_ | refine st2 ?_ | (show CallQ ..; first | refine cQ (fun hcc => (by first | exact index_f _ _ _ hl)) ?_ | (refine lP ?_; refine lQ (fun hcc m => (by first | exact index_f _ _ _ hl)) ?_)) | (show Fct ..; refine fctI (fun hf => ?_)) | (show SWp _ _ _ (.cond _ _ _) _ _ _ _; first | refine cB (fun hc => ?_) (fun hc => ?_) | refine cU ?_ ?_)))
  (refine DVQ ?_)
  refine lbC ?_
  rw [idxI_any]
theorem notIn_f (p : Plan) (r : Int) (m : Nat) (hl : p.rel.length ≤ 281474976710656) : DCalls Tryz.prog 46 [li r, .ptr 0 0] (hget [(0, .blk 26 ((planP p).map .p))]) m (lb (!p.rel.any (eqB r))) (hget [(0, .blk 26 ((planP p).map .p))]) := by
  have cc := fun m => contains_f p.rel r m hl
  refine contract (n := 9) (rs := [.tmp 3]) (ts := [4]) Tryz.func46 rfl (by decide) 1 1 [] [] [] (lb (!p.rel.any (eqB r))) [(0, .blk 26 ((planP p).map .p))] (by (exact SD)) (by (exact SD)) ?_
  (repeat' (first | refine swp_seq [0, 1, 3] ?_ | refine st2 ?_ | (show CallQ ..; first | refine cQ (fun hcc => (by first | exact cc _)) ?_ | (refine lP ?_; refine lQ (fun hcc m => (by first | exact cc _)) ?_)) | (show Fct ..; refine fctI (fun hf => ?_)) | (show SWp _ _ _ (.cond _ _ _) _ _ _ _; first | refine cB (fun hc => ?_) (fun hc => ?_) | refine cU ?_ ?_)))
  exact DVR
abbrev tkC (p : Plan) (d : DV) : List DV := [.p (.lit (.int .i64 p.start)), .p (.lit (.int .i64 p.cap)), .p (.lit (.int .i64 p.res)), .p (.dat 1 (p.inf.map inRow)), .p (.dat 1 (p.rel.map inRow)), .p (.dat 2 (p.pen.map knotP)), .p (.lit (.int .i64 p.wei)), d]
theorem planC_snoc (p : Plan) (d : DV) : planC p ++ [d] = tkC p d := rfl
attribute [push_cast] planC_snoc
set_option maxRecDepth 20000 in
set_option maxHeartbeats 8000000 in
theorem tank_f (p : Plan) (m : Nat) (hq : planOk p) (hp : planB p = true) : DCallsG Tryz.prog 25 [] [planD p] (hget []) m (.tup [.ptr m 0, lb true]) (hget [(m, .blk 85 (tkC p (ints (p.rel.map (floorT p.pen)))))]) := by
  have cv := fun m => pValid_f p m hq
  rw [hp] at cv
  have hin := planB_in hp
  refine contract (n := 41) (rs := [.tmp 2, .tmp 3]) (ts := [56, 4]) Tryz.func25 rfl (by decide) 0 0 [65] [] [64] (.tup [.ptr 64 0, lb true]) [(64, .blk 85 (tkC p (ints (p.rel.map (floorT p.pen)))))] (by (exact SD)) (by (exact SD)) ?_
  (repeat' (first | refine swp_seq [0, 1, 2, 3, 4, 6, 7, 11, 16, 17, 18, 19] ?_ | refine st2 ?_ | (show CallQ ..; first | refine cQ (fun hcc => (by first | exact cv _)) ?_ | (refine lP ?_; refine lQ (fun hcc m => (by first | exact cv _)) ?_)) | (show Fct ..; refine fctI (fun hf => ?_)) | (show SWp _ _ _ (.cond _ _ _) _ _ _ _; first | refine cB (fun hc => ?_) (fun hc => ?_) | refine cU ?_ ?_)))
  have hr := hin.2.2.2.2.1
  have hlp : ∀ i, i < p.rel.length → (p.rel.take (i + 1)).map (floorT p.pen) = (p.rel.take i).map (floorT p.pen) ++ [floorT p.pen (p.rel.getD i default)] := fun i hi => by
    rw [take_snoc hi, List.map_append]; rfl
  refine loop_swp [1, 4, 16, 17, 18] [0, 64, 65] 66 (fun q A H => ∃ i : Nat, i ≤ p.rel.length ∧ q = p.rel.length - i ∧ A = [(1, .ptr 0 0), (4, .ptr 64 0), (16, ints p.rel), (17, li p.rel.length), (18, li i)] ∧ ((i = 0 ∧ H = [(0, .blk 26 (planC p)), (64, .blk 85 (tkC p nilS))]) ∨ (0 < i ∧ H = [(0, .blk 26 (planC p)), (64, .blk 85 (tkC p (.gl 65))), (65, inLt ((p.rel.take i).map (floorT p.pen)))]))) (by omega) ?_ ?_ ?_
  · rintro q A H ⟨i, g1, g2, rfl, ⟨rfl, rfl⟩ | ⟨g3, rfl⟩⟩
    · exact ⟨by (exact SD), by (exact SD)⟩
    · exact ⟨by (exact SD), by (exact SD)⟩
  · refine ⟨_, 0, by omega, rfl, ?_, .inl ⟨rfl, ?_⟩⟩
    · exact DVR
    · exact DVR
  rintro q A H ⟨i, g1, g2, rfl, ⟨rfl, rfl⟩ | ⟨g3, rfl⟩⟩
  · have hi : 0 < p.rel.length := by omega
    have hi3 : (0 : Int) < (p.rel.length : Int) := by omega
    have hrin := hin.2.2.2.2.2.2.2.2.1 0 hi
    have cf := fun m => floor_f p.pen (p.rel.getD 0 default) m hin.2.2.2.2.2.2.1 (by unfold i64ok; omega)
    (have := Nonempty.intro hi)
    (have := Nonempty.intro hi3)
    have e1 := hlp 0 hi
    rw [List.take_zero, List.map_nil, List.nil_append] at e1
    generalize floorT p.pen (p.rel.getD 0 default) = F at *
    (repeat' (first | refine swp_seq [0, 1, 2, 3, 4, 6, 7, 11, 16, 17, 18, 19] ?_ | refine st2 ?_ | (show CallQ ..; first | refine cQ (fun hcc => (by first | exact cf _)) ?_ | (refine lP ?_; refine lQ (fun hcc m => (by first | exact cf _)) ?_)) | (show Fct ..; refine fctI (fun hf => ?_)) | (show SWp _ _ _ (.cond _ _ _) _ _ _ _; first | refine cB (fun hc => ?_) (fun hc => ?_) | refine cU ?_ ?_)))
    (refine lR 226 65 [0, 64, 226] ?_)
    exact ⟨_, by omega, 1, by omega, rfl, rfl, .inr ⟨by omega, by rw [e1]; rfl⟩⟩
  by_cases hi : i < p.rel.length
  · have hi3 : (i : Int) < (p.rel.length : Int) := by omega
    have hrin := hin.2.2.2.2.2.2.2.2.1 i hi
    have cf := fun m => floor_f p.pen (p.rel.getD i default) m hin.2.2.2.2.2.2.1 (by unfold i64ok; omega)
    (have := Nonempty.intro hi)
    (have := Nonempty.intro hi3)
    have e1 := hlp i hi
    have hlen : ((p.rel.take i).map (floorT p.pen)).length = i := by rw [List.length_map, List.length_take]; omega
    generalize floorT p.pen (p.rel.getD i default) = F at *
    generalize (p.rel.take i).map (floorT p.pen) = L at *
    (repeat' (first | refine swp_seq [0, 1, 2, 3, 4, 6, 7, 11, 16, 17, 18, 19] ?_ | refine st2 ?_ | (show CallQ ..; first | refine cQ (fun hcc => (by first | exact cf _)) ?_ | (refine lP ?_; refine lQ (fun hcc m => (by first | exact cf _)) ?_)) | (show Fct ..; refine fctI (fun hf => ?_)) | (show SWp _ _ _ (.cond _ _ _) _ _ _ _; first | refine cB (fun hc => ?_) (fun hc => ?_) | refine cU ?_ ?_)))
    (refine lN [0, 64, 65] ?_)
    exact ⟨_, by omega, i + 1, by omega, rfl, rfl, .inr ⟨by omega, by rw [e1]⟩⟩
  have hi2 : i = p.rel.length := by omega
  have hi3 : ¬ ((i : Int) < (p.rel.length : Int)) := by omega
  (have := Nonempty.intro hi3)
  rw [hi2, List.take_length] at *
  (repeat' (first | refine swp_seq [0, 1, 2, 3, 4, 6, 7, 11, 16, 17, 18, 19] ?_ | refine st2 ?_ | (show Fct ..; refine fctI (fun hf => ?_)) | (show SWp _ _ _ (.cond _ _ _) _ _ _ _; first | refine cB (fun hc => ?_) (fun hc => ?_) | refine cU ?_ ?_)))
  exact DVR

end Go.Proofs.YtlailhdmgehniaaGreat
