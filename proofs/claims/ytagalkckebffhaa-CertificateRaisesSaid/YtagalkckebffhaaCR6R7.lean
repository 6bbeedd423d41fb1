/-
  Contracts of functions of the program, over the engine.
  No condition.
-/
import Derived.Test.YtagalkckebffhaaCR4R5
import Derived.Test.YtagalkckebffhaaCS7S8S9
import Derived.Test.YtagalkckebffhaaCC33C34C35
namespace Go.Proofs.Ytagalkckebffhaa
open Go.Eng
set_option linter.all false
attribute [local irreducible] DCallsG SWp Fct CallQ XCallQ LCallQ XLCallQ drun xrun

set_option maxRecDepth 20000 in
set_option maxHeartbeats 8000000 in
theorem rHolds_f (p : Plan) (l : List (List Int)) (k : Nat) (m : Nat) (hq : planOk p) (hl : rowsOk l) (hg : givenE p l = 0) (hk : k < l.length) : DCalls Try.prog 81 [planD p, intss l, li k] (hget []) m (lb (holdsB p l k)) (hget []) := by
  obtain ⟨hp, hln, hrow⟩ := given_in hg
  have hin := planB_in hp
  obtain ⟨hrk, hr8⟩ := hrow k hk
  obtain ⟨he, hval, hsort⟩ := rowB_in hrk
  have hl1 := hl.1
  have cf := fun m => at_f (l.getD k default) p.start m (by omega) he
  (have := Nonempty.intro hk)
  have hP : ∀ j, pairB p l k j = if k + 1 = l.length then decide ((l.getD k default).getD (2 * j + 1) default = 0) else p.rel.all (stB p k ((l.getD k default).getD (2 * j) default) ((l.getD k default).getD (2 * j + 1) default) (l.getD (k + 1) default)) := fun _ => rfl
  have hB : holdsB p l k = ((!decide (k = 0) || (atR (l.getD k default) p.start).2) && (List.range ((l.getD k default).length / 2)).all (pairB p l k)) := rfl
  rw [hB]
  clear hB
  generalize atR (l.getD k default) p.start = A at *
  obtain ⟨y, ok⟩ := A
  by_cases h0 : (k : Int) = 0 ∧ ok = false
  · obtain ⟨h0, rfl⟩ := h0
    rw [decide_eq_true (by omega : k = 0)]
    (have := Nonempty.intro h0)
    refine pureC (n := 86) (rs := [.tmp 6]) (ts := [4]) Try.func81 rfl (by decide) [] (by (exact SD)) ?_
    (repeat' (first | refine swp_seq [0, 1, 2, 3, 6, 8, 9, 10, 26, 33, 40, 49, 54, 85] ?_ | refine st1 ?_ | (show CallQ ..; first | refine cF ?_ | refine cQ (fun hcc => (by first | exact cf _)) ?_ | (refine lP ?_; refine lQ (fun hcc m => (by first | exact cf _)) ?_)) | (show Fct ..; refine fctI (fun hf => ?_)) | (show XCallQ ..; first | refine xcF ?_ | refine xQ (fun hcc => (by first | exact cf _)) ?_ | (refine xlP ?_; refine xlQ (fun hcc m => (by first | exact cf _)) ?_)) | (show SWp _ _ _ (.region _ _ true) _ _ _ _; refine xG mixed [] ?_) | (show SWp _ _ _ (.cond _ _ _) _ _ _ _; first | (refine cB (fun hc => ?_) (fun hc => ?_) <;> first | exact False.elim hc | exact absurd hc Bool.false_ne_true | exact absurd hc.symm Bool.false_ne_true | skip) | refine cU ?_ ?_)))
    exact DVR
  have hh : (!decide (k = 0) || ok) = true := by
    by_cases e : k = 0
    · subst e
      have : ok = true := by
        cases ok
        · exact absurd ⟨rfl, rfl⟩ h0
        · rfl
      rw [this]; simp
    · rw [decide_eq_false e]; rfl
  rw [hh, Bool.true_and]
  refine pureC (n := 86) (rs := [.tmp 6]) (ts := [4]) Try.func81 rfl (by decide) [] (by (exact SD)) ?_
  (repeat' (first | (show SWp _ _ _ (.seq (.region 4 _ _) _) _ _ _ _; refine (stop_in ?_)) | refine swp_seq [0, 1, 2, 3, 6, 8, 9, 10, 26, 33, 40, 49, 54, 85] ?_ | refine st1 ?_ | (show CallQ ..; first | refine cF ?_ | refine cQ (fun hcc => (by first | exact cf _)) ?_ | (refine lP ?_; refine lQ (fun hcc m => (by first | exact cf _)) ?_)) | (show Fct ..; refine fctI (fun hf => ?_)) | (show XCallQ ..; first | refine xcF ?_ | refine xQ (fun hcc => (by first | exact cf _)) ?_ | (refine xlP ?_; refine xlQ (fun hcc m => (by first | exact cf _)) ?_)) | (show SWp _ _ _ (.region _ _ true) _ _ _ _; refine xG mixed [] ?_) | (show SWp _ _ _ (.cond _ _ _) _ _ _ _; first | (refine cB (fun hc => ?_) (fun hc => ?_) <;> first | exact False.elim hc | exact absurd hc Bool.false_ne_true | exact absurd hc.symm Bool.false_ne_true | skip) | refine cU ?_ ?_)))
  · exact absurd hc h0
  refine stop_out ?_
  (repeat' (first | refine swp_seq [0, 1, 2, 3, 6, 8, 9, 10, 26, 33, 40, 49, 54, 85] ?_ | refine st1 ?_ | (show Fct ..; refine fctI (fun hf => ?_)) | (show SWp _ _ _ (.region _ _ true) _ _ _ _; refine xG mixed [] ?_) | (show SWp _ _ _ (.cond _ _ _) _ _ _ _; first | (refine cB (fun hc => ?_) (fun hc => ?_) <;> first | exact False.elim hc | exact absurd hc Bool.false_ne_true | exact absurd hc.symm Bool.false_ne_true | skip) | refine cU ?_ ?_)))
  refine loop_swp [1, 2, 3, 9] [0] 1 (fun q A H => ∃ j k2 : Nat, k2 = 2 * j ∧ k2 ≤ (l.getD k default).length ∧ q = (l.getD k default).length - k2 ∧ (∀ i, i < j → pairB p l k i = true) ∧ A = [(1, intss l), (2, li k), (3, .ptr 0 0), (9, li k2)] ∧ H = [(0, .blk 26 (planC p))]) (by omega) ?_ ?_ ?_
  · rintro q A H ⟨j, k2, hk2, g1, g2, g3, rfl, rfl⟩
    exact ⟨by (exact SD), by (exact SD)⟩
  · refine ⟨_, 0, 0, rfl, by omega, rfl, by omega, ?_, ?_⟩
    · exact DVR
    · exact DVR
  rintro q A H ⟨j, k2, hk2, g1, g2, g3, rfl, rfl⟩
  by_cases hj : k2 < (l.getD k default).length
  · have hj3 : (k2 : Int) < ((l.getD k default).length : Int) := by omega
    (have := Nonempty.intro hj3)
    (have := Nonempty.intro hj)
    have hj5 : k2 + 1 < (l.getD k default).length := by omega
    (have := Nonempty.intro hj5)
    have hjl : j < (l.getD k default).length / 2 := by omega
    by_cases hlast : (k : Int) = (l.length : Int) - 1
    · (have := Nonempty.intro hlast)
      have hlk : k + 1 = l.length := by omega
      have hPj : pairB p l k j = decide ((l.getD k default).getD (k2 + 1) default = 0) := by rw [hP, if_pos hlk, hk2]
      by_cases hx : (l.getD k default).getD (k2 + 1) default = 0
      · (have := Nonempty.intro hx)
        (repeat' (first | refine swp_seq [0, 1, 2, 3, 6, 8, 9, 10, 26, 33, 40, 49, 54, 85] ?_ | refine st1 ?_ | (show Fct ..; refine fctI (fun hf => ?_)) | (show SWp _ _ _ (.region _ _ true) _ _ _ _; refine xG mixed [] ?_) | (show SWp _ _ _ (.cond _ _ _) _ _ _ _; first | (refine cB (fun hc => ?_) (fun hc => ?_) <;> first | exact False.elim hc | exact absurd hc Bool.false_ne_true | exact absurd hc.symm Bool.false_ne_true | skip) | refine cU ?_ ?_)))
        (refine lN [0] ?_)
        exact ⟨_, by omega, j + 1, k2 + 2, by omega, by omega, rfl, fun i hi => by
          by_cases e : i = j
          · rw [e, hPj]; exact decide_eq_true hx
          · exact g3 i (by omega), rfl, rfl⟩
      · (have := Nonempty.intro hx)
        rw [rall_false (f := pairB p l k) hjl (by rw [hPj]; exact decide_eq_false hx)]
        (repeat' (first | refine swp_seq [0, 1, 2, 3, 6, 8, 9, 10, 26, 33, 40, 49, 54, 85] ?_ | refine st1 ?_ | (show Fct ..; refine fctI (fun hf => ?_)) | (show SWp _ _ _ (.region _ _ true) _ _ _ _; refine xG mixed [] ?_) | (show SWp _ _ _ (.cond _ _ _) _ _ _ _; first | (refine cB (fun hc => ?_) (fun hc => ?_) <;> first | exact False.elim hc | exact absurd hc Bool.false_ne_true | exact absurd hc.symm Bool.false_ne_true | skip) | refine cU ?_ ?_)))
        exact DVR
    · (have := Nonempty.intro hlast)
      have hk1 : k + 1 < l.length := by omega
      (have := Nonempty.intro hk1)
      obtain ⟨hr2, hr28⟩ := hrow (k + 1) hk1
      obtain ⟨he2, hval2, hsort2⟩ := rowB_in hr2
      have hv0 := hval j hjl
      rw [← hk2] at hv0
      have hPj : pairB p l k j = p.rel.all (stB p k ((l.getD k default).getD k2 default) ((l.getD k default).getD (k2 + 1) default) (l.getD (k + 1) default)) := by rw [hP, if_neg (by omega), hk2]
      (repeat' (first | refine swp_seq [0, 1, 2, 3, 6, 8, 9, 10, 26, 33, 40, 49, 54, 85] ?_ | refine st1 ?_ | (show Fct ..; refine fctI (fun hf => ?_)) | (show SWp _ _ _ (.region _ _ true) _ _ _ _; refine xG mixed [] ?_) | (show SWp _ _ _ (.cond _ _ _) _ _ _ _; first | (refine cB (fun hc => ?_) (fun hc => ?_) <;> first | exact False.elim hc | exact absurd hc Bool.false_ne_true | exact absurd hc.symm Bool.false_ne_true | skip) | refine cU ?_ ?_)))
      refine loop_swp [1, 2, 3, 9, 10] [0] 1 (fun q A H => ∃ i : Nat, i ≤ p.rel.length ∧ q = p.rel.length - i ∧ (∀ j2, j2 < i → stB p k ((l.getD k default).getD k2 default) ((l.getD k default).getD (k2 + 1) default) (l.getD (k + 1) default) (p.rel.getD j2 default) = true) ∧ A = [(1, intss l), (2, li k), (3, .ptr 0 0), (9, li k2), (10, li i)] ∧ H = [(0, .blk 26 (planC p))]) (by omega) ?_ ?_ ?_
      · rintro q A H ⟨i, f1, f2, f3, rfl, rfl⟩
        exact ⟨by (exact SD), by (exact SD)⟩
      · refine ⟨_, 0, by omega, rfl, by omega, ?_, ?_⟩
        · exact DVR
        · exact DVR
      rintro q A H ⟨i, f1, f2, f3, rfl, rfl⟩
      by_cases hi : i < p.rel.length
      · have hi3 : (i : Int) < (p.rel.length : Int) := by omega
        (have := Nonempty.intro hi)
        (have := Nonempty.intro hi3)
        have cs := fun m => rstep_f p (l.getD (k + 1) default) k i ((l.getD k default).getD k2 default) ((l.getD k default).getD (k2 + 1) default) m hp (by omega) hi (by omega) hv0.2 (by omega) he2 (atR_in hr2)
        cases hb : stB p k ((l.getD k default).getD k2 default) ((l.getD k default).getD (k2 + 1) default) (l.getD (k + 1) default) (p.rel.getD i default) <;> simp only [hb] at cs
        · have hall : p.rel.all (stB p k ((l.getD k default).getD k2 default) ((l.getD k default).getD (k2 + 1) default) (l.getD (k + 1) default)) = false := List.all_eq_false.2 ⟨_, getD_mem hi, by rw [hb]; decide⟩
          rw [rall_false (f := pairB p l k) hjl (by rw [hPj]; exact hall)]
          (repeat' (first | refine swp_seq [0, 1, 2, 3, 6, 8, 9, 10, 26, 33, 40, 49, 54, 85] ?_ | refine st1 ?_ | (show CallQ ..; first | refine cF ?_ | refine cQ (fun hcc => (by first | exact cs _)) ?_ | (refine lP ?_; refine lQ (fun hcc m => (by first | exact cs _)) ?_)) | (show Fct ..; refine fctI (fun hf => ?_)) | (show XCallQ ..; first | refine xcF ?_ | refine xQ (fun hcc => (by first | exact cs _)) ?_ | (refine xlP ?_; refine xlQ (fun hcc m => (by first | exact cs _)) ?_)) | (show SWp _ _ _ (.region _ _ true) _ _ _ _; refine xG mixed [] ?_) | (show SWp _ _ _ (.cond _ _ _) _ _ _ _; first | (refine cB (fun hc => ?_) (fun hc => ?_) <;> first | exact False.elim hc | exact absurd hc Bool.false_ne_true | exact absurd hc.symm Bool.false_ne_true | skip) | refine cU ?_ ?_)))
          exact DVR
        · (repeat' (first | refine swp_seq [0, 1, 2, 3, 6, 8, 9, 10, 26, 33, 40, 49, 54, 85] ?_ | refine st1 ?_ | (show CallQ ..; first | refine cF ?_ | refine cQ (fun hcc => (by first | exact cs _)) ?_ | (refine lP ?_; refine lQ (fun hcc m => (by first | exact cs _)) ?_)) | (show Fct ..; refine fctI (fun hf => ?_)) | (show XCallQ ..; first | refine xcF ?_ | refine xQ (fun hcc => (by first | exact cs _)) ?_ | (refine xlP ?_; refine xlQ (fun hcc m => (by first | exact cs _)) ?_)) | (show SWp _ _ _ (.region _ _ true) _ _ _ _; refine xG mixed [] ?_) | (show SWp _ _ _ (.cond _ _ _) _ _ _ _; first | (refine cB (fun hc => ?_) (fun hc => ?_) <;> first | exact False.elim hc | exact absurd hc Bool.false_ne_true | exact absurd hc.symm Bool.false_ne_true | skip) | refine cU ?_ ?_)))
          (refine lN [0] ?_)
          exact ⟨_, by omega, i + 1, by omega, rfl, fun j2 hj2 => by
            by_cases e : j2 = i
            · rw [e]; exact hb
            · exact f3 j2 (by omega), rfl, rfl⟩
      have hi3 : ¬ ((i : Int) < (p.rel.length : Int)) := by omega
      (have := Nonempty.intro hi3)
      have hall : p.rel.all (stB p k ((l.getD k default).getD k2 default) ((l.getD k default).getD (k2 + 1) default) (l.getD (k + 1) default)) = true := List.all_eq_true.2 fun r hr => by
        obtain ⟨j2, hj2, rfl⟩ := List.mem_iff_getElem.1 hr
        have := f3 j2 (by omega)
        have e : p.rel.getD j2 default = p.rel[j2] := by rw [List.getD_eq_getElem?_getD, List.getElem?_eq_getElem hj2]; rfl
        rwa [e] at this
      (repeat' (first | refine swp_seq [0, 1, 2, 3, 6, 8, 9, 10, 26, 33, 40, 49, 54, 85] ?_ | refine st1 ?_ | (show Fct ..; refine fctI (fun hf => ?_)) | (show SWp _ _ _ (.region _ _ true) _ _ _ _; refine xG mixed [] ?_) | (show SWp _ _ _ (.cond _ _ _) _ _ _ _; first | (refine cB (fun hc => ?_) (fun hc => ?_) <;> first | exact False.elim hc | exact absurd hc Bool.false_ne_true | exact absurd hc.symm Bool.false_ne_true | skip) | refine cU ?_ ?_)))
      (refine lN [0] ?_)
      exact ⟨_, by omega, j + 1, k2 + 2, by omega, by omega, rfl, fun i2 hi2 => by
        by_cases e : i2 = j
        · rw [e, hPj]; exact hall
        · exact g3 i2 (by omega), rfl, rfl⟩
  have hj3 : ¬ ((k2 : Int) < ((l.getD k default).length : Int)) := by omega
  (have := Nonempty.intro hj3)
  rw [rall_true (f := pairB p l k) fun i hi => g3 i (by omega)]
  (repeat' (first | refine swp_seq [0, 1, 2, 3, 6, 8, 9, 10, 26, 33, 40, 49, 54, 85] ?_ | refine st1 ?_ | (show Fct ..; refine fctI (fun hf => ?_)) | (show SWp _ _ _ (.region _ _ true) _ _ _ _; refine xG mixed [] ?_) | (show SWp _ _ _ (.cond _ _ _) _ _ _ _; first | (refine cB (fun hc => ?_) (fun hc => ?_) <;> first | exact False.elim hc | exact absurd hc Bool.false_ne_true | exact absurd hc.symm Bool.false_ne_true | skip) | refine cU ?_ ?_)))
  exact DVR
set_option maxRecDepth 20000 in
set_option maxHeartbeats 8000000 in
theorem rCheck_f (p : Plan) (l : List (List Int)) (m : Nat) (hq : planOk p) (hl : rowsOk l) : DCalls Try.prog 63 [planD p, intss l] (hget []) m (.tup [lb (checkR p l).1, li (checkR p l).2.1, li (checkR p l).2.2]) (hget []) := by
  have cg := fun m => rGiven_f p l m hq hl
  have hl1 := hl.1
  by_cases h0 : givenE p l = 0
  case neg =>
    rw [show checkR p l = (false, 0, givenE p l) from if_pos h0]
    generalize givenE p l = E at *
    (have := Nonempty.intro h0)
    refine pureC (n := 27) (rs := [.tmp 4, .tmp 5, .tmp 6]) (ts := [4, 3, 3]) Try.func63 rfl (by decide) [] (by (exact SD)) ?_
    (repeat' (first | refine swp_seq [0, 1, 2, 4, 5, 6, 7, 8, 13, 18, 25] ?_ | refine st1 ?_ | (show CallQ ..; first | refine cF ?_ | refine cQ (fun hcc => (by first | exact cg _)) ?_ | (refine lP ?_; refine lQ (fun hcc m => (by first | exact cg _)) ?_)) | (show Fct ..; refine fctI (fun hf => ?_)) | (show SWp _ _ _ (.cond _ _ _) _ _ _ _; first | (refine cB (fun hc => ?_) (fun hc => ?_) <;> first | exact False.elim hc | exact absurd hc Bool.false_ne_true | exact absurd hc.symm Bool.false_ne_true | skip) | refine cU ?_ ?_)))
    exact DVR
  have ch := fun i m hi => rHolds_f p l i m hq hl h0 hi
  have hC : checkR p l = if failK p l < l.length then (false, (failK p l : Int), 0) else (true, 0, 0) := if_neg (fun k => k h0)
  rw [hC]
  clear hC
  rw [h0] at cg
  refine pureC (n := 27) (rs := [.tmp 4, .tmp 5, .tmp 6]) (ts := [4, 3, 3]) Try.func63 rfl (by decide) [] (by (exact SD)) ?_
  (repeat' (first | refine swp_seq [0, 1, 2, 4, 5, 6, 7, 8, 13, 18, 25] ?_ | refine st1 ?_ | (show CallQ ..; first | refine cF ?_ | refine cQ (fun hcc => (by first | exact cg _)) ?_ | (refine lP ?_; refine lQ (fun hcc m => (by first | exact cg _)) ?_)) | (show Fct ..; refine fctI (fun hf => ?_)) | (show SWp _ _ _ (.cond _ _ _) _ _ _ _; first | (refine cB (fun hc => ?_) (fun hc => ?_) <;> first | exact False.elim hc | exact absurd hc Bool.false_ne_true | exact absurd hc.symm Bool.false_ne_true | skip) | refine cU ?_ ?_)))
  refine loop_swp [1, 2, 8] [0] 1 (fun q A H => ∃ i : Nat, i ≤ l.length ∧ q = l.length - i ∧ (∀ j, j < i → holdsB p l j = true) ∧ A = [(1, intss l), (2, .ptr 0 0), (8, li i)] ∧ H = [(0, .blk 26 (planC p))]) (by omega) ?_ ?_ ?_
  · rintro q A H ⟨i, g1, g2, g3, rfl, rfl⟩
    exact ⟨by (exact SD), by (exact SD)⟩
  · refine ⟨_, 0, by omega, rfl, by omega, ?_, ?_⟩
    · exact DVR
    · exact DVR
  rintro q A H ⟨i, g1, g2, g3, rfl, rfl⟩
  by_cases hi : i < l.length
  · have hi3 : (i : Int) < (l.length : Int) := by omega
    (have := Nonempty.intro hi3)
    (have := Nonempty.intro hi)
    have chi := fun m => ch i m hi
    cases hb : holdsB p l i <;> simp only [hb] at chi
    · have e := failK_eq hi g3 hb
      rw [if_pos (by omega), e]
      (repeat' (first | refine swp_seq [0, 1, 2, 4, 5, 6, 7, 8, 13, 18, 25] ?_ | refine st1 ?_ | (show CallQ ..; first | refine cF ?_ | refine cQ (fun hcc => (by first | exact chi _)) ?_ | (refine lP ?_; refine lQ (fun hcc m => (by first | exact chi _)) ?_)) | (show Fct ..; refine fctI (fun hf => ?_)) | (show SWp _ _ _ (.cond _ _ _) _ _ _ _; first | (refine cB (fun hc => ?_) (fun hc => ?_) <;> first | exact False.elim hc | exact absurd hc Bool.false_ne_true | exact absurd hc.symm Bool.false_ne_true | skip) | refine cU ?_ ?_)))
      exact DVR
    · (repeat' (first | refine swp_seq [0, 1, 2, 4, 5, 6, 7, 8, 13, 18, 25] ?_ | refine st1 ?_ | (show CallQ ..; first | refine cF ?_ | refine cQ (fun hcc => (by first | exact chi _)) ?_ | (refine lP ?_; refine lQ (fun hcc m => (by first | exact chi _)) ?_)) | (show Fct ..; refine fctI (fun hf => ?_)) | (show SWp _ _ _ (.cond _ _ _) _ _ _ _; first | (refine cB (fun hc => ?_) (fun hc => ?_) <;> first | exact False.elim hc | exact absurd hc Bool.false_ne_true | exact absurd hc.symm Bool.false_ne_true | skip) | refine cU ?_ ?_)))
      (refine lN [0] ?_)
      exact ⟨_, by omega, i + 1, by omega, rfl, fun j hj => by
        by_cases e : j = i
        · rw [e, hb]
        · exact g3 j (by omega), rfl, rfl⟩
  have hi3 : ¬ ((i : Int) < (l.length : Int)) := by omega
  (have := Nonempty.intro hi3)
  rw [if_neg (failK_none fun j hj => g3 j (by omega))]
  (repeat' (first | refine swp_seq [0, 1, 2, 4, 5, 6, 7, 8, 13, 18, 25] ?_ | refine st1 ?_ | (show Fct ..; refine fctI (fun hf => ?_)) | (show SWp _ _ _ (.cond _ _ _) _ _ _ _; first | (refine cB (fun hc => ?_) (fun hc => ?_) <;> first | exact False.elim hc | exact absurd hc Bool.false_ne_true | exact absurd hc.symm Bool.false_ne_true | skip) | refine cU ?_ ?_)))
  exact DVR
set_option maxRecDepth 20000 in
set_option maxHeartbeats 8000000 in
theorem rBound_f (p : Plan) (l : List (List Int)) (m : Nat) (hq : planOk p) (hl : rowsOk l) : DCalls Try.prog 61 [planD p, intss l] (hget []) m (.tup [li (boundR p l).1, li (boundR p l).2]) (hget []) := by
  have cc := fun m => rCheck_f p l m hq hl
  have hl1 := hl.1
  by_cases h0 : givenE p l = 0
  case neg =>
    rw [show boundR p l = (0, givenE p l) from if_pos h0]
    rw [show checkR p l = (false, 0, givenE p l) from if_pos h0] at cc
    generalize givenE p l = E at *
    (have := Nonempty.intro h0)
    refine pureC (n := 35) (rs := [.tmp 4, .tmp 5]) (ts := [3, 3]) Try.func61 rfl (by decide) [] (by (exact SD)) ?_
    (repeat' (first | refine swp_seq [0, 1, 2, 4, 5, 6, 8, 9, 19, 22, 33] ?_ | refine st1 ?_ | (show CallQ ..; first | refine cF ?_ | refine cQ (fun hcc => (by first | exact cc _)) ?_ | (refine lP ?_; refine lQ (fun hcc m => (by first | exact cc _)) ?_)) | (show Fct ..; refine fctI (fun hf => ?_)) | (show XCallQ ..; first | refine xcF ?_ | refine xQ (fun hcc => (by first | exact cc _)) ?_ | (refine xlP ?_; refine xlQ (fun hcc m => (by first | exact cc _)) ?_)) | (show SWp _ _ _ (.region _ _ true) _ _ _ _; refine xG mixed [] ?_) | (show SWp _ _ _ (.cond _ _ _) _ _ _ _; first | (refine cB (fun hc => ?_) (fun hc => ?_) <;> first | exact False.elim hc | exact absurd hc Bool.false_ne_true | exact absurd hc.symm Bool.false_ne_true | skip) | refine cU ?_ ?_)))
    exact DVR
  have hC : checkR p l = if failK p l < l.length then (false, (failK p l : Int), 0) else (true, 0, 0) := if_neg (fun k => k h0)
  have hB : boundR p l = if failK p l < l.length then (0, 13) else if (atR (l.getD 0 default) p.start).1 = -1 then (0, 12) else ((atR (l.getD 0 default) p.start).1, 0) := if_neg (fun k => k h0)
  rw [hB]
  rw [hC] at cc
  clear hC hB
  by_cases h1 : failK p l < l.length
  · rw [if_pos h1] at cc ⊢
    refine pureC (n := 35) (rs := [.tmp 4, .tmp 5]) (ts := [3, 3]) Try.func61 rfl (by decide) [] (by (exact SD)) ?_
    (repeat' (first | refine swp_seq [0, 1, 2, 4, 5, 6, 8, 9, 19, 22, 33] ?_ | refine st1 ?_ | (show CallQ ..; first | refine cF ?_ | refine cQ (fun hcc => (by first | exact cc _)) ?_ | (refine lP ?_; refine lQ (fun hcc m => (by first | exact cc _)) ?_)) | (show Fct ..; refine fctI (fun hf => ?_)) | (show XCallQ ..; first | refine xcF ?_ | refine xQ (fun hcc => (by first | exact cc _)) ?_ | (refine xlP ?_; refine xlQ (fun hcc m => (by first | exact cc _)) ?_)) | (show SWp _ _ _ (.region _ _ true) _ _ _ _; refine xG mixed [] ?_) | (show SWp _ _ _ (.cond _ _ _) _ _ _ _; first | (refine cB (fun hc => ?_) (fun hc => ?_) <;> first | exact False.elim hc | exact absurd hc Bool.false_ne_true | exact absurd hc.symm Bool.false_ne_true | skip) | refine cU ?_ ?_)))
    exact DVR
  rw [if_neg h1] at cc ⊢
  obtain ⟨hp, hln, hrow⟩ := given_in h0
  have hl0 : 0 < l.length := by omega
  have hl03 : (0 : Int) < (l.length : Int) := by omega
  obtain ⟨hrk, hr8⟩ := hrow 0 hl0
  obtain ⟨he, hval, hsort⟩ := rowB_in hrk
  have cf := fun m => at_f (l.getD 0 default) p.start m (by omega) he
  have hy1 := atR_in hrk p.start
  (have := Nonempty.intro hl0)
  (have := Nonempty.intro hl03)
  generalize atR (l.getD 0 default) p.start = A at *
  obtain ⟨y, ok⟩ := A
  dsimp only at hy1
  by_cases hy : y = -1
  · subst hy
    rw [if_pos rfl]
    refine pureC (n := 35) (rs := [.tmp 4, .tmp 5]) (ts := [3, 3]) Try.func61 rfl (by decide) [] (by (exact SD)) ?_
    (repeat' (first | refine swp_seq [0, 1, 2, 4, 5, 6, 8, 9, 19, 22, 33] ?_ | refine st1 ?_ | (show CallQ ..; first | refine cF ?_ | refine cQ (fun hcc => (by first | exact cc _ | exact cf _)) ?_ | (refine lP ?_; refine lQ (fun hcc m => (by first | exact cc _ | exact cf _)) ?_)) | (show Fct ..; refine fctI (fun hf => ?_)) | (show XCallQ ..; first | refine xcF ?_ | refine xQ (fun hcc => (by first | exact cc _ | exact cf _)) ?_ | (refine xlP ?_; refine xlQ (fun hcc m => (by first | exact cc _ | exact cf _)) ?_)) | (show SWp _ _ _ (.region _ _ true) _ _ _ _; refine xG mixed [] ?_) | (show SWp _ _ _ (.cond _ _ _) _ _ _ _; first | (refine cB (fun hc => ?_) (fun hc => ?_) <;> first | exact False.elim hc | exact absurd hc Bool.false_ne_true | exact absurd hc.symm Bool.false_ne_true | skip) | refine cU ?_ ?_)))
    exact DVR
  · have hy0 : ¬ (y < 0) := by omega
    (have := Nonempty.intro hy0)
    rw [if_neg hy]
    refine pureC (n := 35) (rs := [.tmp 4, .tmp 5]) (ts := [3, 3]) Try.func61 rfl (by decide) [] (by (exact SD)) ?_
    (repeat' (first | refine swp_seq [0, 1, 2, 4, 5, 6, 8, 9, 19, 22, 33] ?_ | refine st1 ?_ | (show CallQ ..; first | refine cF ?_ | refine cQ (fun hcc => (by first | exact cc _ | exact cf _)) ?_ | (refine lP ?_; refine lQ (fun hcc m => (by first | exact cc _ | exact cf _)) ?_)) | (show Fct ..; refine fctI (fun hf => ?_)) | (show XCallQ ..; first | refine xcF ?_ | refine xQ (fun hcc => (by first | exact cc _ | exact cf _)) ?_ | (refine xlP ?_; refine xlQ (fun hcc m => (by first | exact cc _ | exact cf _)) ?_)) | (show SWp _ _ _ (.region _ _ true) _ _ _ _; refine xG mixed [] ?_) | (show SWp _ _ _ (.cond _ _ _) _ _ _ _; first | (refine cB (fun hc => ?_) (fun hc => ?_) <;> first | exact False.elim hc | exact absurd hc Bool.false_ne_true | exact absurd hc.symm Bool.false_ne_true | skip) | refine cU ?_ ?_)))
    exact DVR
set_option maxRecDepth 20000 in
set_option maxHeartbeats 16000000 in
theorem rCost_f (p : Plan) (rs : List Int) (m : Nat) (hp : planB p = true) (hl : rs.length ≤ 281474976710656) : DCalls Try.prog 62 [planD p, ints rs] (hget []) m (.tup [li (costR p rs).1, ints (costR p rs).2.1, li (costR p rs).2.2]) (hget []) := by
  unfold costR
  rw [if_neg (by rw [hp]; decide)]
  have hin := planB_in hp
  by_cases hn : (rs.length : Int) = (p.inf.length : Int)
  case neg =>
    (have := Nonempty.intro hn)
    rw [if_pos (by omega)]
    refine pureC (n := 89) (rs := [.tmp 4, .tmp 5, .tmp 6]) (ts := [3, 22, 3]) Try.func62 rfl (by decide) [] (by (exact SD)) ?_
    (repeat' (first | refine swp_seq [0, 1, 2, 4, 5, 6, 7, 8, 9, 10, 11, 12, 13, 19, 23, 30, 47, 53, 64] ?_ | refine st1 ?_ | (show CallQ ..; first | refine cF ?_ | refine cQ (fun hcc => (by fail)) ?_ | (refine lP ?_; refine lQ (fun hcc m => (by fail)) ?_)) | (show Fct ..; refine fctI (fun hf => ?_)) | (show XCallQ ..; first | refine xcF ?_ | refine xQ (fun hcc => (by fail)) ?_ | (refine xlP ?_; refine xlQ (fun hcc m => (by fail)) ?_)) | (show SWp _ _ _ (.region _ _ true) _ _ _ _; refine xG mixed [] ?_) | (show SWp _ _ _ (.cond _ _ _) _ _ _ _; first | (refine cB (fun hc => ?_) (fun hc => ?_) <;> first | exact False.elim hc | exact absurd hc Bool.false_ne_true | exact absurd hc.symm Bool.false_ne_true | skip) | refine cU ?_ ?_)))
    exact DVR
  (have := Nonempty.intro hn)
  rw [if_neg (by omega)]
  cases hany : (rs.any fun r => !p.rel.any (eqB r))
  case true =>
    rw [if_pos rfl]
    refine pureC (n := 89) (rs := [.tmp 4, .tmp 5, .tmp 6]) (ts := [3, 22, 3]) Try.func62 rfl (by decide) [] (by (exact SD)) ?_
    (repeat' (first | refine swp_seq [0, 1, 2, 4, 5, 6, 7, 8, 9, 10, 11, 12, 13, 19, 23, 30, 47, 53, 64] ?_ | refine st1 ?_ | (show CallQ ..; first | refine cF ?_ | refine cQ (fun hcc => (by fail)) ?_ | (refine lP ?_; refine lQ (fun hcc m => (by fail)) ?_)) | (show Fct ..; refine fctI (fun hf => ?_)) | (show XCallQ ..; first | refine xcF ?_ | refine xQ (fun hcc => (by fail)) ?_ | (refine xlP ?_; refine xlQ (fun hcc m => (by fail)) ?_)) | (show SWp _ _ _ (.region _ _ true) _ _ _ _; refine xG mixed [] ?_) | (show SWp _ _ _ (.cond _ _ _) _ _ _ _; first | (refine cB (fun hc => ?_) (fun hc => ?_) <;> first | exact False.elim hc | exact absurd hc Bool.false_ne_true | exact absurd hc.symm Bool.false_ne_true | skip) | refine cU ?_ ?_)))
    refine loop_swp [1, 2, 7] [0] 1 (fun q A H => ∃ i : Nat, i ≤ rs.length ∧ q = rs.length - i ∧ (∀ j, j < i → p.rel.any (eqB (rs.getD j default)) = true) ∧ A = [(1, ints rs), (2, .ptr 0 0), (7, li i)] ∧ H = [(0, .blk 26 (planC p))]) (by omega) ?_ ?_ ?_
    · rintro q A H ⟨i, g1, g2, g3, rfl, rfl⟩
      exact ⟨by (exact SD), by (exact SD)⟩
    · refine ⟨_, 0, by omega, rfl, by omega, ?_, ?_⟩
      · exact DVR
      · exact DVR
    rintro q A H ⟨i, g1, g2, g3, rfl, rfl⟩
    by_cases hi : i < rs.length
    · have hi3 : (i : Int) < (rs.length : Int) := by omega
      (have := Nonempty.intro hi)
      (have := Nonempty.intro hi3)
      (repeat' (first | refine swp_seq [0, 1, 2, 4, 5, 6, 7, 8, 9, 10, 11, 12, 13, 19, 23, 30, 47, 53, 64] ?_ | refine st1 ?_ | (show Fct ..; refine fctI (fun hf => ?_)) | (show SWp _ _ _ (.region _ _ true) _ _ _ _; refine xG mixed [] ?_) | (show SWp _ _ _ (.cond _ _ _) _ _ _ _; first | (refine cB (fun hc => ?_) (fun hc => ?_) <;> first | exact False.elim hc | exact absurd hc Bool.false_ne_true | exact absurd hc.symm Bool.false_ne_true | skip) | refine cU ?_ ?_)))
      refine loop_swp [1, 2, 7, 8, 9] [0] 1 (fun q A H => ∃ j : Nat, j ≤ p.rel.length ∧ q = p.rel.length - j ∧ A = [(1, ints rs), (2, .ptr 0 0), (7, li i), (8, lb ((p.rel.take j).any (eqB (rs.getD i default)))), (9, li j)] ∧ H = [(0, .blk 26 (planC p))]) (by omega) ?_ ?_ ?_
      · rintro q A H ⟨j, f1, f2, rfl, rfl⟩
        exact ⟨by (exact SD), by (exact SD)⟩
      · refine ⟨_, 0, by omega, rfl, ?_, ?_⟩
        · exact DVR
        · exact DVR
      rintro q A H ⟨j, f1, f2, rfl, rfl⟩
      by_cases hj : j < p.rel.length
      · have hj3 : (j : Int) < (p.rel.length : Int) := by omega
        (have := Nonempty.intro hj)
        (have := Nonempty.intro hj3)
        have hsn : (p.rel.take (j + 1)).any (eqB (rs.getD i default)) = ((p.rel.take j).any (eqB (rs.getD i default)) || (p.rel.getD j default == rs.getD i default)) := by
          rw [take_snoc hj, List.any_append, List.any_cons, List.any_nil, Bool.or_false]
          congr 1
          unfold eqB
          rw [Bool.eq_iff_iff]; simp; exact eq_comm
        generalize (p.rel.take j).any (eqB (rs.getD i default)) = F at *
        (repeat' (first | refine swp_seq [0, 1, 2, 4, 5, 6, 7, 8, 9, 10, 11, 12, 13, 19, 23, 30, 47, 53, 64] ?_ | refine st1 ?_ | (show Fct ..; refine fctI (fun hf => ?_)) | (show SWp _ _ _ (.region _ _ true) _ _ _ _; refine xG mixed [] ?_) | (show SWp _ _ _ (.cond _ _ _) _ _ _ _; first | (refine cB (fun hc => ?_) (fun hc => ?_) <;> first | exact False.elim hc | exact absurd hc Bool.false_ne_true | exact absurd hc.symm Bool.false_ne_true | skip) | refine cU ?_ ?_)))
        (refine lN [0] ?_)
        exact ⟨_, by omega, j + 1, by omega, rfl, by rw [hsn]; rfl, rfl⟩
      have hj3 : ¬ ((j : Int) < (p.rel.length : Int)) := by omega
      (have := Nonempty.intro hj3)
      rw [List.take_of_length_le (show p.rel.length ≤ j by omega)]
      cases hb : p.rel.any (eqB (rs.getD i default))
      · (repeat' (first | refine swp_seq [0, 1, 2, 4, 5, 6, 7, 8, 9, 10, 11, 12, 13, 19, 23, 30, 47, 53, 64] ?_ | refine st1 ?_ | (show Fct ..; refine fctI (fun hf => ?_)) | (show SWp _ _ _ (.region _ _ true) _ _ _ _; refine xG mixed [] ?_) | (show SWp _ _ _ (.cond _ _ _) _ _ _ _; first | (refine cB (fun hc => ?_) (fun hc => ?_) <;> first | exact False.elim hc | exact absurd hc Bool.false_ne_true | exact absurd hc.symm Bool.false_ne_true | skip) | refine cU ?_ ?_)))
        exact DVR
      · (repeat' (first | refine swp_seq [0, 1, 2, 4, 5, 6, 7, 8, 9, 10, 11, 12, 13, 19, 23, 30, 47, 53, 64] ?_ | refine st1 ?_ | (show Fct ..; refine fctI (fun hf => ?_)) | (show SWp _ _ _ (.region _ _ true) _ _ _ _; refine xG mixed [] ?_) | (show SWp _ _ _ (.cond _ _ _) _ _ _ _; first | (refine cB (fun hc => ?_) (fun hc => ?_) <;> first | exact False.elim hc | exact absurd hc Bool.false_ne_true | exact absurd hc.symm Bool.false_ne_true | skip) | refine cU ?_ ?_)))
        (refine lN [0] ?_)
        exact ⟨_, by omega, i + 1, by omega, rfl, fun j2 hj2 => by
          by_cases e : j2 = i
          · rw [e]; exact hb
          · exact g3 j2 (by omega), rfl, rfl⟩
    exfalso
    obtain ⟨x, hx, hxb⟩ := List.any_eq_true.1 hany
    obtain ⟨j, hj, rfl⟩ := List.mem_iff_getElem.1 hx
    have := g3 j (by omega)
    have e : rs.getD j default = rs[j] := by rw [List.getD_eq_getElem?_getD, List.getElem?_eq_getElem hj]; rfl
    rw [e] at this
    rw [this] at hxb
    cases hxb
  rw [if_neg (by decide)]
  have hmem : ∀ i, i < rs.length → p.rel.any (eqB (rs.getD i default)) = true := fun i hi => by
    have := (List.any_eq_false.1 hany) _ (getD_mem hi)
    simpa using this
  refine pureC (n := 89) (rs := [.tmp 4, .tmp 5, .tmp 6]) (ts := [3, 22, 3]) Try.func62 rfl (by decide) [81] (by (exact SD)) ?_
  (repeat' (first | refine swp_seq [0, 1, 2, 4, 5, 6, 7, 8, 9, 10, 11, 12, 13, 19, 23, 30, 47, 53, 64] ?_ | refine st1 ?_ | (show CallQ ..; first | refine cF ?_ | refine cQ (fun hcc => (by fail)) ?_ | (refine lP ?_; refine lQ (fun hcc m => (by fail)) ?_)) | (show Fct ..; refine fctI (fun hf => ?_)) | (show XCallQ ..; first | refine xcF ?_ | refine xQ (fun hcc => (by fail)) ?_ | (refine xlP ?_; refine xlQ (fun hcc m => (by fail)) ?_)) | (show SWp _ _ _ (.region _ _ true) _ _ _ _; refine xG mixed [] ?_) | (show SWp _ _ _ (.cond _ _ _) _ _ _ _; first | (refine cB (fun hc => ?_) (fun hc => ?_) <;> first | exact False.elim hc | exact absurd hc Bool.false_ne_true | exact absurd hc.symm Bool.false_ne_true | skip) | refine cU ?_ ?_)))
  refine loop_swp [1, 2, 7] [0] 1 (fun q A H => ∃ i : Nat, i ≤ rs.length ∧ q = rs.length - i ∧ A = [(1, ints rs), (2, .ptr 0 0), (7, li i)] ∧ H = [(0, .blk 26 (planC p))]) (by omega) ?_ ?_ ?_
  · rintro q A H ⟨i, g1, g2, rfl, rfl⟩
    exact ⟨by (exact SD), by (exact SD)⟩
  · refine ⟨_, 0, by omega, rfl, ?_, ?_⟩
    · exact DVR
    · exact DVR
  rintro q A H ⟨i, g1, g2, rfl, rfl⟩
  by_cases hi : i < rs.length
  · have hi3 : (i : Int) < (rs.length : Int) := by omega
    (have := Nonempty.intro hi)
    (have := Nonempty.intro hi3)
    (repeat' (first | refine swp_seq [0, 1, 2, 4, 5, 6, 7, 8, 9, 10, 11, 12, 13, 19, 23, 30, 47, 53, 64] ?_ | refine st1 ?_ | (show Fct ..; refine fctI (fun hf => ?_)) | (show SWp _ _ _ (.region _ _ true) _ _ _ _; refine xG mixed [] ?_) | (show SWp _ _ _ (.cond _ _ _) _ _ _ _; first | (refine cB (fun hc => ?_) (fun hc => ?_) <;> first | exact False.elim hc | exact absurd hc Bool.false_ne_true | exact absurd hc.symm Bool.false_ne_true | skip) | refine cU ?_ ?_)))
    refine loop_swp [1, 2, 7, 8, 9] [0] 1 (fun q A H => ∃ j : Nat, j ≤ p.rel.length ∧ q = p.rel.length - j ∧ A = [(1, ints rs), (2, .ptr 0 0), (7, li i), (8, lb ((p.rel.take j).any (eqB (rs.getD i default)))), (9, li j)] ∧ H = [(0, .blk 26 (planC p))]) (by omega) ?_ ?_ ?_
    · rintro q A H ⟨j, f1, f2, rfl, rfl⟩
      exact ⟨by (exact SD), by (exact SD)⟩
    · refine ⟨_, 0, by omega, rfl, ?_, ?_⟩
      · exact DVR
      · exact DVR
    rintro q A H ⟨j, f1, f2, rfl, rfl⟩
    by_cases hj : j < p.rel.length
    · have hj3 : (j : Int) < (p.rel.length : Int) := by omega
      (have := Nonempty.intro hj)
      (have := Nonempty.intro hj3)
      have hsn : (p.rel.take (j + 1)).any (eqB (rs.getD i default)) = ((p.rel.take j).any (eqB (rs.getD i default)) || (p.rel.getD j default == rs.getD i default)) := by
        rw [take_snoc hj, List.any_append, List.any_cons, List.any_nil, Bool.or_false]
        congr 1
        unfold eqB
        rw [Bool.eq_iff_iff]; simp; exact eq_comm
      generalize (p.rel.take j).any (eqB (rs.getD i default)) = F at *
      (repeat' (first | refine swp_seq [0, 1, 2, 4, 5, 6, 7, 8, 9, 10, 11, 12, 13, 19, 23, 30, 47, 53, 64] ?_ | refine st1 ?_ | (show Fct ..; refine fctI (fun hf => ?_)) | (show SWp _ _ _ (.region _ _ true) _ _ _ _; refine xG mixed [] ?_) | (show SWp _ _ _ (.cond _ _ _) _ _ _ _; first | (refine cB (fun hc => ?_) (fun hc => ?_) <;> first | exact False.elim hc | exact absurd hc Bool.false_ne_true | exact absurd hc.symm Bool.false_ne_true | skip) | refine cU ?_ ?_)))
      (refine lN [0] ?_)
      exact ⟨_, by omega, j + 1, by omega, rfl, by rw [hsn]; rfl, rfl⟩
    have hj3 : ¬ ((j : Int) < (p.rel.length : Int)) := by omega
    (have := Nonempty.intro hj3)
    rw [List.take_of_length_le (show p.rel.length ≤ j by omega)]
    rw [hmem i hi]
    (repeat' (first | refine swp_seq [0, 1, 2, 4, 5, 6, 7, 8, 9, 10, 11, 12, 13, 19, 23, 30, 47, 53, 64] ?_ | refine st1 ?_ | (show Fct ..; refine fctI (fun hf => ?_)) | (show SWp _ _ _ (.region _ _ true) _ _ _ _; refine xG mixed [] ?_) | (show SWp _ _ _ (.cond _ _ _) _ _ _ _; first | (refine cB (fun hc => ?_) (fun hc => ?_) <;> first | exact False.elim hc | exact absurd hc Bool.false_ne_true | exact absurd hc.symm Bool.false_ne_true | skip) | refine cU ?_ ?_)))
    (refine lN [0] ?_)
    exact ⟨_, by omega, i + 1, by omega, rfl, rfl, rfl⟩
  have hi3 : ¬ ((i : Int) < (rs.length : Int)) := by omega
  (have := Nonempty.intro hi3)
  (repeat' (first | refine swp_seq [0, 1, 2, 4, 5, 6, 7, 8, 9, 10, 11, 12, 13, 19, 23, 30, 47, 53, 64] ?_ | refine st1 ?_ | (show Fct ..; refine fctI (fun hf => ?_)) | (show SWp _ _ _ (.region _ _ true) _ _ _ _; refine xG mixed [] ?_) | (show SWp _ _ _ (.cond _ _ _) _ _ _ _; first | (refine cB (fun hc => ?_) (fun hc => ?_) <;> first | exact False.elim hc | exact absurd hc Bool.false_ne_true | exact absurd hc.symm Bool.false_ne_true | skip) | refine cU ?_ ?_)))
  (refine sN 12 3 1 ?_)
  clear hi3 hi
  refine loop_swp [1, 2, 10, 11, 12, 13] [0, 81] 82 (fun q A H => ∃ (i : Nat) (s v : Int), i ≤ rs.length ∧ q = rs.length - i ∧ pathC p rs i = some (s, v) ∧ (p.res ≤ v ∧ v ≤ p.cap) ∧ (0 ≤ s ∧ s ≤ (i : Int) * 4398046511104000) ∧ A = [(1, ints rs), (2, .ptr 0 0), (10, li v), (11, li s), (12, .gl 81), (13, li i)] ∧ H = [(0, .blk 26 (planC p)), (81, inLt (volsC p rs i))]) (by omega) ?_ ?_ ?_
  · rintro q A H ⟨i, s, v, g1, g2, g3, g4, g5, rfl, rfl⟩
    exact ⟨by (exact SD), by (exact SD)⟩
  · refine ⟨_, 0, 0, p.start, by omega, rfl, rfl, hin.2.2.1, by omega, ?_, ?_⟩
    · exact DVR
    · exact DVR
  rintro q A H ⟨i, s, v, g1, g2, g3, g4, g5, rfl, rfl⟩
  by_cases hi : i < rs.length
  · have hi3 : (i : Int) < (rs.length : Int) := by omega
    (have := Nonempty.intro hi)
    (have := Nonempty.intro hi3)
    have hvl : (volsC p rs i).length = i := by unfold volsC; rw [List.length_map, List.length_range]
    obtain ⟨ri, hri, hrv, hrx⟩ := eqB_mem (hmem i hi)
    have hcst := cost_in hp (show i < p.inf.length by omega) (v := v) (by omega) hri
    have hnx := path_next g3
    have cp := fun m => possible_f p i ri v m hp (by omega) hri (by omega)
    have ca := fun m => after_f p i ri v m hp (by omega) hri (by omega)
    have cr := fun m => price_f p i ri v m hp (by omega) hri (by omega)
    rw [hrv] at cp ca cr hcst
    cases hpo : possB p i v (rs.getD i default) <;> simp only [hpo] at cp
    · rw [hpo, if_neg (by decide)] at hnx
      rw [path_none hnx rs.length (by omega)]
      (repeat' (first | refine swp_seq [0, 1, 2, 4, 5, 6, 7, 8, 9, 10, 11, 12, 13, 19, 23, 30, 47, 53, 64] ?_ | refine st1 ?_ | (show CallQ ..; first | refine cF ?_ | refine cQ (fun hcc => (by first | exact cp _)) ?_ | (refine lP ?_; refine lQ (fun hcc m => (by first | exact cp _)) ?_)) | (show Fct ..; refine fctI (fun hf => ?_)) | (show XCallQ ..; first | refine xcF ?_ | refine xQ (fun hcc => (by first | exact cp _)) ?_ | (refine xlP ?_; refine xlQ (fun hcc m => (by first | exact cp _)) ?_)) | (show SWp _ _ _ (.region _ _ true) _ _ _ _; refine xG mixed [] ?_) | (show SWp _ _ _ (.cond _ _ _) _ _ _ _; first | (refine cB (fun hc => ?_) (fun hc => ?_) <;> first | exact False.elim hc | exact absurd hc Bool.false_ne_true | exact absurd hc.symm Bool.false_ne_true | skip) | refine cU ?_ ?_)))
      exact DVR
    · rw [hpo, if_pos rfl] at hnx
      have hvn := vols_next hnx
      have hai := aft_in hp hpo
      generalize aftI p i v (rs.getD i default) = AF at *
      generalize costI p i v (rs.getD i default) = CO at *
      generalize volsC p rs i = VO at *
      (repeat' (first | refine swp_seq [0, 1, 2, 4, 5, 6, 7, 8, 9, 10, 11, 12, 13, 19, 23, 30, 47, 53, 64] ?_ | refine st1 ?_ | (show CallQ ..; first | refine cF ?_ | refine cQ (fun hcc => (by first | exact cp _ | exact ca _ | exact cr _)) ?_ | (refine lP ?_; refine lQ (fun hcc m => (by first | exact cp _ | exact ca _ | exact cr _)) ?_)) | (show Fct ..; refine fctI (fun hf => ?_)) | (show XCallQ ..; first | refine xcF ?_ | refine xQ (fun hcc => (by first | exact cp _ | exact ca _ | exact cr _)) ?_ | (refine xlP ?_; refine xlQ (fun hcc m => (by first | exact cp _ | exact ca _ | exact cr _)) ?_)) | (show SWp _ _ _ (.region _ _ true) _ _ _ _; refine xG mixed [] ?_) | (show SWp _ _ _ (.cond _ _ _) _ _ _ _; first | (refine cB (fun hc => ?_) (fun hc => ?_) <;> first | exact False.elim hc | exact absurd hc Bool.false_ne_true | exact absurd hc.symm Bool.false_ne_true | skip) | refine cU ?_ ?_)))
      (refine lN [0, 81] ?_)
      exact ⟨_, by omega, i + 1, s + CO, AF, by omega, rfl, hnx, hai, by omega, rfl, by rw [hvn]⟩
  have hi2 : i = rs.length := by omega
  have hi3 : ¬ ((i : Int) < (rs.length : Int)) := by omega
  (have := Nonempty.intro hi3)
  have g9 := g3
  rw [hi2] at g9
  rw [g9]
  (repeat' (first | refine swp_seq [0, 1, 2, 4, 5, 6, 7, 8, 9, 10, 11, 12, 13, 19, 23, 30, 47, 53, 64] ?_ | refine st1 ?_ | (show Fct ..; refine fctI (fun hf => ?_)) | (show SWp _ _ _ (.region _ _ true) _ _ _ _; refine xG mixed [] ?_) | (show SWp _ _ _ (.cond _ _ _) _ _ _ _; first | (refine cB (fun hc => ?_) (fun hc => ?_) <;> first | exact False.elim hc | exact absurd hc Bool.false_ne_true | exact absurd hc.symm Bool.false_ne_true | skip) | refine cU ?_ ?_)))
  (((simp only [push_cast, reduceIte, reduceDIte, reduceCtorEq, Nat.reduceLT, Nat.reduceLeDiff, Nat.reduceEqDiff, Nat.reduceAdd, Nat.reduceMul, Nat.reduceBEq, Nat.reducePow, Int.zero_add, Int.reduceAdd, Int.reduceSub, Int.reduceLT, Int.reduceLE, Int.reduceToNat, Int.reduceNeg, Nat.reduceSub, Int.reduceBNe, Int.reduceBEq, Int.reduceTDiv, Int.reduceTMod, Int.reduceMul]); repeat (simp (disch := omega) only [idx_nat, idx_mapT, i64w, rows_getS, rows_get, getD_set_self, famR_get]; try (simp only [push_cast, reduceIte, reduceDIte, reduceCtorEq, Nat.reduceLT, Nat.reduceLeDiff, Nat.reduceEqDiff, Nat.reduceAdd, Nat.reduceMul, Nat.reduceBEq, Nat.reducePow, Int.zero_add, Int.reduceAdd, Int.reduceSub, Int.reduceLT, Int.reduceLE, Int.reduceToNat, Int.reduceNeg, Nat.reduceSub, Int.reduceBNe, Int.reduceBEq, Int.reduceTDiv, Int.reduceTMod, Int.reduceMul]))))
  rw [hi2]

end Go.Proofs.Ytagalkckebffhaa
