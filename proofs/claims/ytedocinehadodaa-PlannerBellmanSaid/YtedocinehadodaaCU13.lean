/-
  Contracts of functions of the program, over the engine.
  No condition.
-/
import Derived.Test.YtedocinehadodaaCU4P12LSU12
import Derived.Test.YtedocinehadodaaCQ2Q3
namespace Go.Proofs.Ytedocinehadodaa
open Go.Eng
set_option linter.all false
attribute [local irreducible] DCallsG SWp Fct CallQ XCallQ LCallQ XLCallQ drun xrun

set_option maxRecDepth 20000 in
set_option maxHeartbeats 40000000 in
theorem bellman_f (p : Plan) (m : Nat) (hq : planOk p) : DCalls Try.prog 6 [planD p] (hget []) m (lb true) (hget []) := by
  have cw := fun m => few45_f p m hq
  cases hfw : fewS p <;> simp only [hfw] at cw
  · refine pureC (n := 255) (rs := [.tmp 2]) (ts := [4]) Try.func6 rfl (by decide) [] (by (exact SD)) ?_
    (repeat' (first | refine swp_seq [0, 1, 2, 3, 4, 5, 7, 8, 9, 10, 11, 12, 13, 14, 15, 17, 18, 19, 20, 21, 22, 24, 27, 34, 70, 107, 108, 109, 110, 111, 120, 130, 147, 181, 186, 201, 202, 203, 204, 216, 219, 229, 242, 253] ?_ | refine st2 ?_ | (show CallQ ..; first | refine cQ (fun hcc => (by first | exact awake45_f _ | exact cw _)) ?_ | (refine lP ?_; refine lQ (fun hcc m => (by first | exact awake45_f _ | exact cw _)) ?_)) | (show XCallQ ..; first | refine xQ (fun hcc => (by first | exact awake45_f _ | exact cw _)) ?_ | (refine xlP ?_; refine xlQ (fun hcc m => (by first | exact awake45_f _ | exact cw _)) ?_)) | (show Fct ..; refine fctI (fun hf => ?_)) | (show SWp _ _ _ (.cond _ _ _) _ _ _ _; first | refine cB (fun hc => ?_) (fun hc => ?_) | refine cU ?_ ?_)))
    exact DVR
  have c1 := fun m => values45_f p m hq
  have c2 := fun m => solve_f p m hq
  have cp := fun m => pValid_f p m hq
  cases hp : planB p <;> simp only [hp] at cp
  · rw [show valuesR p = ([], 1) by unfold valuesR; rw [if_pos hp]] at c1
    refine pureC (n := 255) (rs := [.tmp 2]) (ts := [4]) Try.func6 rfl (by decide) [] (by (exact SD)) ?_
    (repeat' (first | refine swp_seq [0, 1, 2, 3, 4, 5, 7, 8, 9, 10, 11, 12, 13, 14, 15, 17, 18, 19, 20, 21, 22, 24, 27, 34, 70, 107, 108, 109, 110, 111, 120, 130, 147, 181, 186, 201, 202, 203, 204, 216, 219, 229, 242, 253] ?_ | refine st2 ?_ | (show CallQ ..; first | refine cQ (fun hcc => (by first | exact awake45_f _ | exact cw _ | exact c1 _ | exact cp _)) ?_ | (refine lP ?_; refine lQ (fun hcc m => (by first | exact awake45_f _ | exact cw _ | exact c1 _ | exact cp _)) ?_)) | (show XCallQ ..; first | refine xQ (fun hcc => (by first | exact awake45_f _ | exact cw _ | exact c1 _ | exact cp _)) ?_ | (refine xlP ?_; refine xlQ (fun hcc m => (by first | exact awake45_f _ | exact cw _ | exact c1 _ | exact cp _)) ?_)) | (show Fct ..; refine fctI (fun hf => ?_)) | (show SWp _ _ _ (.cond _ _ _) _ _ _ _; first | refine cB (fun hc => ?_) (fun hc => ?_) | refine cU ?_ ?_)))
    exact DVR
  have hin := planB_in hp
  have hil := hin.2.2.2.1
  have hl := few_lens hfw hp
  have hfe : fewA p 0 p.start p.inf.length = true := few_all hl.2 hl.1
  rw [show valuesR p = ((List.range (p.inf.length + 1)).map (lineV p), 0) by unfold valuesR; rw [if_neg (by rw [hp]; decide), if_neg (by rw [hfe]; decide)]] at c1
  rw [solR_few hfw hp] at c2
  have hLn : ((List.range (p.inf.length + 1)).map (lineV p)).length = p.inf.length + 1 := by simp
  have hLg : ∀ t, t ≤ p.inf.length → ((List.range (p.inf.length + 1)).map (lineV p)).getD t default = lineV p t := fun t ht => by
    rw [List.getD_eq_getElem?_getD, List.getElem?_map, List.getElem?_range (by omega)]; rfl
  have h0 : lineV p 0 = [p.start, (vO p p.inf.length p.start).getD (-1)] := by
    unfold lineV
    rw [Nat.sub_zero, show rowI p 0 p.start 0 = [p.start] from rfl]; rfl
  have hfl : ∀ t, t ≤ p.inf.length → (rowI p 0 p.start t).length ≤ 4000 := fun j hj => rowI_len (n := j) (by
    unfold fewA at hfe ⊢
    rw [List.all_eq_true] at hfe ⊢
    intro x hx
    exact hfe x (List.mem_range.2 (by have := List.mem_range.1 hx; omega)))
  have hln : ∀ t, (lineV p t).length = 2 * (rowI p 0 p.start t).length := fun t => pairI_len _ _ (Nat.le_refl _)
  have hlg : ∀ t j, j < (rowI p 0 p.start t).length → (lineV p t).getD (2 * j) default = (rowI p 0 p.start t).getD j default ∧ (lineV p t).getD (2 * j + 1) default = (vO p (p.inf.length - t) ((rowI p 0 p.start t).getD j default)).getD (-1) := fun t j hj => pairI_get _ _ (Nat.le_refl _) j hj
  have hri := @rowI_in p 0 p.start hp hin.2.2.1
  have hrs := fun t z j hz hj hq => @row_step p 0 p.start t z j hz hj hq
  have has := rowI_asc p 0 p.start
  generalize hLS : (List.range (p.inf.length + 1)).map (lineV p) = LS at *
  have hL0 : LS.getD 0 default = lineV p 0 := hLg 0 (by omega)
  rw [h0] at hL0
  have f0 : 0 < LS.length := by omega
  have f1 : (LS.length : Int) = (p.inf.length : Int) + 1 := by omega
  have f2 : ((LS.getD 0 default).length : Int) = 2 := by rw [hL0]; rfl
  have f3 : 0 < (LS.getD 0 default).length := by rw [hL0]; exact Nat.zero_lt_succ _
  have f4 : (LS.getD 0 default).getD 0 default = p.start := by rw [hL0]; rfl
  have f5 : 1 < (LS.getD 0 default).length := by rw [hL0]; exact Nat.lt_succ_self _
  (have := Nonempty.intro f0)
  (have := Nonempty.intro f1)
  (have := Nonempty.intro f2)
  (have := Nonempty.intro f3)
  (have := Nonempty.intro f4)
  (have := Nonempty.intro f5)
  have hS : ∀ c l e, solR p = (c, l, e) → ¬ (e = 0 ∧ ¬ (LS.getD 0 default).getD 1 default = c) ∧ ¬ (e = 12 ∧ ¬ (LS.getD 0 default).getD 1 default = -1) ∧ ¬ (¬ e = 0 ∧ ¬ e = 12) := fun c l e hs => by
    rw [solR_few hfw hp] at hs
    cases hv : vO p p.inf.length p.start with
    | none =>
      rw [hv] at hs hL0
      have e6 : (LS.getD 0 default).getD 1 default = -1 := by rw [hL0]; rfl
      simp only [Prod.mk.injEq] at hs
      omega
    | some x =>
      rw [hv] at hs hL0
      have e6 : (LS.getD 0 default).getD 1 default = x := by rw [hL0]; rfl
      simp only [Prod.mk.injEq] at hs
      omega
  rw [← solR_few hfw hp] at c2
  clear hL0 h0
  generalize solR p = S at *
  obtain ⟨c, l, e⟩ := S
  obtain ⟨f6, f7, f8⟩ := hS c l e rfl
  (have := Nonempty.intro f6)
  (have := Nonempty.intro f7)
  (have := Nonempty.intro f8)
  refine pureC (n := 255) (rs := [.tmp 2]) (ts := [4]) Try.func6 rfl (by decide) [] (by (exact SD)) ?_
  (repeat' (first | refine swp_seq [0, 1, 2, 3, 4, 5, 7, 8, 9, 10, 11, 12, 13, 14, 15, 17, 18, 19, 20, 21, 22, 24, 27, 34, 70, 107, 108, 109, 110, 111, 120, 130, 147, 181, 186, 201, 202, 203, 204, 216, 219, 229, 242, 253] ?_ | refine st2 ?_ | (show CallQ ..; first | refine cQ (fun hcc => (by first | exact awake45_f _ | exact cw _ | exact c1 _ | exact c2 _)) ?_ | (refine lP ?_; refine lQ (fun hcc m => (by first | exact awake45_f _ | exact cw _ | exact c1 _ | exact c2 _)) ?_)) | (show XCallQ ..; first | refine xQ (fun hcc => (by first | exact awake45_f _ | exact cw _ | exact c1 _ | exact c2 _)) ?_ | (refine xlP ?_; refine xlQ (fun hcc m => (by first | exact awake45_f _ | exact cw _ | exact c1 _ | exact c2 _)) ?_)) | (show Fct ..; refine fctI (fun hf => ?_)) | (show SWp _ _ _ (.cond _ _ _) _ _ _ _; first | refine cB (fun hc => ?_) (fun hc => ?_) | refine cU ?_ ?_)))
  refine loop_swp [1, 3, 108, 109, 110] [0] 1 (fun q A H => ∃ t : Nat, t ≤ p.inf.length + 1 ∧ q = p.inf.length + 1 - t ∧ A = [(1, .ptr 0 0), (3, intss LS), (108, intss LS), (109, li LS.length), (110, li t)] ∧ H = [(0, .blk 26 (planC p))]) (by omega) ?_ ?_ ?_
  · rintro q A H ⟨t, h1, h2, rfl, rfl⟩
    exact ⟨by (exact SD), by (exact SD)⟩
  · refine ⟨_, 0, by omega, rfl, ?_, ?_⟩
    · exact DVR
    · exact DVR
  rintro q A H ⟨t, h1, h2, rfl, rfl⟩
  by_cases ht : t < p.inf.length + 1
  case neg =>
    have ht3 : ¬ (t : Int) < (LS.length : Int) := by omega
    (have := Nonempty.intro ht3)
    (repeat' (first | refine swp_seq [0, 1, 2, 3, 4, 5, 7, 8, 9, 10, 11, 12, 13, 14, 15, 17, 18, 19, 20, 21, 22, 24, 27, 34, 70, 107, 108, 109, 110, 111, 120, 130, 147, 181, 186, 201, 202, 203, 204, 216, 219, 229, 242, 253] ?_ | refine st2 ?_ | (show Fct ..; refine fctI (fun hf => ?_)) | (show SWp _ _ _ (.cond _ _ _) _ _ _ _; first | refine cB (fun hc => ?_) (fun hc => ?_) | refine cU ?_ ?_)))
    exact DVR
  have ht3 : (t : Int) < (LS.length : Int) := by omega
  have htl : t < LS.length := by omega
  have hgt := hLg t (by omega)
  have hln1 := hln t
  have hlg1 := hlg t
  have hrt := hri t
  have hat := has t
  have hfl1 := hfl t (by omega)
  rw [← hgt] at hln1 hlg1
  (have := Nonempty.intro ht3)
  (have := Nonempty.intro htl)
  by_cases htn : t < p.inf.length
  · have htn3 : (t : Int) < (p.inf.length : Int) := by omega
    have htl1 : t + 1 < LS.length := by omega
    have hgt1 := hLg (t + 1) (by omega)
    have hln2 := hln (t + 1)
    have hlg2 := hlg (t + 1)
    have hfl2 := hfl (t + 1) (by omega)
    rw [← hgt1] at hln2 hlg2
    have hM := fun z => lineM_look (vO p (p.inf.length - (t + 1))) (rowI p 0 p.start (t + 1)) z _ (Nat.le_refl _)
    rw [List.take_length] at hM
    generalize hR1 : rowI p 0 p.start (t + 1) = R1 at *
    (have := Nonempty.intro htn3)
    (have := Nonempty.intro htl1)
    (repeat' (first | refine swp_seq [0, 1, 2, 3, 4, 5, 7, 8, 9, 10, 11, 12, 13, 14, 15, 17, 18, 19, 20, 21, 22, 24, 27, 34, 70, 107, 108, 109, 110, 111, 120, 130, 147, 181, 186, 201, 202, 203, 204, 216, 219, 229, 242, 253] ?_ | refine st2 ?_ | (show Fct ..; refine fctI (fun hf => ?_)) | (show SWp _ _ _ (.cond _ _ _) _ _ _ _; first | refine cB (fun hc => ?_) (fun hc => ?_) | refine cU ?_ ?_)))
    refine loop_swp [1, 3, 8, 9, 10, 11, 12, 108, 109, 110] [0, 49] 50 (fun q A H => ∃ j : Nat, j ≤ R1.length ∧ q = R1.length - j ∧ A = [(1, .ptr 0 0), (3, intss LS), (8, li t), (9, ints (LS.getD t default)), (10, .mref 49), (11, ints (LS.getD (t + 1) default)), (12, li ((2 * j : Nat) : Int)), (108, intss LS), (109, li LS.length), (110, li t)] ∧ H = [(0, .blk 26 (planC p)), (49, .map (intE (lineM (vO p (p.inf.length - (t + 1))) R1 j)))]) (by omega) ?_ ?_ ?_
    · rintro q A H ⟨j, k1, k2, rfl, rfl⟩
      exact ⟨by (exact SD), by (exact SD)⟩
    · refine ⟨_, 0, by omega, rfl, ?_, ?_⟩
      · exact DVR
      · rw [show lineM (vO p (p.inf.length - (t + 1))) R1 0 = [] from rfl, intE_nil]
        exact DVR
    rintro q A H ⟨j, k1, k2, rfl, rfl⟩
    by_cases hj : j < R1.length
    · obtain ⟨K, hK⟩ : ∃ K, 2 * j = K := ⟨_, rfl⟩
      obtain ⟨q1, q2⟩ := hlg2 j hj
      have hnx := lineM_next (vO p (p.inf.length - (t + 1))) R1 j
      rw [← q2, ← q1] at hnx
      rw [hK] at hnx ⊢
      have hK1 : K + 1 < (LS.getD (t + 1) default).length := by omega
      have hK0 : K < (LS.getD (t + 1) default).length := by omega
      have hK3 : (K : Int) + 1 < ((LS.getD (t + 1) default).length : Int) := by omega
      generalize lineM (vO p (p.inf.length - (t + 1))) R1 j = LM at *
      (have := Nonempty.intro hK0)
      (have := Nonempty.intro hK1)
      (have := Nonempty.intro hK3)
      (repeat' (first | refine swp_seq [0, 1, 2, 3, 4, 5, 7, 8, 9, 10, 11, 12, 13, 14, 15, 17, 18, 19, 20, 21, 22, 24, 27, 34, 70, 107, 108, 109, 110, 111, 120, 130, 147, 181, 186, 201, 202, 203, 204, 216, 219, 229, 242, 253] ?_ | (show SWp _ _ _ (.region _ _ true) _ _ _ _; refine xG mixed [49] ?_) | refine st2 ?_ | (show Fct ..; refine fctI (fun hf => ?_)) | (show SWp _ _ _ (.cond _ _ _) _ _ _ _; first | refine cB (fun hc => ?_) (fun hc => ?_) | refine cU ?_ ?_)))
      rw [← hnx]
      (refine lN [0, 49] ?_)
      exact ⟨_, by omega, j + 1, by omega, rfl, by rw [show 2 * (j + 1) = K + 2 by omega]; rfl, rfl⟩
    obtain rfl : j = R1.length := by omega
    have hK3 : ¬ 2 * (R1.length : Int) + 1 < ((LS.getD (t + 1) default).length : Int) := by omega
    (have := Nonempty.intro hK3)
    (repeat' (first | (show SWp _ _ _ (.region 23 _ _) _ _ _ _; refine (stop_in ?_)) | refine swp_seq [0, 1, 2, 3, 4, 5, 7, 8, 9, 10, 11, 12, 13, 14, 15, 17, 18, 19, 20, 21, 22, 24, 27, 34, 70, 107, 108, 109, 110, 111, 120, 130, 147, 181, 186, 201, 202, 203, 204, 216, 219, 229, 242, 253] ?_ | (show SWp _ _ _ (.region _ _ true) _ _ _ _; refine xG mixed [] ?_) | refine st2 ?_ | (show CallQ ..; first | refine cQ (fun hcc => (by fail)) ?_ | (refine lP ?_; refine lQ (fun hcc m => (by fail)) ?_)) | (show XCallQ ..; first | refine xQ (fun hcc => (by fail)) ?_ | (refine xlP ?_; refine xlQ (fun hcc m => (by fail)) ?_)) | (show Fct ..; refine fctI (fun hf => ?_)) | (show SWp _ _ _ (.cond _ _ _) _ _ _ _; first | refine cB (fun hc => ?_) (fun hc => ?_) | refine cU ?_ ?_)))
    refine stop_out ?_
    have hMh : ∀ w, w ∈ R1 → hasI (lineM (vO p (p.inf.length - (t + 1))) R1 R1.length) w = true ∧ valI (lineM (vO p (p.inf.length - (t + 1))) R1 R1.length) w = (vO p (p.inf.length - (t + 1)) w).getD (-1) := fun w hw => by
      rw [hasI_eq, valI_eq, hM w, if_pos hw]; exact ⟨rfl, rfl⟩
    have hcl := fun z => vO_ls p htn z
    have hfb : ∀ w c, w ∈ R1 → vO p (p.inf.length - (t + 1)) w = some c → 0 ≤ c ∧ c ≤ 900000000000000000 := fun w c hw hc => by
      have := vO_in hp (p.inf.length - (t + 1)) (by omega) w (hri (t + 1) w (by rw [hR1]; exact hw)) c hc
      omega
    generalize lineM (vO p (p.inf.length - (t + 1))) R1 R1.length = M at *
    generalize hf : vO p (p.inf.length - (t + 1)) = f at *
    refine sF 49 (v := .map (intE M)) (x := .mp (M.map fun e => .int .i64 e.1) (M.map fun e => .lit (.int .i64 e.2))) ?_ (hx := intE_fv M)
    rw [mapE_eq]
    (repeat' (first | refine swp_seq [0, 1, 2, 3, 4, 5, 7, 8, 9, 10, 11, 12, 13, 14, 15, 17, 18, 19, 20, 21, 22, 24, 27, 34, 70, 107, 108, 109, 110, 111, 120, 130, 147, 181, 186, 201, 202, 203, 204, 216, 219, 229, 242, 253] ?_ | refine st2 ?_ | (show Fct ..; refine fctI (fun hf => ?_)) | (show SWp _ _ _ (.cond _ _ _) _ _ _ _; first | refine cB (fun hc => ?_) (fun hc => ?_) | refine cU ?_ ?_)))
    refine loop_swp [1, 3, 8, 9, 10, 13, 108, 109, 110] [0] 1 (fun q A H => ∃ j : Nat, j ≤ (rowI p 0 p.start t).length ∧ q = (rowI p 0 p.start t).length - j ∧ A = [(1, .ptr 0 0), (3, intss LS), (8, li t), (9, ints (LS.getD t default)), (10, .p (mapE M)), (13, li ((2 * j : Nat) : Int)), (108, intss LS), (109, li LS.length), (110, li t)] ∧ H = [(0, .blk 26 (planC p))]) (by omega) ?_ ?_ ?_
    · rintro q A H ⟨j, k1, k2, rfl, rfl⟩
      exact ⟨by (exact SD), by (exact SD)⟩
    · refine ⟨_, 0, by omega, rfl, ?_, ?_⟩
      · exact DVR
      · exact DVR
    rintro q A H ⟨j, k1, k2, rfl, rfl⟩
    by_cases hj : j < (rowI p 0 p.start t).length
    case neg =>
      obtain rfl : j = (rowI p 0 p.start t).length := by omega
      have hK4 : ¬ 2 * ((rowI p 0 p.start t).length : Int) + 1 < ((LS.getD t default).length : Int) := by omega
      (have := Nonempty.intro hK4)
      (repeat' (first | refine swp_seq [0, 1, 2, 3, 4, 5, 7, 8, 9, 10, 11, 12, 13, 14, 15, 17, 18, 19, 20, 21, 22, 24, 27, 34, 70, 107, 108, 109, 110, 111, 120, 130, 147, 181, 186, 201, 202, 203, 204, 216, 219, 229, 242, 253] ?_ | refine st2 ?_ | (show Fct ..; refine fctI (fun hf => ?_)) | (show SWp _ _ _ (.cond _ _ _) _ _ _ _; first | refine cB (fun hc => ?_) (fun hc => ?_) | refine cU ?_ ?_)))
      (refine lN [0] ?_)
      exact ⟨_, by omega, t + 1, by omega, rfl, rfl, rfl⟩
    obtain ⟨q1, q2⟩ := hlg1 j hj
    have hzr := hrt _ (getD_mem hj)
    have hprev : 1 ≤ j → (LS.getD t default).getD (2 * j - 2) default < (LS.getD t default).getD (2 * j) default := fun h => by
      rw [show 2 * j - 2 = 2 * (j - 1) by omega, (hlg1 (j - 1) (by omega)).1, q1]
      exact asc_lt hat (by omega) hj
    rw [hcl] at q2
    have hstep := fun i => hrs t ((rowI p 0 p.start t).getD j default) i (getD_mem hj)
    rw [Nat.zero_add] at hstep
    rw [hR1] at hstep
    rw [← q1] at q2 hzr hstep
    obtain ⟨K, hK⟩ : ∃ K, 2 * j = K := ⟨_, rfl⟩
    rw [hK] at hprev q2 hzr hstep ⊢
    have hK1 : K + 1 < (LS.getD t default).length := by omega
    have hK0 : K < (LS.getD t default).length := by omega
    have hK4 : (K : Int) + 1 < ((LS.getD t default).length : Int) := by omega
    have hz1 : ¬ (LS.getD t default).getD K default < p.res := by omega
    have hz2 : ¬ p.cap < (LS.getD t default).getD K default := by omega
    have htn4 : ¬ (t : Int) = (p.inf.length : Int) := by omega
    (have := Nonempty.intro hK0)
    (have := Nonempty.intro hK1)
    (have := Nonempty.intro hK4)
    (have := Nonempty.intro hz1)
    (have := Nonempty.intro hz2)
    (have := Nonempty.intro htn4)
    have htk : List.take (t + 1 - t) (List.drop t p.inf) = [p.inf.getD t default] := by rw [show t + 1 - t = 1 by omega, drop_at45 htn]; rfl
    have hvi : 0 ≤ (LS.getD t default).getD K default ∧ (LS.getD t default).getD K default ≤ 1099511627776 := by omega
    have hcells : ∀ z, (DV.p (.lit (.int .i64 z)) :: (List.take 2 (List.drop 1 (planC p)) ++ [DV.p (.dat 1 (List.map inRow [p.inf.getD t default]))] ++ List.drop 4 (planC p))) = planC (oneP p t z) := fun _ => rfl
    have hok : planOk (oneP p t ((LS.getD t default).getD K default)) := by
      obtain ⟨k0, k1, k2, k3, k4, k5, k6⟩ := hq
      refine ⟨?_, k1, k2, ⟨by show 1 ≤ 281474976710656; decide, fun y hy => ?_⟩, k4, k5, k6⟩
      · show i64ok ((LS.getD t default).getD K default)
        unfold i64ok; omega
      · have hy : y ∈ [p.inf.getD t default] := hy
        rw [List.mem_singleton] at hy
        subst hy
        exact k3.2 _ (getD_mem htn)
    have hK6 : K - 2 < (LS.getD t default).length := by omega
    have hK7 : ¬ (0 < (K : Int) ∧ (LS.getD t default).getD K default ≤ (LS.getD t default).getD (K - 2) default) := fun q => by
      have := hprev (by omega)
      omega
    (have := Nonempty.intro hK6)
    (have := Nonempty.intro hK7)
    (repeat' (first | refine swp_seq [0, 1, 2, 3, 4, 5, 7, 8, 9, 10, 11, 12, 13, 14, 15, 17, 18, 19, 20, 21, 22, 24, 27, 34, 70, 107, 108, 109, 110, 111, 120, 130, 147, 181, 186, 201, 202, 203, 204, 216, 219, 229, 242, 253] ?_ | (show SWp _ _ _ (.region _ _ true) _ _ _ _; refine xG mixed [353] ?_) | refine st2 ?_ | (show Fct ..; refine fctI (fun hf => ?_)) | (show SWp _ _ _ (.cond _ _ _) _ _ _ _; first | refine cB (fun hc => ?_) (fun hc => ?_) | refine cU ?_ ?_)))
    rw [htk, hcells]
    clear htk hcells hprev hz1 hz2
    generalize (LS.getD t default).getD K default = Z at *
    refine loop_swp [1, 3, 8, 9, 10, 13, 14, 15, 108, 109, 110, 201, 202, 203] [0, 353] 354 (fun q A H => ∃ r : Nat, r ≤ p.rel.length ∧ q = p.rel.length - r ∧ A = [(1, .ptr 0 0), (3, intss LS), (8, li t), (9, ints (LS.getD t default)), (10, .p (mapE M)), (13, li K), (14, li (lsI (bestU p t Z f r))), (15, .ptr 353 0), (108, intss LS), (109, li LS.length), (110, li t), (201, ints p.rel), (202, li p.rel.length), (203, li r)] ∧ H = [(0, .blk 26 (planC p)), (353, .blk 26 (planC (oneP p t Z)))]) (by omega) ?_ ?_ ?_
    · rintro q A H ⟨r, k1, k2, rfl, rfl⟩
      exact ⟨by (exact SD), by (exact SD)⟩
    · refine ⟨_, 0, by omega, rfl, ?_, ?_⟩
      · exact DVR
      · exact DVR
    rintro q A H ⟨r, k1, k2, rfl, rfl⟩
    by_cases hr : r < p.rel.length
    case neg =>
      obtain rfl : r = p.rel.length := by omega
      have hr3 : ¬ (p.rel.length : Int) < (p.rel.length : Int) := by omega
      have hle : (LS.getD t default).getD (K + 1) default = lsI (bestU p t Z f p.rel.length) := q2
      (have := Nonempty.intro hr3)
      (have := Nonempty.intro hle)
      (repeat' (first | refine swp_seq [0, 1, 2, 3, 4, 5, 7, 8, 9, 10, 11, 12, 13, 14, 15, 17, 18, 19, 20, 21, 22, 24, 27, 34, 70, 107, 108, 109, 110, 111, 120, 130, 147, 181, 186, 201, 202, 203, 204, 216, 219, 229, 242, 253] ?_ | refine st2 ?_ | (show Fct ..; refine fctI (fun hf => ?_)) | (show SWp _ _ _ (.cond _ _ _) _ _ _ _; first | refine cB (fun hc => ?_) (fun hc => ?_) | refine cU ?_ ?_)))
      (refine lN [0] ?_)
      exact ⟨_, by omega, j + 1, by omega, rfl, by rw [show 2 * (j + 1) = K + 2 by omega]; rfl, rfl⟩
    have hr3 : (r : Int) < (p.rel.length : Int) := by omega
    have hbn := bestU_next p t Z f r
    have hco := oneP_cost hp htn hzr hr
    have cs := cost_f (oneP p t Z) [p.rel.getD r default] 1 hok (by simp)
    have hst := hstep r hr
    have hcst := (cost_in hp htn hvi hr).2.2.2
    have hs0 : ∀ i0 b0, bestU p t Z f r = some (i0, b0) → 0 ≤ b0 ∧ b0 ≤ 1000000000000000000 := fun i0 b0 h => by
      obtain ⟨p1, p2, x0, p3, p4⟩ := bestU_some r h
      have p5 := hfb _ x0 (hstep i0 (by omega) p2) p3
      have p6 := (cost_in hp htn hvi (by omega : i0 < p.rel.length)).2.2.2
      omega
    unfold bestF at hbn
    obtain ⟨sx, hsx⟩ : ∃ sx, bestU p t Z f r = sx := ⟨_, rfl⟩
    rw [hsx] at hbn ⊢
    have hs0 := fun i0 b0 h => hs0 i0 b0 (hsx.trans h)
    (have := Nonempty.intro hr)
    (have := Nonempty.intro hr3)
    cases hpo : possB p t Z (p.rel.getD r default)
    · rw [hpo, if_neg (by decide)] at hbn hco
      rw [hco] at cs
      (repeat' (first | refine swp_seq [0, 1, 2, 3, 4, 5, 7, 8, 9, 10, 11, 12, 13, 14, 15, 17, 18, 19, 20, 21, 22, 24, 27, 34, 70, 107, 108, 109, 110, 111, 120, 130, 147, 181, 186, 201, 202, 203, 204, 216, 219, 229, 242, 253] ?_ | refine st2 ?_ | (show Fct ..; refine fctI (fun hf => ?_)) | (show SWp _ _ _ (.cond _ _ _) _ _ _ _; first | refine cB (fun hc => ?_) (fun hc => ?_) | refine cU ?_ ?_)))
      (refine cQT [402] (fun hcc => (give_sch (oneP p t Z) cs)) ?_)
      (repeat' (first | refine swp_seq [0, 1, 2, 3, 4, 5, 7, 8, 9, 10, 11, 12, 13, 14, 15, 17, 18, 19, 20, 21, 22, 24, 27, 34, 70, 107, 108, 109, 110, 111, 120, 130, 147, 181, 186, 201, 202, 203, 204, 216, 219, 229, 242, 253] ?_ | refine st2 ?_ | (show Fct ..; refine fctI (fun hf => ?_)) | (show SWp _ _ _ (.cond _ _ _) _ _ _ _; first | refine cB (fun hc => ?_) (fun hc => ?_) | refine cU ?_ ?_)))
      (refine lN [0, 353] ?_)
      exact ⟨_, by omega, r + 1, by omega, rfl, by rw [hbn]; rfl, rfl⟩
    rw [hpo, if_pos rfl] at hbn hco
    rw [hco] at cs
    obtain ⟨hh, hvl⟩ := hMh _ (hst hpo)
    have hwf := fun c => hfb _ c (hst hpo)
    generalize aftI p t Z (p.rel.getD r default) = W at *
    generalize costI p t Z (p.rel.getD r default) = CO at *
    (have := Nonempty.intro hh)
    cases hfw2 : f W with
    | none =>
      rw [hfw2] at hbn hvl
      have hbn : bestU p t Z f (r + 1) = sx := hbn
      have hvl : valI M W = -1 := hvl
      have hng : ¬ 0 ≤ valI M W := by omega
      (have := Nonempty.intro hng)
      (repeat' (first | refine swp_seq [0, 1, 2, 3, 4, 5, 7, 8, 9, 10, 11, 12, 13, 14, 15, 17, 18, 19, 20, 21, 22, 24, 27, 34, 70, 107, 108, 109, 110, 111, 120, 130, 147, 181, 186, 201, 202, 203, 204, 216, 219, 229, 242, 253] ?_ | refine st2 ?_ | (show Fct ..; refine fctI (fun hf => ?_)) | (show SWp _ _ _ (.cond _ _ _) _ _ _ _; first | refine cB (fun hc => ?_) (fun hc => ?_) | refine cU ?_ ?_)))
      (refine cQT [402] (fun hcc => (give_sch (oneP p t Z) cs)) ?_)
      (repeat' (first | refine swp_seq [0, 1, 2, 3, 4, 5, 7, 8, 9, 10, 11, 12, 13, 14, 15, 17, 18, 19, 20, 21, 22, 24, 27, 34, 70, 107, 108, 109, 110, 111, 120, 130, 147, 181, 186, 201, 202, 203, 204, 216, 219, 229, 242, 253] ?_ | refine st2 ?_ | (show Fct ..; refine fctI (fun hf => ?_)) | (show SWp _ _ _ (.cond _ _ _) _ _ _ _; first | refine cB (fun hc => ?_) (fun hc => ?_) | refine cU ?_ ?_)))
      (refine lN [0, 353] ?_)
      exact ⟨_, by omega, r + 1, by omega, rfl, by rw [hbn]; rfl, rfl⟩
    | some x =>
      have hxb := hwf x hfw2
      rw [hfw2] at hbn hvl
      have hvl : valI M W = x := hvl
      have hng : 0 ≤ valI M W := by omega
      have hvb : valI M W ≤ 900000000000000000 := by omega
      (have := Nonempty.intro hng)
      cases sx with
      | none =>
        have hbn : bestU p t Z f (r + 1) = some (r, CO + valI M W) := by rw [hbn, hvl]
        show SWp _ _ _ _ _ [_, _, _, _, _, _, (14, li (-1)), _, _, _, _, _, _, _] _ _
        (repeat' (first | refine swp_seq [0, 1, 2, 3, 4, 5, 7, 8, 9, 10, 11, 12, 13, 14, 15, 17, 18, 19, 20, 21, 22, 24, 27, 34, 70, 107, 108, 109, 110, 111, 120, 130, 147, 181, 186, 201, 202, 203, 204, 216, 219, 229, 242, 253] ?_ | refine st2 ?_ | (show Fct ..; refine fctI (fun hf => ?_)) | (show SWp _ _ _ (.cond _ _ _) _ _ _ _; first | refine cB (fun hc => ?_) (fun hc => ?_) | refine cU ?_ ?_)))
        (refine cQT [402] (fun hcc => (give_sch (oneP p t Z) cs)) ?_)
        (repeat' (first | refine swp_seq [0, 1, 2, 3, 4, 5, 7, 8, 9, 10, 11, 12, 13, 14, 15, 17, 18, 19, 20, 21, 22, 24, 27, 34, 70, 107, 108, 109, 110, 111, 120, 130, 147, 181, 186, 201, 202, 203, 204, 216, 219, 229, 242, 253] ?_ | refine st2 ?_ | (show Fct ..; refine fctI (fun hf => ?_)) | (show SWp _ _ _ (.cond _ _ _) _ _ _ _; first | refine cB (fun hc => ?_) (fun hc => ?_) | refine cU ?_ ?_)))
        (refine lN [0, 353] ?_)
        exact ⟨_, by omega, r + 1, by omega, rfl, by rw [hbn]; rfl, rfl⟩
      | some a =>
        obtain ⟨i0, b0⟩ := a
        have hb0 := hs0 i0 b0 rfl
        have hb1 : ¬ b0 < 0 := by omega
        (have := Nonempty.intro hb1)
        show SWp _ _ _ _ _ [_, _, _, _, _, _, (14, li b0), _, _, _, _, _, _, _] _ _
        by_cases hlt : CO + valI M W < b0
        · have hbn : bestU p t Z f (r + 1) = some (r, CO + valI M W) := by rw [hbn]; dsimp only; rw [← hvl, if_pos hlt]
          (have := Nonempty.intro hlt)
          (repeat' (first | refine swp_seq [0, 1, 2, 3, 4, 5, 7, 8, 9, 10, 11, 12, 13, 14, 15, 17, 18, 19, 20, 21, 22, 24, 27, 34, 70, 107, 108, 109, 110, 111, 120, 130, 147, 181, 186, 201, 202, 203, 204, 216, 219, 229, 242, 253] ?_ | refine st2 ?_ | (show Fct ..; refine fctI (fun hf => ?_)) | (show SWp _ _ _ (.cond _ _ _) _ _ _ _; first | refine cB (fun hc => ?_) (fun hc => ?_) | refine cU ?_ ?_)))
          (refine cQT [402] (fun hcc => (give_sch (oneP p t Z) cs)) ?_)
          (repeat' (first | refine swp_seq [0, 1, 2, 3, 4, 5, 7, 8, 9, 10, 11, 12, 13, 14, 15, 17, 18, 19, 20, 21, 22, 24, 27, 34, 70, 107, 108, 109, 110, 111, 120, 130, 147, 181, 186, 201, 202, 203, 204, 216, 219, 229, 242, 253] ?_ | refine st2 ?_ | (show Fct ..; refine fctI (fun hf => ?_)) | (show SWp _ _ _ (.cond _ _ _) _ _ _ _; first | refine cB (fun hc => ?_) (fun hc => ?_) | refine cU ?_ ?_)))
          (refine lN [0, 353] ?_)
          exact ⟨_, by omega, r + 1, by omega, rfl, by rw [hbn]; rfl, rfl⟩
        · have hbn : bestU p t Z f (r + 1) = some (i0, b0) := by rw [hbn]; dsimp only; rw [← hvl, if_neg hlt]
          (have := Nonempty.intro hlt)
          (repeat' (first | refine swp_seq [0, 1, 2, 3, 4, 5, 7, 8, 9, 10, 11, 12, 13, 14, 15, 17, 18, 19, 20, 21, 22, 24, 27, 34, 70, 107, 108, 109, 110, 111, 120, 130, 147, 181, 186, 201, 202, 203, 204, 216, 219, 229, 242, 253] ?_ | refine st2 ?_ | (show Fct ..; refine fctI (fun hf => ?_)) | (show SWp _ _ _ (.cond _ _ _) _ _ _ _; first | refine cB (fun hc => ?_) (fun hc => ?_) | refine cU ?_ ?_)))
          (refine cQT [402] (fun hcc => (give_sch (oneP p t Z) cs)) ?_)
          (repeat' (first | refine swp_seq [0, 1, 2, 3, 4, 5, 7, 8, 9, 10, 11, 12, 13, 14, 15, 17, 18, 19, 20, 21, 22, 24, 27, 34, 70, 107, 108, 109, 110, 111, 120, 130, 147, 181, 186, 201, 202, 203, 204, 216, 219, 229, 242, 253] ?_ | refine st2 ?_ | (show Fct ..; refine fctI (fun hf => ?_)) | (show SWp _ _ _ (.cond _ _ _) _ _ _ _; first | refine cB (fun hc => ?_) (fun hc => ?_) | refine cU ?_ ?_)))
          (refine lN [0, 353] ?_)
          exact ⟨_, by omega, r + 1, by omega, rfl, by rw [hbn]; rfl, rfl⟩
  · have htn3 : ¬ (t : Int) < (p.inf.length : Int) := by omega
    have htn4 : (t : Int) = (p.inf.length : Int) := by omega
    have ht5 : p.inf.length - t = 0 := by omega
    rw [ht5] at hlg1
    (have := Nonempty.intro htn3)
    (have := Nonempty.intro htn4)
    (repeat' (first | refine swp_seq [0, 1, 2, 3, 4, 5, 7, 8, 9, 10, 11, 12, 13, 14, 15, 17, 18, 19, 20, 21, 22, 24, 27, 34, 70, 107, 108, 109, 110, 111, 120, 130, 147, 181, 186, 201, 202, 203, 204, 216, 219, 229, 242, 253] ?_ | refine st2 ?_ | (show Fct ..; refine fctI (fun hf => ?_)) | (show SWp _ _ _ (.cond _ _ _) _ _ _ _; first | refine cB (fun hc => ?_) (fun hc => ?_) | refine cU ?_ ?_)))
    refine loop_swp [1, 3, 8, 9, 13, 108, 109, 110] [0] 1 (fun q A H => ∃ j : Nat, j ≤ (rowI p 0 p.start t).length ∧ q = (rowI p 0 p.start t).length - j ∧ A = [(1, .ptr 0 0), (3, intss LS), (8, li t), (9, ints (LS.getD t default)), (13, li ((2 * j : Nat) : Int)), (108, intss LS), (109, li LS.length), (110, li t)] ∧ H = [(0, .blk 26 (planC p))]) (by omega) ?_ ?_ ?_
    · rintro q A H ⟨j, k1, k2, rfl, rfl⟩
      exact ⟨by (exact SD), by (exact SD)⟩
    · refine ⟨_, 0, by omega, rfl, ?_, ?_⟩
      · exact DVR
      · exact DVR
    rintro q A H ⟨j, k1, k2, rfl, rfl⟩
    by_cases hj : j < (rowI p 0 p.start t).length
    case neg =>
      obtain rfl : j = (rowI p 0 p.start t).length := by omega
      have hK4 : ¬ 2 * ((rowI p 0 p.start t).length : Int) + 1 < ((LS.getD t default).length : Int) := by omega
      (have := Nonempty.intro hK4)
      (repeat' (first | refine swp_seq [0, 1, 2, 3, 4, 5, 7, 8, 9, 10, 11, 12, 13, 14, 15, 17, 18, 19, 20, 21, 22, 24, 27, 34, 70, 107, 108, 109, 110, 111, 120, 130, 147, 181, 186, 201, 202, 203, 204, 216, 219, 229, 242, 253] ?_ | refine st2 ?_ | (show Fct ..; refine fctI (fun hf => ?_)) | (show SWp _ _ _ (.cond _ _ _) _ _ _ _; first | refine cB (fun hc => ?_) (fun hc => ?_) | refine cU ?_ ?_)))
      (refine lN [0] ?_)
      exact ⟨_, by omega, t + 1, by omega, rfl, rfl, rfl⟩
    obtain ⟨q1, q2⟩ := hlg1 j hj
    have q2 : (LS.getD t default).getD (2 * j + 1) default = 0 := q2
    have hzr := hrt _ (getD_mem hj)
    have hprev : 1 ≤ j → (LS.getD t default).getD (2 * j - 2) default < (LS.getD t default).getD (2 * j) default := fun h => by
      rw [show 2 * j - 2 = 2 * (j - 1) by omega, (hlg1 (j - 1) (by omega)).1, q1]
      exact asc_lt hat (by omega) hj
    rw [← q1] at hzr
    obtain ⟨K, hK⟩ : ∃ K, 2 * j = K := ⟨_, rfl⟩
    rw [hK] at hprev q2 hzr ⊢
    have hK1 : K + 1 < (LS.getD t default).length := by omega
    have hK0 : K < (LS.getD t default).length := by omega
    have hK4 : (K : Int) + 1 < ((LS.getD t default).length : Int) := by omega
    have hz1 : ¬ (LS.getD t default).getD K default < p.res := by omega
    have hz2 : ¬ p.cap < (LS.getD t default).getD K default := by omega
    (have := Nonempty.intro hK0)
    (have := Nonempty.intro hK1)
    (have := Nonempty.intro hK4)
    (have := Nonempty.intro hz1)
    (have := Nonempty.intro hz2)
    (have := Nonempty.intro q2)
    have hK6 : K - 2 < (LS.getD t default).length := by omega
    have hK7 : ¬ (0 < (K : Int) ∧ (LS.getD t default).getD K default ≤ (LS.getD t default).getD (K - 2) default) := fun q => by
      have := hprev (by omega)
      omega
    (have := Nonempty.intro hK6)
    (have := Nonempty.intro hK7)
    (repeat' (first | refine swp_seq [0, 1, 2, 3, 4, 5, 7, 8, 9, 10, 11, 12, 13, 14, 15, 17, 18, 19, 20, 21, 22, 24, 27, 34, 70, 107, 108, 109, 110, 111, 120, 130, 147, 181, 186, 201, 202, 203, 204, 216, 219, 229, 242, 253] ?_ | refine st2 ?_ | (show Fct ..; refine fctI (fun hf => ?_)) | (show SWp _ _ _ (.cond _ _ _) _ _ _ _; first | refine cB (fun hc => ?_) (fun hc => ?_) | refine cU ?_ ?_)))
    (refine lN [0] ?_)
    exact ⟨_, by omega, j + 1, by omega, rfl, by rw [show 2 * (j + 1) = K + 2 by omega]; rfl, rfl⟩

end Go.Proofs.Ytedocinehadodaa
