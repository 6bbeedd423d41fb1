/-
  Contracts of functions of the program, over the engine.
  No condition.
-/
import Derived.Test.YtedocinehadodaaCU4CLU6
import Derived.Test.YtedocinehadodaaCS9R1R2
namespace Go.Proofs.Ytedocinehadodaa
open Go.Eng
set_option linter.all false
attribute [local irreducible] DCallsG SWp Fct CallQ XCallQ LCallQ XLCallQ drun xrun
set_option maxRecDepth 20000 in
set_option maxHeartbeats 40000000 in
theorem least_f (p : Plan) (a : List UInt8) (m : Nat) (hq : planOk p) (hal : a.length ≤ 281474976710656) : DCalls Try.prog 7 [planD p, bys a] (hget []) m (lb true) (hget []) := by
  have cw := fun m => few45_f p m hq
  cases hfw : fewS p <;> simp only [hfw] at cw
  · refine pureC (n := 188) (rs := [.tmp 4]) (ts := [4]) Try.func7 rfl (by decide) [] (by (exact SD)) ?_
    (repeat' (first | refine swp_seq [0, 1, 2, 4, 5, 6, 7, 8, 9, 10, 11, 12, 13, 14, 15, 16, 17, 19, 20, 21, 23, 25, 28, 42, 57, 58, 59, 64, 91, 140, 153, 155, 156, 157, 160, 161, 162, 163, 185] ?_ | refine st2 ?_ | (show CallQ ..; first | refine cQ (fun hcc => (by first | exact awake45_f _ | exact cw _)) ?_ | (refine lP ?_; refine lQ (fun hcc m => (by first | exact awake45_f _ | exact cw _)) ?_)) | (show XCallQ ..; first | refine xQ (fun hcc => (by first | exact awake45_f _ | exact cw _)) ?_ | (refine xlP ?_; refine xlQ (fun hcc m => (by first | exact awake45_f _ | exact cw _)) ?_)) | (show Fct ..; refine fctI (fun hf => ?_)) | (show SWp _ _ _ (.cond _ _ _) _ _ _ _; first | refine cB (fun hc => ?_) (fun hc => ?_) | refine cU ?_ ?_)))
    exact DVR
  have c1 := fun m => solve_f p m hq
  have cp := fun m => pValid_f p m hq
  cases hp : planB p <;> simp only [hp] at cp
  · rw [show solR p = (0, [], 1) by unfold solR; rw [if_pos hp]] at c1
    refine pureC (n := 188) (rs := [.tmp 4]) (ts := [4]) Try.func7 rfl (by decide) [] (by (exact SD)) ?_
    (repeat' (first | refine swp_seq [0, 1, 2, 4, 5, 6, 7, 8, 9, 10, 11, 12, 13, 14, 15, 16, 17, 19, 20, 21, 23, 25, 28, 42, 57, 58, 59, 64, 91, 140, 153, 155, 156, 157, 160, 161, 162, 163, 185] ?_ | refine st2 ?_ | (show CallQ ..; first | refine cQ (fun hcc => (by first | exact awake45_f _ | exact cw _ | exact c1 _ | exact cp _)) ?_ | (refine lP ?_; refine lQ (fun hcc m => (by first | exact awake45_f _ | exact cw _ | exact c1 _ | exact cp _)) ?_)) | (show XCallQ ..; first | refine xQ (fun hcc => (by first | exact awake45_f _ | exact cw _ | exact c1 _ | exact cp _)) ?_ | (refine xlP ?_; refine xlQ (fun hcc m => (by first | exact awake45_f _ | exact cw _ | exact c1 _ | exact cp _)) ?_)) | (show Fct ..; refine fctI (fun hf => ?_)) | (show SWp _ _ _ (.cond _ _ _) _ _ _ _; first | refine cB (fun hc => ?_) (fun hc => ?_) | refine cU ?_ ?_)))
    exact DVR
  have hin := planB_in hp
  have hil := hin.2.2.2.1
  have hrl := hin.2.2.2.2.1
  have hso := solR_few hfw hp
  have hr0 : ¬ (p.rel.length : Int) = 0 := by omega
  have hGs := givI_sch hp a
  have hGc := sch_some hp hGs
  have hGl := givI_len p a p.inf.length
  (have := Nonempty.intro hr0)
  generalize solR p = R at *
  obtain ⟨c, l, e⟩ := R
  have hcs : (e = 12 ∧ c = 0 ∧ l = [] ∧ vO p p.inf.length p.start = none) ∨ (e = 0 ∧ vO p p.inf.length p.start = some c ∧ l = (goV p p.inf.length).1) := by
    cases hv : vO p p.inf.length p.start with
    | none =>
      rw [hv] at hso
      simp only [Prod.mk.injEq] at hso
      exact .inl ⟨hso.2.2, hso.1, hso.2.1, rfl⟩
    | some x =>
      rw [hv] at hso
      simp only [Prod.mk.injEq] at hso
      exact .inr ⟨hso.2.2, by rw [hso.1], hso.2.1⟩
  clear hso
  have he1 : ¬ e = 1 := by rcases hcs with h | h <;> omega
  (have := Nonempty.intro he1)
  refine pureC (n := 188) (rs := [.tmp 4]) (ts := [4]) Try.func7 rfl (by decide) [] (by (exact SD)) ?_
  (repeat' (first | refine swp_seq [0, 1, 2, 4, 5, 6, 7, 8, 9, 10, 11, 12, 13, 14, 15, 16, 17, 19, 20, 21, 23, 25, 28, 42, 57, 58, 59, 64, 91, 140, 153, 155, 156, 157, 160, 161, 162, 163, 185] ?_ | refine st2 ?_ | (show CallQ ..; first | refine cQ (fun hcc => (by first | exact awake45_f _ | exact cw _ | exact c1 _)) ?_ | (refine lP ?_; refine lQ (fun hcc m => (by first | exact awake45_f _ | exact cw _ | exact c1 _)) ?_)) | (show XCallQ ..; first | refine xQ (fun hcc => (by first | exact awake45_f _ | exact cw _ | exact c1 _)) ?_ | (refine xlP ?_; refine xlQ (fun hcc m => (by first | exact awake45_f _ | exact cw _ | exact c1 _)) ?_)) | (show Fct ..; refine fctI (fun hf => ?_)) | (show SWp _ _ _ (.cond _ _ _) _ _ _ _; first | refine cB (fun hc => ?_) (fun hc => ?_) | refine cU ?_ ?_)))
  (refine sN 8 3 1 ?_)
  refine loop_swp [1, 2, 5, 6, 7, 8, 57, 58] [0, 232] 233 (fun q A H => ∃ i : Nat, i ≤ p.inf.length ∧ q = p.inf.length - i ∧ A = [(1, bys a), (2, .ptr 0 0), (5, li c), (6, ints l), (7, li e), (8, .gl 232), (57, li p.inf.length), (58, li i)] ∧ H = [(0, .blk 26 (planC p)), (232, inLt (givI p a i))]) (by omega) ?_ ?_ ?_
  · rintro q A H ⟨i, h1, h2, rfl, rfl⟩
    exact ⟨by (exact SD), by (exact SD)⟩
  · refine ⟨_, 0, by omega, rfl, ?_, ?_⟩
    · exact DVR
    · exact DVR
  rintro q A H ⟨i, h1, h2, rfl, rfl⟩
  by_cases hi : i < p.inf.length
  · have hi3 : (i : Int) < (p.inf.length : Int) := by omega
    have hgn := givI_next p a i
    have hgl := givI_len p a i
    generalize givI p a i = GI at *
    (have := Nonempty.intro hi)
    (have := Nonempty.intro hi3)
    by_cases hia : i < a.length
    · have hia3 : (i : Int) < (a.length : Int) := by omega
      rw [show chI8 a i = ((a.getD i default).toNat : Int) from if_pos hia] at hgn
      have h256 := (a.getD i default).toNat_lt
      have hnn : (0 : Int) ≤ ((a.getD i default).toNat : Int) := by omega
      have htm : tmM ((a.getD i default).toNat : Int) p.rel.length < p.rel.length := Nat.mod_lt _ (by omega)
      (have := Nonempty.intro hia)
      (have := Nonempty.intro hia3)
      (have := Nonempty.intro hnn)
      (have := Nonempty.intro htm)
      (repeat' (first | refine swp_seq [0, 1, 2, 4, 5, 6, 7, 8, 9, 10, 11, 12, 13, 14, 15, 16, 17, 19, 20, 21, 23, 25, 28, 42, 57, 58, 59, 64, 91, 140, 153, 155, 156, 157, 160, 161, 162, 163, 185] ?_ | (show SWp _ _ _ (.region _ _ true) _ _ _ _; refine xG mixed [232] ?_) | refine st2 ?_ | (show Fct ..; refine fctI (fun hf => ?_)) | (show SWp _ _ _ (.cond _ _ _) _ _ _ _; first | refine cB (fun hc => ?_) (fun hc => ?_) | refine cU ?_ ?_)))
      rw [← hgn]
      (refine lR 433 232 [0, 433] ?_)
      exact ⟨_, by omega, i + 1, by omega, rfl, rfl, rfl⟩
    · have hia3 : ¬ (i : Int) < (a.length : Int) := by omega
      rw [show chI8 a i = 0 from if_neg hia] at hgn
      have hnn : (0 : Int) ≤ 0 := by omega
      have htm : tmM 0 p.rel.length < p.rel.length := Nat.mod_lt _ (by omega)
      (have := Nonempty.intro hia3)
      (have := Nonempty.intro hnn)
      (have := Nonempty.intro htm)
      (repeat' (first | refine swp_seq [0, 1, 2, 4, 5, 6, 7, 8, 9, 10, 11, 12, 13, 14, 15, 16, 17, 19, 20, 21, 23, 25, 28, 42, 57, 58, 59, 64, 91, 140, 153, 155, 156, 157, 160, 161, 162, 163, 185] ?_ | (show SWp _ _ _ (.region _ _ true) _ _ _ _; refine xG mixed [232] ?_) | refine st2 ?_ | (show Fct ..; refine fctI (fun hf => ?_)) | (show SWp _ _ _ (.cond _ _ _) _ _ _ _; first | refine cB (fun hc => ?_) (fun hc => ?_) | refine cU ?_ ?_)))
      rw [← hgn]
      (refine lR 385 232 [0, 385] ?_)
      exact ⟨_, by omega, i + 1, by omega, rfl, rfl, rfl⟩
  obtain rfl : i = p.inf.length := by omega
  have hi3 : ¬ (p.inf.length : Int) < (p.inf.length : Int) := by omega
  (have := Nonempty.intro hi3)
  generalize hGG : givI p a p.inf.length = G at *
  have cg := fun m => cost_f p G m hq (by omega)
  (repeat' (first | (show SWp _ _ _ (.region 17 _ _) _ _ _ _; refine (stop_in ?_)) | refine swp_seq [0, 1, 2, 4, 5, 6, 7, 8, 9, 10, 11, 12, 13, 14, 15, 16, 17, 19, 20, 21, 23, 25, 28, 42, 57, 58, 59, 64, 91, 140, 153, 155, 156, 157, 160, 161, 162, 163, 185] ?_ | (show SWp _ _ _ (.region _ _ true) _ _ _ _; refine xG mixed [] ?_) | refine st2 ?_ | (show CallQ ..; first | refine cQ (fun hcc => (by fail)) ?_ | (refine lP ?_; refine lQ (fun hcc m => (by fail)) ?_)) | (show XCallQ ..; first | refine xQ (fun hcc => (by fail)) ?_ | (refine xlP ?_; refine xlQ (fun hcc m => (by fail)) ?_)) | (show Fct ..; refine fctI (fun hf => ?_)) | (show SWp _ _ _ (.cond _ _ _) _ _ _ _; first | refine cB (fun hc => ?_) (fun hc => ?_) | refine cU ?_ ?_)))
  refine stop_out ?_
  (refine sF 232 ?_)
  rcases hcs with ⟨rfl, rfl, rfl, hv⟩ | ⟨rfl, hv, hl⟩
  · have hG27 : costR p G = (0, [], 27) := by
      rcases hGc with ⟨c, v, _, _, x, hx, _⟩ | h
      · rw [hv] at hx; cases hx
      · exact h
    rw [hG27] at cg
    (repeat' (first | refine swp_seq [0, 1, 2, 4, 5, 6, 7, 8, 9, 10, 11, 12, 13, 14, 15, 16, 17, 19, 20, 21, 23, 25, 28, 42, 57, 58, 59, 64, 91, 140, 153, 155, 156, 157, 160, 161, 162, 163, 185] ?_ | refine st2 ?_ | (show CallQ ..; first | refine cQ (fun hcc => (by first | exact cg _)) ?_ | (refine lP ?_; refine lQ (fun hcc m => (by first | exact cg _)) ?_)) | (show XCallQ ..; first | refine xQ (fun hcc => (by first | exact cg _)) ?_ | (refine xlP ?_; refine xlQ (fun hcc m => (by first | exact cg _)) ?_)) | (show Fct ..; refine fctI (fun hf => ?_)) | (show SWp _ _ _ (.cond _ _ _) _ _ _ _; first | refine cB (fun hc => ?_) (fun hc => ?_) | refine cU ?_ ?_)))
    exact DVR
  have hls := goV_sch hv
  have hlc := goV_cost hv
  rw [← hl] at hls hlc
  have hll := hls.1
  have cl := fun m => cost_f p l m hq (by omega)
  have hcl : costR p l = (c, volsC p l p.inf.length, 0) := by
    rw [costR_sch hp hls, hll, hlc]
  rw [hcl] at cl
  have hvl : ∀ rs, (volsC p rs p.inf.length).length = p.inf.length := fun rs => by unfold volsC; rw [List.length_map, List.length_range]
  have hvl1 := hvl l
  have hvl2 := hvl G
  have hcc0 : c = c := rfl
  (have := Nonempty.intro hcc0)
  have hvi : ((volsC p l p.inf.length).length : Int) = (p.inf.length : Int) := by omega
  (have := Nonempty.intro hvi)
  have hvg : ((volsC p G p.inf.length).length : Int) = ((volsC p l p.inf.length).length : Int) := by omega
  (have := Nonempty.intro hvg)
  have clp := fun m => cmp_f45 G l m (by omega) (by omega)
  have hlex : ∀ v, pathC p G p.inf.length = some (c, v) → ¬ lexI G l < 0 := fun v hpv hlt => by
    obtain ⟨i, h1, h2, h3⟩ := lexI_lt (by omega) hlt
    rw [hl] at h2 h3
    exact sch_first hp hGs hpv hv (by omega) h2 h3
  have hcn : ¬ c < c := by omega
  (have := Nonempty.intro hcn)
  have cset : ∀ i r, i < l.length → r < p.rel.length → (∃ y V, costR p (l.set i (p.rel.getD r default)) = (y, V, 0) ∧ ¬ y < c) ∨ costR p (l.set i (p.rel.getD r default)) = (0, [], 27) := fun i r hi hr => by
    rcases sch_some hp (sch_set hls (i := i) hr) with ⟨y, v, _, h2, x, h3, h4⟩ | h
    · rw [hv] at h3
      obtain rfl := Option.some.inj h3
      exact .inl ⟨y, _, h2, by omega⟩
    · exact .inr h
  have hcase : (∃ V, costR p G = (c, V, 0) ∧ V.length = p.inf.length ∧ ¬ lexI G l < 0) ∨ (∃ d V, costR p G = (d, V, 0) ∧ V.length = p.inf.length ∧ ¬ d < c ∧ ¬ d = c) ∨ costR p G = (0, [], 27) := by
    rcases hGc with ⟨d, v, hpv, hcd, x, hx, hxd⟩ | hcd
    · rw [hv] at hx
      obtain rfl := Option.some.inj hx
      by_cases hdc : d = c
      · subst hdc
        exact .inl ⟨_, hcd, hvl2, hlex v hpv⟩
      · exact .inr (.inl ⟨d, _, hcd, hvl2, by omega, hdc⟩)
    · exact .inr (.inr hcd)
  clear hGc hlex hGs hvg hvl2
  have hcl27 : ¬ (27 : Int) = 0 := by omega
  rcases hcase with ⟨V, hcd, hV, hlx⟩ | ⟨d, V, hcd, hV, hdn, hdc⟩ | hcd <;> rw [hcd] at cg
  focus
    have hvg : (V.length : Int) = ((volsC p l p.inf.length).length : Int) := by omega
    (have := Nonempty.intro hvg)
    (have := Nonempty.intro hlx)
    (repeat' (first | (show SWp _ _ _ (.region 25 _ _) _ _ _ _; refine (stop_in ?_)) | refine swp_seq [0, 1, 2, 4, 5, 6, 7, 8, 9, 10, 11, 12, 13, 14, 15, 16, 17, 19, 20, 21, 23, 25, 28, 42, 57, 58, 59, 64, 91, 140, 153, 155, 156, 157, 160, 161, 162, 163, 185] ?_ | (show SWp _ _ _ (.region _ _ true) _ _ _ _; refine xG mixed [] ?_) | refine st2 ?_ | (show CallQ ..; first | refine cQ (fun hcc => (by first | exact cg _ | exact cl _ | exact clp _)) ?_ | (refine lP ?_; refine lQ (fun hcc m => (by first | exact cg _ | exact cl _ | exact clp _)) ?_)) | (show XCallQ ..; first | refine xQ (fun hcc => (by first | exact cg _ | exact cl _ | exact clp _)) ?_ | (refine xlP ?_; refine xlQ (fun hcc m => (by first | exact cg _ | exact cl _ | exact clp _)) ?_)) | (show Fct ..; refine fctI (fun hf => ?_)) | (show SWp _ _ _ (.cond _ _ _) _ _ _ _; first | refine cB (fun hc => ?_) (fun hc => ?_) | refine cU ?_ ?_)))
  rotate_left
  focus
    have hvg : (V.length : Int) = ((volsC p l p.inf.length).length : Int) := by omega
    (have := Nonempty.intro hvg)
    (have := Nonempty.intro hdn)
    (have := Nonempty.intro hdc)
    (repeat' (first | (show SWp _ _ _ (.region 25 _ _) _ _ _ _; refine (stop_in ?_)) | refine swp_seq [0, 1, 2, 4, 5, 6, 7, 8, 9, 10, 11, 12, 13, 14, 15, 16, 17, 19, 20, 21, 23, 25, 28, 42, 57, 58, 59, 64, 91, 140, 153, 155, 156, 157, 160, 161, 162, 163, 185] ?_ | (show SWp _ _ _ (.region _ _ true) _ _ _ _; refine xG mixed [] ?_) | refine st2 ?_ | (show CallQ ..; first | refine cQ (fun hcc => (by first | exact cg _ | exact cl _ | exact clp _)) ?_ | (refine lP ?_; refine lQ (fun hcc m => (by first | exact cg _ | exact cl _ | exact clp _)) ?_)) | (show XCallQ ..; first | refine xQ (fun hcc => (by first | exact cg _ | exact cl _ | exact clp _)) ?_ | (refine xlP ?_; refine xlQ (fun hcc m => (by first | exact cg _ | exact cl _ | exact clp _)) ?_)) | (show Fct ..; refine fctI (fun hf => ?_)) | (show SWp _ _ _ (.cond _ _ _) _ _ _ _; first | refine cB (fun hc => ?_) (fun hc => ?_) | refine cU ?_ ?_)))
  rotate_left
  focus
    (repeat' (first | (show SWp _ _ _ (.region 25 _ _) _ _ _ _; refine (stop_in ?_)) | refine swp_seq [0, 1, 2, 4, 5, 6, 7, 8, 9, 10, 11, 12, 13, 14, 15, 16, 17, 19, 20, 21, 23, 25, 28, 42, 57, 58, 59, 64, 91, 140, 153, 155, 156, 157, 160, 161, 162, 163, 185] ?_ | (show SWp _ _ _ (.region _ _ true) _ _ _ _; refine xG mixed [] ?_) | refine st2 ?_ | (show CallQ ..; first | refine cQ (fun hcc => (by first | exact cg _ | exact cl _ | exact clp _)) ?_ | (refine lP ?_; refine lQ (fun hcc m => (by first | exact cg _ | exact cl _ | exact clp _)) ?_)) | (show XCallQ ..; first | refine xQ (fun hcc => (by first | exact cg _ | exact cl _ | exact clp _)) ?_ | (refine xlP ?_; refine xlQ (fun hcc m => (by first | exact cg _ | exact cl _ | exact clp _)) ?_)) | (show Fct ..; refine fctI (fun hf => ?_)) | (show SWp _ _ _ (.cond _ _ _) _ _ _ _; first | refine cB (fun hc => ?_) (fun hc => ?_) | refine cU ?_ ?_)))
  rotate_left
  all_goals
    refine stop_out ?_
    (repeat' (first | refine swp_seq [0, 1, 2, 4, 5, 6, 7, 8, 9, 10, 11, 12, 13, 14, 15, 16, 17, 19, 20, 21, 23, 25, 28, 42, 57, 58, 59, 64, 91, 140, 153, 155, 156, 157, 160, 161, 162, 163, 185] ?_ | refine st2 ?_ | (show Fct ..; refine fctI (fun hf => ?_)) | (show SWp _ _ _ (.cond _ _ _) _ _ _ _; first | refine cB (fun hc => ?_) (fun hc => ?_) | refine cU ?_ ?_)))
    refine loop_swp [2, 5, 6, 155, 156] [0] 1 (fun q A H => ∃ i : Nat, i ≤ l.length ∧ q = l.length - i ∧ A = [(2, .ptr 0 0), (5, li c), (6, ints l), (155, li l.length), (156, li i)] ∧ H = [(0, .blk 26 (planC p))]) (by omega) ?_ ?_ ?_
    · rintro q A H ⟨i, h1, h2, rfl, rfl⟩
      exact ⟨by (exact SD), by (exact SD)⟩
    · refine ⟨_, 0, by omega, rfl, ?_, ?_⟩
      · exact DVR
      · exact DVR
    rintro q A H ⟨i, h1, h2, rfl, rfl⟩
    by_cases hi : i < l.length
    · have hi3 : (i : Int) < (l.length : Int) := by omega
      (have := Nonempty.intro hi)
      (have := Nonempty.intro hi3)
      (repeat' (first | refine swp_seq [0, 1, 2, 4, 5, 6, 7, 8, 9, 10, 11, 12, 13, 14, 15, 16, 17, 19, 20, 21, 23, 25, 28, 42, 57, 58, 59, 64, 91, 140, 153, 155, 156, 157, 160, 161, 162, 163, 185] ?_ | refine st2 ?_ | (show Fct ..; refine fctI (fun hf => ?_)) | (show SWp _ _ _ (.cond _ _ _) _ _ _ _; first | refine cB (fun hc => ?_) (fun hc => ?_) | refine cU ?_ ?_)))
      refine loop_swp [2, 5, 6, 17, 155, 156, 160, 161, 162] [0] 1 (fun q A H => ∃ r : Nat, r ≤ p.rel.length ∧ q = p.rel.length - r ∧ A = [(2, .ptr 0 0), (5, li c), (6, ints l), (17, li i), (155, li l.length), (156, li i), (160, ints p.rel), (161, li p.rel.length), (162, li r)] ∧ H = [(0, .blk 26 (planC p))]) (by omega) ?_ ?_ ?_
      · rintro q A H ⟨r, k1, k2, rfl, rfl⟩
        exact ⟨by (exact SD), by (exact SD)⟩
      · refine ⟨_, 0, by omega, rfl, ?_, ?_⟩
        · exact DVR
        · exact DVR
      rintro q A H ⟨r, k1, k2, rfl, rfl⟩
      by_cases hr : r < p.rel.length
      · have hr3 : (r : Int) < (p.rel.length : Int) := by omega
        have cs := cost_f p (l.set i (p.rel.getD r default)) 1 hq (by rw [List.length_set]; omega)
        (have := Nonempty.intro hr)
        (have := Nonempty.intro hr3)
        rcases cset i r hi hr with ⟨y, V2, hy, hyn⟩ | hy <;> rw [hy] at cs
        · (have := Nonempty.intro hyn)
          (repeat' (first | refine swp_seq [0, 1, 2, 4, 5, 6, 7, 8, 9, 10, 11, 12, 13, 14, 15, 16, 17, 19, 20, 21, 23, 25, 28, 42, 57, 58, 59, 64, 91, 140, 153, 155, 156, 157, 160, 161, 162, 163, 185] ?_ | refine st2 ?_ | (show CallQ ..; first | refine cQ (fun hcc => (by first | exact cloneI_f _ _ (by omega))) ?_ | (refine lP ?_; refine lQ (fun hcc m => (by first | exact cloneI_f _ _ (by omega))) ?_)) | (show XCallQ ..; first | refine xQ (fun hcc => (by first | exact cloneI_f _ _ (by omega))) ?_ | (refine xlP ?_; refine xlQ (fun hcc m => (by first | exact cloneI_f _ _ (by omega))) ?_)) | (show Fct ..; refine fctI (fun hf => ?_)) | (show SWp _ _ _ (.cond _ _ _) _ _ _ _; first | refine cB (fun hc => ?_) (fun hc => ?_) | refine cU ?_ ?_)))
          (refine cQT [41] (fun hcc => (give_sch p cs)) ?_)
          (repeat' (first | refine swp_seq [0, 1, 2, 4, 5, 6, 7, 8, 9, 10, 11, 12, 13, 14, 15, 16, 17, 19, 20, 21, 23, 25, 28, 42, 57, 58, 59, 64, 91, 140, 153, 155, 156, 157, 160, 161, 162, 163, 185] ?_ | refine st2 ?_ | (show Fct ..; refine fctI (fun hf => ?_)) | (show SWp _ _ _ (.cond _ _ _) _ _ _ _; first | refine cB (fun hc => ?_) (fun hc => ?_) | refine cU ?_ ?_)))
          (refine lN [0] ?_)
          exact ⟨_, by omega, r + 1, by omega, rfl, rfl, rfl⟩
        · (have := Nonempty.intro hcl27)
          (repeat' (first | refine swp_seq [0, 1, 2, 4, 5, 6, 7, 8, 9, 10, 11, 12, 13, 14, 15, 16, 17, 19, 20, 21, 23, 25, 28, 42, 57, 58, 59, 64, 91, 140, 153, 155, 156, 157, 160, 161, 162, 163, 185] ?_ | refine st2 ?_ | (show CallQ ..; first | refine cQ (fun hcc => (by first | exact cloneI_f _ _ (by omega))) ?_ | (refine lP ?_; refine lQ (fun hcc m => (by first | exact cloneI_f _ _ (by omega))) ?_)) | (show XCallQ ..; first | refine xQ (fun hcc => (by first | exact cloneI_f _ _ (by omega))) ?_ | (refine xlP ?_; refine xlQ (fun hcc m => (by first | exact cloneI_f _ _ (by omega))) ?_)) | (show Fct ..; refine fctI (fun hf => ?_)) | (show SWp _ _ _ (.cond _ _ _) _ _ _ _; first | refine cB (fun hc => ?_) (fun hc => ?_) | refine cU ?_ ?_)))
          (refine cQT [41] (fun hcc => (give_sch p cs)) ?_)
          (repeat' (first | refine swp_seq [0, 1, 2, 4, 5, 6, 7, 8, 9, 10, 11, 12, 13, 14, 15, 16, 17, 19, 20, 21, 23, 25, 28, 42, 57, 58, 59, 64, 91, 140, 153, 155, 156, 157, 160, 161, 162, 163, 185] ?_ | refine st2 ?_ | (show Fct ..; refine fctI (fun hf => ?_)) | (show SWp _ _ _ (.cond _ _ _) _ _ _ _; first | refine cB (fun hc => ?_) (fun hc => ?_) | refine cU ?_ ?_)))
          (refine lN [0] ?_)
          exact ⟨_, by omega, r + 1, by omega, rfl, rfl, rfl⟩
      obtain rfl : r = p.rel.length := by omega
      have hr3 : ¬ (p.rel.length : Int) < (p.rel.length : Int) := by omega
      (have := Nonempty.intro hr3)
      (repeat' (first | refine swp_seq [0, 1, 2, 4, 5, 6, 7, 8, 9, 10, 11, 12, 13, 14, 15, 16, 17, 19, 20, 21, 23, 25, 28, 42, 57, 58, 59, 64, 91, 140, 153, 155, 156, 157, 160, 161, 162, 163, 185] ?_ | refine st2 ?_ | (show Fct ..; refine fctI (fun hf => ?_)) | (show SWp _ _ _ (.cond _ _ _) _ _ _ _; first | refine cB (fun hc => ?_) (fun hc => ?_) | refine cU ?_ ?_)))
      (refine lN [0] ?_)
      exact ⟨_, by omega, i + 1, by omega, rfl, rfl, rfl⟩
    obtain rfl : i = l.length := by omega
    have hi3 : ¬ (l.length : Int) < (l.length : Int) := by omega
    (have := Nonempty.intro hi3)
    (repeat' (first | refine swp_seq [0, 1, 2, 4, 5, 6, 7, 8, 9, 10, 11, 12, 13, 14, 15, 16, 17, 19, 20, 21, 23, 25, 28, 42, 57, 58, 59, 64, 91, 140, 153, 155, 156, 157, 160, 161, 162, 163, 185] ?_ | refine st2 ?_ | (show Fct ..; refine fctI (fun hf => ?_)) | (show SWp _ _ _ (.cond _ _ _) _ _ _ _; first | refine cB (fun hc => ?_) (fun hc => ?_) | refine cU ?_ ?_)))
    exact DVR

end Go.Proofs.Ytedocinehadodaa
