/-
  Contracts of functions of the program, over the engine.
  No condition.
-/
import Derived.Test.YtlailhdmgehniaaGreatCQ4P12
import Derived.Test.YtlailhdmgehniaaGreatCC30C31C32C33
import Derived.Test.YtlailhdmgehniaaGreatCQ5T2ELU1C18
import Derived.Test.YtlailhdmgehniaaGreatCC2C3C6
namespace Go.Proofs.YtlailhdmgehniaaGreat
open Go.Eng
set_option linter.all false
attribute [local irreducible] DCallsG SWp Fct CallQ XCallQ LCallQ XLCallQ drun xrun

set_option maxRecDepth 20000 in
set_option maxHeartbeats 16000000 in
theorem best45_f (p : Plan) (s v : Int) (m : Nat) (hq : planOk p) : DCalls Tryz.prog 8 [planD p, li s, li v] (hget []) m (.tup [li (bestP p s v).1, li (bestP p s v).2]) (hget []) := by
  cases hp : planB p
  · rw [show bestP p s v = (0, 1) by unfold bestP; rw [if_pos hp]]
    have ct := fun m => tank_no p m hq hp
    refine pureC (n := 66) (rs := [.tmp 6, .tmp 7]) (ts := [3, 30]) Tryz.func8 rfl (by decide) [] (by (exact SD)) ?_
    (repeat' (first | refine swp_seq [0, 1, 2, 3, 6, 7, 8, 9, 10, 11, 19, 35, 44, 60] ?_ | refine st2 ?_ | (show CallQ ..; first | refine cQ (fun hcc => (by first | exact ct _)) ?_ | (refine lP ?_; refine lQ (fun hcc m => (by first | exact ct _)) ?_)) | (show Fct ..; refine fctI (fun hf => ?_)) | (show SWp _ _ _ (.cond _ _ _) _ _ _ _; first | refine cB (fun hc => ?_) (fun hc => ?_) | refine cU ?_ ?_)))
    exact DVR
  have hin := planB_in hp
  have hil := hin.2.2.2.1
  have ct := fun m => tank_f p m hq hp
  have cw1 := fun m => withinP_f s 0 ((p.inf.length : Int) - 1) m
  have cw2 := fun m => withinP_f v p.res p.cap m
  by_cases h1 : 0 ≤ s ∧ s ≤ (p.inf.length : Int) - 1
  case neg =>
    rw [show bestP p s v = (0, 2) by unfold bestP; rw [if_neg (by rw [hp]; decide), if_pos (fun q => h1 q.1)]]
    rw [show (decide (0 ≤ s) && decide (s ≤ (p.inf.length : Int) - 1)) = false by simp only [Bool.and_eq_false_iff, decide_eq_false_iff_not]; omega] at cw1
    refine pureC (n := 66) (rs := [.tmp 6, .tmp 7]) (ts := [3, 30]) Tryz.func8 rfl (by decide) [] (by (exact SD)) ?_
    (repeat' (first | refine swp_seq [0, 1, 2, 3, 6, 7, 8, 9, 10, 11, 19, 35, 44, 60] ?_ | refine st2 ?_ | (show CallQ ..; first | refine cQ (fun hcc => (by first | exact ct _ | exact cw1 _)) ?_ | (refine lP ?_; refine lQ (fun hcc m => (by first | exact ct _ | exact cw1 _)) ?_)) | (show Fct ..; refine fctI (fun hf => ?_)) | (show SWp _ _ _ (.cond _ _ _) _ _ _ _; first | refine cB (fun hc => ?_) (fun hc => ?_) | refine cU ?_ ?_)))
    exact DVR
  rw [decide_eq_true h1.1, decide_eq_true h1.2] at cw1
  by_cases h2 : p.res ≤ v ∧ v ≤ p.cap
  case neg =>
    rw [show bestP p s v = (0, 2) by unfold bestP; rw [if_neg (by rw [hp]; decide), if_pos (fun q => h2 q.2)]]
    rw [show (decide (p.res ≤ v) && decide (v ≤ p.cap)) = false by simp only [Bool.and_eq_false_iff, decide_eq_false_iff_not]; omega] at cw2
    refine pureC (n := 66) (rs := [.tmp 6, .tmp 7]) (ts := [3, 30]) Tryz.func8 rfl (by decide) [] (by (exact SD)) ?_
    (repeat' (first | refine swp_seq [0, 1, 2, 3, 6, 7, 8, 9, 10, 11, 19, 35, 44, 60] ?_ | refine st2 ?_ | (show CallQ ..; first | refine cQ (fun hcc => (by first | exact ct _ | exact cw1 _ | exact cw2 _)) ?_ | (refine lP ?_; refine lQ (fun hcc m => (by first | exact ct _ | exact cw1 _ | exact cw2 _)) ?_)) | (show Fct ..; refine fctI (fun hf => ?_)) | (show SWp _ _ _ (.cond _ _ _) _ _ _ _; first | refine cB (fun hc => ?_) (fun hc => ?_) | refine cU ?_ ?_)))
    exact DVR
  rw [decide_eq_true h2.1, decide_eq_true h2.2] at cw2
  obtain ⟨k, rfl⟩ : ∃ k : Nat, s = k := ⟨s.toNat, by omega⟩
  have hk : k < p.inf.length := by omega
  have hR : bestP p k v = if fewA p k v (p.inf.length - k) = false then ((0 : Int), (6 : Int)) else match bestO p k v (vO p (p.inf.length - (k + 1))) with
    | none => (0, 12)
    | some a => (p.rel.getD a.1 default, 0) := by
    unfold bestP
    rw [if_neg (by rw [hp]; decide), if_neg (fun q => q ⟨h1, h2⟩), Int.toNat_natCast] <;> cases bestO p k v (vO p (p.inf.length - (k + 1))) <;> rfl
  rw [hR]
  clear hR
  have hvi : 0 ≤ v ∧ v ≤ 1099511627776 := by omega
  obtain ⟨N, hN⟩ : ∃ N, p.inf.length - k = N := ⟨_, rfl⟩
  have hkN : k + N = p.inf.length := by omega
  have cr := fun m => reach_f p k v m hp (by omega) h2
  have hrr : reachR p k v = if fewA p k v N then (rowsN p k v N, true) else ([], false) := by unfold reachR; rw [hN]
  rw [hrr] at cr
  clear hrr
  rw [hN]
  cases hf : fewA p k v N
  · rw [if_pos rfl]
    simp only [hf, Bool.false_eq_true, if_false] at cr
    refine pureC (n := 66) (rs := [.tmp 6, .tmp 7]) (ts := [3, 30]) Tryz.func8 rfl (by decide) [] (by (exact SD)) ?_
    (repeat' (first | refine swp_seq [0, 1, 2, 3, 6, 7, 8, 9, 10, 11, 19, 35, 44, 60] ?_ | refine st2 ?_ | (show CallQ ..; first | refine cQ (fun hcc => (by first | exact ct _ | exact cw1 _ | exact cw2 _)) ?_ | (refine lP ?_; refine lQ (fun hcc m => (by first | exact ct _ | exact cw1 _ | exact cw2 _)) ?_)) | (show Fct ..; refine fctI (fun hf => ?_)) | (show SWp _ _ _ (.cond _ _ _) _ _ _ _; first | refine cB (fun hc => ?_) (fun hc => ?_) | refine cU ?_ ?_)))
    (refine cQT [32] (fun hcc => (cr _)) ?_)
    (repeat' (first | refine swp_seq [0, 1, 2, 3, 6, 7, 8, 9, 10, 11, 19, 35, 44, 60] ?_ | refine st2 ?_ | (show Fct ..; refine fctI (fun hf => ?_)) | (show SWp _ _ _ (.cond _ _ _) _ _ _ _; first | refine cB (fun hc => ?_) (fun hc => ?_) | refine cU ?_ ?_)))
    exact DVR
  rw [if_neg (by decide)]
  simp only [hf, if_true] at cr
  have cv := fun m => val_f p k v N m hp hkN h2 hf
  have hxl := valsX_len p k v N
  have hx1 := valsX_get p k v N (i := 1) (by omega)
  have h1l : 1 < (valsX p k v N).length := by omega
  have hb := @bestI_row p k v N hkN 0 (by omega) v (by simp [rowI, rowsN])
  rw [Nat.add_zero, Nat.zero_add, ← hx1, show N - 1 = p.inf.length - (k + 1) by omega] at hb
  have cb := fun m => best_f p k v ((valsX p k v N).getD 1 default) m hp hk hvi (by rw [hx1]; exact fun z => valsD_in hp h2 hkN (by omega) z)
  rw [hb] at cb
  generalize rowsN p k v N = RS at *
  generalize valsX p k v N = XS at *
  (have := Nonempty.intro h1l)
  cases hbo : bestO p k v (vO p (p.inf.length - (k + 1))) with
  | none =>
    rw [hbo] at cb
    simp only [stO] at cb
    refine pureC (n := 66) (rs := [.tmp 6, .tmp 7]) (ts := [3, 30]) Tryz.func8 rfl (by decide) [] (by (exact SD)) ?_
    (repeat' (first | refine swp_seq [0, 1, 2, 3, 6, 7, 8, 9, 10, 11, 19, 35, 44, 60] ?_ | refine st2 ?_ | (show CallQ ..; first | refine cQ (fun hcc => (by first | exact ct _ | exact cw1 _ | exact cw2 _)) ?_ | (refine lP ?_; refine lQ (fun hcc m => (by first | exact ct _ | exact cw1 _ | exact cw2 _)) ?_)) | (show Fct ..; refine fctI (fun hf => ?_)) | (show SWp _ _ _ (.cond _ _ _) _ _ _ _; first | refine cB (fun hc => ?_) (fun hc => ?_) | refine cU ?_ ?_)))
    (refine cQT [32] (fun hcc => (cr _)) ?_)
    (repeat' (first | refine swp_seq [0, 1, 2, 3, 6, 7, 8, 9, 10, 11, 19, 35, 44, 60] ?_ | refine st2 ?_ | (show Fct ..; refine fctI (fun hf => ?_)) | (show SWp _ _ _ (.cond _ _ _) _ _ _ _; first | refine cB (fun hc => ?_) (fun hc => ?_) | refine cU ?_ ?_)))
    (refine cQT [32] (fun hcc => (cv _)) ?_)
    (repeat' (first | refine swp_seq [0, 1, 2, 3, 6, 7, 8, 9, 10, 11, 19, 35, 44, 60] ?_ | refine st2 ?_ | (show Fct ..; refine fctI (fun hf => ?_)) | (show SWp _ _ _ (.cond _ _ _) _ _ _ _; first | refine cB (fun hc => ?_) (fun hc => ?_) | refine cU ?_ ?_)))
    (refine cQT [32] (fun hcc => (cb _)) ?_)
    (repeat' (first | refine swp_seq [0, 1, 2, 3, 6, 7, 8, 9, 10, 11, 19, 35, 44, 60] ?_ | refine st2 ?_ | (show Fct ..; refine fctI (fun hf => ?_)) | (show SWp _ _ _ (.cond _ _ _) _ _ _ _; first | refine cB (fun hc => ?_) (fun hc => ?_) | refine cU ?_ ?_)))
    exact DVR
  | some a =>
    obtain ⟨i, c⟩ := a
    rw [hbo] at cb
    simp only [stO] at cb
    have hir := (bestU_some _ hbo).1
    (have := Nonempty.intro hir)
    refine pureC (n := 66) (rs := [.tmp 6, .tmp 7]) (ts := [3, 30]) Tryz.func8 rfl (by decide) [] (by (exact SD)) ?_
    (repeat' (first | refine swp_seq [0, 1, 2, 3, 6, 7, 8, 9, 10, 11, 19, 35, 44, 60] ?_ | refine st2 ?_ | (show CallQ ..; first | refine cQ (fun hcc => (by first | exact ct _ | exact cw1 _ | exact cw2 _)) ?_ | (refine lP ?_; refine lQ (fun hcc m => (by first | exact ct _ | exact cw1 _ | exact cw2 _)) ?_)) | (show Fct ..; refine fctI (fun hf => ?_)) | (show SWp _ _ _ (.cond _ _ _) _ _ _ _; first | refine cB (fun hc => ?_) (fun hc => ?_) | refine cU ?_ ?_)))
    (refine cQT [32] (fun hcc => (cr _)) ?_)
    (repeat' (first | refine swp_seq [0, 1, 2, 3, 6, 7, 8, 9, 10, 11, 19, 35, 44, 60] ?_ | refine st2 ?_ | (show Fct ..; refine fctI (fun hf => ?_)) | (show SWp _ _ _ (.cond _ _ _) _ _ _ _; first | refine cB (fun hc => ?_) (fun hc => ?_) | refine cU ?_ ?_)))
    (refine cQT [32] (fun hcc => (cv _)) ?_)
    (repeat' (first | refine swp_seq [0, 1, 2, 3, 6, 7, 8, 9, 10, 11, 19, 35, 44, 60] ?_ | refine st2 ?_ | (show Fct ..; refine fctI (fun hf => ?_)) | (show SWp _ _ _ (.cond _ _ _) _ _ _ _; first | refine cB (fun hc => ?_) (fun hc => ?_) | refine cU ?_ ?_)))
    (refine cQT [32] (fun hcc => (cb _)) ?_)
    (repeat' (first | refine swp_seq [0, 1, 2, 3, 6, 7, 8, 9, 10, 11, 19, 35, 44, 60] ?_ | refine st2 ?_ | (show Fct ..; refine fctI (fun hf => ?_)) | (show SWp _ _ _ (.cond _ _ _) _ _ _ _; first | refine cB (fun hc => ?_) (fun hc => ?_) | refine cU ?_ ?_)))
    exact DVR
set_option maxRecDepth 20000 in
set_option maxHeartbeats 16000000 in
theorem rvalues_f (p : Plan) (m : Nat) (hp : planB p = true) : DCalls Tryz.prog 10 [planD p] (hget []) m (.tup [.p (.dat 1 ((valuesR p).1.map ilRow)), li (valuesR p).2]) (hget []) := by
  unfold valuesR
  rw [if_neg (by rw [hp]; decide)]
  have hin := planB_in hp
  have hil := hin.2.2.2.1
  have cr := fun m => rreach_f p 0 p.start m hp (by omega) hin.2.2.1
  have hrr : reachR p 0 p.start = if fewA p 0 p.start p.inf.length then (rowsN p 0 p.start p.inf.length, true) else ([], false) := rfl
  rw [hrr] at cr
  clear hrr
  cases hf : fewA p 0 p.start p.inf.length
  · rw [if_pos rfl]
    simp only [hf, Bool.false_eq_true, if_false] at cr
    refine pureC (n := 60) (rs := [.tmp 2, .tmp 3]) (ts := [29, 3]) Tryz.func10 rfl (by decide) [] (by (exact SD)) ?_
    (repeat' (first | refine swp_seq [0, 1, 2, 3, 4, 5, 6, 7, 8, 9, 10, 19, 26, 35] ?_ | refine st2 ?_ | (show CallQ ..; first | refine cQ (fun hcc => (by first | exact cr _)) ?_ | (refine lP ?_; refine lQ (fun hcc m => (by first | exact cr _)) ?_)) | (show XCallQ ..; first | refine xQ (fun hcc => (by first | exact cr _)) ?_ | (refine xlP ?_; refine xlQ (fun hcc m => (by first | exact cr _)) ?_)) | (show Fct ..; refine fctI (fun hf => ?_)) | (show SWp _ _ _ (.cond _ _ _) _ _ _ _; first | refine cB (fun hc => ?_) (fun hc => ?_) | refine cU ?_ ?_)))
    exact DVR
  rw [if_neg (by decide)]
  simp only [hf, if_true] at cr
  have cv := fun m => costs_f p 0 p.start p.inf.length m hp (by omega) hin.2.2.1 hf
  have hxl := costX_len p 0 p.start p.inf.length
  have hxg := fun j => @costX_get p 0 p.start p.inf.length j
  have hrl := rowsN_len p 0 p.start p.inf.length
  have hrg := rowsN_get p 0 p.start p.inf.length
  have hfl : ∀ j, j ≤ p.inf.length → (rowI p 0 p.start j).length ≤ 4000 := fun j hj => rowI_len (n := j) (by
    unfold fewA at hf ⊢
    rw [List.all_eq_true] at hf ⊢
    intro x hx
    exact hf x (List.mem_range.2 (by have := List.mem_range.1 hx; omega)))
  generalize rowsN p 0 p.start p.inf.length = RS at *
  generalize costX p 0 p.start p.inf.length = XS at *
  refine pureC (n := 60) (rs := [.tmp 2, .tmp 3]) (ts := [29, 3]) Tryz.func10 rfl (by decide) [160] (by (exact SD)) ?_
  (repeat' (first | refine swp_seq [0, 1, 2, 3, 4, 5, 6, 7, 8, 9, 10, 19, 26, 35] ?_ | refine st2 ?_ | (show CallQ ..; first | refine cQ (fun hcc => (by first | exact cr _ | exact cv _)) ?_ | (refine lP ?_; refine lQ (fun hcc m => (by first | exact cr _ | exact cv _)) ?_)) | (show XCallQ ..; first | refine xQ (fun hcc => (by first | exact cr _ | exact cv _)) ?_ | (refine xlP ?_; refine xlQ (fun hcc m => (by first | exact cr _ | exact cv _)) ?_)) | (show Fct ..; refine fctI (fun hf => ?_)) | (show SWp _ _ _ (.cond _ _ _) _ _ _ _; first | refine cB (fun hc => ?_) (fun hc => ?_) | refine cU ?_ ?_)))
  (refine sN 7 22 1 ?_)
  refine loop_swp [4, 6, 7, 8] [0, 160] 161 (fun q A H => ∃ (i : Nat), i ≤ p.inf.length + 1 ∧ q = p.inf.length + 1 - i ∧ A = [(4, .p (.dat 1 (RS.map ilRow))), (6, .p (.dat 1 (XS.map ilRow))), (7, .gl 160), (8, li i)] ∧ H = [(0, .blk 26 (planC p)), (160, .lst 22 1 (rows ilRow ((List.range i).map (lineV p))))]) (by omega) ?_ ?_ ?_
  · rintro q A H ⟨i, g1, g2, rfl, rfl⟩
    exact ⟨by (exact SD), by (exact SD)⟩
  · refine ⟨_, 0, by omega, rfl, ?_, ?_⟩
    · exact DVR
    · exact DVR
  rintro q A H ⟨i, g1, g2, rfl, rfl⟩
  by_cases hi : i < p.inf.length + 1
  case neg =>
    obtain rfl : i = p.inf.length + 1 := by omega
    have hi3 : ¬ ((p.inf.length : Int) + 1 < (RS.length : Int)) := by omega
    (have := Nonempty.intro hi3)
    (repeat' (first | refine swp_seq [0, 1, 2, 3, 4, 5, 6, 7, 8, 9, 10, 19, 26, 35] ?_ | refine st2 ?_ | (show Fct ..; refine fctI (fun hf => ?_)) | (show SWp _ _ _ (.cond _ _ _) _ _ _ _; first | refine cB (fun hc => ?_) (fun hc => ?_) | refine cU ?_ ?_)))
    exact DVR
  have hi2 : i < RS.length := by omega
  have hi3 : (i : Int) < (RS.length : Int) := by omega
  have hi4 : i < XS.length := by omega
  have hxi := hrg i (by omega)
  have hxc := hxg i hi
  have hfi := hfl i (by omega)
  have hln : (List.range (i + 1)).map (lineV p) = (List.range i).map (lineV p) ++ [lineV p i] := by rw [List.range_succ, List.map_append]; rfl
  have hle : lineV p i = pairI (vO p (p.inf.length - i)) (rowI p 0 p.start i) (rowI p 0 p.start i).length := rfl
  have hpn := fun j => @pairI_next (vO p (p.inf.length - i)) (rowI p 0 p.start i) j
  have hpl := fun j => @pairI_len (vO p (p.inf.length - i)) (rowI p 0 p.start i) j
  unfold cRow at hxc
  generalize vO p (p.inf.length - i) = f at *
  generalize hLS : (List.range i).map (lineV p) = LS at *
  have hLl : LS.length = i := by rw [← hLS]; simp
  rw [← hxi] at hle hfi hpn hpl hxc
  have hcl : (XS.getD i default).length = (RS.getD i default).length := by rw [hxc, cstI_len]
  have hcg := fun j hj => cstI_get f (RS.getD i default) (j := j) hj
  rw [← hxc] at hcg
  (have := Nonempty.intro hi2)
  (have := Nonempty.intro hi3)
  (have := Nonempty.intro hi4)
  (repeat' (first | refine swp_seq [0, 1, 2, 3, 4, 5, 6, 7, 8, 9, 10, 19, 26, 35] ?_ | refine st2 ?_ | (show Fct ..; refine fctI (fun hf => ?_)) | (show SWp _ _ _ (.cond _ _ _) _ _ _ _; first | refine cB (fun hc => ?_) (fun hc => ?_) | refine cU ?_ ?_)))
  (refine sN 9 3 1 ?_)
  refine loop_swp [4, 6, 7, 8, 9, 10] [0, 160, 209] 210 (fun q A H => ∃ (j : Nat), j ≤ (RS.getD i default).length ∧ q = (RS.getD i default).length - j ∧ A = [(4, .p (.dat 1 (RS.map ilRow))), (6, .p (.dat 1 (XS.map ilRow))), (7, .gl 160), (8, li i), (9, .gl 209), (10, li j)] ∧ H = [(0, .blk 26 (planC p)), (160, .lst 22 1 (rows ilRow LS)), (209, inLt (pairI f (RS.getD i default) j))]) (by omega) ?_ ?_ ?_
  · rintro q A H ⟨j, k1, k2, rfl, rfl⟩
    exact ⟨by (exact SD), by (exact SD)⟩
  · refine ⟨_, 0, by omega, rfl, ?_, ?_⟩
    · exact DVR
    · exact DVR
  rintro q A H ⟨j, k1, k2, rfl, rfl⟩
  by_cases hj : j < (RS.getD i default).length
  · have hj3 : (j : Int) < ((RS.getD i default).length : Int) := by omega
    have hjc : j < (XS.getD i default).length := by omega
    have hpj := hpn j hj
    have hplj := hpl j (by omega)
    rw [← hcg j hj] at hpj
    generalize pairI f (RS.getD i default) j = PJ at *
    (have := Nonempty.intro hj)
    (have := Nonempty.intro hj3)
    (have := Nonempty.intro hjc)
    (repeat' (first | refine swp_seq [0, 1, 2, 3, 4, 5, 6, 7, 8, 9, 10, 19, 26, 35] ?_ | (show SWp _ _ _ (.region _ _ true) _ _ _ _; refine xG mixed [209] ?_) | refine st2 ?_ | (show Fct ..; refine fctI (fun hf => ?_)) | (show SWp _ _ _ (.cond _ _ _) _ _ _ _; first | refine cB (fun hc => ?_) (fun hc => ?_) | refine cU ?_ ?_)))
    rw [← hpj]
    (refine lR 394 209 [0, 160, 394] ?_)
    exact ⟨_, by omega, j + 1, by omega, rfl, rfl, rfl⟩
  · obtain rfl : j = (RS.getD i default).length := by omega
    have hj3 : ¬ ((RS.getD i default).length : Int) < ((RS.getD i default).length : Int) := by omega
    (have := Nonempty.intro hj3)
    rw [← hle]
    have hplj := hpl (RS.getD i default).length (by omega)
    rw [← hle] at hplj
    generalize lineV p i = LV at *
    (repeat' (first | (show SWp _ _ _ (.region 14 _ _) _ _ _ _; refine (stop_in ?_)) | refine swp_seq [0, 1, 2, 3, 4, 5, 6, 7, 8, 9, 10, 19, 26, 35] ?_ | (show SWp _ _ _ (.region _ _ true) _ _ _ _; refine xG mixed [] ?_) | refine st2 ?_ | (show CallQ ..; first | refine cQ (fun hcc => (by fail)) ?_ | (refine lP ?_; refine lQ (fun hcc m => (by fail)) ?_)) | (show XCallQ ..; first | refine xQ (fun hcc => (by fail)) ?_ | (refine xlP ?_; refine xlQ (fun hcc m => (by fail)) ?_)) | (show Fct ..; refine fctI (fun hf => ?_)) | (show SWp _ _ _ (.cond _ _ _) _ _ _ _; first | refine cB (fun hc => ?_) (fun hc => ?_) | refine cU ?_ ?_)))
    refine stop_out ?_
    (refine sF 209 ?_)
    (repeat' (first | refine swp_seq [0, 1, 2, 3, 4, 5, 6, 7, 8, 9, 10, 19, 26, 35] ?_ | refine st2 ?_ | (show Fct ..; refine fctI (fun hf => ?_)) | (show SWp _ _ _ (.cond _ _ _) _ _ _ _; first | refine cB (fun hc => ?_) (fun hc => ?_) | refine cU ?_ ?_)))
    rw [app_ilp, ← hln]
    (refine lN [0, 160] ?_)
    exact ⟨_, by omega, i + 1, by omega, rfl, rfl, rfl⟩
theorem bestP_in {p : Plan} (hp : planB p = true) {k : Nat} {v : Int} (h1 : k < p.inf.length) (h2 : p.res ≤ v ∧ v ≤ p.cap) : bestP p k v = if fewA p k v (p.inf.length - k) = false then ((0 : Int), (6 : Int)) else match bestO p k v (vO p (p.inf.length - (k + 1))) with
    | none => (0, 12)
    | some a => (p.rel.getD a.1 default, 0) := by
  unfold bestP
  rw [if_neg (by rw [hp]; decide), if_neg (fun q => q ⟨⟨by omega, by omega⟩, h2⟩), Int.toNat_natCast] <;> cases bestO p k v (vO p (p.inf.length - (k + 1))) <;> rfl
set_option maxRecDepth 20000 in
set_option maxHeartbeats 16000000 in
theorem rbest_f (p : Plan) (s v : Int) (m : Nat) (hp : planB p = true) : DCalls Tryz.prog 11 [planD p, li s, li v] (hget []) m (.tup [li (bestP p s v).1, li (bestP p s v).2]) (hget []) := by
  have hin := planB_in hp
  have hil := hin.2.2.2.1
  have hout : ¬ ((0 ≤ s ∧ s ≤ (p.inf.length : Int) - 1) ∧ p.res ≤ v ∧ v ≤ p.cap) → bestP p s v = (0, 2) := fun h => by unfold bestP; rw [if_neg (by rw [hp]; decide), if_pos h]
  by_cases f1 : s < 0
  · (have := Nonempty.intro f1)
    rw [hout (by omega)]
    refine pureC (n := 63) (rs := [.tmp 6, .tmp 7]) (ts := [3, 3]) Tryz.func11 rfl (by decide) [] (by (exact SD)) ?_
    (repeat' (first | refine swp_seq [0, 1, 2, 3, 6, 7, 8, 9, 10, 11, 12, 33, 42, 61] ?_ | refine st2 ?_ | (show Fct ..; refine fctI (fun hf => ?_)) | (show SWp _ _ _ (.cond _ _ _) _ _ _ _; first | refine cB (fun hc => ?_) (fun hc => ?_) | refine cU ?_ ?_)))
    exact DVR
  (have := Nonempty.intro f1)
  by_cases f2 : (p.inf.length : Int) ≤ s
  · (have := Nonempty.intro f2)
    rw [hout (by omega)]
    refine pureC (n := 63) (rs := [.tmp 6, .tmp 7]) (ts := [3, 3]) Tryz.func11 rfl (by decide) [] (by (exact SD)) ?_
    (repeat' (first | refine swp_seq [0, 1, 2, 3, 6, 7, 8, 9, 10, 11, 12, 33, 42, 61] ?_ | refine st2 ?_ | (show Fct ..; refine fctI (fun hf => ?_)) | (show SWp _ _ _ (.cond _ _ _) _ _ _ _; first | refine cB (fun hc => ?_) (fun hc => ?_) | refine cU ?_ ?_)))
    exact DVR
  (have := Nonempty.intro f2)
  by_cases f3 : v < p.res
  · (have := Nonempty.intro f3)
    rw [hout (by omega)]
    refine pureC (n := 63) (rs := [.tmp 6, .tmp 7]) (ts := [3, 3]) Tryz.func11 rfl (by decide) [] (by (exact SD)) ?_
    (repeat' (first | refine swp_seq [0, 1, 2, 3, 6, 7, 8, 9, 10, 11, 12, 33, 42, 61] ?_ | refine st2 ?_ | (show Fct ..; refine fctI (fun hf => ?_)) | (show SWp _ _ _ (.cond _ _ _) _ _ _ _; first | refine cB (fun hc => ?_) (fun hc => ?_) | refine cU ?_ ?_)))
    exact DVR
  (have := Nonempty.intro f3)
  by_cases f4 : p.cap < v
  · (have := Nonempty.intro f4)
    rw [hout (by omega)]
    refine pureC (n := 63) (rs := [.tmp 6, .tmp 7]) (ts := [3, 3]) Tryz.func11 rfl (by decide) [] (by (exact SD)) ?_
    (repeat' (first | refine swp_seq [0, 1, 2, 3, 6, 7, 8, 9, 10, 11, 12, 33, 42, 61] ?_ | refine st2 ?_ | (show Fct ..; refine fctI (fun hf => ?_)) | (show SWp _ _ _ (.cond _ _ _) _ _ _ _; first | refine cB (fun hc => ?_) (fun hc => ?_) | refine cU ?_ ?_)))
    exact DVR
  (have := Nonempty.intro f4)
  clear hout
  have h2 : p.res ≤ v ∧ v ≤ p.cap := by omega
  obtain ⟨k, rfl⟩ : ∃ k : Nat, s = k := ⟨s.toNat, by omega⟩
  have hk : k < p.inf.length := by omega
  rw [bestP_in hp hk h2]
  obtain ⟨N, hN⟩ : ∃ N, p.inf.length - k = N := ⟨_, rfl⟩
  have hkN : k + N = p.inf.length := by omega
  have cr := fun m => rreach_f p k v m hp (by omega) h2
  have hrr : reachR p k v = if fewA p k v N then (rowsN p k v N, true) else ([], false) := by unfold reachR; rw [hN]
  rw [hrr] at cr
  clear hrr
  rw [hN]
  cases hf : fewA p k v N
  · rw [if_pos rfl]
    simp only [hf, Bool.false_eq_true, if_false] at cr
    refine pureC (n := 63) (rs := [.tmp 6, .tmp 7]) (ts := [3, 3]) Tryz.func11 rfl (by decide) [] (by (exact SD)) ?_
    (repeat' (first | refine swp_seq [0, 1, 2, 3, 6, 7, 8, 9, 10, 11, 12, 33, 42, 61] ?_ | refine st2 ?_ | (show CallQ ..; first | refine cQ (fun hcc => (by first | exact cr _)) ?_ | (refine lP ?_; refine lQ (fun hcc m => (by first | exact cr _)) ?_)) | (show XCallQ ..; first | refine xQ (fun hcc => (by first | exact cr _)) ?_ | (refine xlP ?_; refine xlQ (fun hcc m => (by first | exact cr _)) ?_)) | (show Fct ..; refine fctI (fun hf => ?_)) | (show SWp _ _ _ (.cond _ _ _) _ _ _ _; first | refine cB (fun hc => ?_) (fun hc => ?_) | refine cU ?_ ?_)))
    exact DVR
  rw [if_neg (by decide)]
  simp only [hf, if_true] at cr
  have cv := fun m => costs_f p k v N m hp hkN h2 hf
  have hxl := costX_len p k v N
  have hx1 := costX_get p k v N (j := 1) (by omega)
  have hrl := rowsN_len p k v N
  have hr1 := rowsN_get p k v N 1 (by omega)
  have ch := fun m => @cRow_choice p k v N 0 hp hkN h2 hf (by omega) v (by simp [rowI, rowsN]) m
  simp only [Nat.add_zero, Nat.zero_add] at ch
  rw [← hr1, ← hx1, show N - 1 = p.inf.length - (k + 1) by omega] at ch
  have g1 : 1 < (costX p k v N).length := by omega
  have g2 : 1 < (rowsN p k v N).length := by omega
  generalize rowsN p k v N = RS at *
  generalize costX p k v N = XS at *
  (have := Nonempty.intro g1)
  (have := Nonempty.intro g2)
  cases hbo : bestO p k v (vO p (p.inf.length - (k + 1))) with
  | none =>
    rw [hbo] at ch
    simp only [chI] at ch
    refine pureC (n := 63) (rs := [.tmp 6, .tmp 7]) (ts := [3, 3]) Tryz.func11 rfl (by decide) [] (by (exact SD)) ?_
    (repeat' (first | refine swp_seq [0, 1, 2, 3, 6, 7, 8, 9, 10, 11, 12, 33, 42, 61] ?_ | refine st2 ?_ | (show CallQ ..; first | refine cQ (fun hcc => (by first | exact cr _ | exact cv _ | exact ch _)) ?_ | (refine lP ?_; refine lQ (fun hcc m => (by first | exact cr _ | exact cv _ | exact ch _)) ?_)) | (show XCallQ ..; first | refine xQ (fun hcc => (by first | exact cr _ | exact cv _ | exact ch _)) ?_ | (refine xlP ?_; refine xlQ (fun hcc m => (by first | exact cr _ | exact cv _ | exact ch _)) ?_)) | (show Fct ..; refine fctI (fun hf => ?_)) | (show SWp _ _ _ (.cond _ _ _) _ _ _ _; first | refine cB (fun hc => ?_) (fun hc => ?_) | refine cU ?_ ?_)))
    exact DVR
  | some a =>
    obtain ⟨i, c⟩ := a
    obtain ⟨q1, q2, x, q3, q4⟩ := bestU_some _ hbo
    have hc0 : 0 ≤ c := by
      have a1 := (vO_in hp _ (by omega) _ (aft_in hp q2) x q3).1
      have a2 := (cost_in hp hk (v := v) (by omega) q1).2.2.2.1
      omega
    have hcn : ¬ c < 0 := by omega
    (have := Nonempty.intro hcn)
    rw [hbo] at ch
    simp only [chI] at ch
    refine pureC (n := 63) (rs := [.tmp 6, .tmp 7]) (ts := [3, 3]) Tryz.func11 rfl (by decide) [] (by (exact SD)) ?_
    (repeat' (first | refine swp_seq [0, 1, 2, 3, 6, 7, 8, 9, 10, 11, 12, 33, 42, 61] ?_ | refine st2 ?_ | (show CallQ ..; first | refine cQ (fun hcc => (by first | exact cr _ | exact cv _ | exact ch _)) ?_ | (refine lP ?_; refine lQ (fun hcc m => (by first | exact cr _ | exact cv _ | exact ch _)) ?_)) | (show XCallQ ..; first | refine xQ (fun hcc => (by first | exact cr _ | exact cv _ | exact ch _)) ?_ | (refine xlP ?_; refine xlQ (fun hcc m => (by first | exact cr _ | exact cv _ | exact ch _)) ?_)) | (show Fct ..; refine fctI (fun hf => ?_)) | (show SWp _ _ _ (.cond _ _ _) _ _ _ _; first | refine cB (fun hc => ?_) (fun hc => ?_) | refine cU ?_ ?_)))
    exact DVR
theorem valuesR_ok (p : Plan) : rowsOk (valuesR p).1 := by
  have hnil : rowsOk [] := ⟨by simp, by simp⟩
  unfold valuesR
  split
  · exact hnil
  next hp =>
  have hp : planB p = true := by simpa using hp
  split
  · exact hnil
  next hf =>
  have hf : fewA p 0 p.start p.inf.length = true := by simpa using hf
  have hin := planB_in hp
  have hil := hin.2.2.2.1
  refine ⟨by show ((List.range (p.inf.length + 1)).map (lineV p)).length ≤ _; rw [List.length_map, List.length_range]; omega, fun r hr => ?_⟩
  obtain ⟨t, ht, rfl⟩ := List.mem_map.1 hr
  have ht := List.mem_range.1 ht
  have hfl : (rowI p 0 p.start t).length ≤ 4000 := rowI_len (n := t) (by
    unfold fewA at hf ⊢
    rw [List.all_eq_true] at hf ⊢
    intro x hx
    exact hf x (List.mem_range.2 (by have := List.mem_range.1 hx; omega)))
  have hlen : (lineV p t).length = 2 * (rowI p 0 p.start t).length := pairI_len _ _ (Nat.le_refl _)
  refine ⟨by omega, fun z hz => ?_⟩
  unfold lineV pairI at hz
  rw [List.take_length] at hz
  obtain ⟨w, hw, hz⟩ := List.mem_flatMap.1 hz
  have hwi := rowI_in (s := 0) hp hin.2.2.1 t w hw
  simp only [List.mem_cons, List.not_mem_nil, or_false] at hz
  unfold i64ok
  rcases hz with rfl | rfl
  · omega
  · cases hc : vO p (p.inf.length - t) w with
    | none => exact ⟨by decide, by decide⟩
    | some c =>
      have := vO_in hp _ (by omega) w hwi c hc
      show _ ≤ c ∧ c ≤ _
      omega
set_option maxRecDepth 20000 in
set_option maxHeartbeats 8000000 in
theorem valaw_f (p : Plan) (s v : Int) (m : Nat) (hq : planOk p) : DCalls Tryz.prog 3 [planD p, li s, li v] (hget []) m (lb true) (hget []) := by
  have cw := fun m => few45_f p m hq
  cases hfw : fewS p <;> simp only [hfw] at cw
  · refine pureC (n := 80) (rs := [.tmp 6]) (ts := [4]) Tryz.func3 rfl (by decide) [] (by (exact SD)) ?_
    (repeat' (first | refine swp_seq [0, 1, 2, 3, 6, 7, 8, 9, 10, 11, 12, 13, 14, 16, 19, 34] ?_ | refine st2 ?_ | (show CallQ ..; first | refine cQ (fun hcc => (by first | exact awake45_f _ | exact cw _)) ?_ | (refine lP ?_; refine lQ (fun hcc m => (by first | exact awake45_f _ | exact cw _)) ?_)) | (show Fct ..; refine fctI (fun hf => ?_)) | (show SWp _ _ _ (.cond _ _ _) _ _ _ _; first | refine cB (fun hc => ?_) (fun hc => ?_) | refine cU ?_ ?_)))
    exact DVR
  have c1 := fun m => values45_f p m hq
  have c2 := fun m => best45_f p s v m hq
  have cv := fun m => rPValid_f p m hq
  cases hp : planB p <;> simp only [hp] at cv
  · rw [show valuesR p = ([], 1) by unfold valuesR; rw [if_pos hp]] at c1
    rw [show bestP p s v = (0, 1) by unfold bestP; rw [if_pos hp]] at c2
    refine pureC (n := 80) (rs := [.tmp 6]) (ts := [4]) Tryz.func3 rfl (by decide) [] (by (exact SD)) ?_
    (repeat' (first | refine swp_seq [0, 1, 2, 3, 6, 7, 8, 9, 10, 11, 12, 13, 14, 16, 19, 34] ?_ | refine st2 ?_ | (show CallQ ..; first | refine cQ (fun hcc => (by first | exact awake45_f _ | exact cw _ | exact c1 _ | exact c2 _ | exact cv _)) ?_ | (refine lP ?_; refine lQ (fun hcc m => (by first | exact awake45_f _ | exact cw _ | exact c1 _ | exact c2 _ | exact cv _)) ?_)) | (show Fct ..; refine fctI (fun hf => ?_)) | (show SWp _ _ _ (.cond _ _ _) _ _ _ _; first | refine cB (fun hc => ?_) (fun hc => ?_) | refine cU ?_ ?_)))
    exact DVR
  have c3 := fun m => rvalues_f p m hp
  have c4 := fun m => rbest_f p s v m hp
  have hro := valuesR_ok p
  generalize valuesR p = R at *
  generalize bestP p s v = B at *
  obtain ⟨l, e⟩ := R
  obtain ⟨r, f⟩ := B
  have hee : e = e := rfl
  have hrr : r = r := rfl
  have hff : f = f := rfl
  (have := Nonempty.intro hee)
  (have := Nonempty.intro hrr)
  (have := Nonempty.intro hff)
  dsimp only at hro
  have ce := fun m => eqf_f 13 (fun x y => decide (x = y)) l l m hro hro (fun x y m hx hy => eqlInt_f x y m hx hy)
  rw [show (decide (l.length = l.length) && (List.range l.length).all fun i => decide (l.getD i default = l.getD i default)) = true by simp] at ce
  refine pureC (n := 80) (rs := [.tmp 6]) (ts := [4]) Tryz.func3 rfl (by decide) [] (by (exact SD)) ?_
  (repeat' (first | refine swp_seq [0, 1, 2, 3, 6, 7, 8, 9, 10, 11, 12, 13, 14, 16, 19, 34] ?_ | refine st2 ?_ | (show CallQ ..; first | refine cQ (fun hcc => (by first | exact awake45_f _ | exact cw _ | exact c1 _ | exact c2 _ | exact cv _ | exact c3 _ | exact c4 _ | exact ce _)) ?_ | (refine lP ?_; refine lQ (fun hcc m => (by first | exact awake45_f _ | exact cw _ | exact c1 _ | exact c2 _ | exact cv _ | exact c3 _ | exact c4 _ | exact ce _)) ?_)) | (show Fct ..; refine fctI (fun hf => ?_)) | (show SWp _ _ _ (.cond _ _ _) _ _ _ _; first | refine cB (fun hc => ?_) (fun hc => ?_) | refine cU ?_ ?_)))
  exact DVR
attribute [local irreducible] PT
theorem dv_int (n : Int) : dvT Tryz.prog 3 [.lit (.int .i64 n)] = li n := by unfold dvT; rw [Tryz.underlying3]; rfl
end Go.Proofs.YtlailhdmgehniaaGreat
