/-
  Contracts of functions of the program, over the engine.
  No condition.
-/
import Derived.Test.YtedocinehadodaaCC2C3C9
import Derived.Test.YtedocinehadodaaCC33C34KSC36
import Derived.Test.YtedocinehadodaaCC30C31C32
import Derived.Test.YtedocinehadodaaCR3R4R5
import Derived.Test.YtedocinehadodaaCS6S7S8
namespace Go.Proofs.Ytedocinehadodaa
open Go.Eng
set_option linter.all false
attribute [local irreducible] DCallsG SWp Fct CallQ XCallQ LCallQ XLCallQ drun xrun

theorem rows_ext {a b : List (List Int)} (h1 : a.length = b.length) (h2 : ∀ i, i < a.length → a.getD i default = b.getD i default) : a = b := by
  refine List.ext_getElem h1 fun i hi hj => ?_
  have := h2 i hi
  rw [List.getD_eq_getElem?_getD, List.getD_eq_getElem?_getD, List.getElem?_eq_getElem hi, List.getElem?_eq_getElem hj] at this
  exact this
set_option maxHeartbeats 4000000 in
theorem same_s (a : List (List Int)) (m : Nat) (ha : rowsOk a) : DCalls Try.prog 37 [intss a, intss a] (hget []) m (lb true) (hget []) := by
  have h1 := ha.1
  have hn : (a.length : Int) = (a.length : Int) := rfl
  (have := Nonempty.intro hn)
  refine pureC (n := 53) (rs := [.tmp 4]) (ts := [4]) Try.func37 rfl (by decide) [] (by (exact SD)) ?_
  (repeat' (first | refine swp_seq [0, 1, 4, 5, 6, 11, 15, 28, 35, 52] ?_ | refine st2 ?_ | (show Fct ..; refine fctI (fun hf => ?_)) | (show SWp _ _ _ (.cond _ _ _) _ _ _ _; first | refine cB (fun hc => ?_) (fun hc => ?_) | refine cU ?_ ?_)))
  refine loop_swp [0, 1, 5] [] 0 (fun q A H => ∃ i : Nat, i ≤ a.length ∧ q = a.length - i ∧ A = [(0, intss a), (1, intss a), (5, li i)] ∧ H = []) (by omega) ?_ ?_ ?_
  · rintro q A H ⟨i, g1, g2, rfl, rfl⟩
    exact ⟨by (exact SD), by (exact SD)⟩
  · refine ⟨_, 0, by omega, rfl, ?_, ?_⟩
    · exact DVR
    · exact DVR
  rintro q A H ⟨i, g1, g2, rfl, rfl⟩
  by_cases hi : i < a.length
  · have hi3 : (i : Int) < (a.length : Int) := by omega
    (have := Nonempty.intro hi3)
    (have := Nonempty.intro hi)
    have hra := rows_len ha hi
    have hl : ((a.getD i default).length : Int) = ((a.getD i default).length : Int) := rfl
    (have := Nonempty.intro hl)
    (repeat' (first | refine swp_seq [0, 1, 4, 5, 6, 11, 15, 28, 35, 52] ?_ | refine st2 ?_ | (show Fct ..; refine fctI (fun hf => ?_)) | (show SWp _ _ _ (.cond _ _ _) _ _ _ _; first | refine cB (fun hc => ?_) (fun hc => ?_) | refine cU ?_ ?_)))
    refine loop_swp [0, 1, 5, 6] [] 0 (fun q A H => ∃ j : Nat, j ≤ (a.getD i default).length ∧ q = (a.getD i default).length - j ∧ A = [(0, intss a), (1, intss a), (5, li i), (6, li j)] ∧ H = []) (by omega) ?_ ?_ ?_
    · rintro q A H ⟨j, g4, g5, rfl, rfl⟩
      exact ⟨by (exact SD), by (exact SD)⟩
    · refine ⟨_, 0, by omega, rfl, ?_, ?_⟩
      · exact DVR
      · exact DVR
    rintro q A H ⟨j, g4, g5, rfl, rfl⟩
    by_cases hj : j < (a.getD i default).length
    · have hj3 : (j : Int) < ((a.getD i default).length : Int) := by omega
      (have := Nonempty.intro hj3)
      (have := Nonempty.intro hj)
      have hv : (a.getD i default).getD j default = (a.getD i default).getD j default := rfl
      (have := Nonempty.intro hv)
      (repeat' (first | refine swp_seq [0, 1, 4, 5, 6, 11, 15, 28, 35, 52] ?_ | refine st2 ?_ | (show Fct ..; refine fctI (fun hf => ?_)) | (show SWp _ _ _ (.cond _ _ _) _ _ _ _; first | refine cB (fun hc => ?_) (fun hc => ?_) | refine cU ?_ ?_)))
      (refine lN [] ?_)
      exact ⟨_, by omega, j + 1, by omega, rfl, rfl, rfl⟩
    have hj3 : ¬ ((j : Int) < ((a.getD i default).length : Int)) := by omega
    (have := Nonempty.intro hj3)
    (repeat' (first | refine swp_seq [0, 1, 4, 5, 6, 11, 15, 28, 35, 52] ?_ | refine st2 ?_ | (show Fct ..; refine fctI (fun hf => ?_)) | (show SWp _ _ _ (.cond _ _ _) _ _ _ _; first | refine cB (fun hc => ?_) (fun hc => ?_) | refine cU ?_ ?_)))
    (refine lN [] ?_)
    exact ⟨_, by omega, i + 1, by omega, rfl, rfl, rfl⟩
  have hi3 : ¬ ((i : Int) < (a.length : Int)) := by omega
  (have := Nonempty.intro hi3)
  (repeat' (first | refine swp_seq [0, 1, 4, 5, 6, 11, 15, 28, 35, 52] ?_ | refine st2 ?_ | (show Fct ..; refine fctI (fun hf => ?_)) | (show SWp _ _ _ (.cond _ _ _) _ _ _ _; first | refine cB (fun hc => ?_) (fun hc => ?_) | refine cU ?_ ?_)))
  exact DVR
theorem full_self (l : List (List Int)) : fullB l l.length = l.any bigB := by unfold fullB; rw [decide_eq_false (by omega)]; rfl
set_option maxRecDepth 20000 in
set_option maxHeartbeats 16000000 in
theorem rCost_f (p : Plan) (rs : List Int) (m : Nat) (hp : planB p = true) (hl : rs.length ≤ 281474976710656) : DCalls Try.prog 27 [planD p, ints rs] (hget []) m (.tup [li (costR p rs).1, ints (costR p rs).2.1, li (costR p rs).2.2]) (hget []) := by
  unfold costR
  rw [if_neg (by rw [hp]; decide)]
  have hin := planB_in hp
  by_cases hn : (rs.length : Int) = (p.inf.length : Int)
  case neg =>
    (have := Nonempty.intro hn)
    rw [if_pos (by omega)]
    refine pureC (n := 89) (rs := [.tmp 4, .tmp 5, .tmp 6]) (ts := [3, 22, 3]) Try.func27 rfl (by decide) [] (by (exact SD)) ?_
    (repeat' (first | refine swp_seq [0, 1, 2, 4, 5, 6, 7, 8, 9, 10, 11, 12, 13, 19, 23, 30, 47, 53, 64] ?_ | refine st2 ?_ | (show Fct ..; refine fctI (fun hf => ?_)) | (show SWp _ _ _ (.cond _ _ _) _ _ _ _; first | refine cB (fun hc => ?_) (fun hc => ?_) | refine cU ?_ ?_)))
    exact DVR
  (have := Nonempty.intro hn)
  rw [if_neg (by omega)]
  cases hany : (rs.any fun r => !p.rel.any (eqB r))
  case true =>
    rw [if_pos rfl]
    refine pureC (n := 89) (rs := [.tmp 4, .tmp 5, .tmp 6]) (ts := [3, 22, 3]) Try.func27 rfl (by decide) [] (by (exact SD)) ?_
    (repeat' (first | refine swp_seq [0, 1, 2, 4, 5, 6, 7, 8, 9, 10, 11, 12, 13, 19, 23, 30, 47, 53, 64] ?_ | refine st2 ?_ | (show Fct ..; refine fctI (fun hf => ?_)) | (show SWp _ _ _ (.cond _ _ _) _ _ _ _; first | refine cB (fun hc => ?_) (fun hc => ?_) | refine cU ?_ ?_)))
    refine loop_swp [1, 2, 7] [0] 1 (fun q A H => ∃ i : Nat, i ≤ rs.length ∧ q = rs.length - i ∧ (∀ j, j < i → p.rel.any (eqB (rs.getD j default)) = true) ∧ A = [(1, ints rs), (2, .ptr 0 0), (7, li i)] ∧ H = [(0, .blk 26 (planC p))]) (by omega) ?_ ?_ ?_
    · rintro q A H ⟨i, g1, g2, g3, rfl, rfl⟩
      exact ⟨by (exact SD), by (exact SD)⟩
    · refine ⟨_, 0, by omega, rfl, by omega, ?_, ?_⟩
      · exact DVR
      · exact DVR
    rintro q A H ⟨i, g1, g2, g3, rfl, rfl⟩
    by_cases hi : i < rs.length
    · have hi3 : (i : Int) < (rs.length : Int) := by omega
      (have := Nonempty.intro hi)
      (have := Nonempty.intro hi3)
      (repeat' (first | refine swp_seq [0, 1, 2, 4, 5, 6, 7, 8, 9, 10, 11, 12, 13, 19, 23, 30, 47, 53, 64] ?_ | refine st2 ?_ | (show Fct ..; refine fctI (fun hf => ?_)) | (show SWp _ _ _ (.cond _ _ _) _ _ _ _; first | refine cB (fun hc => ?_) (fun hc => ?_) | refine cU ?_ ?_)))
      refine loop_swp [1, 2, 7, 8, 9] [0] 1 (fun q A H => ∃ j : Nat, j ≤ p.rel.length ∧ q = p.rel.length - j ∧ A = [(1, ints rs), (2, .ptr 0 0), (7, li i), (8, lb ((p.rel.take j).any (eqB (rs.getD i default)))), (9, li j)] ∧ H = [(0, .blk 26 (planC p))]) (by omega) ?_ ?_ ?_
      · rintro q A H ⟨j, f1, f2, rfl, rfl⟩
        exact ⟨by (exact SD), by (exact SD)⟩
      · refine ⟨_, 0, by omega, rfl, ?_, ?_⟩
        · exact DVR
        · exact DVR
      rintro q A H ⟨j, f1, f2, rfl, rfl⟩
      by_cases hj : j < p.rel.length
      · have hj3 : (j : Int) < (p.rel.length : Int) := by omega
        (have := Nonempty.intro hj)
        (have := Nonempty.intro hj3)
        have hsn : (p.rel.take (j + 1)).any (eqB (rs.getD i default)) = ((p.rel.take j).any (eqB (rs.getD i default)) || (p.rel.getD j default == rs.getD i default)) := by
          rw [take_snoc hj, List.any_append, List.any_cons, List.any_nil, Bool.or_false]
          congr 1
          unfold eqB
          rw [Bool.eq_iff_iff]; simp; exact eq_comm
        generalize (p.rel.take j).any (eqB (rs.getD i default)) = F at *
        (repeat' (first | refine swp_seq [0, 1, 2, 4, 5, 6, 7, 8, 9, 10, 11, 12, 13, 19, 23, 30, 47, 53, 64] ?_ | refine st2 ?_ | (show Fct ..; refine fctI (fun hf => ?_)) | (show SWp _ _ _ (.cond _ _ _) _ _ _ _; first | refine cB (fun hc => ?_) (fun hc => ?_) | refine cU ?_ ?_)))
        (refine lN [0] ?_)
        exact ⟨_, by omega, j + 1, by omega, rfl, by rw [hsn]; rfl, rfl⟩
      have hj3 : ¬ ((j : Int) < (p.rel.length : Int)) := by omega
      (have := Nonempty.intro hj3)
      rw [List.take_of_length_le (show p.rel.length ≤ j by omega)]
      cases hb : p.rel.any (eqB (rs.getD i default))
      · (repeat' (first | refine swp_seq [0, 1, 2, 4, 5, 6, 7, 8, 9, 10, 11, 12, 13, 19, 23, 30, 47, 53, 64] ?_ | refine st2 ?_ | (show Fct ..; refine fctI (fun hf => ?_)) | (show SWp _ _ _ (.cond _ _ _) _ _ _ _; first | refine cB (fun hc => ?_) (fun hc => ?_) | refine cU ?_ ?_)))
        exact DVR
      · (repeat' (first | refine swp_seq [0, 1, 2, 4, 5, 6, 7, 8, 9, 10, 11, 12, 13, 19, 23, 30, 47, 53, 64] ?_ | refine st2 ?_ | (show Fct ..; refine fctI (fun hf => ?_)) | (show SWp _ _ _ (.cond _ _ _) _ _ _ _; first | refine cB (fun hc => ?_) (fun hc => ?_) | refine cU ?_ ?_)))
        (refine lN [0] ?_)
        exact ⟨_, by omega, i + 1, by omega, rfl, fun j2 hj2 => by
          by_cases e : j2 = i
          · rw [e]; exact hb
          · exact g3 j2 (by omega), rfl, rfl⟩
    exfalso
    obtain ⟨x, hx, hxb⟩ := List.any_eq_true.1 hany
    obtain ⟨j, hj, rfl⟩ := List.mem_iff_getElem.1 hx
    have := g3 j (by omega)
    have e : rs.getD j default = rs[j] := by rw [List.getD_eq_getElem?_getD, List.getElem?_eq_getElem hj]; rfl
    rw [e] at this
    rw [this] at hxb
    cases hxb
  rw [if_neg (by decide)]
  have hmem : ∀ i, i < rs.length → p.rel.any (eqB (rs.getD i default)) = true := fun i hi => by
    have := (List.any_eq_false.1 hany) _ (getD_mem hi)
    simpa using this
  refine pureC (n := 89) (rs := [.tmp 4, .tmp 5, .tmp 6]) (ts := [3, 22, 3]) Try.func27 rfl (by decide) [81] (by (exact SD)) ?_
  (repeat' (first | refine swp_seq [0, 1, 2, 4, 5, 6, 7, 8, 9, 10, 11, 12, 13, 19, 23, 30, 47, 53, 64] ?_ | refine st2 ?_ | (show Fct ..; refine fctI (fun hf => ?_)) | (show SWp _ _ _ (.cond _ _ _) _ _ _ _; first | refine cB (fun hc => ?_) (fun hc => ?_) | refine cU ?_ ?_)))
  refine loop_swp [1, 2, 7] [0] 1 (fun q A H => ∃ i : Nat, i ≤ rs.length ∧ q = rs.length - i ∧ A = [(1, ints rs), (2, .ptr 0 0), (7, li i)] ∧ H = [(0, .blk 26 (planC p))]) (by omega) ?_ ?_ ?_
  · rintro q A H ⟨i, g1, g2, rfl, rfl⟩
    exact ⟨by (exact SD), by (exact SD)⟩
  · refine ⟨_, 0, by omega, rfl, ?_, ?_⟩
    · exact DVR
    · exact DVR
  rintro q A H ⟨i, g1, g2, rfl, rfl⟩
  by_cases hi : i < rs.length
  · have hi3 : (i : Int) < (rs.length : Int) := by omega
    (have := Nonempty.intro hi)
    (have := Nonempty.intro hi3)
    (repeat' (first | refine swp_seq [0, 1, 2, 4, 5, 6, 7, 8, 9, 10, 11, 12, 13, 19, 23, 30, 47, 53, 64] ?_ | refine st2 ?_ | (show Fct ..; refine fctI (fun hf => ?_)) | (show SWp _ _ _ (.cond _ _ _) _ _ _ _; first | refine cB (fun hc => ?_) (fun hc => ?_) | refine cU ?_ ?_)))
    refine loop_swp [1, 2, 7, 8, 9] [0] 1 (fun q A H => ∃ j : Nat, j ≤ p.rel.length ∧ q = p.rel.length - j ∧ A = [(1, ints rs), (2, .ptr 0 0), (7, li i), (8, lb ((p.rel.take j).any (eqB (rs.getD i default)))), (9, li j)] ∧ H = [(0, .blk 26 (planC p))]) (by omega) ?_ ?_ ?_
    · rintro q A H ⟨j, f1, f2, rfl, rfl⟩
      exact ⟨by (exact SD), by (exact SD)⟩
    · refine ⟨_, 0, by omega, rfl, ?_, ?_⟩
      · exact DVR
      · exact DVR
    rintro q A H ⟨j, f1, f2, rfl, rfl⟩
    by_cases hj : j < p.rel.length
    · have hj3 : (j : Int) < (p.rel.length : Int) := by omega
      (have := Nonempty.intro hj)
      (have := Nonempty.intro hj3)
      have hsn : (p.rel.take (j + 1)).any (eqB (rs.getD i default)) = ((p.rel.take j).any (eqB (rs.getD i default)) || (p.rel.getD j default == rs.getD i default)) := by
        rw [take_snoc hj, List.any_append, List.any_cons, List.any_nil, Bool.or_false]
        congr 1
        unfold eqB
        rw [Bool.eq_iff_iff]; simp; exact eq_comm
      generalize (p.rel.take j).any (eqB (rs.getD i default)) = F at *
      (repeat' (first | refine swp_seq [0, 1, 2, 4, 5, 6, 7, 8, 9, 10, 11, 12, 13, 19, 23, 30, 47, 53, 64] ?_ | refine st2 ?_ | (show Fct ..; refine fctI (fun hf => ?_)) | (show SWp _ _ _ (.cond _ _ _) _ _ _ _; first | refine cB (fun hc => ?_) (fun hc => ?_) | refine cU ?_ ?_)))
      (refine lN [0] ?_)
      exact ⟨_, by omega, j + 1, by omega, rfl, by rw [hsn]; rfl, rfl⟩
    have hj3 : ¬ ((j : Int) < (p.rel.length : Int)) := by omega
    (have := Nonempty.intro hj3)
    rw [List.take_of_length_le (show p.rel.length ≤ j by omega)]
    rw [hmem i hi]
    (repeat' (first | refine swp_seq [0, 1, 2, 4, 5, 6, 7, 8, 9, 10, 11, 12, 13, 19, 23, 30, 47, 53, 64] ?_ | refine st2 ?_ | (show Fct ..; refine fctI (fun hf => ?_)) | (show SWp _ _ _ (.cond _ _ _) _ _ _ _; first | refine cB (fun hc => ?_) (fun hc => ?_) | refine cU ?_ ?_)))
    (refine lN [0] ?_)
    exact ⟨_, by omega, i + 1, by omega, rfl, rfl, rfl⟩
  have hi3 : ¬ ((i : Int) < (rs.length : Int)) := by omega
  (have := Nonempty.intro hi3)
  (repeat' (first | refine swp_seq [0, 1, 2, 4, 5, 6, 7, 8, 9, 10, 11, 12, 13, 19, 23, 30, 47, 53, 64] ?_ | refine st2 ?_ | (show Fct ..; refine fctI (fun hf => ?_)) | (show SWp _ _ _ (.cond _ _ _) _ _ _ _; first | refine cB (fun hc => ?_) (fun hc => ?_) | refine cU ?_ ?_)))
  (refine sN 12 3 1 ?_)
  clear hi3 hi
  refine loop_swp [1, 2, 10, 11, 12, 13] [0, 81] 82 (fun q A H => ∃ (i : Nat) (s v : Int), i ≤ rs.length ∧ q = rs.length - i ∧ pathC p rs i = some (s, v) ∧ (p.res ≤ v ∧ v ≤ p.cap) ∧ (0 ≤ s ∧ s ≤ (i : Int) * 4398046511104000) ∧ A = [(1, ints rs), (2, .ptr 0 0), (10, li v), (11, li s), (12, .gl 81), (13, li i)] ∧ H = [(0, .blk 26 (planC p)), (81, inLt (volsC p rs i))]) (by omega) ?_ ?_ ?_
  · rintro q A H ⟨i, s, v, g1, g2, g3, g4, g5, rfl, rfl⟩
    exact ⟨by (exact SD), by (exact SD)⟩
  · refine ⟨_, 0, 0, p.start, by omega, rfl, rfl, hin.2.2.1, by omega, ?_, ?_⟩
    · exact DVR
    · exact DVR
  rintro q A H ⟨i, s, v, g1, g2, g3, g4, g5, rfl, rfl⟩
  by_cases hi : i < rs.length
  · have hi3 : (i : Int) < (rs.length : Int) := by omega
    (have := Nonempty.intro hi)
    (have := Nonempty.intro hi3)
    have hvl : (volsC p rs i).length = i := by unfold volsC; rw [List.length_map, List.length_range]
    obtain ⟨ri, hri, hrv, hrx⟩ := eqB_mem (hmem i hi)
    have hcst := cost_in hp (show i < p.inf.length by omega) (v := v) (by omega) hri
    have hnx := path_next g3
    have cp := fun m => possible_f p i ri v m hp (by omega) hri (by omega)
    have ca := fun m => after_f p i ri v m hp (by omega) hri (by omega)
    have cr := fun m => price_f p i ri v m hp (by omega) hri (by omega)
    rw [hrv] at cp ca cr hcst
    cases hpo : possB p i v (rs.getD i default) <;> simp only [hpo] at cp
    · rw [hpo, if_neg (by decide)] at hnx
      rw [path_none hnx rs.length (by omega)]
      (repeat' (first | refine swp_seq [0, 1, 2, 4, 5, 6, 7, 8, 9, 10, 11, 12, 13, 19, 23, 30, 47, 53, 64] ?_ | refine st2 ?_ | (show CallQ ..; first | refine cQ (fun hcc => (by first | exact cp _)) ?_ | (refine lP ?_; refine lQ (fun hcc m => (by first | exact cp _)) ?_)) | (show XCallQ ..; first | refine xQ (fun hcc => (by first | exact cp _)) ?_ | (refine xlP ?_; refine xlQ (fun hcc m => (by first | exact cp _)) ?_)) | (show Fct ..; refine fctI (fun hf => ?_)) | (show SWp _ _ _ (.cond _ _ _) _ _ _ _; first | refine cB (fun hc => ?_) (fun hc => ?_) | refine cU ?_ ?_)))
      exact DVR
    · rw [hpo, if_pos rfl] at hnx
      have hvn := vols_next hnx
      have hai := aft_in hp hpo
      generalize aftI p i v (rs.getD i default) = AF at *
      generalize costI p i v (rs.getD i default) = CO at *
      generalize volsC p rs i = VO at *
      (repeat' (first | refine swp_seq [0, 1, 2, 4, 5, 6, 7, 8, 9, 10, 11, 12, 13, 19, 23, 30, 47, 53, 64] ?_ | refine st2 ?_ | (show CallQ ..; first | refine cQ (fun hcc => (by first | exact cp _ | exact ca _ | exact cr _)) ?_ | (refine lP ?_; refine lQ (fun hcc m => (by first | exact cp _ | exact ca _ | exact cr _)) ?_)) | (show XCallQ ..; first | refine xQ (fun hcc => (by first | exact cp _ | exact ca _ | exact cr _)) ?_ | (refine xlP ?_; refine xlQ (fun hcc m => (by first | exact cp _ | exact ca _ | exact cr _)) ?_)) | (show Fct ..; refine fctI (fun hf => ?_)) | (show SWp _ _ _ (.cond _ _ _) _ _ _ _; first | refine cB (fun hc => ?_) (fun hc => ?_) | refine cU ?_ ?_)))
      (refine lN [0, 81] ?_)
      exact ⟨_, by omega, i + 1, s + CO, AF, by omega, rfl, hnx, hai, by omega, rfl, by rw [hvn]⟩
  have hi2 : i = rs.length := by omega
  have hi3 : ¬ ((i : Int) < (rs.length : Int)) := by omega
  (have := Nonempty.intro hi3)
  have g9 := g3
  rw [hi2] at g9
  rw [g9]
  (repeat' (first | refine swp_seq [0, 1, 2, 4, 5, 6, 7, 8, 9, 10, 11, 12, 13, 19, 23, 30, 47, 53, 64] ?_ | refine st2 ?_ | (show Fct ..; refine fctI (fun hf => ?_)) | (show SWp _ _ _ (.cond _ _ _) _ _ _ _; first | refine cB (fun hc => ?_) (fun hc => ?_) | refine cU ?_ ?_)))
  (refine DVQ ?_)
  rw [hi2]
def rzStep (p : Plan) (k : Nat) (v : Int) (R : List Int) (b r : Int) : Int :=
  if possB p k v r = true then (if (atR R (aftI p k v r)).1 = -1 then b else if b = -1 ∨ costI p k v r + (atR R (aftI p k v r)).1 < b then costI p k v r + (atR R (aftI p k v r)).1 else b) else b
def raisedV (p : Plan) (k : Nat) (v : Int) (R : List Int) : Int := p.rel.foldl (rzStep p k v R) (-1)
theorem foldl_snoc {α β : Type} [Inhabited α] (f : β → α → β) (l : List α) (b : β) {i : Nat} (h : i < l.length) : (l.take (i + 1)).foldl f b = f ((l.take i).foldl f b) (l.getD i default) := by
  rw [take_snoc h, List.foldl_append]; rfl
theorem rz_in {p : Plan} (hp : planB p = true) {k : Nat} (hk : k < p.inf.length) {v : Int} (hv : 0 ≤ v ∧ v ≤ 1099511627776) {R : List Int} {B : Int} (hB : 0 ≤ B) (hy : ∀ a, -1 ≤ (atR R a).1 ∧ (atR R a).1 ≤ B) : ∀ i, i ≤ p.rel.length → -1 ≤ (p.rel.take i).foldl (rzStep p k v R) (-1) ∧ (p.rel.take i).foldl (rzStep p k v R) (-1) ≤ B + 4398046511104000 := by
  intro i
  induction i with
  | zero => intro _; rw [List.take_zero, List.foldl_nil]; omega
  | succ i ih =>
    intro hi
    have h1 := ih (by omega)
    rw [foldl_snoc _ _ _ (by omega : i < p.rel.length)]
    have h2 := (cost_in hp hk hv (show i < p.rel.length by omega)).2.2.2
    have h3 := hy (aftI p k v (p.rel.getD i default))
    unfold rzStep at h1 ⊢
    split
    · split
      · exact h1
      · split
        · omega
        · exact h1
    · exact h1
def partRow (row : List Int) (f : Nat → Int) (j : Nat) : List Int := (List.range row.length).map fun k => if k % 2 = 1 ∧ k < 2 * j then f k else row.getD k default
theorem partRow_len (row : List Int) (f : Nat → Int) (j : Nat) : (partRow row f j).length = row.length := by unfold partRow; rw [List.length_map, List.length_range]
theorem partRow_get (row : List Int) (f : Nat → Int) (j : Nat) {k : Nat} (hk : k < row.length) : (partRow row f j).getD k default = if k % 2 = 1 ∧ k < 2 * j then f k else row.getD k default := by
  unfold partRow
  rw [List.getD_eq_getElem?_getD, List.getElem?_map, List.getElem?_range hk]; rfl
theorem ints_ext {a b : List Int} (h1 : a.length = b.length) (h2 : ∀ i, i < a.length → a.getD i default = b.getD i default) : a = b := by
  refine List.ext_getElem h1 fun i hi hj => ?_
  have := h2 i hi
  rw [List.getD_eq_getElem?_getD, List.getD_eq_getElem?_getD, List.getElem?_eq_getElem hi, List.getElem?_eq_getElem hj] at this
  exact this
theorem partRow_0 (row : List Int) (f : Nat → Int) : partRow row f 0 = row :=
  ints_ext (partRow_len _ _ _) fun i hi => by
    rw [partRow_len] at hi
    rw [partRow_get _ _ _ hi, if_neg (by omega)]
theorem getD_set_ne' (l : List Int) (i k : Nat) (x : Int) (h : ¬ k = i) : (l.set i x).getD k default = l.getD k default := by
  rw [List.getD_eq_getElem?_getD, List.getElem?_set_ne (fun e => h e.symm), ← List.getD_eq_getElem?_getD]
theorem getD_set_eq' (l : List Int) (i : Nat) (x : Int) (h : i < l.length) : (l.set i x).getD i default = x := by
  rw [List.getD_eq_getElem?_getD, List.getElem?_set_self h]; rfl
theorem partRow_set (row : List Int) (f : Nat → Int) (j : Nat) (h : 2 * j + 1 < row.length) : (partRow row f j).set (2 * j + 1) (f (2 * j + 1)) = partRow row f (j + 1) :=
  ints_ext (by rw [List.length_set, partRow_len, partRow_len]) fun i hi => by
    rw [List.length_set, partRow_len] at hi
    by_cases e : i = 2 * j + 1
    · subst e
      rw [getD_set_eq' _ _ _ (by rw [partRow_len]; exact h), partRow_get _ _ _ hi, if_pos ⟨by omega, by omega⟩]
    · rw [getD_set_ne' _ _ _ _ e, partRow_get _ _ _ hi, partRow_get _ _ _ hi]
      by_cases c : i % 2 = 1 ∧ i < 2 * j
      · rw [if_pos c, if_pos ⟨c.1, by omega⟩]
      · rw [if_neg c, if_neg (fun q => c ⟨q.1, by omega⟩)]
theorem partRow_same (row : List Int) (f : Nat → Int) (j : Nat) (h : ∀ k, k < row.length → k % 2 = 1 → f k = row.getD k default) : partRow row f j = row :=
  ints_ext (partRow_len _ _ _) fun i hi => by
    rw [partRow_len] at hi
    rw [partRow_get _ _ _ hi]
    split
    · next c => exact h i hi c.1
    · rfl
def newF (p : Plan) (i : Nat) (row next : List Int) (k : Nat) : Int := raisedV p i (row.getD (k - 1) default) next
def newRow (p : Plan) (l : List (List Int)) (i : Nat) (rs : List (List Int)) : List Int :=
  if i + 1 = l.length then l.getD i default else partRow (l.getD i default) (newF p i (l.getD i default) (rs.getD 0 default)) ((l.getD i default).length / 2)
def outsR (p : Plan) (l : List (List Int)) : Nat → List (List Int)
  | 0 => []
  | d + 1 => newRow p l (l.length - 1 - d) (outsR p l d) :: outsR p l d
theorem outsR_len (p : Plan) (l : List (List Int)) : ∀ d, (outsR p l d).length = d
  | 0 => rfl
  | d + 1 => by rw [outsR, List.length_cons, outsR_len p l d]
theorem newRow_len (p : Plan) (l : List (List Int)) (i : Nat) (rs : List (List Int)) : (newRow p l i rs).length = (l.getD i default).length := by
  unfold newRow
  split
  · rfl
  · exact partRow_len _ _ _
theorem newRow_vol (p : Plan) (l : List (List Int)) (i : Nat) (rs : List (List Int)) {j : Nat} (hj : 2 * j < (l.getD i default).length) : (newRow p l i rs).getD (2 * j) default = (l.getD i default).getD (2 * j) default := by
  unfold newRow
  split
  · rfl
  · rw [partRow_get _ _ _ hj, if_neg (by omega)]
theorem atR_bnd {R : List Int} {B : Int} (hB : 0 ≤ B) (h : ∀ j, j < R.length / 2 → -1 ≤ R.getD (2 * j + 1) default ∧ R.getD (2 * j + 1) default ≤ B) (a : Int) : -1 ≤ (atR R a).1 ∧ (atR R a).1 ≤ B := by
  cases hb : (atR R a).2 with
  | true =>
    obtain ⟨j, h1, h2, h3⟩ := atR_some hb
    rw [h3]
    exact h j h1
  | false =>
    have key : ∀ n j, (atFrom R a n j).2 = false → (atFrom R a n j).1 = 0 := by
      intro n
      induction n with
      | zero => intro j _; rfl
      | succ n ih =>
        intro j hj
        rw [atFrom] at hj ⊢
        split at hj
        · cases hj
        · next q => rw [if_neg q]; exact ih _ hj
    have : (atR R a).1 = 0 := key _ _ hb
    omega
theorem outs_ok {p : Plan} {l : List (List Int)} (hg : givenE p l = 0) (hall : ∀ k, k < l.length → holdsB p l k = true) : ∀ d, d < l.length → ∀ rs, rs = outsR p l (d + 1) → (rs.getD 0 default).length = (l.getD (l.length - 1 - d) default).length ∧ (∀ j, j < (rs.getD 0 default).length / 2 → (rs.getD 0 default).getD (2 * j) default = (l.getD (l.length - 1 - d) default).getD (2 * j) default) ∧ ∀ j, j < (rs.getD 0 default).length / 2 → -1 ≤ (rs.getD 0 default).getD (2 * j + 1) default ∧ (rs.getD 0 default).getD (2 * j + 1) default ≤ (d : Int) * 4398046511104000 := by
  obtain ⟨hp, hln, hrow⟩ := given_in hg
  have h200 := (planB_in hp).2.2.2.1
  intro d
  induction d with
  | zero =>
    intro hd rs hrs
    subst hrs
    have e0 : (outsR p l 1).getD 0 default = l.getD (l.length - 1) default := by
      rw [outsR]
      show newRow p l (l.length - 1 - 0) (outsR p l 0) = _
      unfold newRow
      rw [if_pos (by omega)]; rfl
    rw [e0]
    refine ⟨rfl, fun _ _ => rfl, fun j hj => ?_⟩
    have h1 := hall (l.length - 1) (by omega)
    unfold holdsB at h1
    simp only [Bool.and_eq_true, List.all_eq_true, List.mem_range, if_pos (by omega : l.length - 1 + 1 = l.length)] at h1
    have := h1.2 j hj
    have : (l.getD (l.length - 1) default).getD (2 * j + 1) default = 0 := by simpa using this
    omega
  | succ d ih =>
    intro hd rs hrs
    subst hrs
    obtain ⟨i1, i2, i3⟩ := ih (by omega) _ rfl
    have e0 : (outsR p l (d + 2)).getD 0 default = newRow p l (l.length - 1 - (d + 1)) (outsR p l (d + 1)) := by rw [outsR]; rfl
    rw [e0]
    refine ⟨newRow_len _ _ _ _, fun j hj => newRow_vol _ _ _ _ (by rw [newRow_len] at hj; omega), fun j hj => ?_⟩
    rw [newRow_len] at hj
    have hi : ¬ l.length - 1 - (d + 1) + 1 = l.length := by omega
    unfold newRow
    rw [if_neg hi, partRow_get _ _ _ (by omega), if_pos ⟨by omega, by omega⟩]
    unfold newF raisedV
    have hy := atR_bnd (R := (outsR p l (d + 1)).getD 0 default) (B := (d : Int) * 4398046511104000) (by omega) i3
    obtain ⟨hr1, hr2⟩ := hrow (l.length - 1 - (d + 1)) (by omega)
    have hv := (rowB_in hr1).2.1 j hj
    have hb := planB_in hp
    have hz := rz_in hp (k := l.length - 1 - (d + 1)) (by omega) (v := (l.getD (l.length - 1 - (d + 1)) default).getD (2 * j + 1 - 1) default) (by rw [Nat.add_sub_cancel]; omega) (R := (outsR p l (d + 1)).getD 0 default) (B := (d : Int) * 4398046511104000) (by omega) hy p.rel.length (Nat.le_refl _)
    rw [List.take_length] at hz
    have e : ((d + 1 : Nat) : Int) * 4398046511104000 = (d : Int) * 4398046511104000 + 4398046511104000 := by omega
    rw [e]
    exact hz
theorem check_all {p : Plan} {l : List (List Int)} (h : failK p l < l.length → False) (h0 : givenE p l = 0) : checkR p l = (true, 0, 0) := by
  unfold checkR
  rw [if_neg (fun k => k h0), if_neg h]
def raiseR (p : Plan) (l : List (List Int)) : List (List Int) × Int :=
  if ¬ givenE p l = 0 then ([], givenE p l) else if failK p l < l.length then ([], 13) else (outsR p l l.length, 0)
def prO (c : Nat) (rs : List (List Int)) : List (List DV) := List.replicate c nilRow ++ rows ilRow rs
theorem prO_len (c : Nat) (rs : List (List Int)) : (prO c rs).length = c + rs.length := by simp [prO, rows]
theorem prO_frz (c : Nat) (rs : List (List Int)) (o : Nat) (x : FV) : (prO c rs).map (DV.frzL o x) = prO c rs := by
  unfold prO; rw [List.map_append, frz_rows, List.map_replicate]; rfl
theorem prO_ren (c : Nat) (rs : List (List Int)) (a b : Nat) : (prO c rs).map (DV.renL a b) = prO c rs := by
  unfold prO; rw [List.map_append, ren_rows, List.map_replicate]; rfl
theorem prO_uses (c : Nat) (rs : List (List Int)) (U : Nat → Prop) : DV.usesL U (prO c rs).flatten := by
  unfold prO
  rw [List.flatten_append]
  refine usesL_append (usesL_iff.2 fun d hd => ?_) (uses_rows ilRow U rs)
  obtain ⟨r, hr, hd⟩ := List.mem_flatten.1 hd
  rw [List.eq_of_mem_replicate hr] at hd
  simp only [nilRow, List.mem_singleton] at hd
  subst hd; trivial
theorem prO_set (c : Nat) (rs : List (List Int)) (r : List Int) : (prO (c + 1) rs).set c [.p (.dat 1 (r.map inRow))] = prO c (r :: rs) := by
  unfold prO
  rw [List.set_append_left _ _ (by rw [List.length_replicate]; omega)]
  have e : (List.replicate (c + 1) nilRow).set c [.p (.dat 1 (r.map inRow))] = List.replicate c nilRow ++ [[.p (.dat 1 (r.map inRow))]] := by
    rw [List.replicate_succ', List.set_append_right _ _ (by rw [List.length_replicate]; omega), List.length_replicate, Nat.sub_self]; rfl
  rw [e, List.append_assoc]; rfl
theorem prO_nil (c : Nat) (rs : List (List Int)) : (prO (c + 1) rs).getD c [] = nilRow := by
  unfold prO
  rw [List.getD_eq_getElem?_getD, List.getElem?_append_left (by rw [List.length_replicate]; omega), List.getElem?_replicate, if_pos (by omega)]; rfl
theorem prO_row (c : Nat) (rs : List (List Int)) (h : 0 < rs.length) : (prO c rs).getD c [] = [.p (.dat 1 ((rs.getD 0 default).map inRow))] := by
  unfold prO
  rw [List.getD_eq_getElem?_getD, List.getElem?_append_right (by rw [List.length_replicate]; omega), List.length_replicate, Nat.sub_self]
  cases rs with
  | nil => cases h
  | cons r rs => rfl
def rowAt (O : List (List DV)) (i : Nat) : List Int := match O.getD i [] with
  | [.p (.dat 1 l)] => l.map fun r => match r with
    | [.lit (.int .i64 z)] => z
    | _ => 0
  | _ => []
theorem rowAt_eq {O : List (List DV)} {i : Nat} {r : List Int} (h : O.getD i [] = [.p (.dat 1 (r.map inRow))]) : rowAt O i = r := by
  unfold rowAt
  rw [h]
  show (r.map inRow).map _ = r
  rw [List.map_map]
  exact List.map_id r
theorem own_row (O : List (List DV)) (i : Nat) [h : Nonempty (O.getD i [] = [.p (.dat 1 ((rowAt O i).map inRow))])] : O.getD i [] = [.p (.dat 1 ((rowAt O i).map inRow))] := h.elim id
theorem own_185 (O : List (List DV)) (i : Nat) [h : Nonempty (O.getD i [] = [.gl 185])] : O.getD i [] = [.gl 185] := h.elim id
attribute [push_cast] own_row own_185
theorem getD_set_ne2 (O : List (List DV)) (i k : Nat) (x : List DV) (h : ¬ k = i) : (O.set i x).getD k [] = O.getD k [] := by
  rw [List.getD_eq_getElem?_getD, List.getElem?_set_ne (fun e => h e.symm), ← List.getD_eq_getElem?_getD]
theorem getD_set_eq2 (O : List (List DV)) (i : Nat) (x : List DV) (h : i < O.length) : (O.set i x).getD i [] = x := by
  rw [List.getD_eq_getElem?_getD, List.getElem?_set_self h]; rfl
theorem set_uses {O : List (List DV)} {U : Nat → Prop} (h : DV.usesL U O.flatten) {K i : Nat} (hK : U K) : DV.usesL U (O.set i [.gl K]).flatten :=
  usesL_iff.2 fun d hd => by
    obtain ⟨r, hr, hd⟩ := List.mem_flatten.1 hd
    rcases List.mem_or_eq_of_mem_set hr with hr | rfl
    · exact usesL_iff.1 h d (List.mem_flatten.2 ⟨r, hr, hd⟩)
    · simp only [List.mem_singleton] at hd; subst hd; exact hK
abbrev hRz (O : List (List DV)) (X : List Int) (i b : Int) : LH := [(152, .lst 22 1 O), (160, .blk 39 [.gl 152]), (200, .blk 3 [li i]), (265, inLt X), (322, .blk 3 [li b])]
def rzV (y c b : Int) : Int := if y = -1 then b else if b = -1 ∨ c + y < b then c + y else b
structure ROk (O : List (List DV)) : Prop where
  uses : ∀ U : Nat → Prop, U 265 → DV.usesL U O.flatten
  mp : ∀ r : Nat → Nat, r 265 = 265 → O.map (DV.mpL r) = O
  ren : ∀ a b : Nat, ¬ 265 = a → O.map (DV.renL a b) = O
set_option maxRecDepth 20000 in
set_option maxHeartbeats 4000000 in
theorem raise1_f (O : List (List DV)) (X : List Int) (i : Nat) (a c b : Int) (m : Nat) (hO : i + 1 < O.length) (hOl : O.length ≤ 1048576) (hK : ROk O) (hx : O.getD (i + 1) [] = [.p (.dat 1 ((rowAt O (i + 1)).map inRow))])
    (h1 : (rowAt O (i + 1)).length ≤ 1048576) (h2 : (rowAt O (i + 1)).length % 2 = 0) (h3 : ∀ j k, j < k → k < (rowAt O (i + 1)).length / 2 → (rowAt O (i + 1)).getD (2 * j) default < (rowAt O (i + 1)).getD (2 * k) default)
    (hc : 0 ≤ c ∧ c ≤ 4398046511104000) (hy : -1 ≤ (atR (rowAt O (i + 1)) a).1 ∧ (atR (rowAt O (i + 1)) a).1 ≤ 1152921504606846976) :
    DCallsG Try.prog 67 [] [li a, li c, .ptr 160 0, .ptr 200 0, .ptr 322 0] (hget (hRz O X i b)) m (lb true) (hget (hRz O X i (rzV (atR (rowAt O (i + 1)) a).1 c b))) := by
  have cf := fun m => find_f (rowAt O (i + 1)) a m h1 h2 h3
  have hO3 : (i : Int) + 1 < (O.length : Int) := by omega
  (have := Nonempty.intro hO)
  (have := Nonempty.intro hO3)
  (have := Nonempty.intro hx)
  generalize hA : atR (rowAt O (i + 1)) a = A at *
  obtain ⟨y, ok⟩ := A
  dsimp only at hy cf ⊢
  refine contract (n := 36) (rs := [.tmp 7]) (ts := [4]) Try.func67 rfl (by decide) 323 323 [] [] [] (lb true) (hRz O X i (rzV y c b)) ?hs ?hn ?_
  case hs =>
    refine ⟨by omega, by simp, by (exact SD), ⟨by omega, hK.uses _ (by omega), by (exact SD)⟩, by (exact SD), trivial, by decide, trivial, ⟨.inr ⟨by omega, by (exact SD)⟩, hK.uses _ (.inr ⟨by omega, by (exact SD)⟩), by (exact SD)⟩⟩
  case hn =>
    refine ⟨rfl, ?_⟩
    simp only [hmp, HV.mp, hK.mp _ (show rf [] m 265 = 265 from rfl), rows_mp]
    rfl
  by_cases hy1 : y = -1
  · subst hy1
    rw [show rzV (-1) c b = b from if_pos rfl]
    (repeat' (first | refine swp_seq [0, 1, 2, 3, 4, 7, 8, 32] ?_ | refine st2 ?_ | (show CallQ ..; first | refine cQ (fun hcc => (by first | exact cf _)) ?_ | (refine lP ?_; refine lQ (fun hcc m => (by first | exact cf _)) ?_)) | (show Fct ..; refine fctI (fun hf => ?_)) | (show SWp _ _ _ (.cond _ _ _) _ _ _ _; first | refine cB (fun hc => ?_) (fun hc => ?_) | refine cU ?_ ?_)))
    exact DVS
  (have := Nonempty.intro hy1)
  by_cases hb1 : b = -1
  · subst hb1
    rw [show rzV y c (-1) = c + y by unfold rzV; rw [if_neg hy1, if_pos (.inl rfl)]]
    (repeat' (first | refine swp_seq [0, 1, 2, 3, 4, 7, 8, 32] ?_ | refine st2 ?_ | (show CallQ ..; first | refine cQ (fun hcc => (by first | exact cf _)) ?_ | (refine lP ?_; refine lQ (fun hcc m => (by first | exact cf _)) ?_)) | (show Fct ..; refine fctI (fun hf => ?_)) | (show SWp _ _ _ (.cond _ _ _) _ _ _ _; first | refine cB (fun hc => ?_) (fun hc => ?_) | refine cU ?_ ?_)))
    exact DVS
  (have := Nonempty.intro hb1)
  by_cases hlt : c + y < b
  · (have := Nonempty.intro hlt)
    rw [show rzV y c b = c + y by unfold rzV; rw [if_neg hy1, if_pos (.inr hlt)]]
    (repeat' (first | refine swp_seq [0, 1, 2, 3, 4, 7, 8, 32] ?_ | refine st2 ?_ | (show CallQ ..; first | refine cQ (fun hcc => (by first | exact cf _)) ?_ | (refine lP ?_; refine lQ (fun hcc m => (by first | exact cf _)) ?_)) | (show Fct ..; refine fctI (fun hf => ?_)) | (show SWp _ _ _ (.cond _ _ _) _ _ _ _; first | refine cB (fun hc => ?_) (fun hc => ?_) | refine cU ?_ ?_)))
    exact DVS
  · (have := Nonempty.intro hlt)
    rw [show rzV y c b = b by unfold rzV; rw [if_neg hy1, if_neg (by omega)]]
    (repeat' (first | refine swp_seq [0, 1, 2, 3, 4, 7, 8, 32] ?_ | refine st2 ?_ | (show CallQ ..; first | refine cQ (fun hcc => (by first | exact cf _)) ?_ | (refine lP ?_; refine lQ (fun hcc m => (by first | exact cf _)) ?_)) | (show Fct ..; refine fctI (fun hf => ?_)) | (show SWp _ _ _ (.cond _ _ _) _ _ _ _; first | refine cB (fun hc => ?_) (fun hc => ?_) | refine cU ?_ ?_)))
    exact DVS
set_option maxRecDepth 20000 in
set_option maxHeartbeats 8000000 in
theorem rsteps_f (p : Plan) (O : List (List DV)) (X : List Int) (k : Nat) (v : Int) (m : Nat) (hp : planB p = true) (hki : k < p.inf.length) (hv : 0 ≤ v ∧ v ≤ 1099511627776) (hO : k + 1 < O.length) (hOl : O.length ≤ 1048576) (hK : ROk O) (hx : O.getD (k + 1) [] = [.p (.dat 1 ((rowAt O (k + 1)).map inRow))])
    (h1 : (rowAt O (k + 1)).length ≤ 1048576) (h2 : (rowAt O (k + 1)).length % 2 = 0) (h3 : ∀ i j, i < j → j < (rowAt O (k + 1)).length / 2 → (rowAt O (k + 1)).getD (2 * i) default < (rowAt O (k + 1)).getD (2 * j) default)
    (hy : ∀ a, -1 ≤ (atR (rowAt O (k + 1)) a).1 ∧ (atR (rowAt O (k + 1)) a).1 ≤ 1152921504606846976) :
    DCallsG Try.prog 66 [] [planD p, li k, li v, .clo 67 [.ptr 160 0, .ptr 200 0, .ptr 322 0]] (hget (hRz O X k (-1))) m (lb true) (hget (hRz O X k (raisedV p k v (rowAt O (k + 1))))) := by
  have hin := planB_in hp
  have hr20 := hin.2.2.2.2.1
  have hrz := rz_in hp hki hv (by omega) hy
  (have := Nonempty.intro hki)
  refine contract (n := 61) (rs := [.tmp 8]) (ts := [4]) Try.func66 rfl (by decide) 323 323 [] [] [] (lb true) (hRz O X k (raisedV p k v (rowAt O (k + 1)))) ?hs ?hn ?_
  case hs =>
    refine ⟨by omega, by simp, by (exact SD), ⟨by omega, hK.uses _ (by omega), by (exact SD)⟩, by (exact SD), trivial, by decide, trivial, ⟨.inr ⟨by omega, by (exact SD)⟩, hK.uses _ (.inr ⟨by omega, by (exact SD)⟩), by (exact SD)⟩⟩
  case hn =>
    refine ⟨rfl, ?_⟩
    simp only [hmp, HV.mp, hK.mp _ (show rf [] m 265 = 265 from rfl), rows_mp]
    rfl
  (repeat' (first | refine swp_seq [0, 1, 2, 3, 4, 8, 10, 11, 12, 13, 14, 16, 17, 18, 19, 34, 43, 59] ?_ | refine st2 ?_ | (show Fct ..; refine fctI (fun hf => ?_)) | (show SWp _ _ _ (.cond _ _ _) _ _ _ _; first | refine cB (fun hc => ?_) (fun hc => ?_) | refine cU ?_ ?_)))
  refine loop_swp [1, 2, 3, 4, 16, 17, 18] [152, 160, 200, 265, 322, 323] 324 (fun q A H => ∃ i : Nat, i ≤ p.rel.length ∧ q = p.rel.length - i ∧ A = [(1, li k), (2, li v), (3, .clo 67 [.ptr 160 0, .ptr 200 0, .ptr 322 0]), (4, .ptr 323 0), (16, ints p.rel), (17, li p.rel.length), (18, li i)] ∧ H = hRz O X k ((p.rel.take i).foldl (rzStep p k v (rowAt O (k + 1))) (-1)) ++ [(323, .blk 26 (planC p))]) (by omega) ?_ ?_ ?_
  · rintro q A H ⟨i, g1, g2, rfl, rfl⟩
    exact ⟨by (exact SD), ⟨by omega, hK.uses _ (by omega), by (exact SD)⟩⟩
  · refine ⟨_, 0, by omega, rfl, ?_, ?_⟩
    · exact DVR
    · exact DVR
  rintro q A H ⟨i, g1, g2, rfl, rfl⟩
  have hbin := hrz i g1
  by_cases hi : i < p.rel.length
  · have hi3 : (i : Int) < (p.rel.length : Int) := by omega
    (have := Nonempty.intro hi3)
    (have := Nonempty.intro hi)
    have hcst := cost_in hp hki hv hi
    have hkin := hin.2.2.2.2.2.2.2.1 k hki
    have hrin := hin.2.2.2.2.2.2.2.2.1 i hi
    have hsn := foldl_snoc (rzStep p k v (rowAt O (k + 1))) p.rel (-1) hi
    have cf := fun m => floor_f p.pen (p.rel.getD i default) m hin.2.2.2.2.2.2.1 (by unfold i64ok; omega)
    generalize (p.rel.take i).foldl (rzStep p k v (rowAt O (k + 1))) (-1) = b at *
    unfold rzStep at hsn
    by_cases hpo : v + p.inf.getD k default - p.rel.getD i default < p.res
    · (have := Nonempty.intro hpo)
      have hposs : possB p k v (p.rel.getD i default) = false := by unfold possB leftI; exact decide_eq_false (by omega)
      rw [if_neg (by rw [hposs]; decide)] at hsn
      (repeat' (first | refine swp_seq [0, 1, 2, 3, 4, 8, 10, 11, 12, 13, 14, 16, 17, 18, 19, 34, 43, 59] ?_ | refine st2 ?_ | (show Fct ..; refine fctI (fun hf => ?_)) | (show SWp _ _ _ (.cond _ _ _) _ _ _ _; first | refine cB (fun hc => ?_) (fun hc => ?_) | refine cU ?_ ?_)))
      (refine lN [152, 160, 200, 265, 322, 323] ?_)
      exact ⟨_, by omega, i + 1, by omega, rfl, rfl, by rw [show (p.rel.take (i + 1)).foldl (rzStep p k v (rowAt O (k + 1))) (-1) = b from hsn]; rfl⟩
    · (have := Nonempty.intro hpo)
      have hposs : possB p k v (p.rel.getD i default) = true := by unfold possB leftI; exact decide_eq_true (by omega)
      rw [if_pos hposs] at hsn
      have ch := fun m => raise1_f O X k (aftI p k v (p.rel.getD i default)) (costI p k v (p.rel.getD i default)) b m hO hOl hK hx h1 h2 h3 hcst.2.2.2 (hy _)
      have hsn2 : (p.rel.take (i + 1)).foldl (rzStep p k v (rowAt O (k + 1))) (-1) = rzV (atR (rowAt O (k + 1)) (aftI p k v (p.rel.getD i default))).1 (costI p k v (p.rel.getD i default)) b := hsn
      clear hsn
      have eA : (if p.cap < v + p.inf.getD k default - p.rel.getD i default then p.cap else v + p.inf.getD k default - p.rel.getD i default) = aftI p k v (p.rel.getD i default) := rfl
      have eC : costI p k v (p.rel.getD i default) = floorT p.pen (p.rel.getD i default) + p.wei * (v + p.inf.getD k default - p.rel.getD i default - aftI p k v (p.rel.getD i default)) := rfl
      have eL : leftI p k v (p.rel.getD i default) = v + p.inf.getD k default - p.rel.getD i default := rfl
      rw [eC] at ch hsn2 hcst
      rw [eL] at hcst
      clear eC eL
      generalize floorT p.pen (p.rel.getD i default) = F at *
      (repeat' (first | (show SWp _ _ _ (.seq (.region 10 _ _) _) _ _ _ _; refine (stop_in ?_)) | refine swp_seq [0, 1, 2, 3, 4, 8, 10, 11, 12, 13, 14, 16, 17, 18, 19, 34, 43, 59] ?_ | refine st2 ?_ | (show CallQ ..; first | refine cQ (fun hcc => (by first | exact cf _)) ?_ | (refine lP ?_; refine lQ (fun hcc m => (by first | exact cf _)) ?_)) | (show Fct ..; refine fctI (fun hf => ?_)) | (show SWp _ _ _ (.cond _ _ _) _ _ _ _; first | refine cB (fun hc => ?_) (fun hc => ?_) | refine cU ?_ ?_)))
      refine stop_out ?_
      rw [eA]
      clear eA
      generalize aftI p k v (p.rel.getD i default) = AF at *
      generalize rzV (atR (rowAt O (k + 1)) AF).1 (F + p.wei * (v + p.inf.getD k default - p.rel.getD i default - AF)) b = b2 at *
      (repeat' (first | refine swp_seq [0, 1, 2, 3, 4, 8, 10, 11, 12, 13, 14, 16, 17, 18, 19, 34, 43, 59] ?_ | refine st2 ?_ | (show CallQ ..; first | refine cQ (fun hcc => (by first | exact ch _)) ?_ | (refine lP ?_; refine lQ (fun hcc m => (by first | exact ch _)) ?_)) | (show Fct ..; refine fctI (fun hf => ?_)) | (show SWp _ _ _ (.cond _ _ _) _ _ _ _; first | refine cB (fun hc => ?_) (fun hc => ?_) | refine cU ?_ ?_)))
      (refine lN [152, 160, 200, 265, 322, 323] ?_)
      exact ⟨_, by omega, i + 1, by omega, rfl, rfl, by rw [hsn2]; rfl⟩
  have hi3 : ¬ ((i : Int) < (p.rel.length : Int)) := by omega
  (have := Nonempty.intro hi3)
  rw [List.take_of_length_le (show p.rel.length ≤ i by omega)]
  (repeat' (first | refine swp_seq [0, 1, 2, 3, 4, 8, 10, 11, 12, 13, 14, 16, 17, 18, 19, 34, 43, 59] ?_ | refine st2 ?_ | (show Fct ..; refine fctI (fun hf => ?_)) | (show SWp _ _ _ (.cond _ _ _) _ _ _ _; first | refine cB (fun hc => ?_) (fun hc => ?_) | refine cU ?_ ?_)))
  exact DVS

end Go.Proofs.Ytedocinehadodaa
