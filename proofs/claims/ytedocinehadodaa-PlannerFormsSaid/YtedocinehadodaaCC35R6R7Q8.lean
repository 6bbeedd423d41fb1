/-
  Contracts of functions of the program, over the engine.
  No condition.
-/
import Derived.Test.YtedocinehadodaaCC33C34KSC36
import Derived.Test.YtedocinehadodaaCC30C31C32
import Derived.Test.YtedocinehadodaaCR3R4R5
import Derived.Test.YtedocinehadodaaCS6S7S8
import Derived.Test.YtedocinehadodaaCFMQ7P13P14
namespace Go.Proofs.Ytedocinehadodaa
open Go.Eng
set_option linter.all false
attribute [local irreducible] DCallsG SWp Fct CallQ XCallQ LCallQ XLCallQ drun xrun
theorem full_self (l : List (List Int)) : fullB l l.length = l.any bigB := by unfold fullB; rw [decide_eq_false (by omega)]; rfl
set_option maxRecDepth 20000 in
set_option maxHeartbeats 16000000 in
theorem rCost_f (p : Plan) (rs : List Int) (m : Nat) (hp : planB p = true) (hl : rs.length ≤ 281474976710656) : DCalls Try.prog 27 [planD p, ints rs] (hget []) m (.tup [li (costR p rs).1, ints (costR p rs).2.1, li (costR p rs).2.2]) (hget []) := by
  unfold costR
  rw [if_neg (by rw [hp]; decide)]
  have hin := planB_in hp
  by_cases hn : (rs.length : Int) = (p.inf.length : Int)
  case neg =>
    (have := Nonempty.intro hn)
    rw [if_pos (by omega)]
    refine pureC (n := 89) (rs := [.tmp 4, .tmp 5, .tmp 6]) (ts := [3, 22, 3]) Try.func27 rfl (by decide) [] (by (exact SD)) ?_
    (repeat' (first | refine swp_seq [0, 1, 2, 4, 5, 6, 7, 8, 9, 10, 11, 12, 13, 19, 23, 30, 47, 53, 64] ?_ | refine st2 ?_ | (show Fct ..; refine fctI (fun hf => ?_)) | (show SWp _ _ _ (.cond _ _ _) _ _ _ _; first | refine cB (fun hc => ?_) (fun hc => ?_) | refine cU ?_ ?_)))
    exact DVR
  (have := Nonempty.intro hn)
  rw [if_neg (by omega)]
  cases hany : (rs.any fun r => !p.rel.any (eqB r))
  case true =>
    rw [if_pos rfl]
    refine pureC (n := 89) (rs := [.tmp 4, .tmp 5, .tmp 6]) (ts := [3, 22, 3]) Try.func27 rfl (by decide) [] (by (exact SD)) ?_
    (repeat' (first | refine swp_seq [0, 1, 2, 4, 5, 6, 7, 8, 9, 10, 11, 12, 13, 19, 23, 30, 47, 53, 64] ?_ | refine st2 ?_ | (show Fct ..; refine fctI (fun hf => ?_)) | (show SWp _ _ _ (.cond _ _ _) _ _ _ _; first | refine cB (fun hc => ?_) (fun hc => ?_) | refine cU ?_ ?_)))
    refine loop_swp [1, 2, 7] [0] 1 (fun q A H => ∃ i : Nat, i ≤ rs.length ∧ q = rs.length - i ∧ (∀ j, j < i → p.rel.any (eqB (rs.getD j default)) = true) ∧ A = [(1, ints rs), (2, .ptr 0 0), (7, li i)] ∧ H = [(0, .blk 26 (planC p))]) (by omega) ?_ ?_ ?_
    · rintro q A H ⟨i, g1, g2, g3, rfl, rfl⟩
      exact ⟨by (exact SD), by (exact SD)⟩
    · refine ⟨_, 0, by omega, rfl, by omega, ?_, ?_⟩
      · exact DVR
      · exact DVR
    rintro q A H ⟨i, g1, g2, g3, rfl, rfl⟩
    by_cases hi : i < rs.length
    · have hi3 : (i : Int) < (rs.length : Int) := by omega
      (have := Nonempty.intro hi)
      (have := Nonempty.intro hi3)
      (repeat' (first | refine swp_seq [0, 1, 2, 4, 5, 6, 7, 8, 9, 10, 11, 12, 13, 19, 23, 30, 47, 53, 64] ?_ | refine st2 ?_ | (show Fct ..; refine fctI (fun hf => ?_)) | (show SWp _ _ _ (.cond _ _ _) _ _ _ _; first | refine cB (fun hc => ?_) (fun hc => ?_) | refine cU ?_ ?_)))
      refine loop_swp [1, 2, 7, 8, 9] [0] 1 (fun q A H => ∃ j : Nat, j ≤ p.rel.length ∧ q = p.rel.length - j ∧ A = [(1, ints rs), (2, .ptr 0 0), (7, li i), (8, lb ((p.rel.take j).any (eqB (rs.getD i default)))), (9, li j)] ∧ H = [(0, .blk 26 (planC p))]) (by omega) ?_ ?_ ?_
      · rintro q A H ⟨j, f1, f2, rfl, rfl⟩
        exact ⟨by (exact SD), by (exact SD)⟩
      · refine ⟨_, 0, by omega, rfl, ?_, ?_⟩
        · exact DVR
        · exact DVR
      rintro q A H ⟨j, f1, f2, rfl, rfl⟩
      by_cases hj : j < p.rel.length
      · have hj3 : (j : Int) < (p.rel.length : Int) := by omega
        (have := Nonempty.intro hj)
        (have := Nonempty.intro hj3)
        have hsn : (p.rel.take (j + 1)).any (eqB (rs.getD i default)) = ((p.rel.take j).any (eqB (rs.getD i default)) || (p.rel.getD j default == rs.getD i default)) := by
          rw [take_snoc hj, List.any_append, List.any_cons, List.any_nil, Bool.or_false]
          congr 1
          unfold eqB
          rw [Bool.eq_iff_iff]; simp; exact eq_comm
        generalize (p.rel.take j).any (eqB (rs.getD i default)) = F at *
        (repeat' (first | refine swp_seq [0, 1, 2, 4, 5, 6, 7, 8, 9, 10, 11, 12, 13, 19, 23, 30, 47, 53, 64] ?_ | refine st2 ?_ | (show Fct ..; refine fctI (fun hf => ?_)) | (show SWp _ _ _ (.cond _ _ _) _ _ _ _; first | refine cB (fun hc => ?_) (fun hc => ?_) | refine cU ?_ ?_)))
        (refine lN [0] ?_)
        exact ⟨_, by omega, j + 1, by omega, rfl, by rw [hsn]; rfl, rfl⟩
      have hj3 : ¬ ((j : Int) < (p.rel.length : Int)) := by omega
      (have := Nonempty.intro hj3)
      rw [List.take_of_length_le (show p.rel.length ≤ j by omega)]
      cases hb : p.rel.any (eqB (rs.getD i default))
      · (repeat' (first | refine swp_seq [0, 1, 2, 4, 5, 6, 7, 8, 9, 10, 11, 12, 13, 19, 23, 30, 47, 53, 64] ?_ | refine st2 ?_ | (show Fct ..; refine fctI (fun hf => ?_)) | (show SWp _ _ _ (.cond _ _ _) _ _ _ _; first | refine cB (fun hc => ?_) (fun hc => ?_) | refine cU ?_ ?_)))
        exact DVR
      · (repeat' (first | refine swp_seq [0, 1, 2, 4, 5, 6, 7, 8, 9, 10, 11, 12, 13, 19, 23, 30, 47, 53, 64] ?_ | refine st2 ?_ | (show Fct ..; refine fctI (fun hf => ?_)) | (show SWp _ _ _ (.cond _ _ _) _ _ _ _; first | refine cB (fun hc => ?_) (fun hc => ?_) | refine cU ?_ ?_)))
        (refine lN [0] ?_)
        exact ⟨_, by omega, i + 1, by omega, rfl, fun j2 hj2 => by
          by_cases e : j2 = i
          · rw [e]; exact hb
          · exact g3 j2 (by omega), rfl, rfl⟩
    exfalso
    obtain ⟨x, hx, hxb⟩ := List.any_eq_true.1 hany
    obtain ⟨j, hj, rfl⟩ := List.mem_iff_getElem.1 hx
    have := g3 j (by omega)
    have e : rs.getD j default = rs[j] := by rw [List.getD_eq_getElem?_getD, List.getElem?_eq_getElem hj]; rfl
    rw [e] at this
    rw [this] at hxb
    cases hxb
  rw [if_neg (by decide)]
  have hmem : ∀ i, i < rs.length → p.rel.any (eqB (rs.getD i default)) = true := fun i hi => by
    have := (List.any_eq_false.1 hany) _ (getD_mem hi)
    simpa using this
  refine pureC (n := 89) (rs := [.tmp 4, .tmp 5, .tmp 6]) (ts := [3, 22, 3]) Try.func27 rfl (by decide) [81] (by (exact SD)) ?_
  (repeat' (first | refine swp_seq [0, 1, 2, 4, 5, 6, 7, 8, 9, 10, 11, 12, 13, 19, 23, 30, 47, 53, 64] ?_ | refine st2 ?_ | (show Fct ..; refine fctI (fun hf => ?_)) | (show SWp _ _ _ (.cond _ _ _) _ _ _ _; first | refine cB (fun hc => ?_) (fun hc => ?_) | refine cU ?_ ?_)))
  refine loop_swp [1, 2, 7] [0] 1 (fun q A H => ∃ i : Nat, i ≤ rs.length ∧ q = rs.length - i ∧ A = [(1, ints rs), (2, .ptr 0 0), (7, li i)] ∧ H = [(0, .blk 26 (planC p))]) (by omega) ?_ ?_ ?_
  · rintro q A H ⟨i, g1, g2, rfl, rfl⟩
    exact ⟨by (exact SD), by (exact SD)⟩
  · refine ⟨_, 0, by omega, rfl, ?_, ?_⟩
    · exact DVR
    · exact DVR
  rintro q A H ⟨i, g1, g2, rfl, rfl⟩
  by_cases hi : i < rs.length
  · have hi3 : (i : Int) < (rs.length : Int) := by omega
    (have := Nonempty.intro hi)
    (have := Nonempty.intro hi3)
    (repeat' (first | refine swp_seq [0, 1, 2, 4, 5, 6, 7, 8, 9, 10, 11, 12, 13, 19, 23, 30, 47, 53, 64] ?_ | refine st2 ?_ | (show Fct ..; refine fctI (fun hf => ?_)) | (show SWp _ _ _ (.cond _ _ _) _ _ _ _; first | refine cB (fun hc => ?_) (fun hc => ?_) | refine cU ?_ ?_)))
    refine loop_swp [1, 2, 7, 8, 9] [0] 1 (fun q A H => ∃ j : Nat, j ≤ p.rel.length ∧ q = p.rel.length - j ∧ A = [(1, ints rs), (2, .ptr 0 0), (7, li i), (8, lb ((p.rel.take j).any (eqB (rs.getD i default)))), (9, li j)] ∧ H = [(0, .blk 26 (planC p))]) (by omega) ?_ ?_ ?_
    · rintro q A H ⟨j, f1, f2, rfl, rfl⟩
      exact ⟨by (exact SD), by (exact SD)⟩
    · refine ⟨_, 0, by omega, rfl, ?_, ?_⟩
      · exact DVR
      · exact DVR
    rintro q A H ⟨j, f1, f2, rfl, rfl⟩
    by_cases hj : j < p.rel.length
    · have hj3 : (j : Int) < (p.rel.length : Int) := by omega
      (have := Nonempty.intro hj)
      (have := Nonempty.intro hj3)
      have hsn : (p.rel.take (j + 1)).any (eqB (rs.getD i default)) = ((p.rel.take j).any (eqB (rs.getD i default)) || (p.rel.getD j default == rs.getD i default)) := by
        rw [take_snoc hj, List.any_append, List.any_cons, List.any_nil, Bool.or_false]
        congr 1
        unfold eqB
        rw [Bool.eq_iff_iff]; simp; exact eq_comm
      generalize (p.rel.take j).any (eqB (rs.getD i default)) = F at *
      (repeat' (first | refine swp_seq [0, 1, 2, 4, 5, 6, 7, 8, 9, 10, 11, 12, 13, 19, 23, 30, 47, 53, 64] ?_ | refine st2 ?_ | (show Fct ..; refine fctI (fun hf => ?_)) | (show SWp _ _ _ (.cond _ _ _) _ _ _ _; first | refine cB (fun hc => ?_) (fun hc => ?_) | refine cU ?_ ?_)))
      (refine lN [0] ?_)
      exact ⟨_, by omega, j + 1, by omega, rfl, by rw [hsn]; rfl, rfl⟩
    have hj3 : ¬ ((j : Int) < (p.rel.length : Int)) := by omega
    (have := Nonempty.intro hj3)
    rw [List.take_of_length_le (show p.rel.length ≤ j by omega)]
    rw [hmem i hi]
    (repeat' (first | refine swp_seq [0, 1, 2, 4, 5, 6, 7, 8, 9, 10, 11, 12, 13, 19, 23, 30, 47, 53, 64] ?_ | refine st2 ?_ | (show Fct ..; refine fctI (fun hf => ?_)) | (show SWp _ _ _ (.cond _ _ _) _ _ _ _; first | refine cB (fun hc => ?_) (fun hc => ?_) | refine cU ?_ ?_)))
    (refine lN [0] ?_)
    exact ⟨_, by omega, i + 1, by omega, rfl, rfl, rfl⟩
  have hi3 : ¬ ((i : Int) < (rs.length : Int)) := by omega
  (have := Nonempty.intro hi3)
  (repeat' (first | refine swp_seq [0, 1, 2, 4, 5, 6, 7, 8, 9, 10, 11, 12, 13, 19, 23, 30, 47, 53, 64] ?_ | refine st2 ?_ | (show Fct ..; refine fctI (fun hf => ?_)) | (show SWp _ _ _ (.cond _ _ _) _ _ _ _; first | refine cB (fun hc => ?_) (fun hc => ?_) | refine cU ?_ ?_)))
  (refine sN 12 3 1 ?_)
  clear hi3 hi
  refine loop_swp [1, 2, 10, 11, 12, 13] [0, 81] 82 (fun q A H => ∃ (i : Nat) (s v : Int), i ≤ rs.length ∧ q = rs.length - i ∧ pathC p rs i = some (s, v) ∧ (p.res ≤ v ∧ v ≤ p.cap) ∧ (0 ≤ s ∧ s ≤ (i : Int) * 4398046511104000) ∧ A = [(1, ints rs), (2, .ptr 0 0), (10, li v), (11, li s), (12, .gl 81), (13, li i)] ∧ H = [(0, .blk 26 (planC p)), (81, inLt (volsC p rs i))]) (by omega) ?_ ?_ ?_
  · rintro q A H ⟨i, s, v, g1, g2, g3, g4, g5, rfl, rfl⟩
    exact ⟨by (exact SD), by (exact SD)⟩
  · refine ⟨_, 0, 0, p.start, by omega, rfl, rfl, hin.2.2.1, by omega, ?_, ?_⟩
    · exact DVR
    · exact DVR
  rintro q A H ⟨i, s, v, g1, g2, g3, g4, g5, rfl, rfl⟩
  by_cases hi : i < rs.length
  · have hi3 : (i : Int) < (rs.length : Int) := by omega
    (have := Nonempty.intro hi)
    (have := Nonempty.intro hi3)
    have hvl : (volsC p rs i).length = i := by unfold volsC; rw [List.length_map, List.length_range]
    obtain ⟨ri, hri, hrv, hrx⟩ := eqB_mem (hmem i hi)
    have hcst := cost_in hp (show i < p.inf.length by omega) (v := v) (by omega) hri
    have hnx := path_next g3
    have cp := fun m => possible_f p i ri v m hp (by omega) hri (by omega)
    have ca := fun m => after_f p i ri v m hp (by omega) hri (by omega)
    have cr := fun m => price_f p i ri v m hp (by omega) hri (by omega)
    rw [hrv] at cp ca cr hcst
    cases hpo : possB p i v (rs.getD i default) <;> simp only [hpo] at cp
    · rw [hpo, if_neg (by decide)] at hnx
      rw [path_none hnx rs.length (by omega)]
      (repeat' (first | refine swp_seq [0, 1, 2, 4, 5, 6, 7, 8, 9, 10, 11, 12, 13, 19, 23, 30, 47, 53, 64] ?_ | refine st2 ?_ | (show CallQ ..; first | refine cQ (fun hcc => (by first | exact cp _)) ?_ | (refine lP ?_; refine lQ (fun hcc m => (by first | exact cp _)) ?_)) | (show XCallQ ..; first | refine xQ (fun hcc => (by first | exact cp _)) ?_ | (refine xlP ?_; refine xlQ (fun hcc m => (by first | exact cp _)) ?_)) | (show Fct ..; refine fctI (fun hf => ?_)) | (show SWp _ _ _ (.cond _ _ _) _ _ _ _; first | refine cB (fun hc => ?_) (fun hc => ?_) | refine cU ?_ ?_)))
      exact DVR
    · rw [hpo, if_pos rfl] at hnx
      have hvn := vols_next hnx
      have hai := aft_in hp hpo
      generalize aftI p i v (rs.getD i default) = AF at *
      generalize costI p i v (rs.getD i default) = CO at *
      generalize volsC p rs i = VO at *
      (repeat' (first | refine swp_seq [0, 1, 2, 4, 5, 6, 7, 8, 9, 10, 11, 12, 13, 19, 23, 30, 47, 53, 64] ?_ | refine st2 ?_ | (show CallQ ..; first | refine cQ (fun hcc => (by first | exact cp _ | exact ca _ | exact cr _)) ?_ | (refine lP ?_; refine lQ (fun hcc m => (by first | exact cp _ | exact ca _ | exact cr _)) ?_)) | (show XCallQ ..; first | refine xQ (fun hcc => (by first | exact cp _ | exact ca _ | exact cr _)) ?_ | (refine xlP ?_; refine xlQ (fun hcc m => (by first | exact cp _ | exact ca _ | exact cr _)) ?_)) | (show Fct ..; refine fctI (fun hf => ?_)) | (show SWp _ _ _ (.cond _ _ _) _ _ _ _; first | refine cB (fun hc => ?_) (fun hc => ?_) | refine cU ?_ ?_)))
      (refine lN [0, 81] ?_)
      exact ⟨_, by omega, i + 1, s + CO, AF, by omega, rfl, hnx, hai, by omega, rfl, by rw [hvn]⟩
  have hi2 : i = rs.length := by omega
  have hi3 : ¬ ((i : Int) < (rs.length : Int)) := by omega
  (have := Nonempty.intro hi3)
  have g9 := g3
  rw [hi2] at g9
  rw [g9]
  (repeat' (first | refine swp_seq [0, 1, 2, 4, 5, 6, 7, 8, 9, 10, 11, 12, 13, 19, 23, 30, 47, 53, 64] ?_ | refine st2 ?_ | (show Fct ..; refine fctI (fun hf => ?_)) | (show SWp _ _ _ (.cond _ _ _) _ _ _ _; first | refine cB (fun hc => ?_) (fun hc => ?_) | refine cU ?_ ?_)))
  (refine DVQ ?_)
  rw [hi2]
def ovI (p : Plan) : Nat → Int
  | 0 => p.start - p.cap
  | i + 1 => ovI p i + p.inf.getD i default - p.rel.getD (p.rel.length - 1) default
theorem ovI_eq (p : Plan) : ∀ i, ovI p i = p.start - p.cap - (i : Int) * p.rel.getD (p.rel.length - 1) default + sumI p.inf i
  | 0 => by simp [ovI, sumI]
  | i + 1 => by
    rw [ovI, ovI_eq p i, sumI, show ((i + 1 : Nat) : Int) = (i : Int) + 1 from rfl, Int.add_mul, Int.one_mul]; omega
theorem ovI_in {p : Plan} (hp : planB p = true) : ∀ i, i ≤ p.inf.length → -((i : Int) + 1) * 1099511627776 ≤ ovI p i ∧ ovI p i ≤ ((i : Int) + 1) * 1099511627776
  | 0, _ => by
    have := planB_in hp
    rw [ovI]; omega
  | i + 1, hi => by
    have ih := ovI_in hp i (by omega)
    have hin := planB_in hp
    have h1 := hin.2.2.2.2.2.2.2.1 i (by omega)
    have h2 := hin.2.2.2.2.2.2.2.2.1 (p.rel.length - 1) (by have := hin.2.2.2.2.1; omega)
    rw [ovI]
    omega
set_option maxRecDepth 20000 in
set_option maxHeartbeats 8000000 in
theorem rrelax_f (p : Plan) (m : Nat) (hp : planB p = true) : DCalls Try.prog 29 [planD p] (hget []) m (li (relP p)) (hget []) := by
  have hin := planB_in hp
  have hil := hin.2.2.2.1
  have hrl := hin.2.2.2.2.1
  have hw := hin.2.2.2.2.2.1
  have hR0 := hin.2.2.2.2.2.2.2.2.1 0 (by omega)
  have cf := fun m => rfloor_f p.pen (p.rel.getD 0 default) m hin.2.2.2.2.2.2.1 (by unfold i64ok; omega)
  have hF := hin.2.2.2.2.2.2.2.2.2 (p.rel.getD 0 default)
  have hM := hin.2.2.2.2.2.2.2.2.1 (p.rel.length - 1) (by omega)
  have h0l : 0 < p.rel.length := by omega
  have hll : p.rel.length - 1 < p.rel.length := by omega
  have hl1 : (p.rel.length : Int) - 1 = ((p.rel.length - 1 : Nat) : Int) := by omega
  have hsm := fun i => @ovI_in p hp i
  have hR : relP p = (p.inf.length : Int) * floorT p.pen (p.rel.getD 0 default) + p.wei * max 0 (ovI p p.inf.length) := by unfold relP; rw [ovI_eq]
  rw [hR]
  generalize floorT p.pen (p.rel.getD 0 default) = F at *
  have hnF : 0 ≤ (p.inf.length : Int) * F ∧ (p.inf.length : Int) * F ≤ 200 * 1099511627776 := ⟨Int.mul_nonneg (by omega) hF.1, Int.mul_le_mul (by omega) hF.2 hF.1 (by omega)⟩
  (have := Nonempty.intro h0l)
  (have := Nonempty.intro hll)
  refine pureC (n := 52) (rs := [.tmp 2]) (ts := [3]) Try.func29 rfl (by decide) [] (by (exact SD)) ?_
  (repeat' (first | refine swp_seq [0, 1, 2, 3, 4, 5, 22] ?_ | refine st2 ?_ | (show CallQ ..; first | refine cQ (fun hcc => (by first | exact cf _)) ?_ | (refine lP ?_; refine lQ (fun hcc m => (by first | exact cf _)) ?_)) | (show XCallQ ..; first | refine xQ (fun hcc => (by first | exact cf _)) ?_ | (refine xlP ?_; refine xlQ (fun hcc m => (by first | exact cf _)) ?_)) | (show Fct ..; refine fctI (fun hf => ?_)) | (show SWp _ _ _ (.cond _ _ _) _ _ _ _; first | refine cB (fun hc => ?_) (fun hc => ?_) | refine cU ?_ ?_)))
  refine loop_swp [1, 3, 4, 5] [0] 1 (fun q A H => ∃ i : Nat, i ≤ p.inf.length ∧ q = p.inf.length - i ∧ A = [(1, .ptr 0 0), (3, li F), (4, li (ovI p i)), (5, li i)] ∧ H = [(0, .blk 26 (planC p))]) (by omega) ?_ ?_ ?_
  · rintro q A H ⟨i, h1, h2, rfl, rfl⟩
    exact ⟨by (exact SD), by (exact SD)⟩
  · refine ⟨_, 0, by omega, rfl, ?_, ?_⟩
    · exact DVR
    · exact DVR
  rintro q A H ⟨i, h1, h2, rfl, rfl⟩
  have hsi := hsm i h1
  by_cases hi : i < p.inf.length
  · have hi3 : (i : Int) < (p.inf.length : Int) := by omega
    have hii := hin.2.2.2.2.2.2.2.1 i hi
    have hsn : ovI p (i + 1) = ovI p i + p.inf.getD i default - p.rel.getD (p.rel.length - 1) default := rfl
    generalize ovI p i = SI at *
    (have := Nonempty.intro hi)
    (have := Nonempty.intro hi3)
    (repeat' (first | refine swp_seq [0, 1, 2, 3, 4, 5, 22] ?_ | refine st2 ?_ | (show Fct ..; refine fctI (fun hf => ?_)) | (show SWp _ _ _ (.cond _ _ _) _ _ _ _; first | refine cB (fun hc => ?_) (fun hc => ?_) | refine cU ?_ ?_)))
    (refine lN [0] ?_)
    exact ⟨_, by omega, i + 1, by omega, rfl, by rw [hsn]; rfl, rfl⟩
  · obtain rfl : i = p.inf.length := by omega
    have hi3 : ¬ (p.inf.length : Int) < (p.inf.length : Int) := by omega
    generalize ovI p p.inf.length = OV at *
    have hmx : (if 0 < OV then OV else 0) = max 0 OV := by rw [Int.max_def]; split <;> split <;> omega
    have hm0 : 0 ≤ max 0 OV ∧ max 0 OV ≤ 1000 * 1099511627776 := by omega
    have hwm : 0 ≤ p.wei * max 0 OV ∧ p.wei * max 0 OV ≤ 1000 * (1000 * 1099511627776) := ⟨Int.mul_nonneg hw.1 hm0.1, Int.mul_le_mul hw.2 hm0.2 hm0.1 (by omega)⟩
    (have := Nonempty.intro hi3)
    rw [← hmx] at hwm ⊢
    (repeat' (first | refine swp_seq [0, 1, 2, 3, 4, 5, 22] ?_ | refine st2 ?_ | (show Fct ..; refine fctI (fun hf => ?_)) | (show SWp _ _ _ (.cond _ _ _) _ _ _ _; first | refine cB (fun hc => ?_) (fun hc => ?_) | refine cU ?_ ?_)))
    exact DVR
def mI (p : Plan) : Option (Nat × Int) → Int × Int
  | none => (-1, 0)
  | some (i, c) => (p.rel.getD i default, c)
set_option maxRecDepth 20000 in
set_option maxHeartbeats 16000000 in
theorem rmyopic_f (p : Plan) (m : Nat) (hp : planB p = true) : DCalls Try.prog 28 [planD p] (hget []) m (.tup [li (myoR p).1, ints (myoR p).2.1, li (myoR p).2.2]) (hget []) := by
  unfold myoR
  rw [if_neg (by rw [hp]; decide)]
  have hin := planB_in hp
  have hil := hin.2.2.2.1
  have hrl := hin.2.2.2.2.1
  refine pureC (n := 71) (rs := [.tmp 2, .tmp 3, .tmp 4]) (ts := [3, 22, 3]) Try.func28 rfl (by decide) [80] (by (exact SD)) ?_
  (repeat' (first | refine swp_seq [0, 1, 2, 3, 4, 5, 6, 7, 8, 9, 10, 11, 12, 13, 20, 27, 40, 52, 56] ?_ | refine st2 ?_ | (show Fct ..; refine fctI (fun hf => ?_)) | (show SWp _ _ _ (.cond _ _ _) _ _ _ _; first | refine cB (fun hc => ?_) (fun hc => ?_) | refine cU ?_ ?_)))
  (refine sN 7 3 1 ?_)
  refine loop_swp [1, 5, 6, 7, 8] [0, 80] 81 (fun q A H => ∃ (i : Nat) (s v : Int) (l : List Int), i ≤ p.inf.length ∧ q = p.inf.length - i ∧ goM p i = some (s, l, v) ∧ A = [(1, .ptr 0 0), (5, li v), (6, li s), (7, .gl 80), (8, li i)] ∧ H = [(0, .blk 26 (planC p)), (80, inLt l)]) (by omega) ?_ ?_ ?_
  · rintro q A H ⟨i, s, v, l, h1, h2, h3, rfl, rfl⟩
    exact ⟨by (exact SD), by (exact SD)⟩
  · refine ⟨_, 0, 0, p.start, [], by omega, rfl, rfl, ?_, ?_⟩
    · exact DVR
    · exact DVR
  rintro q A H ⟨i, s, v, l, h1, h2, h3, rfl, rfl⟩
  obtain ⟨hs, hv, hll⟩ := goM_in hp i h1 h3
  have hnx := goM_next h3
  by_cases hi : i < p.inf.length
  · have hi3 : (i : Int) < (p.inf.length : Int) := by omega
    have hvi : 0 ≤ v ∧ v ≤ 1099511627776 := by omega
    (have := Nonempty.intro hi)
    (have := Nonempty.intro hi3)
    (repeat' (first | refine swp_seq [0, 1, 2, 3, 4, 5, 6, 7, 8, 9, 10, 11, 12, 13, 20, 27, 40, 52, 56] ?_ | refine st2 ?_ | (show Fct ..; refine fctI (fun hf => ?_)) | (show SWp _ _ _ (.cond _ _ _) _ _ _ _; first | refine cB (fun hc => ?_) (fun hc => ?_) | refine cU ?_ ?_)))
    refine loop_swp [1, 5, 6, 7, 8, 9, 10, 11] [0, 80] 81 (fun q A H => ∃ r : Nat, r ≤ p.rel.length ∧ q = p.rel.length - r ∧ A = [(1, .ptr 0 0), (5, li v), (6, li s), (7, .gl 80), (8, li i), (9, li (mI p (bestU p i v zO r)).1), (10, li (mI p (bestU p i v zO r)).2), (11, li r)] ∧ H = [(0, .blk 26 (planC p)), (80, inLt l)]) (by omega) ?_ ?_ ?_
    · rintro q A H ⟨r, k1, k2, rfl, rfl⟩
      exact ⟨by (exact SD), by (exact SD)⟩
    · refine ⟨_, 0, by omega, rfl, ?_, ?_⟩
      · exact DVR
      · exact DVR
    rintro q A H ⟨r, k1, k2, rfl, rfl⟩
    by_cases hr : r < p.rel.length
    · have hr3 : (r : Int) < (p.rel.length : Int) := by omega
      have hbn := bestU_next p i v zO r
      have hcst := (cost_in hp hi hvi hr).2.2.2
      have hss := fun k c h => @bestU_some p i v zO r k c h
      obtain ⟨stx, hstx⟩ : ∃ stx, bestU p i v zO r = stx := ⟨_, rfl⟩
      rw [hstx] at hbn ⊢
      have cp := fun m => possible_f p i r v m hp hi hr hvi
      have cr := fun m => price_f p i r v m hp hi hr hvi
      unfold bestF at hbn
      generalize costI p i v (p.rel.getD r default) = c at *
      (have := Nonempty.intro hr)
      (have := Nonempty.intro hr3)
      cases hpo : possB p i v (p.rel.getD r default) <;> simp only [hpo] at cp
      · rw [hpo, if_neg (by decide)] at hbn
        (repeat' (first | refine swp_seq [0, 1, 2, 3, 4, 5, 6, 7, 8, 9, 10, 11, 12, 13, 20, 27, 40, 52, 56] ?_ | refine st2 ?_ | (show CallQ ..; first | refine cQ (fun hcc => (by first | exact cp _)) ?_ | (refine lP ?_; refine lQ (fun hcc m => (by first | exact cp _)) ?_)) | (show Fct ..; refine fctI (fun hf => ?_)) | (show SWp _ _ _ (.cond _ _ _) _ _ _ _; first | refine cB (fun hc => ?_) (fun hc => ?_) | refine cU ?_ ?_)))
        rw [← hbn]
        (refine lN [0, 80] ?_)
        exact ⟨_, by omega, r + 1, by omega, rfl, rfl, rfl⟩
      · rw [hpo, if_pos rfl] at hbn
        simp only [zO] at hbn
        cases stx with
        | none =>
          have hbn : bestU p i v zO (r + 1) = some (r, c) := by rw [hbn]; show some (r, c + 0) = _; rw [Int.add_zero]
          show SWp _ _ _ _ _ [_, _, _, _, _, (9, li (-1)), (10, li 0), _] _ _
          (repeat' (first | refine swp_seq [0, 1, 2, 3, 4, 5, 6, 7, 8, 9, 10, 11, 12, 13, 20, 27, 40, 52, 56] ?_ | refine st2 ?_ | (show CallQ ..; first | refine cQ (fun hcc => (by first | exact cp _ | exact cr _)) ?_ | (refine lP ?_; refine lQ (fun hcc m => (by first | exact cp _ | exact cr _)) ?_)) | (show Fct ..; refine fctI (fun hf => ?_)) | (show SWp _ _ _ (.cond _ _ _) _ _ _ _; first | refine cB (fun hc => ?_) (fun hc => ?_) | refine cU ?_ ?_)))
          (refine lN [0, 80] ?_)
          exact ⟨_, by omega, r + 1, by omega, rfl, by rw [hbn]; rfl, rfl⟩
        | some a =>
          obtain ⟨k, b⟩ := a
          have hkr := (hss k b hstx).1
          have hk0 := hin.2.2.2.2.2.2.2.2.1 k (by omega)
          have hkn : ¬ p.rel.getD k default < 0 := by omega
          (have := Nonempty.intro hkn)
          show SWp _ _ _ _ _ [_, _, _, _, _, (9, li (p.rel.getD k default)), (10, li b), _] _ _
          by_cases hlt : c < b
          · have hbn : bestU p i v zO (r + 1) = some (r, c) := by rw [hbn]; show (if c + 0 < b then some (r, c + 0) else some (k, b)) = _; rw [Int.add_zero, if_pos hlt]
            (have := Nonempty.intro hlt)
            (repeat' (first | refine swp_seq [0, 1, 2, 3, 4, 5, 6, 7, 8, 9, 10, 11, 12, 13, 20, 27, 40, 52, 56] ?_ | refine st2 ?_ | (show CallQ ..; first | refine cQ (fun hcc => (by first | exact cp _ | exact cr _)) ?_ | (refine lP ?_; refine lQ (fun hcc m => (by first | exact cp _ | exact cr _)) ?_)) | (show Fct ..; refine fctI (fun hf => ?_)) | (show SWp _ _ _ (.cond _ _ _) _ _ _ _; first | refine cB (fun hc => ?_) (fun hc => ?_) | refine cU ?_ ?_)))
            (refine lN [0, 80] ?_)
            exact ⟨_, by omega, r + 1, by omega, rfl, by rw [hbn]; rfl, rfl⟩
          · have hbn : bestU p i v zO (r + 1) = some (k, b) := by rw [hbn]; show (if c + 0 < b then some (r, c + 0) else some (k, b)) = _; rw [Int.add_zero, if_neg hlt]
            (have := Nonempty.intro hlt)
            (repeat' (first | refine swp_seq [0, 1, 2, 3, 4, 5, 6, 7, 8, 9, 10, 11, 12, 13, 20, 27, 40, 52, 56] ?_ | refine st2 ?_ | (show CallQ ..; first | refine cQ (fun hcc => (by first | exact cp _ | exact cr _)) ?_ | (refine lP ?_; refine lQ (fun hcc m => (by first | exact cp _ | exact cr _)) ?_)) | (show Fct ..; refine fctI (fun hf => ?_)) | (show SWp _ _ _ (.cond _ _ _) _ _ _ _; first | refine cB (fun hc => ?_) (fun hc => ?_) | refine cU ?_ ?_)))
            (refine lN [0, 80] ?_)
            exact ⟨_, by omega, r + 1, by omega, rfl, by rw [hbn]; rfl, rfl⟩
    obtain rfl : r = p.rel.length := by omega
    have hr3 : ¬ (p.rel.length : Int) < (p.rel.length : Int) := by omega
    (have := Nonempty.intro hr3)
    rw [show bestU p i v zO p.rel.length = bestO p i v zO from rfl]
    cases hb : bestO p i v zO with
    | none =>
      rw [hb] at hnx
      rw [goM_none hnx p.inf.length (by omega)]
      show SWp _ _ _ _ _ [_, _, _, _, _, (9, li (-1)), (10, li 0), _] _ _
      (repeat' (first | refine swp_seq [0, 1, 2, 3, 4, 5, 6, 7, 8, 9, 10, 11, 12, 13, 20, 27, 40, 52, 56] ?_ | refine st2 ?_ | (show Fct ..; refine fctI (fun hf => ?_)) | (show SWp _ _ _ (.cond _ _ _) _ _ _ _; first | refine cB (fun hc => ?_) (fun hc => ?_) | refine cU ?_ ?_)))
      exact DVR
    | some b =>
      obtain ⟨k, c⟩ := b
      rw [hb] at hnx
      have hnx : goM p (i + 1) = some (s + c, l ++ [p.rel.getD k default], aftI p i v (p.rel.getD k default)) := hnx
      obtain ⟨k1, k2, x, k3, k4⟩ := bestU_some _ hb
      have ca := fun m => after_f p i k v m hp hi k1 hvi
      have hcb := (goM_in hp (i + 1) (by omega) hnx).1
      have hk0 := hin.2.2.2.2.2.2.2.2.1 k k1
      have hkn : ¬ p.rel.getD k default < 0 := by omega
      (have := Nonempty.intro hkn)
      generalize aftI p i v (p.rel.getD k default) = W at *
      show SWp _ _ _ _ _ [_, _, _, _, _, (9, li (p.rel.getD k default)), (10, li c), _] _ _
      (repeat' (first | refine swp_seq [0, 1, 2, 3, 4, 5, 6, 7, 8, 9, 10, 11, 12, 13, 20, 27, 40, 52, 56] ?_ | refine st2 ?_ | (show CallQ ..; first | refine cQ (fun hcc => (by first | exact ca _)) ?_ | (refine lP ?_; refine lQ (fun hcc m => (by first | exact ca _)) ?_)) | (show Fct ..; refine fctI (fun hf => ?_)) | (show SWp _ _ _ (.cond _ _ _) _ _ _ _; first | refine cB (fun hc => ?_) (fun hc => ?_) | refine cU ?_ ?_)))
      (refine lN [0, 80] ?_)
      exact ⟨_, by omega, i + 1, s + c, W, _, by omega, rfl, hnx, rfl, rfl⟩
  obtain rfl : i = p.inf.length := by omega
  have hi3 : ¬ ((p.inf.length : Int) < (p.inf.length : Int)) := by omega
  (have := Nonempty.intro hi3)
  rw [h3]
  (repeat' (first | refine swp_seq [0, 1, 2, 3, 4, 5, 6, 7, 8, 9, 10, 11, 12, 13, 20, 27, 40, 52, 56] ?_ | refine st2 ?_ | (show Fct ..; refine fctI (fun hf => ?_)) | (show SWp _ _ _ (.cond _ _ _) _ _ _ _; first | refine cB (fun hc => ?_) (fun hc => ?_) | refine cU ?_ ?_)))
  exact DVR

end Go.Proofs.Ytedocinehadodaa
