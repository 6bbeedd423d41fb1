/-
  Contracts of functions of the program, over the engine.
  No condition.
-/
import Derived.Test.YtlailhdmgehniaaGreatCQ0P11
import Derived.Test.YtlailhdmgehniaaGreatCS6S7S8S9
import Derived.Test.YtlailhdmgehniaaGreatCR4R5P1
namespace Go.Proofs.YtlailhdmgehniaaGreat
open Go.Eng
set_option linter.all false
attribute [local irreducible] DCallsG SWp Fct CallQ XCallQ LCallQ XLCallQ drun xrun

theorem srtS_len (p : Plan) (k : Nat) (row : List Int) (i r : Nat) : (srtS p k row i r).length ≤ i * p.rel.length + r := by
  unfold srtS
  rw [srtI_len]
  have h1 := stepsN_len p k (row.getD i default) (nextN p k row i) r
  have h2 := nextN_len p k row i
  omega
theorem app_ilq (l : List (List Int)) (r : List Int) : rows ilRow l ++ [[.p (.dat 1 (r.map inRow))]] = rows ilRow (l ++ [r]) := by simp [rows, ilRow]
theorem put_end (l : List Int) (n : Int) {i : Nat} (h : i ≤ l.length) : l.take i ++ [n] ++ (l.drop i).take (l.length - i) = l.take i ++ n :: l.drop i := by
  have e : (l.drop i).take (l.length - i) = l.drop i := List.take_of_length_le (by rw [List.length_drop]; omega)
  rw [e, List.append_assoc]; rfl
set_option maxRecDepth 20000 in
set_option maxHeartbeats 4000000 in
theorem put45_f (l : List Int) (n : Int) (m : Nat) (hl : l.length ≤ 1048576) : DCalls Tryz.prog 55 [ints l, li n] (hget []) m (ints (putI l n)) (hget []) := by
  refine pureC (n := 45) (rs := [.tmp 4]) (ts := [22]) Tryz.func55 rfl (by decide) [280] (by (exact SD)) ?_
  (repeat' (first | refine swp_seq [0, 1, 4, 5, 17, 31] ?_ | refine st2 ?_ | (show Fct ..; refine fctI (fun hf => ?_)) | (show SWp _ _ _ (.cond _ _ _) _ _ _ _; first | refine cB (fun hc => ?_) (fun hc => ?_) | refine cU ?_ ?_)))
  refine loop_swp [0, 1, 5] [] 0 (fun q A H => ∃ i : Nat, i ≤ l.length ∧ q = l.length - i ∧ (∀ j, j < i → l.getD j default < n) ∧ A = [(0, ints l), (1, li n), (5, li i)] ∧ H = []) (by omega) ?_ ?_ ?_
  · rintro q A H ⟨i, h1, h2, h3, rfl, rfl⟩
    exact ⟨by (exact SD), by (exact SD)⟩
  · refine ⟨_, 0, by omega, rfl, fun j hj => by omega, ?_, ?_⟩
    · exact DVR
    · exact DVR
  rintro q A H ⟨i, h1, h2, h3, rfl, rfl⟩
  by_cases hi : i < l.length
  · have hi3 : (i : Int) < (l.length : Int) := by omega
    (have := Nonempty.intro hi)
    (have := Nonempty.intro hi3)
    by_cases hlt : l.getD i default < n
    · (have := Nonempty.intro hlt)
      (repeat' (first | refine swp_seq [0, 1, 4, 5, 17, 31] ?_ | refine st2 ?_ | (show Fct ..; refine fctI (fun hf => ?_)) | (show SWp _ _ _ (.cond _ _ _) _ _ _ _; first | refine cB (fun hc => ?_) (fun hc => ?_) | refine cU ?_ ?_)))
      (refine lN [] ?_)
      refine ⟨_, by omega, i + 1, by omega, rfl, fun j hj => ?_, rfl, rfl⟩
      by_cases e : j = i
      · rw [e]; exact hlt
      · exact h3 j (by omega)
    · (have := Nonempty.intro hlt)
      have hat := putI_at (n := n) (by omega : i ≤ l.length) h3 (fun _ => by omega)
      by_cases he : l.getD i default = n
      · rw [if_pos ⟨hi, he⟩] at hat
        rw [hat]
        (have := Nonempty.intro he)
        (repeat' (first | refine swp_seq [0, 1, 4, 5, 17, 31] ?_ | refine st2 ?_ | (show Fct ..; refine fctI (fun hf => ?_)) | (show SWp _ _ _ (.cond _ _ _) _ _ _ _; first | refine cB (fun hc => ?_) (fun hc => ?_) | refine cU ?_ ?_)))
        exact DVR
      · rw [if_neg (fun h => he h.2)] at hat
        rw [hat]
        (have := Nonempty.intro he)
        (repeat' (first | refine swp_seq [0, 1, 4, 5, 17, 31] ?_ | (show SWp _ _ _ (.region _ _ true) _ _ _ _; refine xG mixed [192, 224, 248] ?_) | refine st2 ?_ | (show Fct ..; refine fctI (fun hf => ?_)) | (show SWp _ _ _ (.cond _ _ _) _ _ _ _; first | refine cB (fun hc => ?_) (fun hc => ?_) | refine cU ?_ ?_)))
        (refine DVQ ?_)
        rw [put_end l n h1]
  · obtain rfl : i = l.length := by omega
    have hi3 : ¬ ((l.length : Int) < (l.length : Int)) := by omega
    (have := Nonempty.intro hi3)
    have hat := putI_at (n := n) (by omega : l.length ≤ l.length) h3 (fun h => absurd h (by omega))
    rw [if_neg (fun h => absurd h.1 (by omega))] at hat
    rw [hat]
    (repeat' (first | refine swp_seq [0, 1, 4, 5, 17, 31] ?_ | (show SWp _ _ _ (.region _ _ true) _ _ _ _; refine xG mixed [192, 224, 248] ?_) | refine st2 ?_ | (show Fct ..; refine fctI (fun hf => ?_)) | (show SWp _ _ _ (.cond _ _ _) _ _ _ _; first | refine cB (fun hc => ?_) (fun hc => ?_) | refine cU ?_ ?_)))
    (refine DVQ ?_)
    rw [put_end l n (Nat.le_refl _)]
set_option maxRecDepth 20000 in
set_option maxHeartbeats 16000000 in
theorem rreach_f (p : Plan) (s : Nat) (v : Int) (m : Nat) (hp : planB p = true) (hs : s ≤ p.inf.length) (hv : p.res ≤ v ∧ v ≤ p.cap) :
    DCalls Tryz.prog 32 [planD p, li s, li v, li 4000] (hget []) m (.tup [.p (.dat 1 ((reachR p s v).1.map ilRow)), lb (reachR p s v).2]) (hget []) := by
  have hin := planB_in hp
  have hrl := hin.2.2.2.2.1
  have hil := hin.2.2.2.1
  obtain ⟨N, hN⟩ : ∃ N, p.inf.length - s = N := ⟨_, rfl⟩
  unfold reachR
  rw [hN]
  refine pureC (n := 81) (rs := [.tmp 8, .tmp 9]) (ts := [29, 4]) Tryz.func32 rfl (by decide) [40] (by (exact SD)) ?_
  (repeat' (first | refine swp_seq [0, 1, 2, 3, 4, 8, 9, 10, 11, 12, 13, 14, 15, 24, 36, 43, 57, 75] ?_ | refine st2 ?_ | (show Fct ..; refine fctI (fun hf => ?_)) | (show SWp _ _ _ (.cond _ _ _) _ _ _ _; first | refine cB (fun hc => ?_) (fun hc => ?_) | refine cU ?_ ?_)))
  (refine sF 32 ?_)
  refine loop_swp [3, 4, 10, 11] [0, 40] 41 (fun q A H => ∃ j : Nat, j ≤ N ∧ q = N - j ∧ fewA p s v j = true ∧ A = [(3, li 4000), (4, .ptr 0 0), (10, .gl 40), (11, li ((s + j : Nat) : Int))] ∧ H = [(0, .blk 26 (planC p)), (40, .lst 22 1 (rows ilRow (rowsN p s v j)))]) (by omega) ?_ ?_ ?_
  · rintro q A H ⟨j, h1, h2, h3, rfl, rfl⟩
    exact ⟨by (exact SD), by (exact SD)⟩
  · refine ⟨_, 0, by omega, rfl, rfl, ?_, ?_⟩
    · exact DVR
    · exact DVR
  rintro q A H ⟨j, h1, h2, h3, rfl, rfl⟩
  have hrlen := rowsN_len p s v j
  by_cases hj : j < N
  · have hj2 : (s : Int) + (j : Int) < (p.inf.length : Int) := by omega
    have hsj : s + j < p.inf.length := by omega
    have hrow : (rowsN p s v j).getD ((rowsN p s v j).length - 1) default = rowI p s v j := by
      rw [show (rowsN p s v j).length - 1 = j by omega]; rfl
    have hri := rowI_in (s := s) hp hv j
    have hrl2 := rowI_len h3
    have hnx := rowsN_next p s v j
    have hfw := fun (h : fewB45 p s v j = true) => fewA_next h3 h
    have hfn := fun (h : fewB45 p s v j = false) => fewA_no hj h
    unfold fewB45 at hfw hfn
    rw [← srtI_len] at hfw hfn
    generalize rowI p s v j = row at *
    generalize rowsN p s v j = RS at *
    (have := Nonempty.intro hj2)
    (repeat' (first | (show SWp _ _ _ (.region 7 _ _) _ _ _ _; refine (stop_in ?_)) | refine swp_seq [0, 1, 2, 3, 4, 8, 9, 10, 11, 12, 13, 14, 15, 24, 36, 43, 57, 75] ?_ | (show SWp _ _ _ (.region _ _ true) _ _ _ _; refine xG mixed [] ?_) | refine st2 ?_ | (show CallQ ..; first | refine cQ (fun hcc => (by fail)) ?_ | (refine lP ?_; refine lQ (fun hcc m => (by fail)) ?_)) | (show XCallQ ..; first | refine xQ (fun hcc => (by fail)) ?_ | (refine xlP ?_; refine xlQ (fun hcc m => (by fail)) ?_)) | (show Fct ..; refine fctI (fun hf => ?_)) | (show SWp _ _ _ (.cond _ _ _) _ _ _ _; first | refine cB (fun hc => ?_) (fun hc => ?_) | refine cU ?_ ?_)))
    refine stop_out ?_
    rw [hrow]
    (refine sN 12 3 1 ?_)
    (refine sF 145 ?_)
    (repeat' (first | refine swp_seq [0, 1, 2, 3, 4, 8, 9, 10, 11, 12, 13, 14, 15, 24, 36, 43, 57, 75] ?_ | refine st2 ?_ | (show Fct ..; refine fctI (fun hf => ?_)) | (show SWp _ _ _ (.cond _ _ _) _ _ _ _; first | refine cB (fun hc => ?_) (fun hc => ?_) | refine cU ?_ ?_)))
    refine loop_swp [3, 4, 10, 11, 12, 13, 14] [0, 40] 41 (fun q A H => ∃ i : Nat, i ≤ row.length ∧ q = row.length - i ∧ A = [(3, li 4000), (4, .ptr 0 0), (10, .gl 40), (11, li ((s + j : Nat) : Int)), (12, ints (srtI (nextN p (s + j) row i))), (13, ints row), (14, li i)] ∧ H = [(0, .blk 26 (planC p)), (40, .lst 22 1 (rows ilRow RS))]) (by omega) ?_ ?_ ?_
    · rintro q A H ⟨i, g1, g2, rfl, rfl⟩
      exact ⟨by (exact SD), by (exact SD)⟩
    · refine ⟨_, 0, by omega, rfl, ?_, ?_⟩
      · rw [show nextN p (s + j) row 0 = [] from rfl, srtI_nil]
        exact DVR
      · exact DVR
    rintro q A H ⟨i, g1, g2, rfl, rfl⟩
    by_cases hi : i < row.length
    · have hi3 : (i : Int) < (row.length : Int) := by omega
      have hvi : 0 ≤ row.getD i default ∧ row.getD i default ≤ 1099511627776 := by
        have h5 := hri _ (getD_mem hi)
        have h6 := hin.2.1
        have h7 := hin.1
        omega
      (have := Nonempty.intro hi)
      (have := Nonempty.intro hi3)
      (repeat' (first | refine swp_seq [0, 1, 2, 3, 4, 8, 9, 10, 11, 12, 13, 14, 15, 24, 36, 43, 57, 75] ?_ | refine st2 ?_ | (show Fct ..; refine fctI (fun hf => ?_)) | (show SWp _ _ _ (.cond _ _ _) _ _ _ _; first | refine cB (fun hc => ?_) (fun hc => ?_) | refine cU ?_ ?_)))
      refine loop_swp [3, 4, 10, 11, 12, 13, 14, 15] [0, 40] 41 (fun q A H => ∃ r : Nat, r ≤ p.rel.length ∧ q = p.rel.length - r ∧ A = [(3, li 4000), (4, .ptr 0 0), (10, .gl 40), (11, li ((s + j : Nat) : Int)), (12, ints (srtS p (s + j) row i r)), (13, ints row), (14, li i), (15, li r)] ∧ H = [(0, .blk 26 (planC p)), (40, .lst 22 1 (rows ilRow RS))]) (by omega) ?_ ?_ ?_
      · rintro q A H ⟨r, k1, k2, rfl, rfl⟩
        exact ⟨by (exact SD), by (exact SD)⟩
      · refine ⟨_, 0, by omega, rfl, ?_, ?_⟩
        · rw [srtS_zero]
          exact DVR
        · exact DVR
      rintro q A H ⟨r, k1, k2, rfl, rfl⟩
      by_cases hr : r < p.rel.length
      · have hr3 : (r : Int) < (p.rel.length : Int) := by omega
        have hsn := srtS_next p (s + j) row i r
        have hsl := srtS_len p (s + j) row i r
        have hsl2 : i * p.rel.length ≤ 4000 * 20 := Nat.mul_le_mul (by omega) (by omega)
        (have := Nonempty.intro hr)
        (have := Nonempty.intro hr3)
        have cp := fun m => possible_f p (s + j) r (row.getD i default) m hp hsj hr hvi
        have ca := fun m => after_f p (s + j) r (row.getD i default) m hp hsj hr hvi
        generalize srtS p (s + j) row i r = ST at *
        have cu := fun w m => put45_f ST w m (by omega)
        cases hpo : possB p (s + j) (row.getD i default) (p.rel.getD r default) <;> simp only [hpo] at cp
        · rw [hpo, if_neg (by decide)] at hsn
          (repeat' (first | refine swp_seq [0, 1, 2, 3, 4, 8, 9, 10, 11, 12, 13, 14, 15, 24, 36, 43, 57, 75] ?_ | refine st2 ?_ | (show CallQ ..; first | refine cQ (fun hcc => (by first | exact cp _)) ?_ | (refine lP ?_; refine lQ (fun hcc m => (by first | exact cp _)) ?_)) | (show XCallQ ..; first | refine xQ (fun hcc => (by first | exact cp _)) ?_ | (refine xlP ?_; refine xlQ (fun hcc m => (by first | exact cp _)) ?_)) | (show Fct ..; refine fctI (fun hf => ?_)) | (show SWp _ _ _ (.cond _ _ _) _ _ _ _; first | refine cB (fun hc => ?_) (fun hc => ?_) | refine cU ?_ ?_)))
          rw [← hsn]
          (refine lN [0, 40] ?_)
          exact ⟨_, by omega, r + 1, by omega, rfl, rfl, rfl⟩
        · rw [hpo, if_pos rfl] at hsn
          (repeat' (first | refine swp_seq [0, 1, 2, 3, 4, 8, 9, 10, 11, 12, 13, 14, 15, 24, 36, 43, 57, 75] ?_ | refine st2 ?_ | (show CallQ ..; first | refine cQ (fun hcc => (by first | exact cp _ | exact ca _ | exact cu _ _)) ?_ | (refine lP ?_; refine lQ (fun hcc m => (by first | exact cp _ | exact ca _ | exact cu _ _)) ?_)) | (show XCallQ ..; first | refine xQ (fun hcc => (by first | exact cp _ | exact ca _ | exact cu _ _)) ?_ | (refine xlP ?_; refine xlQ (fun hcc m => (by first | exact cp _ | exact ca _ | exact cu _ _)) ?_)) | (show Fct ..; refine fctI (fun hf => ?_)) | (show SWp _ _ _ (.cond _ _ _) _ _ _ _; first | refine cB (fun hc => ?_) (fun hc => ?_) | refine cU ?_ ?_)))
          rw [← hsn]
          (refine lN [0, 40] ?_)
          exact ⟨_, by omega, r + 1, by omega, rfl, rfl, rfl⟩
      obtain rfl : r = p.rel.length := by omega
      have hr3 : ¬ (p.rel.length : Int) < (p.rel.length : Int) := by omega
      (have := Nonempty.intro hr3)
      rw [srtS_row]
      (repeat' (first | refine swp_seq [0, 1, 2, 3, 4, 8, 9, 10, 11, 12, 13, 14, 15, 24, 36, 43, 57, 75] ?_ | refine st2 ?_ | (show Fct ..; refine fctI (fun hf => ?_)) | (show SWp _ _ _ (.cond _ _ _) _ _ _ _; first | refine cB (fun hc => ?_) (fun hc => ?_) | refine cU ?_ ?_)))
      (refine lN [0, 40] ?_)
      exact ⟨_, by omega, i + 1, by omega, rfl, rfl, rfl⟩
    obtain rfl : i = row.length := by omega
    have hi3 : ¬ (row.length : Int) < (row.length : Int) := by omega
    (have := Nonempty.intro hi3)
    rw [show nextN p (s + j) row row.length = nextI p (s + j) row from rfl]
    generalize srtI (nextI p (s + j) row) = KS at *
    by_cases hb : (4000 : Int) < (KS.length : Int)
    · have e : fewA p s v N = false := hfn (decide_eq_false (by omega))
      rw [e]
      (have := Nonempty.intro hb)
      (repeat' (first | refine swp_seq [0, 1, 2, 3, 4, 8, 9, 10, 11, 12, 13, 14, 15, 24, 36, 43, 57, 75] ?_ | refine st2 ?_ | (show Fct ..; refine fctI (fun hf => ?_)) | (show SWp _ _ _ (.cond _ _ _) _ _ _ _; first | refine cB (fun hc => ?_) (fun hc => ?_) | refine cU ?_ ?_)))
      exact DVR
    · have hfw2 := hfw (decide_eq_true (by omega))
      (have := Nonempty.intro hb)
      (repeat' (first | refine swp_seq [0, 1, 2, 3, 4, 8, 9, 10, 11, 12, 13, 14, 15, 24, 36, 43, 57, 75] ?_ | refine st2 ?_ | (show Fct ..; refine fctI (fun hf => ?_)) | (show SWp _ _ _ (.cond _ _ _) _ _ _ _; first | refine cB (fun hc => ?_) (fun hc => ?_) | refine cU ?_ ?_)))
      rw [app_ilq, ← hnx]
      (refine lN [0, 40] ?_)
      exact ⟨_, by omega, j + 1, by omega, rfl, hfw2, by rw [show ((s + (j + 1) : Nat) : Int) = (s : Int) + (j : Int) + 1 by omega]; rfl, rfl⟩
  · obtain rfl : j = N := by omega
    have hj2 : ¬ (s : Int) + (j : Int) < (p.inf.length : Int) := by omega
    (have := Nonempty.intro hj2)
    rw [h3, if_pos rfl]
    generalize rowsN p s v j = RS at *
    (repeat' (first | refine swp_seq [0, 1, 2, 3, 4, 8, 9, 10, 11, 12, 13, 14, 15, 24, 36, 43, 57, 75] ?_ | refine st2 ?_ | (show Fct ..; refine fctI (fun hf => ?_)) | (show SWp _ _ _ (.cond _ _ _) _ _ _ _; first | refine cB (fun hc => ?_) (fun hc => ?_) | refine cU ?_ ?_)))
    exact DVR
theorem half_f (a b : Nat) : ((a : Int) + (b : Int)).tdiv 2 = (((a + b) / 2 : Nat) : Int) := by
  rw [Int.tdiv_eq_ediv_of_nonneg (by omega)]; omega
theorem asc_lt {l : List Int} (h : l.Pairwise (· < ·)) {i j : Nat} (hij : i < j) (hj : j < l.length) : l.getD i default < l.getD j default := by
  have := (List.pairwise_iff_getElem.1 h) i j (by omega) hj hij
  rw [List.getD_eq_getElem?_getD, List.getD_eq_getElem?_getD, List.getElem?_eq_getElem (by omega), List.getElem?_eq_getElem hj]
  exact this
set_option maxRecDepth 20000 in
set_option maxHeartbeats 4000000 in
theorem find45_f (l : List Int) (n : Int) (j : Nat) (m : Nat) (hl : l.length ≤ 1048576) (ha : l.Pairwise (· < ·)) (hj : j < l.length) (hn : l.getD j default = n) : DCalls Tryz.prog 57 [ints l, li n] (hget []) m (li j) (hget []) := by
  refine pureC (n := 28) (rs := [.tmp 4]) (ts := [3]) Tryz.func57 rfl (by decide) [] (by (exact SD)) ?_
  (repeat' (first | refine swp_seq [0, 1, 4, 5, 6, 7, 13, 23] ?_ | refine st2 ?_ | (show Fct ..; refine fctI (fun hf => ?_)) | (show SWp _ _ _ (.cond _ _ _) _ _ _ _; first | refine cB (fun hc => ?_) (fun hc => ?_) | refine cU ?_ ?_)))
  refine loop_swp [0, 1, 5, 6] [] 0 (fun q A H => ∃ a b : Nat, a ≤ j ∧ j ≤ b ∧ b < l.length ∧ q = b - a ∧ A = [(0, ints l), (1, li n), (5, li a), (6, li b)] ∧ H = []) (by omega) ?_ ?_ ?_
  · rintro q A H ⟨a, b, h1, h2, h3, h4, rfl, rfl⟩
    exact ⟨by (exact SD), by (exact SD)⟩
  · refine ⟨_, 0, l.length - 1, by omega, by omega, by omega, rfl, ?_, ?_⟩
    · rw [show ((l.length - 1 : Nat) : Int) = (l.length : Int) - 1 by omega]
      exact DVR
    · exact DVR
  rintro q A H ⟨a, b, h1, h2, h3, h4, rfl, rfl⟩
  by_cases hi : a < b
  · have hi3 : (a : Int) < (b : Int) := by omega
    (have := Nonempty.intro hi3)
    have hh := half_f a b
    have hm : (a + b) / 2 < l.length := by omega
    have hma : a ≤ (a + b) / 2 := by omega
    have hmb : (a + b) / 2 < b := by omega
    generalize (a + b) / 2 = c at *
    (have := Nonempty.intro hm)
    by_cases hlt : l.getD c default < n
    · (have := Nonempty.intro hlt)
      have hcj : c < j := by
        rcases Nat.lt_trichotomy c j with h | h | h
        · exact h
        · subst h; omega
        · have := asc_lt ha h hm; omega
      (repeat' (first | (show SWp _ _ _ (.region 4 _ _) _ _ _ _; refine (stop_in ?_)) | refine swp_seq [0, 1, 4, 5, 6, 7, 13, 23] ?_ | refine st2 ?_ | (show CallQ ..; first | refine cQ (fun hcc => (by fail)) ?_ | (refine lP ?_; refine lQ (fun hcc m => (by fail)) ?_)) | (show Fct ..; refine fctI (fun hf => ?_)) | (show SWp _ _ _ (.cond _ _ _) _ _ _ _; first | refine cB (fun hc => ?_) (fun hc => ?_) | refine cU ?_ ?_)))
      refine stop_out ?_
      rw [hh]
      (repeat' (first | refine swp_seq [0, 1, 4, 5, 6, 7, 13, 23] ?_ | refine st2 ?_ | (show Fct ..; refine fctI (fun hf => ?_)) | (show SWp _ _ _ (.cond _ _ _) _ _ _ _; first | refine cB (fun hc => ?_) (fun hc => ?_) | refine cU ?_ ?_)))
      (refine lN [] ?_)
      exact ⟨_, by omega, c + 1, b, by omega, by omega, by omega, rfl, rfl, rfl⟩
    · (have := Nonempty.intro hlt)
      have hcj : j ≤ c := by
        rcases Nat.lt_or_ge c j with h | h
        · have := asc_lt ha h hj; omega
        · exact h
      (repeat' (first | (show SWp _ _ _ (.region 4 _ _) _ _ _ _; refine (stop_in ?_)) | refine swp_seq [0, 1, 4, 5, 6, 7, 13, 23] ?_ | refine st2 ?_ | (show CallQ ..; first | refine cQ (fun hcc => (by fail)) ?_ | (refine lP ?_; refine lQ (fun hcc m => (by fail)) ?_)) | (show Fct ..; refine fctI (fun hf => ?_)) | (show SWp _ _ _ (.cond _ _ _) _ _ _ _; first | refine cB (fun hc => ?_) (fun hc => ?_) | refine cU ?_ ?_)))
      refine stop_out ?_
      rw [hh]
      (repeat' (first | refine swp_seq [0, 1, 4, 5, 6, 7, 13, 23] ?_ | refine st2 ?_ | (show Fct ..; refine fctI (fun hf => ?_)) | (show SWp _ _ _ (.cond _ _ _) _ _ _ _; first | refine cB (fun hc => ?_) (fun hc => ?_) | refine cU ?_ ?_)))
      (refine lN [] ?_)
      exact ⟨_, by omega, a, c, by omega, by omega, by omega, rfl, rfl, rfl⟩
  · obtain rfl : a = b := by omega
    obtain rfl : a = j := by omega
    have hi3 : ¬ (a : Int) < (a : Int) := by omega
    (have := Nonempty.intro hi3)
    (repeat' (first | refine swp_seq [0, 1, 4, 5, 6, 7, 13, 23] ?_ | refine st2 ?_ | (show Fct ..; refine fctI (fun hf => ?_)) | (show SWp _ _ _ (.cond _ _ _) _ _ _ _; first | refine cB (fun hc => ?_) (fun hc => ?_) | refine cU ?_ ?_)))
    exact DVR
def chI (p : Plan) : Option (Nat × Int) → Int × Int
  | none => (-1, -1)
  | some (i, c) => (p.rel.getD i default, c)
def cstI (f : Int → Option Int) (row : List Int) : List Int := row.map fun z => (f z).getD (-1)
theorem cstI_get (f : Int → Option Int) (row : List Int) {j : Nat} (hj : j < row.length) : (cstI f row).getD j default = (f (row.getD j default)).getD (-1) := by
  unfold cstI
  rw [List.getD_eq_getElem?_getD, List.getD_eq_getElem?_getD, List.getElem?_map, List.getElem?_eq_getElem hj]; rfl
theorem cstI_len (f : Int → Option Int) (row : List Int) : (cstI f row).length = row.length := by simp [cstI]
set_option maxRecDepth 20000 in
set_option maxHeartbeats 16000000 in
theorem choice_f (p : Plan) (k : Nat) (v : Int) (row : List Int) (f : Int → Option Int) (m : Nat) (hp : planB p = true) (hk : k < p.inf.length) (hv : 0 ≤ v ∧ v ≤ 1099511627776) (hl : row.length ≤ 1048576) (ha : row.Pairwise (· < ·))
    (hc : ∀ i, i < p.rel.length → possB p k v (p.rel.getD i default) = true → aftI p k v (p.rel.getD i default) ∈ row) (hf : ∀ z c, z ∈ row → f z = some c → 0 ≤ c ∧ c ≤ 900000000000000000) :
    DCalls Tryz.prog 34 [planD p, li k, li v, ints row, ints (cstI f row)] (hget []) m (.tup [li (chI p (bestO p k v f)).1, li (chI p (bestO p k v f)).2]) (hget []) := by
  have hin := planB_in hp
  have hrl := hin.2.2.2.2.1
  have hil := hin.2.2.2.1
  have hcl := cstI_len f row
  refine pureC (n := 66) (rs := [.tmp 10, .tmp 11]) (ts := [3, 3]) Tryz.func34 rfl (by decide) [] (by (exact SD)) ?_
  (repeat' (first | refine swp_seq [0, 1, 2, 3, 4, 5, 10, 11, 12, 13, 14, 15, 16, 17, 22, 35, 47, 61] ?_ | refine st2 ?_ | (show Fct ..; refine fctI (fun hf => ?_)) | (show SWp _ _ _ (.cond _ _ _) _ _ _ _; first | refine cB (fun hc => ?_) (fun hc => ?_) | refine cU ?_ ?_)))
  refine loop_swp [1, 2, 3, 4, 5, 12, 13, 14] [0] 1 (fun q A H => ∃ r : Nat, r ≤ p.rel.length ∧ q = p.rel.length - r ∧ A = [(1, li k), (2, li v), (3, ints row), (4, ints (cstI f row)), (5, .ptr 0 0), (12, li (chI p (bestU p k v f r)).2), (13, li (chI p (bestU p k v f r)).1), (14, li r)] ∧ H = [(0, .blk 26 (planC p))]) (by omega) ?_ ?_ ?_
  · rintro q A H ⟨r, h1, h2, rfl, rfl⟩
    exact ⟨by (exact SD), by (exact SD)⟩
  · refine ⟨_, 0, by omega, rfl, ?_, ?_⟩
    · exact DVR
    · exact DVR
  rintro q A H ⟨r, h1, h2, rfl, rfl⟩
  by_cases hr : r < p.rel.length
  · have hr3 : (r : Int) < (p.rel.length : Int) := by omega
    have hbn := bestU_next p k v f r
    have hcst := cost_in hp hk hv hr
    (have := Nonempty.intro hr)
    (have := Nonempty.intro hr3)
    have cp := fun m => possible_f p k r v m hp hk hr hv
    have ca := fun m => after_f p k r v m hp hk hr hv
    have cr := fun m => price_f p k r v m hp hk hr hv
    unfold bestF at hbn
    cases hpo : possB p k v (p.rel.getD r default) <;> simp only [hpo] at cp
    · rw [hpo, if_neg (by decide)] at hbn
      (repeat' (first | refine swp_seq [0, 1, 2, 3, 4, 5, 10, 11, 12, 13, 14, 15, 16, 17, 22, 35, 47, 61] ?_ | refine st2 ?_ | (show CallQ ..; first | refine cQ (fun hcc => (by first | exact cp _)) ?_ | (refine lP ?_; refine lQ (fun hcc m => (by first | exact cp _)) ?_)) | (show Fct ..; refine fctI (fun hf => ?_)) | (show SWp _ _ _ (.cond _ _ _) _ _ _ _; first | refine cB (fun hc => ?_) (fun hc => ?_) | refine cU ?_ ?_)))
      rw [← hbn]
      (refine lN [0] ?_)
      exact ⟨_, by omega, r + 1, by omega, rfl, rfl, rfl⟩
    · rw [hpo, if_pos rfl] at hbn
      obtain ⟨j, hj, hjn⟩ := mem_getD (d := default) (hc r hr hpo)
      have hjc : j < (cstI f row).length := by omega
      have hgt := cstI_get f row hj
      have cf := fun m => find45_f row _ j m hl ha hj hjn
      have hfz := fun c => hf (aftI p k v (p.rel.getD r default)) c (hc r hr hpo)
      rw [hjn] at hgt
      have hs := fun i c => @bestU_some p k v f r i c
      generalize aftI p k v (p.rel.getD r default) = w at *
      have hcc : 0 ≤ costI p k v (p.rel.getD r default) ∧ costI p k v (p.rel.getD r default) ≤ 4398046511104000 := hcst.2.2.2
      clear hcst
      generalize costI p k v (p.rel.getD r default) = c at *
      generalize cstI f row = CS at *
      (have := Nonempty.intro hjc)
      have hs0 : ∀ i0 b0, bestU p k v f r = some (i0, b0) → 0 ≤ b0 ∧ b0 ≤ 1000000000000000000 := fun i0 b0 h => by
        obtain ⟨q1, q2, x0, q3, q4⟩ := hs i0 b0 h
        have q5 := hf _ x0 (hc i0 (by omega) q2) q3
        have q6 := (cost_in hp hk hv (by omega : i0 < p.rel.length)).2.2.2
        omega
      obtain ⟨stx, hstx⟩ : ∃ stx, bestU p k v f r = stx := ⟨_, rfl⟩
      rw [hstx] at hbn
      have hs0 := fun i0 b0 h => hs0 i0 b0 (hstx.trans h)
      rw [hstx]
      clear hstx hs
      cases hfw : f w with
      | none =>
        rw [hfw] at hbn hgt
        have hbn : bestU p k v f (r + 1) = stx := hbn
        have hgt : CS.getD j default = -1 := hgt
        have hneg : CS.getD j default < 0 := by omega
        (have := Nonempty.intro hneg)
        (repeat' (first | refine swp_seq [0, 1, 2, 3, 4, 5, 10, 11, 12, 13, 14, 15, 16, 17, 22, 35, 47, 61] ?_ | refine st2 ?_ | (show CallQ ..; first | refine cQ (fun hcc => (by first | exact cp _ | exact ca _ | exact cf _)) ?_ | (refine lP ?_; refine lQ (fun hcc m => (by first | exact cp _ | exact ca _ | exact cf _)) ?_)) | (show Fct ..; refine fctI (fun hf => ?_)) | (show SWp _ _ _ (.cond _ _ _) _ _ _ _; first | refine cB (fun hc => ?_) (fun hc => ?_) | refine cU ?_ ?_)))
        (refine lN [0] ?_)
        exact ⟨_, by omega, r + 1, by omega, rfl, by rw [hbn]; rfl, rfl⟩
      | some x =>
        rw [hfw] at hbn hgt
        have hgt : CS.getD j default = x := hgt
        have hx := hfz x hfw
        have hneg : ¬ CS.getD j default < 0 := by omega
        (have := Nonempty.intro hneg)
        cases stx with
        | none =>
          have hbn : bestU p k v f (r + 1) = some (r, c + CS.getD j default) := by rw [hbn, hgt]
          show SWp _ _ _ _ _ [_, _, _, _, _, (12, li (-1)), (13, li (-1)), _] _ _
          (repeat' (first | refine swp_seq [0, 1, 2, 3, 4, 5, 10, 11, 12, 13, 14, 15, 16, 17, 22, 35, 47, 61] ?_ | refine st2 ?_ | (show CallQ ..; first | refine cQ (fun hcc => (by first | exact cp _ | exact ca _ | exact cf _ | exact cr _)) ?_ | (refine lP ?_; refine lQ (fun hcc m => (by first | exact cp _ | exact ca _ | exact cf _ | exact cr _)) ?_)) | (show Fct ..; refine fctI (fun hf => ?_)) | (show SWp _ _ _ (.cond _ _ _) _ _ _ _; first | refine cB (fun hc => ?_) (fun hc => ?_) | refine cU ?_ ?_)))
          (refine lN [0] ?_)
          exact ⟨_, by omega, r + 1, by omega, rfl, by rw [hbn]; rfl, rfl⟩
        | some a =>
          obtain ⟨i0, b0⟩ := a
          have hb0 := hs0 i0 b0 rfl
          have hb1 : ¬ b0 < 0 := by omega
          (have := Nonempty.intro hb1)
          show SWp _ _ _ _ _ [_, _, _, _, _, (12, li b0), (13, li (p.rel.getD i0 default)), _] _ _
          by_cases hlt : c + CS.getD j default < b0
          · have hbn : bestU p k v f (r + 1) = some (r, c + CS.getD j default) := by rw [hbn]; dsimp only; rw [← hgt, if_pos hlt]
            (have := Nonempty.intro hlt)
            (repeat' (first | refine swp_seq [0, 1, 2, 3, 4, 5, 10, 11, 12, 13, 14, 15, 16, 17, 22, 35, 47, 61] ?_ | refine st2 ?_ | (show CallQ ..; first | refine cQ (fun hcc => (by first | exact cp _ | exact ca _ | exact cf _ | exact cr _)) ?_ | (refine lP ?_; refine lQ (fun hcc m => (by first | exact cp _ | exact ca _ | exact cf _ | exact cr _)) ?_)) | (show Fct ..; refine fctI (fun hf => ?_)) | (show SWp _ _ _ (.cond _ _ _) _ _ _ _; first | refine cB (fun hc => ?_) (fun hc => ?_) | refine cU ?_ ?_)))
            (refine lN [0] ?_)
            exact ⟨_, by omega, r + 1, by omega, rfl, by rw [hbn]; rfl, rfl⟩
          · have hbn : bestU p k v f (r + 1) = some (i0, b0) := by rw [hbn]; dsimp only; rw [← hgt, if_neg hlt]
            (have := Nonempty.intro hlt)
            (repeat' (first | refine swp_seq [0, 1, 2, 3, 4, 5, 10, 11, 12, 13, 14, 15, 16, 17, 22, 35, 47, 61] ?_ | refine st2 ?_ | (show CallQ ..; first | refine cQ (fun hcc => (by first | exact cp _ | exact ca _ | exact cf _ | exact cr _)) ?_ | (refine lP ?_; refine lQ (fun hcc m => (by first | exact cp _ | exact ca _ | exact cf _ | exact cr _)) ?_)) | (show Fct ..; refine fctI (fun hf => ?_)) | (show SWp _ _ _ (.cond _ _ _) _ _ _ _; first | refine cB (fun hc => ?_) (fun hc => ?_) | refine cU ?_ ?_)))
            (refine lN [0] ?_)
            exact ⟨_, by omega, r + 1, by omega, rfl, by rw [hbn]; rfl, rfl⟩
  obtain rfl : r = p.rel.length := by omega
  have hr3 : ¬ (p.rel.length : Int) < (p.rel.length : Int) := by omega
  (have := Nonempty.intro hr3)
  (repeat' (first | refine swp_seq [0, 1, 2, 3, 4, 5, 10, 11, 12, 13, 14, 15, 16, 17, 22, 35, 47, 61] ?_ | refine st2 ?_ | (show Fct ..; refine fctI (fun hf => ?_)) | (show SWp _ _ _ (.cond _ _ _) _ _ _ _; first | refine cB (fun hc => ?_) (fun hc => ?_) | refine cU ?_ ?_)))
  (refine DVQ ?_)
  rfl

end Go.Proofs.YtlailhdmgehniaaGreat
