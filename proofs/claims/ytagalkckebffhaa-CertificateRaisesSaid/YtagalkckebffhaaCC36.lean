/-
  Contracts of functions of the program, over the engine.
  No condition.
-/
import Derived.Test.YtagalkckebffhaaCC33C34C35
import Derived.Test.YtagalkckebffhaaCC0KSK1
namespace Go.Proofs.Ytagalkckebffhaa
open Go.Eng
set_option linter.all false
attribute [local irreducible] DCallsG SWp Fct CallQ XCallQ LCallQ XLCallQ drun xrun

theorem toNat_dbl (k : Nat) : (2 * (k : Int)).toNat = 2 * k := by omega
theorem toNat_dbl1 (k : Nat) : (2 * (k : Int) + 1).toNat = 2 * k + 1 := by omega
attribute [push_cast] toNat_dbl toNat_dbl1
def atFrom (l : List Int) (v : Int) : Nat → Nat → Int × Bool
  | 0, _ => (0, false)
  | n + 1, j => if l.getD (2 * j) default = v then (l.getD (2 * j + 1) default, true) else atFrom l v n (j + 1)
def atR (l : List Int) (v : Int) : Int × Bool := atFrom l v (l.length / 2) 0
theorem atFrom_skip (l : List Int) (v : Int) : ∀ (k n j : Nat), k ≤ n → (∀ i, j ≤ i → i < j + k → ¬ l.getD (2 * i) default = v) → atFrom l v n j = atFrom l v (n - k) (j + k)
  | 0, _, _, _, _ => rfl
  | k + 1, 0, _, h, _ => by omega
  | k + 1, n + 1, j, h, hn => by
    rw [atFrom, if_neg (hn j (by omega) (by omega)), atFrom_skip l v k n (j + 1) (by omega) fun i h1 h2 => hn i (by omega) (by omega)]
    congr 1 <;> omega
theorem atR_hit {l : List Int} {v : Int} {j : Nat} (hj : j < l.length / 2) (h1 : ∀ i, i < j → ¬ l.getD (2 * i) default = v) (h2 : l.getD (2 * j) default = v) : atR l v = (l.getD (2 * j + 1) default, true) := by
  unfold atR
  rw [atFrom_skip l v j _ 0 (by omega) fun i _ h => h1 i (by omega), Nat.zero_add]
  obtain ⟨n, hn⟩ : ∃ n, l.length / 2 - j = n + 1 := ⟨l.length / 2 - j - 1, by omega⟩
  rw [hn, atFrom, if_pos h2]
theorem atR_none {l : List Int} {v : Int} (h1 : ∀ i, i < l.length / 2 → ¬ l.getD (2 * i) default = v) : atR l v = (0, false) := by
  unfold atR
  rw [atFrom_skip l v (l.length / 2) _ 0 (Nat.le_refl _) fun i _ h => h1 i (by omega), Nat.sub_self]
  rfl
set_option maxHeartbeats 4000000 in
theorem at_f (l : List Int) (v : Int) (m : Nat) (hl : l.length ≤ 281474976710656) (he : l.length % 2 = 0) : DCalls Try.prog 78 [ints l, li v] (hget []) m (.tup [li (atR l v).1, lb (atR l v).2]) (hget []) := by
  refine pureC (n := 24) (rs := [.tmp 4, .tmp 5]) (ts := [3, 4]) Try.func78 rfl (by decide) [] (by (exact SD)) ?_
  (repeat' (first | refine swp_seq [0, 1, 4, 5, 6, 10, 18] ?_ | refine st1 ?_ | (show Fct ..; refine fctI (fun hf => ?_)) | (show SWp _ _ _ (.cond _ _ _) _ _ _ _; first | (refine cB (fun hc => ?_) (fun hc => ?_) <;> first | exact False.elim hc | exact absurd hc Bool.false_ne_true | exact absurd hc.symm Bool.false_ne_true | skip) | refine cU ?_ ?_)))
  refine loop_swp [0, 1, 6] [] 0 (fun q A H => ∃ j k : Nat, k = 2 * j ∧ k ≤ l.length ∧ q = l.length - k ∧ (∀ i, i < j → ¬ l.getD (2 * i) default = v) ∧ A = [(0, ints l), (1, li v), (6, li k)] ∧ H = []) (by omega) ?_ ?_ ?_
  · rintro q A H ⟨j, k, hk, g1, g2, g3, rfl, rfl⟩
    exact ⟨by (exact SD), by (exact SD)⟩
  · refine ⟨_, 0, 0, rfl, by omega, rfl, by omega, ?_, ?_⟩
    · exact DVR
    · exact DVR
  rintro q A H ⟨j, k, hk, g1, g2, g3, rfl, rfl⟩
  by_cases hj : k < l.length
  · have hj3 : (k : Int) < (l.length : Int) := by omega
    (have := Nonempty.intro hj3)
    have hj5 : k + 1 < l.length := by omega
    (have := Nonempty.intro hj5)
    by_cases hv : l.getD k default = v
    · (have := Nonempty.intro hv)
      rw [atR_hit (by omega : j < l.length / 2) g3 (by rw [← hk]; exact hv), ← hk]
      (repeat' (first | refine swp_seq [0, 1, 4, 5, 6, 10, 18] ?_ | refine st1 ?_ | (show Fct ..; refine fctI (fun hf => ?_)) | (show SWp _ _ _ (.cond _ _ _) _ _ _ _; first | (refine cB (fun hc => ?_) (fun hc => ?_) <;> first | exact False.elim hc | exact absurd hc Bool.false_ne_true | exact absurd hc.symm Bool.false_ne_true | skip) | refine cU ?_ ?_)))
      exact DVR
    · (have := Nonempty.intro hv)
      (repeat' (first | refine swp_seq [0, 1, 4, 5, 6, 10, 18] ?_ | refine st1 ?_ | (show Fct ..; refine fctI (fun hf => ?_)) | (show SWp _ _ _ (.cond _ _ _) _ _ _ _; first | (refine cB (fun hc => ?_) (fun hc => ?_) <;> first | exact False.elim hc | exact absurd hc Bool.false_ne_true | exact absurd hc.symm Bool.false_ne_true | skip) | refine cU ?_ ?_)))
      (refine lN [] ?_)
      exact ⟨_, by omega, j + 1, k + 2, by omega, by omega, rfl, fun i hi => by
        by_cases e : i = j
        · subst e; rw [← hk]; exact hv
        · exact g3 i (by omega), rfl, rfl⟩
  have hj3 : ¬ ((k : Int) < (l.length : Int)) := by omega
  (have := Nonempty.intro hj3)
  rw [atR_none fun i hi => g3 i (by omega)]
  (repeat' (first | refine swp_seq [0, 1, 4, 5, 6, 10, 18] ?_ | refine st1 ?_ | (show Fct ..; refine fctI (fun hf => ?_)) | (show SWp _ _ _ (.cond _ _ _) _ _ _ _; first | (refine cB (fun hc => ?_) (fun hc => ?_) <;> first | exact False.elim hc | exact absurd hc Bool.false_ne_true | exact absurd hc.symm Bool.false_ne_true | skip) | refine cU ?_ ?_)))
  exact DVR
set_option maxHeartbeats 4000000 in
theorem find_f (l : List Int) (v : Int) (m : Nat) (hl : l.length ≤ 1048576) (he : l.length % 2 = 0) (hs : ∀ i j, i < j → j < l.length / 2 → l.getD (2 * i) default < l.getD (2 * j) default) : DCalls Try.prog 34 [ints l, li v] (hget []) m (.tup [li (atR l v).1, lb (atR l v).2]) (hget []) := by
  have e3 : IntKind.i64.wrap ((l.length : Int).tdiv 2) = ((l.length / 2 : Nat) : Int) := by
    rw [Int.tdiv_eq_ediv_of_nonneg (by omega), i64w (by omega)]; omega
  generalize hn : l.length / 2 = n at *
  refine pureC (n := 49) (rs := [.tmp 4, .tmp 5]) (ts := [3, 4]) Try.func34 rfl (by decide) [] (by (exact SD)) ?_
  (repeat' (first | refine swp_seq [0, 1, 4, 5, 6, 7, 8, 14, 25, 42] ?_ | refine st1 ?_ | (show Fct ..; refine fctI (fun hf => ?_)) | (show SWp _ _ _ (.cond _ _ _) _ _ _ _; first | (refine cB (fun hc => ?_) (fun hc => ?_) <;> first | exact False.elim hc | exact absurd hc Bool.false_ne_true | exact absurd hc.symm Bool.false_ne_true | skip) | refine cU ?_ ?_)))
  rw [e3]
  refine loop_swp [0, 1, 6, 7] [] 0 (fun q A H => ∃ a b : Nat, a ≤ b ∧ b ≤ n ∧ q = b - a ∧ (∀ i, i < a → l.getD (2 * i) default < v) ∧ (∀ i, b ≤ i → i < n → v ≤ l.getD (2 * i) default) ∧ A = [(0, ints l), (1, li v), (6, li a), (7, li b)] ∧ H = []) (by omega) ?_ ?_ ?_
  · rintro q A H ⟨a, b, g1, g2, g3, g4, g5, rfl, rfl⟩
    exact ⟨by (exact SD), by (exact SD)⟩
  · refine ⟨_, 0, n, by omega, by omega, rfl, by omega, by omega, ?_, ?_⟩
    · exact DVR
    · exact DVR
  rintro q A H ⟨a, b, g1, g2, g3, g4, g5, rfl, rfl⟩
  by_cases hab : a < b
  · have hab3 : (a : Int) < (b : Int) := by omega
    (have := Nonempty.intro hab3)
    have eM : IntKind.i64.wrap (((a : Int) + (b : Int)).tdiv 2) = (((a + b) / 2 : Nat) : Int) := by
      rw [Int.tdiv_eq_ediv_of_nonneg (by omega), i64w (by omega)]; omega
    have hM1 : a ≤ (a + b) / 2 ∧ (a + b) / 2 < b := by omega
    generalize (a + b) / 2 = M at *
    have hM2 : 2 * M < l.length := by omega
    (have := Nonempty.intro hM2)
    (repeat' (first | (show SWp _ _ _ (.seq (.region 4 _ _) _) _ _ _ _; refine (stop_in ?_)) | refine swp_seq [0, 1, 4, 5, 6, 7, 8, 14, 25, 42] ?_ | refine st1 ?_ | (show CallQ ..; first | refine cF ?_ | refine cQ (fun hcc => (by fail)) ?_ | (refine lP ?_; refine lQ (fun hcc m => (by fail)) ?_)) | (show Fct ..; refine fctI (fun hf => ?_)) | (show SWp _ _ _ (.cond _ _ _) _ _ _ _; first | (refine cB (fun hc => ?_) (fun hc => ?_) <;> first | exact False.elim hc | exact absurd hc Bool.false_ne_true | exact absurd hc.symm Bool.false_ne_true | skip) | refine cU ?_ ?_)))
    refine stop_out ?_
    rw [eM]
    by_cases hlt : l.getD (2 * M) default < v
    · (have := Nonempty.intro hlt)
      (repeat' (first | refine swp_seq [0, 1, 4, 5, 6, 7, 8, 14, 25, 42] ?_ | refine st1 ?_ | (show Fct ..; refine fctI (fun hf => ?_)) | (show SWp _ _ _ (.cond _ _ _) _ _ _ _; first | (refine cB (fun hc => ?_) (fun hc => ?_) <;> first | exact False.elim hc | exact absurd hc Bool.false_ne_true | exact absurd hc.symm Bool.false_ne_true | skip) | refine cU ?_ ?_)))
      (refine lN [] ?_)
      exact ⟨_, by omega, M + 1, b, by omega, by omega, rfl, fun i hi => by
        by_cases e : i = M
        · rw [e]; exact hlt
        · exact Int.lt_trans (hs i M (by omega) (by omega)) hlt, g5, rfl, rfl⟩
    · (have := Nonempty.intro hlt)
      (repeat' (first | refine swp_seq [0, 1, 4, 5, 6, 7, 8, 14, 25, 42] ?_ | refine st1 ?_ | (show Fct ..; refine fctI (fun hf => ?_)) | (show SWp _ _ _ (.cond _ _ _) _ _ _ _; first | (refine cB (fun hc => ?_) (fun hc => ?_) <;> first | exact False.elim hc | exact absurd hc Bool.false_ne_true | exact absurd hc.symm Bool.false_ne_true | skip) | refine cU ?_ ?_)))
      (refine lN [] ?_)
      exact ⟨_, by omega, a, M, by omega, by omega, rfl, g4, fun i h1 h2 => by
        by_cases e : i = M
        · rw [e]; omega
        · have := hs M i (by omega) (by omega)
          omega, rfl, rfl⟩
  have hab2 : b = a := by omega
  have hab3 : ¬ ((a : Int) < (b : Int)) := by omega
  (have := Nonempty.intro hab3)
  by_cases ha : 2 * a < l.length
  · have ha3 : 2 * (a : Int) < (l.length : Int) := by omega
    (have := Nonempty.intro ha3)
    (have := Nonempty.intro ha)
    have ha1 : 2 * a + 1 < l.length := by omega
    (have := Nonempty.intro ha1)
    by_cases hv : l.getD (2 * a) default = v
    · (have := Nonempty.intro hv)
      rw [atR_hit (by omega : a < l.length / 2) (fun i hi => by have := g4 i hi; omega) hv]
      (repeat' (first | refine swp_seq [0, 1, 4, 5, 6, 7, 8, 14, 25, 42] ?_ | refine st1 ?_ | (show Fct ..; refine fctI (fun hf => ?_)) | (show SWp _ _ _ (.cond _ _ _) _ _ _ _; first | (refine cB (fun hc => ?_) (fun hc => ?_) <;> first | exact False.elim hc | exact absurd hc Bool.false_ne_true | exact absurd hc.symm Bool.false_ne_true | skip) | refine cU ?_ ?_)))
      exact DVR
    · (have := Nonempty.intro hv)
      rw [atR_none fun i hi => by
        by_cases e1 : i < a
        · have := g4 i e1; omega
        · by_cases e2 : i = a
          · rw [e2]; exact hv
          · have q1 := g5 a (by omega) (by omega)
            have q2 := hs a i (by omega) (by omega)
            omega]
      (repeat' (first | refine swp_seq [0, 1, 4, 5, 6, 7, 8, 14, 25, 42] ?_ | refine st1 ?_ | (show Fct ..; refine fctI (fun hf => ?_)) | (show SWp _ _ _ (.cond _ _ _) _ _ _ _; first | (refine cB (fun hc => ?_) (fun hc => ?_) <;> first | exact False.elim hc | exact absurd hc Bool.false_ne_true | exact absurd hc.symm Bool.false_ne_true | skip) | refine cU ?_ ?_)))
      exact DVR
  · have ha3 : ¬ (2 * (a : Int) < (l.length : Int)) := by omega
    (have := Nonempty.intro ha3)
    rw [atR_none fun i hi => by have := g4 i (by omega); omega]
    (repeat' (first | refine swp_seq [0, 1, 4, 5, 6, 7, 8, 14, 25, 42] ?_ | refine st1 ?_ | (show Fct ..; refine fctI (fun hf => ?_)) | (show SWp _ _ _ (.cond _ _ _) _ _ _ _; first | (refine cB (fun hc => ?_) (fun hc => ?_) <;> first | exact False.elim hc | exact absurd hc Bool.false_ne_true | exact absurd hc.symm Bool.false_ne_true | skip) | refine cU ?_ ?_)))
    exact DVR

end Go.Proofs.Ytagalkckebffhaa
