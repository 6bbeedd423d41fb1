/-
  Contracts of functions of the program, over the engine.
  No condition.
-/
import Derived.Test.YtlailhdmgehniaaGreatCC0C1
namespace Go.Proofs.YtlailhdmgehniaaGreat
open Go.Eng
set_option linter.all false
attribute [local irreducible] DCallsG SWp Fct CallQ XCallQ LCallQ XLCallQ drun xrun
set_option maxHeartbeats 1000000 in
theorem idxInt_f (g : FuncId) (p : Int → Bool) (l : List (Int)) (m : Nat) (hl : l.length ≤ 281474976710656) (hg : ∀ x, x ∈ l → ∀ m, DCalls Tryz.prog g [li x] (hget []) m (lb (p x)) (hget [])) :
    DCalls Tryz.prog 67 [ints l, .clo g []] (hget []) m (li (idxI p l)) (hget []) := by
  refine pureC (n := 19) (rs := [.tmp 4]) (ts := [3]) Tryz.func67 rfl (by decide) [] (by (exact SD)) ?_
  (repeat' (first | refine swp_seq [0, 1, 4, 5, 7, 8, 9, 16] ?_ | refine st2 ?_ | (show Fct ..; refine fctI (fun hf => ?_)) | (show SWp _ _ _ (.cond _ _ _) _ _ _ _; first | refine cB (fun hc => ?_) (fun hc => ?_) | refine cU ?_ ?_)))
  refine loop_swp [0, 1, 7, 8] [] 0 (fun q A H => ∃ i : Nat, i ≤ l.length ∧ q = l.length - i ∧ (l.take i).any p = false ∧ A = [(0, ints l), (1, .clo g []), (7, li l.length), (8, li i)] ∧ H = []) (by omega) ?_ ?_ ?_
  · rintro q A H ⟨i, h1, h2, h3, rfl, rfl⟩
    exact ⟨by (exact SD), by (exact SD)⟩
  · refine ⟨_, 0, by omega, rfl, rfl, ?_, ?_⟩
    · exact DVR
    · exact DVR
  · rintro q A H ⟨i, h1, h2, h3, rfl, rfl⟩
    (repeat' (first | refine swp_seq [0, 1, 4, 5, 7, 8, 9, 16] ?_ | refine st2 ?_ | (show CallQ ..; first | refine cQ (fun hcc => (hg _ (getD_mem SC) _)) ?_ | (refine lP ?_; refine lQ (fun hcc m => (hg _ (getD_mem SC) _)) ?_)) | (show Fct ..; refine fctI (fun hf => ?_)) | (show SWp _ _ _ (.cond _ _ _) _ _ _ _; first | refine cB (fun hc => ?_) (fun hc => ?_) | refine cU ?_ ?_)))
    · (refine DVQ ?_)
      rw [idxI_hit h3 (by omega) (by assumption)]
    · (refine lN [] ?_)
      exact ⟨_, by omega, i + 1, by omega, rfl, any_step h3 (by omega) (by assumption), rfl, rfl⟩
    · (refine DVQ ?_)
      rw [List.take_of_length_le (by omega)] at h3
      rw [idxI_none h3]
theorem conInt_f (g : FuncId) (p : Int → Bool) (l : List (Int)) (m : Nat) (hl : l.length ≤ 281474976710656) (hg : ∀ x, x ∈ l → ∀ m, DCalls Tryz.prog g [li x] (hget []) m (lb (p x)) (hget [])) :
    DCalls Tryz.prog 45 [ints l, .clo g []] (hget []) m (lb (l.any p)) (hget []) := by
  refine pureC (n := 9) (rs := [.tmp 4]) (ts := [4]) Tryz.func45 rfl (by decide) [] (by (exact SD)) ?_
  (repeat' (first | refine swp_seq [0, 1, 4] ?_ | refine st2 ?_ | (show CallQ ..; first | refine cQ (fun hcc => (idxInt_f g p l _ hl hg)) ?_ | (refine lP ?_; refine lQ (fun hcc m => (idxInt_f g p l _ hl hg)) ?_)) | (show Fct ..; refine fctI (fun hf => ?_)) | (show SWp _ _ _ (.cond _ _ _) _ _ _ _; first | refine cB (fun hc => ?_) (fun hc => ?_) | refine cU ?_ ?_)))
  (refine DVQ ?_)
  rw [idxI_any]
set_option maxHeartbeats 1000000 in
theorem idxInts_f (g : FuncId) (p : List Int → Bool) (l : List (List Int)) (m : Nat) (hl : l.length ≤ 281474976710656) (hg : ∀ x, x ∈ l → ∀ m, DCalls Tryz.prog g [ints x] (hget []) m (lb (p x)) (hget [])) :
    DCalls Tryz.prog 59 [intss l, .clo g []] (hget []) m (li (idxI p l)) (hget []) := by
  refine pureC (n := 19) (rs := [.tmp 4]) (ts := [3]) Tryz.func59 rfl (by decide) [] (by (exact SD)) ?_
  (repeat' (first | refine swp_seq [0, 1, 4, 5, 7, 8, 9, 16] ?_ | refine st2 ?_ | (show Fct ..; refine fctI (fun hf => ?_)) | (show SWp _ _ _ (.cond _ _ _) _ _ _ _; first | refine cB (fun hc => ?_) (fun hc => ?_) | refine cU ?_ ?_)))
  refine loop_swp [0, 1, 7, 8] [] 0 (fun q A H => ∃ i : Nat, i ≤ l.length ∧ q = l.length - i ∧ (l.take i).any p = false ∧ A = [(0, intss l), (1, .clo g []), (7, li l.length), (8, li i)] ∧ H = []) (by omega) ?_ ?_ ?_
  · rintro q A H ⟨i, h1, h2, h3, rfl, rfl⟩
    exact ⟨by (exact SD), by (exact SD)⟩
  · refine ⟨_, 0, by omega, rfl, rfl, ?_, ?_⟩
    · exact DVR
    · exact DVR
  · rintro q A H ⟨i, h1, h2, h3, rfl, rfl⟩
    (repeat' (first | refine swp_seq [0, 1, 4, 5, 7, 8, 9, 16] ?_ | refine st2 ?_ | (show CallQ ..; first | refine cQ (fun hcc => (hg _ (getD_mem SC) _)) ?_ | (refine lP ?_; refine lQ (fun hcc m => (hg _ (getD_mem SC) _)) ?_)) | (show Fct ..; refine fctI (fun hf => ?_)) | (show SWp _ _ _ (.cond _ _ _) _ _ _ _; first | refine cB (fun hc => ?_) (fun hc => ?_) | refine cU ?_ ?_)))
    · (refine DVQ ?_)
      rw [idxI_hit h3 (by omega) (by assumption)]
    · (refine lN [] ?_)
      exact ⟨_, by omega, i + 1, by omega, rfl, any_step h3 (by omega) (by assumption), rfl, rfl⟩
    · (refine DVQ ?_)
      rw [List.take_of_length_le (by omega)] at h3
      rw [idxI_none h3]
theorem conInts_f (g : FuncId) (p : List Int → Bool) (l : List (List Int)) (m : Nat) (hl : l.length ≤ 281474976710656) (hg : ∀ x, x ∈ l → ∀ m, DCalls Tryz.prog g [ints x] (hget []) m (lb (p x)) (hget [])) :
    DCalls Tryz.prog 36 [intss l, .clo g []] (hget []) m (lb (l.any p)) (hget []) := by
  refine pureC (n := 9) (rs := [.tmp 4]) (ts := [4]) Tryz.func36 rfl (by decide) [] (by (exact SD)) ?_
  (repeat' (first | refine swp_seq [0, 1, 4] ?_ | refine st2 ?_ | (show CallQ ..; first | refine cQ (fun hcc => (idxInts_f g p l _ hl hg)) ?_ | (refine lP ?_; refine lQ (fun hcc m => (idxInts_f g p l _ hl hg)) ?_)) | (show Fct ..; refine fctI (fun hf => ?_)) | (show SWp _ _ _ (.cond _ _ _) _ _ _ _; first | refine cB (fun hc => ?_) (fun hc => ?_) | refine cU ?_ ?_)))
  (refine DVQ ?_)
  rw [idxI_any]
def bigB (r : List Int) : Bool := decide (8000 < r.length)
def fullB (l : List (List Int)) (k : Nat) : Bool := decide (k < l.length) || l.any bigB
def numB (n : Int) : Bool := decide (n < -1) || decide (1152921504606846976 < n)
def oddB (r : List Int) : Bool := decide (r.length % 2 = 1)
def badB (r : List Int) : Bool := oddB r || r.any numB
def rightE (l : List (List Int)) : Int := if fullB l 201 = true then 4 else if l.any badB = true then 1 else 0
def rowsOk (l : List (List Int)) : Prop := l.length ≤ 281474976710656 ∧ ∀ r, r ∈ l → intsOk r
theorem rows_len {l : List (List Int)} (h : rowsOk l) {i : Nat} (hi : i < l.length) : (l.getD i default).length ≤ 281474976710656 := (h.2 _ (getD_mem hi)).1
theorem long_f (r : List Int) (m : Nat) (hr : r.length ≤ 281474976710656) : DCalls Tryz.prog 60 [ints r] (hget []) m (lb (bigB r)) (hget []) := by
  refine pureC (n := 6) (rs := [.tmp 2]) (ts := [4]) Tryz.func60 rfl (by decide) [] (by (exact SD)) ?_
  (repeat' (first | refine swp_seq [0, 2] ?_ | refine st2 ?_ | (show Fct ..; refine fctI (fun hf => ?_)) | (show SWp _ _ _ (.cond _ _ _) _ _ _ _; first | refine cB (fun hc => ?_) (fun hc => ?_) | refine cU ?_ ?_)))
  (refine DVQ ?_)
  refine lbC ?_
  unfold bigB; grind
theorem rfull_f (l : List (List Int)) (k : Nat) (m : Nat) (hl : rowsOk l) : DCalls Tryz.prog 64 [intss l, li k] (hget []) m (lb (fullB l k)) (hget []) := by
  have h1 := hl.1
  by_cases h0 : (k : Int) < (l.length : Int)
  · (have := Nonempty.intro h0)
    refine pureC (n := 22) (rs := [.tmp 4]) (ts := [4]) Tryz.func64 rfl (by decide) [] (by (exact SD)) ?_
    (repeat' (first | refine swp_seq [0, 1, 4, 5, 9, 13, 21] ?_ | refine st2 ?_ | (show Fct ..; refine fctI (fun hf => ?_)) | (show SWp _ _ _ (.cond _ _ _) _ _ _ _; first | refine cB (fun hc => ?_) (fun hc => ?_) | refine cU ?_ ?_)))
    (refine DVQ ?_)
    refine lbC ?_
    unfold fullB; simp; omega
  (have := Nonempty.intro h0)
  refine pureC (n := 22) (rs := [.tmp 4]) (ts := [4]) Tryz.func64 rfl (by decide) [] (by (exact SD)) ?_
  (repeat' (first | refine swp_seq [0, 1, 4, 5, 9, 13, 21] ?_ | refine st2 ?_ | (show Fct ..; refine fctI (fun hf => ?_)) | (show SWp _ _ _ (.cond _ _ _) _ _ _ _; first | refine cB (fun hc => ?_) (fun hc => ?_) | refine cU ?_ ?_)))
  refine loop_swp [0, 5] [] 0 (fun q A H => ∃ i : Nat, i ≤ l.length ∧ q = l.length - i ∧ (l.take i).any bigB = false ∧ A = [(0, intss l), (5, li i)] ∧ H = []) (by omega) ?_ ?_ ?_
  · rintro q A H ⟨i, g1, g2, g3, rfl, rfl⟩
    exact ⟨by (exact SD), by (exact SD)⟩
  · refine ⟨_, 0, by omega, rfl, rfl, ?_, ?_⟩
    · exact DVR
    · exact DVR
  rintro q A H ⟨i, g1, g2, g3, rfl, rfl⟩
  by_cases hi : i < l.length
  · have hr := rows_len hl hi
    by_cases hb : 8000 < ((l.getD i default).length : Int)
    · (have := Nonempty.intro hb)
      (repeat' (first | refine swp_seq [0, 1, 4, 5, 9, 13, 21] ?_ | refine st2 ?_ | (show Fct ..; refine fctI (fun hf => ?_)) | (show SWp _ _ _ (.cond _ _ _) _ _ _ _; first | refine cB (fun hc => ?_) (fun hc => ?_) | refine cU ?_ ?_)))
      · (refine DVQ ?_)
        refine lbC ?_
        have : l.any bigB = true := List.any_eq_true.2 ⟨_, getD_mem hi, by unfold bigB; exact decide_eq_true (by omega)⟩
        unfold fullB; rw [this]; simp
      · omega
    · (have := Nonempty.intro hb)
      (repeat' (first | refine swp_seq [0, 1, 4, 5, 9, 13, 21] ?_ | refine st2 ?_ | (show Fct ..; refine fctI (fun hf => ?_)) | (show SWp _ _ _ (.cond _ _ _) _ _ _ _; first | refine cB (fun hc => ?_) (fun hc => ?_) | refine cU ?_ ?_)))
      · (refine lN [] ?_)
        exact ⟨_, by omega, i + 1, by omega, rfl, any_step g3 hi (by unfold bigB; exact decide_eq_false (by omega)), rfl, rfl⟩
      · omega
  have hi2 : i = l.length := by omega
  subst hi2
  rw [List.take_length] at g3
  (repeat' (first | refine swp_seq [0, 1, 4, 5, 9, 13, 21] ?_ | refine st2 ?_ | (show Fct ..; refine fctI (fun hf => ?_)) | (show SWp _ _ _ (.cond _ _ _) _ _ _ _; first | refine cB (fun hc => ?_) (fun hc => ?_) | refine cU ?_ ?_)))
  · omega
  (refine DVQ ?_)
  refine lbC ?_
  unfold fullB; rw [g3]; simp; omega
def shortB (l : List (List Int)) : Bool := (decide (l.length ≤ 12) || (decide (201 < l.length) && decide (l.length ≤ 211))) && !(l.any fun x => (decide (200 < x.length) && decide (x.length ≤ 8000)) || decide (8010 < x.length))
theorem short1_f (r : List Int) (m : Nat) (hr : r.length ≤ 281474976710656) : DCalls Tryz.prog 37 [ints r] (hget []) m (lb ((decide (200 < r.length) && decide (r.length ≤ 8000)) || decide (8010 < r.length))) (hget []) := by
  refine pureC (n := 16) (rs := [.tmp 2]) (ts := [4]) Tryz.func37 rfl (by decide) [] (by (exact SD)) ?_
  (repeat' (first | refine swp_seq [0, 2] ?_ | refine st2 ?_ | (show Fct ..; refine fctI (fun hf => ?_)) | (show SWp _ _ _ (.cond _ _ _) _ _ _ _; first | refine cB (fun hc => ?_) (fun hc => ?_) | refine cU ?_ ?_)))
  (refine DVQ ?_)
  refine lbC ?_
  grind
theorem short_f (l : List (List Int)) (m : Nat) (hl : rowsOk l) : DCalls Tryz.prog 16 [intss l] (hget []) m (lb (shortB l)) (hget []) := by
  have h1 := hl.1
  refine pureC (n := 21) (rs := [.tmp 2]) (ts := [4]) Tryz.func16 rfl (by decide) [] (by (exact SD)) ?_
  (repeat' (first | refine swp_seq [0, 2] ?_ | refine st2 ?_ | (show CallQ ..; first | refine cQ (fun hcc => (conInts_f _ (fun x => (decide (200 < x.length) && decide (x.length ≤ 8000)) || decide (8010 < x.length)) l _ h1 (fun x hx m => short1_f x m (hl.2 x hx).1))) ?_ | (refine lP ?_; refine lQ (fun hcc m => (conInts_f _ (fun x => (decide (200 < x.length) && decide (x.length ≤ 8000)) || decide (8010 < x.length)) l _ h1 (fun x hx m => short1_f x m (hl.2 x hx).1))) ?_)) | (show Fct ..; refine fctI (fun hf => ?_)) | (show SWp _ _ _ (.cond _ _ _) _ _ _ _; first | refine cB (fun hc => ?_) (fun hc => ?_) | refine cU ?_ ?_)))
  (refine DVQ ?_)
  refine lbC ?_
  unfold shortB; grind
theorem take_snoc {α : Type} [Inhabited α] {l : List α} {i : Nat} (h : i < l.length) : l.take (i + 1) = l.take i ++ [l.getD i default] := by
  rw [List.take_succ_eq_append_getElem h]
  simp [List.getD_eq_getElem?_getD, List.getElem?_eq_getElem h]
theorem flat_snoc {α β : Type} [Inhabited α] (f : α → List β) (l : List α) {i : Nat} (h : i < l.length) : (l.take (i + 1)).flatMap f = (l.take i).flatMap f ++ f (l.getD i default) := by
  rw [take_snoc h]; simp
abbrev nums (r : List Int) : List UInt8 := r.flatMap fun n => beBytes 8 (un64 n)
def encRow (r : List Int) : List UInt8 := beBytes 2 (un64 ((r.length : Int) / 2)) ++ nums r
def encHead (l : List (List Int)) : List UInt8 := [82, 67, 1] ++ beBytes 2 (un64 (l.length : Int))
def encBody (l : List (List Int)) : List UInt8 := encHead l ++ l.flatMap encRow
def encAll (l : List (List Int)) : List UInt8 := encBody l ++ beBytes 4 (un64 (sumN (encBody l) : Nat))
def sizeI (l : List (List Int)) (i : Nat) : Nat := 9 + ((l.take i).map fun r => 2 + 8 * r.length).sum
theorem nums_len (r : List Int) : (nums r).length = 8 * r.length := by
  induction r with
  | nil => rfl
  | cons a r ih => simp only [nums, List.flatMap_cons, List.length_append, beBytes_length, List.length_cons] at *; omega
theorem encRow_len (r : List Int) : (encRow r).length = 2 + 8 * r.length := by
  unfold encRow; rw [List.length_append, beBytes_length, nums_len]
theorem sizeI_next (l : List (List Int)) {i : Nat} (h : i < l.length) : sizeI l (i + 1) = sizeI l i + (2 + 8 * (l.getD i default).length) := by
  unfold sizeI
  rw [take_snoc h]; simp; omega
theorem part_len (l : List (List Int)) : ∀ i, (encHead l ++ (l.take i).flatMap encRow).length + 4 = sizeI l i := fun i => by
  have : ∀ k : List (List Int), (k.flatMap encRow).length = (k.map fun r => 2 + 8 * r.length).sum := fun k => by
    induction k with
    | nil => rfl
    | cons a k ih => simp [encRow_len, ih]
  simp [encHead, beBytes_length, this, sizeI]; omega
theorem sizeI_le {l : List (List Int)} (h : ∀ i, i < l.length → (l.getD i default).length ≤ 8000) : ∀ i, i ≤ l.length → sizeI l i ≤ 9 + 64002 * i
  | 0, _ => by simp [sizeI]
  | i + 1, hi => by
    have := sizeI_le h i (by omega)
    have := h i (by omega)
    rw [sizeI_next l (by omega)]; omega
theorem encBody_len (l : List (List Int)) : (encBody l).length + 4 = sizeI l l.length := by
  have := part_len l l.length
  rwa [List.take_length] at this
theorem encAll_len (l : List (List Int)) : (encAll l).length = sizeI l l.length := by
  have := encBody_len l
  simp [encAll, beBytes_length]; omega
theorem full_row {l : List (List Int)} {k : Nat} (h : fullB l k = false) {i : Nat} (hi : i < l.length) : l.length ≤ k ∧ (l.getD i default).length ≤ 8000 := by
  unfold fullB at h
  simp only [Bool.or_eq_false_iff, decide_eq_false_iff_not, List.any_eq_false] at h
  have := h.2 _ (getD_mem hi)
  have h8 : ¬ 8000 < (l.getD i default).length := fun q => this (decide_eq_true q)
  omega
def encR (l : List (List Int)) : List UInt8 × Int := if rightE l ≠ 0 then ([], rightE l) else if 1048576 < sizeI l l.length then ([], 5) else (encAll l, 0)
def evM (x y : List Int) : Bool := (List.range (x.length / 2)).any fun j => decide (¬ x.getD (2 * j) default = y.getD (2 * j) default)
def wkP (x y : Int) : Bool := decide (y = -1) || (!decide (x = -1) && decide (x ≤ y))
def evW (x y : List Int) : Bool := (List.range (x.length / 2)).all fun j => wkP (x.getD (2 * j + 1) default) (y.getD (2 * j + 1) default)
def sizesB (a b : List (List Int)) : Bool := decide (a.length = b.length) && (List.range a.length).all fun i => decide ((a.getD i default).length = (b.getD i default).length)
def weakR (a b : List (List Int)) : Bool × Int :=
  if (fullB a 201 || fullB b 201) = true then (false, 4)
  else if sizesB a b = false then (false, 3)
  else if a.any oddB = true then (false, 1)
  else if ((List.range a.length).any fun i => evM (a.getD i default) (b.getD i default)) = true then (false, 25)
  else ((List.range a.length).all fun i => evW (a.getD i default) (b.getD i default), 0)
theorem idx_nz1 {α : Type} [Inhabited α] (f : α → List PV) (l : List α) (k : Nat) [h : Nonempty (k + 1 < l.length)] : idx (l.map f) ((k : Int) + 1) = f (l.getD (k + 1) default) := by
  have := idx_nat f l (k + 1) (h.elim id)
  push_cast at this
  exact this
attribute [push_cast] idx_nz1
theorem all_next (f : Nat → Bool) (i : Nat) : (List.range (i + 1)).all f = ((List.range i).all f && f i) := by simp [List.range_succ]
theorem any_next (f : Nat → Bool) (i : Nat) : (List.range (i + 1)).any f = ((List.range i).any f || f i) := by simp [List.range_succ]
theorem tmod2 (n : Nat) : ((n : Int).tmod 2 = 0) ↔ ¬ n % 2 = 1 := by rw [Int.tmod_eq_emod_of_nonneg (by omega)]; omega
theorem eqf_f (g : FuncId) (p : List Int → List Int → Bool) (a b : List (List Int)) (m : Nat) (ha : rowsOk a) (hb : rowsOk b) (hg : ∀ x y m, x.length ≤ 281474976710656 → y.length ≤ 281474976710656 → DCalls Tryz.prog g [ints x, ints y] (hget []) m (lb (p x y)) (hget [])) :
    DCalls Tryz.prog 12 [intss a, intss b, .clo g []] (hget []) m (lb (decide (a.length = b.length) && (List.range a.length).all fun i => p (a.getD i default) (b.getD i default))) (hget []) := by
  have h1 := ha.1
  have h2 := hb.1
  by_cases hn : (a.length : Int) = (b.length : Int)
  · (have := Nonempty.intro hn)
    have hn2 : a.length = b.length := by omega
    rw [decide_eq_true hn2, Bool.true_and]
    refine pureC (n := 32) (rs := [.tmp 6]) (ts := [4]) Tryz.func12 rfl (by decide) [] (by (exact SD)) ?_
    (repeat' (first | refine swp_seq [0, 1, 2, 6, 7, 8, 9, 14, 15, 16, 17, 18, 30] ?_ | refine st2 ?_ | (show Fct ..; refine fctI (fun hf => ?_)) | (show SWp _ _ _ (.cond _ _ _) _ _ _ _; first | refine cB (fun hc => ?_) (fun hc => ?_) | refine cU ?_ ?_)))
    refine loop_swp [1, 2, 15, 16, 17] [] 0 (fun q A H => ∃ i : Nat, i ≤ a.length ∧ q = a.length - i ∧ ((List.range i).all fun i => p (a.getD i default) (b.getD i default)) = true ∧ A = [(1, intss b), (2, .clo g []), (15, intss a), (16, li a.length), (17, li i)] ∧ H = []) (by omega) ?_ ?_ ?_
    · rintro q A H ⟨i, g1, g2, g3, rfl, rfl⟩
      exact ⟨by (exact SD), by (exact SD)⟩
    · refine ⟨_, 0, by omega, rfl, rfl, ?_, ?_⟩
      · exact DVR
      · exact DVR
    rintro q A H ⟨i, g1, g2, g3, rfl, rfl⟩
    by_cases hi : i < a.length
    · have hi3 : (i : Int) < (a.length : Int) := by omega
      (have := Nonempty.intro hi3)
      have hi4 : i < b.length := by omega
      (have := Nonempty.intro hi)
      (have := Nonempty.intro hi4)
      have cg := fun m => hg (a.getD i default) (b.getD i default) m (rows_len ha hi) (rows_len hb hi4)
      cases hp : p (a.getD i default) (b.getD i default) <;> simp only [hp] at cg
      · (repeat' (first | refine swp_seq [0, 1, 2, 6, 7, 8, 9, 14, 15, 16, 17, 18, 30] ?_ | refine st2 ?_ | (show CallQ ..; first | refine cQ (fun hcc => (cg _)) ?_ | (refine lP ?_; refine lQ (fun hcc m => (cg _)) ?_)) | (show Fct ..; refine fctI (fun hf => ?_)) | (show SWp _ _ _ (.cond _ _ _) _ _ _ _; first | refine cB (fun hc => ?_) (fun hc => ?_) | refine cU ?_ ?_)))
        (refine DVQ ?_)
        refine lbC (Eq.symm ?_)
        rw [List.all_eq_false]
        exact ⟨i, List.mem_range.2 hi, by rw [hp]; decide⟩
      · (repeat' (first | refine swp_seq [0, 1, 2, 6, 7, 8, 9, 14, 15, 16, 17, 18, 30] ?_ | refine st2 ?_ | (show CallQ ..; first | refine cQ (fun hcc => (cg _)) ?_ | (refine lP ?_; refine lQ (fun hcc m => (cg _)) ?_)) | (show Fct ..; refine fctI (fun hf => ?_)) | (show SWp _ _ _ (.cond _ _ _) _ _ _ _; first | refine cB (fun hc => ?_) (fun hc => ?_) | refine cU ?_ ?_)))
        (refine lN [] ?_)
        exact ⟨_, by omega, i + 1, by omega, rfl, by rw [all_next, g3, hp]; rfl, rfl, rfl⟩
    have hi2 : i = a.length := by omega
    have hi3 : ¬ ((i : Int) < (a.length : Int)) := by omega
    (have := Nonempty.intro hi3)
    rw [hi2] at g3
    (repeat' (first | refine swp_seq [0, 1, 2, 6, 7, 8, 9, 14, 15, 16, 17, 18, 30] ?_ | refine st2 ?_ | (show Fct ..; refine fctI (fun hf => ?_)) | (show SWp _ _ _ (.cond _ _ _) _ _ _ _; first | refine cB (fun hc => ?_) (fun hc => ?_) | refine cU ?_ ?_)))
    (refine DVQ ?_)
    rw [g3]
  · (have := Nonempty.intro hn)
    have hn2 : ¬ a.length = b.length := by omega
    rw [decide_eq_false hn2, Bool.false_and]
    refine pureC (n := 32) (rs := [.tmp 6]) (ts := [4]) Tryz.func12 rfl (by decide) [] (by (exact SD)) ?_
    (repeat' (first | refine swp_seq [0, 1, 2, 6, 7, 8, 9, 14, 15, 16, 17, 18, 30] ?_ | refine st2 ?_ | (show Fct ..; refine fctI (fun hf => ?_)) | (show SWp _ _ _ (.cond _ _ _) _ _ _ _; first | refine cB (fun hc => ?_) (fun hc => ?_) | refine cU ?_ ?_)))
    exact DVR

end Go.Proofs.YtlailhdmgehniaaGreat
