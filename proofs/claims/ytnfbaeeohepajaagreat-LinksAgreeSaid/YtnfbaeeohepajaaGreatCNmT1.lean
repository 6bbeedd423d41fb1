/-
  Contracts of functions of the program, over the engine.
  No condition.
-/
import Derived.Test.YtnfbaeeohepajaaGreatCN0N1NBKSK1
namespace Go.Proofs.YtnfbaeeohepajaaGreat
open Go.Eng
set_option linter.all false
attribute [local irreducible] DCallsG SWp Fct CallQ XCallQ LCallQ XLCallQ drun xrun

abbrev u8 (c : Int) : DV := lv (.int .u8 c)
def isDig (c : Int) : Bool := decide (48 ≤ c) && decide (c ≤ 57)
def isLet (c : Int) : Bool := (decide (97 ≤ c) && decide (c ≤ 122)) || (decide (65 ≤ c) && decide (c ≤ 90))
def isWd (c : Int) : Bool := isLet c || isDig c || c == 95
abbrev bs (s : ByteArray) : List UInt8 := s.data.toList
def bAt (l : List UInt8) (i : Nat) : Int := ((l.getD i 0).toNat : Int)
def wdN (l : List UInt8) : Nat := (l.takeWhile fun b => isWd (b.toNat : Int)).length
def nameB (s : ByteArray) : Bool := decide (1 ≤ s.size) && decide (s.size ≤ 20) && isLet (bAt (bs s) 0) && decide (wdN (bs s) = s.size)
theorem digit_f (c : Int) (m : Nat) : DCalls Tryz.prog 195 [u8 c] (hget []) m (lb (isDig c)) (hget []) := by
  refine pureC (n := 9) (rs := [.tmp 2]) (ts := [4]) Tryz.func195 rfl (by decide) [] (by (exact SD)) ?_
  (repeat' (first | refine swp_seq [0, 2] ?_ | (first | refine rF (fun hf => ?_) | refine tN ?_ | refine swp_skip ?_ | refine swp_ret ?_ | refine swp_exit ?_ | refine swp_block ?_ | refine swp_scope ?_ | refine thenK_ret ?_ | refine thenK_exit ?_ | refine blockK_normal ?_ | refine blockK_ret ?_ | refine blockK_here ?_ | refine bX ?_ | refine scopeK_normal ?_ | refine scopeK_ret ?_ | refine scopeK_exit ?_ | refine loopK_ret ?_ | refine loopK_exit ?_ | refine dF mixed ?_ | (refine cB (fun hc => ?_) (fun hc => ?_) <;> first | exact False.elim hc | exact absurd hc Bool.false_ne_true | exact absurd hc.symm Bool.false_ne_true | skip) | refine cU ?_ ?_)))
  exact DVR
theorem rDigit_f (c : Int) (m : Nat) : DCalls Tryz.prog 183 [u8 c] (hget []) m (lb (isDig c)) (hget []) := by
  refine pureC (n := 9) (rs := [.tmp 2]) (ts := [4]) Tryz.func183 rfl (by decide) [] (by (exact SD)) ?_
  (repeat' (first | refine swp_seq [0, 2] ?_ | (first | refine rF (fun hf => ?_) | refine tN ?_ | refine swp_skip ?_ | refine swp_ret ?_ | refine swp_exit ?_ | refine swp_block ?_ | refine swp_scope ?_ | refine thenK_ret ?_ | refine thenK_exit ?_ | refine blockK_normal ?_ | refine blockK_ret ?_ | refine blockK_here ?_ | refine bX ?_ | refine scopeK_normal ?_ | refine scopeK_ret ?_ | refine scopeK_exit ?_ | refine loopK_ret ?_ | refine loopK_exit ?_ | refine dF mixed ?_ | (refine cB (fun hc => ?_) (fun hc => ?_) <;> first | exact False.elim hc | exact absurd hc Bool.false_ne_true | exact absurd hc.symm Bool.false_ne_true | skip) | refine cU ?_ ?_)))
  exact DVR
theorem letter_f (c : Int) (m : Nat) : DCalls Tryz.prog 174 [u8 c] (hget []) m (lb (isLet c)) (hget []) := by
  refine pureC (n := 17) (rs := [.tmp 2]) (ts := [4]) Tryz.func174 rfl (by decide) [] (by (exact SD)) ?_
  (repeat' (first | refine swp_seq [0, 2] ?_ | (first | refine rF (fun hf => ?_) | refine tN ?_ | refine swp_skip ?_ | refine swp_ret ?_ | refine swp_exit ?_ | refine swp_block ?_ | refine swp_scope ?_ | refine thenK_ret ?_ | refine thenK_exit ?_ | refine blockK_normal ?_ | refine blockK_ret ?_ | refine blockK_here ?_ | refine bX ?_ | refine scopeK_normal ?_ | refine scopeK_ret ?_ | refine scopeK_exit ?_ | refine loopK_ret ?_ | refine loopK_exit ?_ | refine dF mixed ?_ | (refine cB (fun hc => ?_) (fun hc => ?_) <;> first | exact False.elim hc | exact absurd hc Bool.false_ne_true | exact absurd hc.symm Bool.false_ne_true | skip) | refine cU ?_ ?_)))
  exact DVR
theorem rLetter_f (c : Int) (m : Nat) : DCalls Tryz.prog 152 [u8 c] (hget []) m (lb (isLet c)) (hget []) := by
  refine pureC (n := 17) (rs := [.tmp 2]) (ts := [4]) Tryz.func152 rfl (by decide) [] (by (exact SD)) ?_
  (repeat' (first | refine swp_seq [0, 2] ?_ | (first | refine rF (fun hf => ?_) | refine tN ?_ | refine swp_skip ?_ | refine swp_ret ?_ | refine swp_exit ?_ | refine swp_block ?_ | refine swp_scope ?_ | refine thenK_ret ?_ | refine thenK_exit ?_ | refine blockK_normal ?_ | refine blockK_ret ?_ | refine blockK_here ?_ | refine bX ?_ | refine scopeK_normal ?_ | refine scopeK_ret ?_ | refine scopeK_exit ?_ | refine loopK_ret ?_ | refine loopK_exit ?_ | refine dF mixed ?_ | (refine cB (fun hc => ?_) (fun hc => ?_) <;> first | exact False.elim hc | exact absurd hc Bool.false_ne_true | exact absurd hc.symm Bool.false_ne_true | skip) | refine cU ?_ ?_)))
  exact DVR
def volB (n : Int) : Bool := decide (0 ≤ n) && decide (n ≤ 1125899906842624)
theorem rVol_f (n : Int) (m : Nat) : DCalls Tryz.prog 80 [li n] (hget []) m (lb (volB n)) (hget []) := by
  refine pureC (n := 9) (rs := [.tmp 2]) (ts := [4]) Tryz.func80 rfl (by decide) [] (by (exact SD)) ?_
  (repeat' (first | refine swp_seq [0, 2] ?_ | (first | refine rF (fun hf => ?_) | refine tN ?_ | refine swp_skip ?_ | refine swp_ret ?_ | refine swp_exit ?_ | refine swp_block ?_ | refine swp_scope ?_ | refine thenK_ret ?_ | refine thenK_exit ?_ | refine blockK_normal ?_ | refine blockK_ret ?_ | refine blockK_here ?_ | refine bX ?_ | refine scopeK_normal ?_ | refine scopeK_ret ?_ | refine scopeK_exit ?_ | refine loopK_ret ?_ | refine loopK_exit ?_ | refine dF mixed ?_ | (refine cB (fun hc => ?_) (fun hc => ?_) <;> first | exact False.elim hc | exact absurd hc Bool.false_ne_true | exact absurd hc.symm Bool.false_ne_true | skip) | refine cU ?_ ?_)))
  exact DVR
theorem wdN_step {l : List UInt8} {i : Nat} (hi : i ≤ wdN l) : (i < l.length ∧ isWd (bAt l i) = true → i + 1 ≤ wdN l) ∧ (¬ (i < l.length ∧ isWd (bAt l i) = true) → i = wdN l) := by
  induction l generalizing i with
  | nil => simp [wdN] at *; omega
  | cons b l ih =>
    cases i with
    | zero =>
      by_cases hb : isWd (b.toNat : Int) = true
      · simp [wdN, bAt, hb]
      · simp [wdN, bAt, hb]
    | succ i =>
      by_cases hb : isWd (b.toNat : Int) = true
      · have e : wdN (b :: l) = wdN l + 1 := by simp [wdN, hb]
        rw [e] at hi ⊢
        have := ih (i := i) (by omega)
        have e2 : bAt (b :: l) (i + 1) = bAt l i := by simp [bAt]
        rw [e2]
        refine ⟨fun ⟨h1, h2⟩ => ?_, fun h => ?_⟩
        · have := this.1 ⟨by simpa using h1, h2⟩; omega
        · have := this.2 (fun ⟨h1, h2⟩ => h ⟨by simpa using h1, h2⟩); omega
      · have e : wdN (b :: l) = 0 := by simp [wdN, hb]
        omega
theorem wdN_le (l : List UInt8) : wdN l ≤ l.length := (List.takeWhile_sublist _).length_le
theorem bsz (s : ByteArray) : (bs s).length = s.size := by simp [bs]
set_option maxHeartbeats 1000000 in
theorem word_f (s : ByteArray) (m : Nat) (hs : s.size ≤ 281474976710656) : DCalls Tryz.prog 175 [ls s] (hget []) m (li (wdN (bs s))) (hget []) := by
  have hw := wdN_le (bs s)
  rw [bsz] at hw
  refine pureC (n := 29) (rs := [.tmp 2]) (ts := [3]) Tryz.func175 rfl (by decide) [] (by (exact SD)) ?_
  (repeat' (first | refine swp_seq [0, 2, 3, 25] ?_ | (first | refine rF (fun hf => ?_) | refine tN ?_ | refine swp_skip ?_ | refine swp_ret ?_ | refine swp_exit ?_ | refine swp_block ?_ | refine swp_scope ?_ | refine thenK_ret ?_ | refine thenK_exit ?_ | refine blockK_normal ?_ | refine blockK_ret ?_ | refine blockK_here ?_ | refine bX ?_ | refine scopeK_normal ?_ | refine scopeK_ret ?_ | refine scopeK_exit ?_ | refine loopK_ret ?_ | refine loopK_exit ?_ | refine dF mixed ?_ | (refine cB (fun hc => ?_) (fun hc => ?_) <;> first | exact False.elim hc | exact absurd hc Bool.false_ne_true | exact absurd hc.symm Bool.false_ne_true | skip) | refine cU ?_ ?_)))
  refine loop_swp [0, 3] [] 0 (fun k A H => ∃ i : Nat, i ≤ wdN (bs s) ∧ k = s.size - i ∧ A = [(0, ls s), (3, li i)] ∧ H = []) (by omega) ?_ ?_ ?_
  · rintro k A H ⟨i, h1, h2, rfl, rfl⟩
    exact ⟨by (exact SD), by (exact SD)⟩
  · refine ⟨_, 0, by omega, rfl, ?_, ?_⟩
    · exact DVR
    · exact DVR
  · rintro k A H ⟨i, h1, h2, rfl, rfl⟩
    have hst := wdN_step h1
    (repeat' (first | refine swp_seq [0, 2, 3, 25] ?_ | (first | refine rF (fun hf => ?_) | refine tN ?_ | refine swp_skip ?_ | refine swp_ret ?_ | refine swp_exit ?_ | refine swp_block ?_ | refine swp_scope ?_ | refine thenK_ret ?_ | refine thenK_exit ?_ | refine blockK_normal ?_ | refine blockK_ret ?_ | refine blockK_here ?_ | refine bX ?_ | refine scopeK_normal ?_ | refine scopeK_ret ?_ | refine scopeK_exit ?_ | refine loopK_ret ?_ | refine loopK_exit ?_ | refine dF mixed ?_ | (refine cB (fun hc => ?_) (fun hc => ?_) <;> first | exact False.elim hc | exact absurd hc Bool.false_ne_true | exact absurd hc.symm Bool.false_ne_true | skip) | refine cU ?_ ?_)))
    (refine rC (fun hf => ?_))
    (refine cA (letter_f _ _) (fun hf => ?_))
    (refine cA (digit_f _ _) (fun hf => ?_))
    (refine drun_end ?_)
    (repeat' (first | refine swp_seq [0, 2, 3, 25] ?_ | (first | refine rF (fun hf => ?_) | refine tN ?_ | refine swp_skip ?_ | refine swp_ret ?_ | refine swp_exit ?_ | refine swp_block ?_ | refine swp_scope ?_ | refine thenK_ret ?_ | refine thenK_exit ?_ | refine blockK_normal ?_ | refine blockK_ret ?_ | refine blockK_here ?_ | refine bX ?_ | refine scopeK_normal ?_ | refine scopeK_ret ?_ | refine scopeK_exit ?_ | refine loopK_ret ?_ | refine loopK_exit ?_ | refine dF mixed ?_ | (refine cB (fun hc => ?_) (fun hc => ?_) <;> first | exact False.elim hc | exact absurd hc Bool.false_ne_true | exact absurd hc.symm Bool.false_ne_true | skip) | refine cU ?_ ?_)))
    · (refine lN [] ?_)
      have h3 : i + 1 ≤ wdN (bs s) := hst.1 ⟨by rw [bsz]; omega, by unfold isWd bAt bs; grind⟩
      exact ⟨_, by omega, i + 1, h3, rfl, rfl, rfl⟩
    · (refine DVQ ?_)
      rw [hst.2 (by rw [bsz]; unfold isWd bAt bs; grind)]
set_option maxHeartbeats 1000000 in
theorem rWord_f (s : ByteArray) (m : Nat) (hs : s.size ≤ 281474976710656) : DCalls Tryz.prog 153 [ls s, li 0] (hget []) m (li (wdN (bs s))) (hget []) := by
  have hw := wdN_le (bs s)
  rw [bsz] at hw
  refine pureC (n := 30) (rs := [.tmp 4]) (ts := [3]) Tryz.func153 rfl (by decide) [] (by (exact SD)) ?_
  (repeat' (first | refine swp_seq [0, 1, 4, 26] ?_ | (first | refine rF (fun hf => ?_) | refine tN ?_ | refine swp_skip ?_ | refine swp_ret ?_ | refine swp_exit ?_ | refine swp_block ?_ | refine swp_scope ?_ | refine thenK_ret ?_ | refine thenK_exit ?_ | refine blockK_normal ?_ | refine blockK_ret ?_ | refine blockK_here ?_ | refine bX ?_ | refine scopeK_normal ?_ | refine scopeK_ret ?_ | refine scopeK_exit ?_ | refine loopK_ret ?_ | refine loopK_exit ?_ | refine dF mixed ?_ | (refine cB (fun hc => ?_) (fun hc => ?_) <;> first | exact False.elim hc | exact absurd hc Bool.false_ne_true | exact absurd hc.symm Bool.false_ne_true | skip) | refine cU ?_ ?_)))
  refine loop_swp [0, 1] [] 0 (fun k A H => ∃ i : Nat, i ≤ wdN (bs s) ∧ k = s.size - i ∧ A = [(0, ls s), (1, li i)] ∧ H = []) (by omega) ?_ ?_ ?_
  · rintro k A H ⟨i, h1, h2, rfl, rfl⟩
    exact ⟨by (exact SD), by (exact SD)⟩
  · refine ⟨_, 0, by omega, rfl, ?_, ?_⟩
    · exact DVR
    · exact DVR
  · rintro k A H ⟨i, h1, h2, rfl, rfl⟩
    have hst := wdN_step h1
    (repeat' (first | refine swp_seq [0, 1, 4, 26] ?_ | (first | refine rF (fun hf => ?_) | refine tN ?_ | refine swp_skip ?_ | refine swp_ret ?_ | refine swp_exit ?_ | refine swp_block ?_ | refine swp_scope ?_ | refine thenK_ret ?_ | refine thenK_exit ?_ | refine blockK_normal ?_ | refine blockK_ret ?_ | refine blockK_here ?_ | refine bX ?_ | refine scopeK_normal ?_ | refine scopeK_ret ?_ | refine scopeK_exit ?_ | refine loopK_ret ?_ | refine loopK_exit ?_ | refine dF mixed ?_ | (refine cB (fun hc => ?_) (fun hc => ?_) <;> first | exact False.elim hc | exact absurd hc Bool.false_ne_true | exact absurd hc.symm Bool.false_ne_true | skip) | refine cU ?_ ?_)))
    (refine rC (fun hf => ?_))
    (refine cA (rLetter_f _ _) (fun hf => ?_))
    (refine cA (rDigit_f _ _) (fun hf => ?_))
    (refine drun_end ?_)
    (repeat' (first | refine swp_seq [0, 1, 4, 26] ?_ | (first | refine rF (fun hf => ?_) | refine tN ?_ | refine swp_skip ?_ | refine swp_ret ?_ | refine swp_exit ?_ | refine swp_block ?_ | refine swp_scope ?_ | refine thenK_ret ?_ | refine thenK_exit ?_ | refine blockK_normal ?_ | refine blockK_ret ?_ | refine blockK_here ?_ | refine bX ?_ | refine scopeK_normal ?_ | refine scopeK_ret ?_ | refine scopeK_exit ?_ | refine loopK_ret ?_ | refine loopK_exit ?_ | refine dF mixed ?_ | (refine cB (fun hc => ?_) (fun hc => ?_) <;> first | exact False.elim hc | exact absurd hc Bool.false_ne_true | exact absurd hc.symm Bool.false_ne_true | skip) | refine cU ?_ ?_)))
    · (refine lN [] ?_)
      have h3 : i + 1 ≤ wdN (bs s) := hst.1 ⟨by rw [bsz]; omega, by unfold isWd bAt bs; grind⟩
      exact ⟨_, by omega, i + 1, h3, rfl, rfl, rfl⟩
    · (refine DVQ ?_)
      rw [hst.2 (by rw [bsz]; unfold isWd bAt bs; grind)]
theorem bEmpty (s : ByteArray) : decide (s = ByteArray.empty) = decide (s.size = 0) := by
  have : s = ByteArray.empty ↔ s.size = 0 := ⟨fun h => by subst h; rfl, fun h => by
    obtain ⟨d⟩ := s
    have : d = #[] := Array.eq_empty_of_size_eq_zero h
    rw [this]; rfl⟩
  exact decide_eq_decide.2 this
theorem bEmpty' (s : ByteArray) : decide (s = ⟨#[]⟩) = decide (s.size = 0) := bEmpty s
attribute [push_cast] bEmpty'
set_option maxHeartbeats 1000000 in
theorem name_f (s : ByteArray) (m : Nat) (hs : s.size ≤ 281474976710656) : DCalls Tryz.prog 131 [ls s] (hget []) m (lb (nameB s)) (hget []) := by
  refine pureC (n := 22) (rs := [.tmp 2]) (ts := [4]) Tryz.func131 rfl (by decide) [] (by (exact SD)) ?_
  (repeat' (first | refine swp_seq [0, 2] ?_ | (first | refine rF (fun hf => ?_) | refine tN ?_ | refine swp_skip ?_ | refine swp_ret ?_ | refine swp_exit ?_ | refine swp_block ?_ | refine swp_scope ?_ | refine thenK_ret ?_ | refine thenK_exit ?_ | refine blockK_normal ?_ | refine blockK_ret ?_ | refine blockK_here ?_ | refine bX ?_ | refine scopeK_normal ?_ | refine scopeK_ret ?_ | refine scopeK_exit ?_ | refine loopK_ret ?_ | refine loopK_exit ?_ | refine dF mixed ?_ | (refine cB (fun hc => ?_) (fun hc => ?_) <;> first | exact False.elim hc | exact absurd hc Bool.false_ne_true | exact absurd hc.symm Bool.false_ne_true | skip) | refine cU ?_ ?_)))
  (refine rC (fun hf => ?_))
  (refine cA (letter_f _ _) (fun hf => ?_))
  (refine cA (word_f _ _ hs) (fun hf => ?_))
  (refine drun_end ?_)
  (repeat' (first | refine swp_seq [0, 2] ?_ | (first | refine rF (fun hf => ?_) | refine tN ?_ | refine swp_skip ?_ | refine swp_ret ?_ | refine swp_exit ?_ | refine swp_block ?_ | refine swp_scope ?_ | refine thenK_ret ?_ | refine thenK_exit ?_ | refine blockK_normal ?_ | refine blockK_ret ?_ | refine blockK_here ?_ | refine bX ?_ | refine scopeK_normal ?_ | refine scopeK_ret ?_ | refine scopeK_exit ?_ | refine loopK_ret ?_ | refine loopK_exit ?_ | refine dF mixed ?_ | (refine cB (fun hc => ?_) (fun hc => ?_) <;> first | exact False.elim hc | exact absurd hc Bool.false_ne_true | exact absurd hc.symm Bool.false_ne_true | skip) | refine cU ?_ ?_)))
  (refine DVQ ?_)
  unfold nameB bAt bs
  congr 3
  grind
set_option maxHeartbeats 1000000 in
theorem rName_f (s : ByteArray) (m : Nat) (hs : s.size ≤ 281474976710656) : DCalls Tryz.prog 105 [ls s] (hget []) m (lb (nameB s)) (hget []) := by
  refine pureC (n := 22) (rs := [.tmp 2]) (ts := [4]) Tryz.func105 rfl (by decide) [] (by (exact SD)) ?_
  (repeat' (first | refine swp_seq [0, 2, 16] ?_ | (first | refine rF (fun hf => ?_) | refine tN ?_ | refine swp_skip ?_ | refine swp_ret ?_ | refine swp_exit ?_ | refine swp_block ?_ | refine swp_scope ?_ | refine thenK_ret ?_ | refine thenK_exit ?_ | refine blockK_normal ?_ | refine blockK_ret ?_ | refine blockK_here ?_ | refine bX ?_ | refine scopeK_normal ?_ | refine scopeK_ret ?_ | refine scopeK_exit ?_ | refine loopK_ret ?_ | refine loopK_exit ?_ | refine dF mixed ?_ | (refine cB (fun hc => ?_) (fun hc => ?_) <;> first | exact False.elim hc | exact absurd hc Bool.false_ne_true | exact absurd hc.symm Bool.false_ne_true | skip) | refine cU ?_ ?_)))
  (refine rC (fun hf => ?_))
  (refine cA (rLetter_f _ _) (fun hf => ?_))
  (refine drun_end ?_)
  (repeat' (first | refine swp_seq [0, 2, 16] ?_ | (first | refine rF (fun hf => ?_) | refine tN ?_ | refine swp_skip ?_ | refine swp_ret ?_ | refine swp_exit ?_ | refine swp_block ?_ | refine swp_scope ?_ | refine thenK_ret ?_ | refine thenK_exit ?_ | refine blockK_normal ?_ | refine blockK_ret ?_ | refine blockK_here ?_ | refine bX ?_ | refine scopeK_normal ?_ | refine scopeK_ret ?_ | refine scopeK_exit ?_ | refine loopK_ret ?_ | refine loopK_exit ?_ | refine dF mixed ?_ | (refine cB (fun hc => ?_) (fun hc => ?_) <;> first | exact False.elim hc | exact absurd hc Bool.false_ne_true | exact absurd hc.symm Bool.false_ne_true | skip) | refine cU ?_ ?_)))
  · (refine DVQ ?_)
    unfold nameB bAt bs
    congr 3
    grind
  · ((refine rC (fun hf => ?_); refine cA (rWord_f _ _ hs) (fun hf => ?_); refine drun_end ?_))
    (repeat' (first | refine swp_seq [0, 2, 16] ?_ | (first | refine rF (fun hf => ?_) | refine tN ?_ | refine swp_skip ?_ | refine swp_ret ?_ | refine swp_exit ?_ | refine swp_block ?_ | refine swp_scope ?_ | refine thenK_ret ?_ | refine thenK_exit ?_ | refine blockK_normal ?_ | refine blockK_ret ?_ | refine blockK_here ?_ | refine bX ?_ | refine scopeK_normal ?_ | refine scopeK_ret ?_ | refine scopeK_exit ?_ | refine loopK_ret ?_ | refine loopK_exit ?_ | refine dF mixed ?_ | (refine cB (fun hc => ?_) (fun hc => ?_) <;> first | exact False.elim hc | exact absurd hc Bool.false_ne_true | exact absurd hc.symm Bool.false_ne_true | skip) | refine cU ?_ ?_)))
    (refine DVQ ?_)
    unfold nameB bAt bs
    congr 3
    grind
theorem rall_true {n : Nat} {f : Nat → Bool} (h : ∀ i, i < n → f i = true) : (List.range n).all f = true := List.all_eq_true.2 fun i hi => h i (List.mem_range.1 hi)
theorem rall_false {n i : Nat} {f : Nat → Bool} (hi : i < n) (h : f i = false) : (List.range n).all f = false := by
  rw [List.all_eq_false]; exact ⟨i, List.mem_range.2 hi, by simp [h]⟩
def fitsB (n : Int) : Bool := decide (-1125899906842624 ≤ n) && decide (n ≤ 1125899906842624)
def tabR (t : List Knot) (i : Nat) : Bool := fitsB (t.getD i default).x && fitsB (t.getD i default).y && (decide (i = 0) || (decide ((t.getD (i - 1) default).x < (t.getD i default).x) && decide ((t.getD (i - 1) default).y ≤ (t.getD i default).y)))
def tabB (t : List Knot) : Bool := decide (1 ≤ t.length) && decide (t.length ≤ 100) && (List.range t.length).all (tabR t)
theorem fits_f (n : Int) (m : Nat) : DCalls Tryz.prog 178 [li n] (hget []) m (lb (fitsB n)) (hget []) := by
  refine pureC (n := 9) (rs := [.tmp 2]) (ts := [4]) Tryz.func178 rfl (by decide) [] (by (exact SD)) ?_
  (repeat' (first | refine swp_seq [0, 2] ?_ | refine st2 ?_ | (show Fct ..; refine fctI (fun hf => ?_)) | (show SWp _ _ _ (.cond _ _ _) _ _ _ _; first | refine cB (fun hc => ?_) (fun hc => ?_) | refine cU ?_ ?_)))
  exact DVR
theorem rNumber_f (n : Int) (m : Nat) : DCalls Tryz.prog 184 [li n] (hget []) m (lb (fitsB n)) (hget []) := by
  refine pureC (n := 9) (rs := [.tmp 2]) (ts := [4]) Tryz.func184 rfl (by decide) [] (by (exact SD)) ?_
  (repeat' (first | refine swp_seq [0, 2] ?_ | refine st2 ?_ | (show Fct ..; refine fctI (fun hf => ?_)) | (show SWp _ _ _ (.cond _ _ _) _ _ _ _; first | refine cB (fun hc => ?_) (fun hc => ?_) | refine cU ?_ ?_)))
  exact DVR
theorem callT {g : FuncId} {C : List Nat} {args : List DV} {h h' : Nat → Option HV} {m : Nat} {d : DV} (k : DCallsG Tryz.prog g C args h m d h' := by first | exact fits_f _ _ | exact rNumber_f _ _) : DCallsG Tryz.prog g C args h m d h' := k
set_option maxHeartbeats 1000000 in
theorem tab_f (t : List Knot) (m : Nat) (hl : t.length ≤ 281474976710656) : DCalls Tryz.prog 138 [knotL t] (hget []) m (lb (tabB t)) (hget []) := by
  refine pureC (n := 57) (rs := [.tmp 2]) (ts := [4]) Tryz.func138 rfl (by decide) [] (by (exact SD)) ?_
  (repeat' (first | refine swp_seq [0, 2, 3, 4, 12, 13, 14, 15, 16, 55] ?_ | refine st2 ?_ | (show Fct ..; refine fctI (fun hf => ?_)) | (show SWp _ _ _ (.cond _ _ _) _ _ _ _; first | refine cB (fun hc => ?_) (fun hc => ?_) | refine cU ?_ ?_)))
  · (refine DVQ ?_)
    refine lbC ?_
    unfold tabB
    rcases hc with h | h
    · rw [decide_eq_false (by omega)]; rfl
    · rw [decide_eq_false (p := t.length ≤ 100) (by omega)]; simp
  · refine loop_swp [0, 13, 14, 15] [] 0 (fun q A H => ∃ i : Nat, i ≤ t.length ∧ q = t.length - i ∧ (∀ j, j < i → tabR t j = true) ∧ A = [(0, knotL t), (13, knotL t), (14, li t.length), (15, li i)] ∧ H = []) (by omega) ?_ ?_ ?_
    · rintro q A H ⟨i, h1, h2, h3, rfl, rfl⟩
      exact ⟨by (exact SD), by (exact SD)⟩
    · refine ⟨_, 0, by omega, rfl, by omega, ?_, ?_⟩
      · exact DVR
      · exact DVR
    · rintro q A H ⟨i, h1, h2, h3, rfl, rfl⟩
      (repeat' (first | refine swp_seq [0, 2, 3, 4, 12, 13, 14, 15, 16, 55] ?_ | refine st2 ?_ | (show CallQ ..; first | refine cQ (fun hcc => callT) ?_ | (refine lP ?_; refine lQ (fun hcc m => callT) ?_)) | (show XCallQ ..; first | refine xQ (fun hcc => callT) ?_ | (refine xlP ?_; refine xlQ (fun hcc m => callT) ?_)) | (show Fct ..; refine fctI (fun hf => ?_)) | (show SWp _ _ _ (.cond _ _ _) _ _ _ _; first | refine cB (fun hc => ?_) (fun hc => ?_) | refine cU ?_ ?_)))
      · (refine DVQ ?_)
        refine lbC ?_
        rw [tabB, rall_false (i := i) (by omega) (by unfold tabR; grind)]; simp
      · (refine lN [] ?_)
        exact ⟨_, by omega, i + 1, by omega, rfl, fun j hj => by
          by_cases e : j = i
          · subst e; unfold tabR; grind
          · exact h3 j (by omega), rfl, rfl⟩
      · (refine DVQ ?_)
        refine lbC ?_
        rw [tabB, rall_true fun j hj => h3 j (by omega)]
        simp; omega
set_option maxHeartbeats 1000000 in
theorem rTab_f (t : List Knot) (m : Nat) (hl : t.length ≤ 281474976710656) : DCalls Tryz.prog 154 [knotL t] (hget []) m (lb (tabB t)) (hget []) := by
  refine pureC (n := 64) (rs := [.tmp 2]) (ts := [4]) Tryz.func154 rfl (by decide) [] (by (exact SD)) ?_
  (repeat' (first | refine swp_seq [0, 2, 3, 11, 15, 33, 63] ?_ | refine st2 ?_ | (show Fct ..; refine fctI (fun hf => ?_)) | (show SWp _ _ _ (.cond _ _ _) _ _ _ _; first | refine cB (fun hc => ?_) (fun hc => ?_) | refine cU ?_ ?_)))
  · (refine DVQ ?_)
    refine lbC ?_
    unfold tabB
    rcases hc with h | h
    · rw [decide_eq_false (by omega)]; rfl
    · rw [decide_eq_false (p := t.length ≤ 100) (by omega)]; simp
  · refine loop_swp [0, 3] [] 0 (fun q A H => ∃ i : Nat, i ≤ t.length ∧ q = t.length - i ∧ (∀ j, j < i → tabR t j = true) ∧ A = [(0, knotL t), (3, li i)] ∧ H = []) (by omega) ?_ ?_ ?_
    · rintro q A H ⟨i, h1, h2, h3, rfl, rfl⟩
      exact ⟨by (exact SD), by (exact SD)⟩
    · refine ⟨_, 0, by omega, rfl, by omega, ?_, ?_⟩
      · exact DVR
      · exact DVR
    · rintro q A H ⟨i, h1, h2, h3, rfl, rfl⟩
      (repeat' (first | refine swp_seq [0, 2, 3, 11, 15, 33, 63] ?_ | refine st2 ?_ | (show CallQ ..; first | refine cQ (fun hcc => callT) ?_ | (refine lP ?_; refine lQ (fun hcc m => callT) ?_)) | (show XCallQ ..; first | refine xQ (fun hcc => callT) ?_ | (refine xlP ?_; refine xlQ (fun hcc m => callT) ?_)) | (show Fct ..; refine fctI (fun hf => ?_)) | (show SWp _ _ _ (.cond _ _ _) _ _ _ _; first | refine cB (fun hc => ?_) (fun hc => ?_) | refine cU ?_ ?_)))
      · (refine DVQ ?_)
        refine lbC ?_
        rw [tabB, rall_false (i := i) (by omega) (by unfold tabR; grind)]; simp
      · (refine DVQ ?_)
        refine lbC ?_
        rw [tabB, rall_false (i := i) (by omega) (by unfold tabR; grind)]; simp
      · (refine lN [] ?_)
        exact ⟨_, by omega, i + 1, by omega, rfl, fun j hj => by
          by_cases e : j = i
          · subst e; unfold tabR; grind
          · exact h3 j (by omega), rfl, rfl⟩
      · (refine DVQ ?_)
        refine lbC ?_
        rw [tabB, rall_true fun j hj => h3 j (by omega)]
        simp; omega

end Go.Proofs.YtnfbaeeohepajaaGreat
