/-
  Contracts of functions of the program, over the engine.
  No condition.
-/
import Derived.Test.YthacnhidipeckaaGreatCN0
namespace Go.Proofs.YthacnhidipeckaaGreat
open Go.Eng
set_option linter.all false
attribute [local irreducible] DCallsG SWp Fct CallQ XCallQ LCallQ XLCallQ drun xrun
structure Sect where
  name : ByteArray
  height : Int
  price : Int
  area : List Knot
  conv : List Knot
instance : Inhabited Sect := ⟨⟨default, default, default, default, default⟩⟩
theorem sect_ext {x y : Sect} (h : x.name = y.name ∧ x.height = y.height ∧ x.price = y.price ∧ x.area = y.area ∧ x.conv = y.conv) : x = y := by
  cases x; cases y; simp_all
instance : DecidableEq Sect := fun x y => decidable_of_iff (x.name = y.name ∧ x.height = y.height ∧ x.price = y.price ∧ x.area = y.area ∧ x.conv = y.conv) ⟨sect_ext, fun h => by subst h; simp⟩
def sectP (x : Sect) : List PV := [.lit (.string x.name), .lit (.int .i64 x.height), .lit (.int .i64 x.price), .dat 2 (x.area.map knotP), .dat 2 (x.conv.map knotP)]
def sectC (x : Sect) : List DV := [.p (.lit (.string x.name)), .p (.lit (.int .i64 x.height)), .p (.lit (.int .i64 x.price)), .p (.dat 2 (x.area.map knotP)), .p (.dat 2 (x.conv.map knotP))]
abbrev sectD (x : Sect) : DV := .agg (sectC x)
abbrev sectL (l : List Sect) : DV := .p (.dat 5 (l.map sectP))
theorem sectP_map (x : Sect) : (sectP x).map DV.p = sectC x := rfl
theorem sectP_len (x : Sect) : (sectP x).length = 5 := rfl
theorem sectC_len (x : Sect) : (sectC x).length = 5 := rfl
theorem sectP_take (x : Sect) : (sectP x).take 5 = sectP x := rfl
theorem sectC_take (x : Sect) : (sectC x).take 5 = sectC x := rfl
theorem sectC_all (x : Sect) : (sectC x).all DV.cellB = true := rfl
theorem sectP_d0 (x : Sect) : (sectP x).getD 0 default = .lit (.string x.name) := rfl
theorem sectC_d0 (x : Sect) : (sectC x)[0]? = some (.p (.lit (.string x.name))) := rfl
theorem sectP_s0 (x : Sect) : (sectP x).take 1 = [.lit (.string x.name)] := rfl
theorem sectC_s0 (x : Sect) : (sectC x).take 1 = [.p (.lit (.string x.name))] := rfl
theorem sectP_d1 (x : Sect) : (sectP x).getD 1 default = .lit (.int .i64 x.height) := rfl
theorem sectC_d1 (x : Sect) : (sectC x)[1]? = some (.p (.lit (.int .i64 x.height))) := rfl
theorem sectP_s1 (x : Sect) : ((sectP x).drop 1).take 1 = [.lit (.int .i64 x.height)] := rfl
theorem sectC_s1 (x : Sect) : ((sectC x).drop 1).take 1 = [.p (.lit (.int .i64 x.height))] := rfl
theorem sectP_d2 (x : Sect) : (sectP x).getD 2 default = .lit (.int .i64 x.price) := rfl
theorem sectC_d2 (x : Sect) : (sectC x)[2]? = some (.p (.lit (.int .i64 x.price))) := rfl
theorem sectP_s2 (x : Sect) : ((sectP x).drop 2).take 1 = [.lit (.int .i64 x.price)] := rfl
theorem sectC_s2 (x : Sect) : ((sectC x).drop 2).take 1 = [.p (.lit (.int .i64 x.price))] := rfl
theorem sectP_d3 (x : Sect) : (sectP x).getD 3 default = .dat 2 (x.area.map knotP) := rfl
theorem sectC_d3 (x : Sect) : (sectC x)[3]? = some (.p (.dat 2 (x.area.map knotP))) := rfl
theorem sectP_s3 (x : Sect) : ((sectP x).drop 3).take 1 = [.dat 2 (x.area.map knotP)] := rfl
theorem sectC_s3 (x : Sect) : ((sectC x).drop 3).take 1 = [.p (.dat 2 (x.area.map knotP))] := rfl
theorem sectP_d4 (x : Sect) : (sectP x).getD 4 default = .dat 2 (x.conv.map knotP) := rfl
theorem sectC_d4 (x : Sect) : (sectC x)[4]? = some (.p (.dat 2 (x.conv.map knotP))) := rfl
theorem sectP_s4 (x : Sect) : ((sectP x).drop 4).take 1 = [.dat 2 (x.conv.map knotP)] := rfl
theorem sectC_s4 (x : Sect) : ((sectC x).drop 4).take 1 = [.p (.dat 2 (x.conv.map knotP))] := rfl
theorem sectC_ren (o n : Nat) (x : Sect) : DV.renL o n (sectC x) = sectC x := rfl
theorem sectC_frz (o : Nat) (v : FV) (x : Sect) : DV.frzL o v (sectC x) = sectC x := rfl
theorem sectC_mp (r : Nat → Nat) (x : Sect) : DV.mpL r (sectC x) = sectC x := rfl
theorem sectC_uses (U : Nat → Prop) (x : Sect) : DV.usesL U (sectC x) = True := by simp [sectC, DV.usesL, DV.uses]
attribute [push_cast] sectP_map sectP_len sectC_len sectP_take sectC_take sectC_all sectP_d0 sectC_d0 sectP_s0 sectC_s0 sectP_d1 sectC_d1 sectP_s1 sectC_s1 sectP_d2 sectC_d2 sectP_s2 sectC_s2 sectP_d3 sectC_d3 sectP_s3 sectC_s3 sectP_d4 sectC_d4 sectP_s4 sectC_s4 sectC_ren sectC_frz sectC_mp sectC_uses
def sectOk (x : Sect) : Prop := x.name.size ≤ 281474976710656 ∧ i64ok x.height ∧ i64ok x.price ∧ (x.area.length ≤ 281474976710656 ∧ ∀ y, y ∈ x.area → knotOk y) ∧ (x.conv.length ≤ 281474976710656 ∧ ∀ y, y ∈ x.conv → knotOk y)
structure Span where
  lo : Int
  hi : Int
instance : Inhabited Span := ⟨⟨default, default⟩⟩
theorem span_ext {x y : Span} (h : x.lo = y.lo ∧ x.hi = y.hi) : x = y := by
  cases x; cases y; simp_all
instance : DecidableEq Span := fun x y => decidable_of_iff (x.lo = y.lo ∧ x.hi = y.hi) ⟨span_ext, fun h => by subst h; simp⟩
structure Frac where
  num : Int
  den : Int
instance : Inhabited Frac := ⟨⟨default, default⟩⟩
theorem frac_ext {x y : Frac} (h : x.num = y.num ∧ x.den = y.den) : x = y := by
  cases x; cases y; simp_all
instance : DecidableEq Frac := fun x y => decidable_of_iff (x.num = y.num ∧ x.den = y.den) ⟨frac_ext, fun h => by subst h; simp⟩
abbrev nilS : DV := .p (.lit (.slice none 0 0))
abbrev boL (l : List Bool) : HV := .lst 4 1 (rows boRow l)
abbrev inLt (l : List Int) : HV := .lst 3 1 (rows inRow l)
def cmpI (a x : Int) : Int := if a < x then -1 else if x < a then 1 else 0
theorem cmp_f (k : Knot) (x : Int) (m : Nat) : DCalls Tryz.prog 293 [knotD k, li x] (hget []) m (li (cmpI k.x x)) (hget []) := by
  unfold cmpI
  by_cases h1 : k.x < x
  · (have := Nonempty.intro h1)
    rw [if_pos h1]
    refine pureC (n := 15) (rs := [.tmp 4]) (ts := [3]) Tryz.func293 rfl (by decide) [] (by (exact SD)) ?_
    (repeat' (first | refine swp_seq [0, 1, 2, 4, 5, 10] ?_ | refine st2 ?_ | (show Fct ..; refine fctI (fun hf => ?_)) | (show SWp _ _ _ (.cond _ _ _) _ _ _ _; first | refine cB (fun hc => ?_) (fun hc => ?_) | refine cU ?_ ?_)))
    exact DVR
  · (have := Nonempty.intro h1)
    rw [if_neg h1]
    by_cases h2 : x < k.x
    · (have := Nonempty.intro h2)
      rw [if_pos h2]
      refine pureC (n := 15) (rs := [.tmp 4]) (ts := [3]) Tryz.func293 rfl (by decide) [] (by (exact SD)) ?_
      (repeat' (first | refine swp_seq [0, 1, 2, 4, 5, 10] ?_ | refine st2 ?_ | (show Fct ..; refine fctI (fun hf => ?_)) | (show SWp _ _ _ (.cond _ _ _) _ _ _ _; first | refine cB (fun hc => ?_) (fun hc => ?_) | refine cU ?_ ?_)))
      exact DVR
    · (have := Nonempty.intro h2)
      rw [if_neg h2]
      refine pureC (n := 15) (rs := [.tmp 4]) (ts := [3]) Tryz.func293 rfl (by decide) [] (by (exact SD)) ?_
      (repeat' (first | refine swp_seq [0, 1, 2, 4, 5, 10] ?_ | refine st2 ?_ | (show Fct ..; refine fctI (fun hf => ?_)) | (show SWp _ _ _ (.cond _ _ _) _ _ _ _; first | refine cB (fun hc => ?_) (fun hc => ?_) | refine cU ?_ ?_)))
      exact DVR
abbrev u8 (c : Int) : DV := lv (.int .u8 c)
def isDig (c : Int) : Bool := decide (48 ≤ c) && decide (c ≤ 57)
def isLet (c : Int) : Bool := (decide (97 ≤ c) && decide (c ≤ 122)) || (decide (65 ≤ c) && decide (c ≤ 90))
def isWd (c : Int) : Bool := isLet c || isDig c || c == 95
abbrev bs (s : ByteArray) : List UInt8 := s.data.toList
def bAt (l : List UInt8) (i : Nat) : Int := ((l.getD i 0).toNat : Int)
def wdN (l : List UInt8) : Nat := (l.takeWhile fun b => isWd (b.toNat : Int)).length
def nameB (s : ByteArray) : Bool := decide (1 ≤ s.size) && decide (s.size ≤ 20) && isLet (bAt (bs s) 0) && decide (wdN (bs s) = s.size)
theorem digit_f (c : Int) (m : Nat) : DCalls Tryz.prog 238 [u8 c] (hget []) m (lb (isDig c)) (hget []) := by
  refine pureC (n := 9) (rs := [.tmp 2]) (ts := [4]) Tryz.func238 rfl (by decide) [] (by (exact SD)) ?_
  (repeat' (first | refine swp_seq [0, 2] ?_ | (first | refine rF (fun hf => ?_) | refine tN ?_ | refine swp_skip ?_ | refine swp_ret ?_ | refine swp_exit ?_ | refine swp_block ?_ | refine swp_scope ?_ | refine thenK_ret ?_ | refine thenK_exit ?_ | refine blockK_normal ?_ | refine blockK_ret ?_ | refine blockK_here ?_ | refine bX ?_ | refine scopeK_normal ?_ | refine scopeK_ret ?_ | refine scopeK_exit ?_ | refine loopK_ret ?_ | refine loopK_exit ?_ | refine dF mixed ?_ | (refine cB (fun hc => ?_) (fun hc => ?_) <;> first | exact False.elim hc | exact absurd hc Bool.false_ne_true | exact absurd hc.symm Bool.false_ne_true | skip) | refine cU ?_ ?_)))
  exact DVR
theorem rDigit_f (c : Int) (m : Nat) : DCalls Tryz.prog 203 [u8 c] (hget []) m (lb (isDig c)) (hget []) := by
  refine pureC (n := 9) (rs := [.tmp 2]) (ts := [4]) Tryz.func203 rfl (by decide) [] (by (exact SD)) ?_
  (repeat' (first | refine swp_seq [0, 2] ?_ | (first | refine rF (fun hf => ?_) | refine tN ?_ | refine swp_skip ?_ | refine swp_ret ?_ | refine swp_exit ?_ | refine swp_block ?_ | refine swp_scope ?_ | refine thenK_ret ?_ | refine thenK_exit ?_ | refine blockK_normal ?_ | refine blockK_ret ?_ | refine blockK_here ?_ | refine bX ?_ | refine scopeK_normal ?_ | refine scopeK_ret ?_ | refine scopeK_exit ?_ | refine loopK_ret ?_ | refine loopK_exit ?_ | refine dF mixed ?_ | (refine cB (fun hc => ?_) (fun hc => ?_) <;> first | exact False.elim hc | exact absurd hc Bool.false_ne_true | exact absurd hc.symm Bool.false_ne_true | skip) | refine cU ?_ ?_)))
  exact DVR
theorem letter_f (c : Int) (m : Nat) : DCalls Tryz.prog 216 [u8 c] (hget []) m (lb (isLet c)) (hget []) := by
  refine pureC (n := 17) (rs := [.tmp 2]) (ts := [4]) Tryz.func216 rfl (by decide) [] (by (exact SD)) ?_
  (repeat' (first | refine swp_seq [0, 2] ?_ | (first | refine rF (fun hf => ?_) | refine tN ?_ | refine swp_skip ?_ | refine swp_ret ?_ | refine swp_exit ?_ | refine swp_block ?_ | refine swp_scope ?_ | refine thenK_ret ?_ | refine thenK_exit ?_ | refine blockK_normal ?_ | refine blockK_ret ?_ | refine blockK_here ?_ | refine bX ?_ | refine scopeK_normal ?_ | refine scopeK_ret ?_ | refine scopeK_exit ?_ | refine loopK_ret ?_ | refine loopK_exit ?_ | refine dF mixed ?_ | (refine cB (fun hc => ?_) (fun hc => ?_) <;> first | exact False.elim hc | exact absurd hc Bool.false_ne_true | exact absurd hc.symm Bool.false_ne_true | skip) | refine cU ?_ ?_)))
  exact DVR
theorem rLetter_f (c : Int) (m : Nat) : DCalls Tryz.prog 169 [u8 c] (hget []) m (lb (isLet c)) (hget []) := by
  refine pureC (n := 17) (rs := [.tmp 2]) (ts := [4]) Tryz.func169 rfl (by decide) [] (by (exact SD)) ?_
  (repeat' (first | refine swp_seq [0, 2] ?_ | (first | refine rF (fun hf => ?_) | refine tN ?_ | refine swp_skip ?_ | refine swp_ret ?_ | refine swp_exit ?_ | refine swp_block ?_ | refine swp_scope ?_ | refine thenK_ret ?_ | refine thenK_exit ?_ | refine blockK_normal ?_ | refine blockK_ret ?_ | refine blockK_here ?_ | refine bX ?_ | refine scopeK_normal ?_ | refine scopeK_ret ?_ | refine scopeK_exit ?_ | refine loopK_ret ?_ | refine loopK_exit ?_ | refine dF mixed ?_ | (refine cB (fun hc => ?_) (fun hc => ?_) <;> first | exact False.elim hc | exact absurd hc Bool.false_ne_true | exact absurd hc.symm Bool.false_ne_true | skip) | refine cU ?_ ?_)))
  exact DVR
def volB (n : Int) : Bool := decide (0 ≤ n) && decide (n ≤ 1125899906842624)
theorem wdN_step {l : List UInt8} {i : Nat} (hi : i ≤ wdN l) : (i < l.length ∧ isWd (bAt l i) = true → i + 1 ≤ wdN l) ∧ (¬ (i < l.length ∧ isWd (bAt l i) = true) → i = wdN l) := by
  induction l generalizing i with
  | nil => simp [wdN] at *; omega
  | cons b l ih =>
    cases i with
    | zero =>
      by_cases hb : isWd (b.toNat : Int) = true
      · simp [wdN, bAt, hb]
      · simp [wdN, bAt, hb]
    | succ i =>
      by_cases hb : isWd (b.toNat : Int) = true
      · have e : wdN (b :: l) = wdN l + 1 := by simp [wdN, hb]
        rw [e] at hi ⊢
        have := ih (i := i) (by omega)
        have e2 : bAt (b :: l) (i + 1) = bAt l i := by simp [bAt]
        rw [e2]
        refine ⟨fun ⟨h1, h2⟩ => ?_, fun h => ?_⟩
        · have := this.1 ⟨by simpa using h1, h2⟩; omega
        · have := this.2 (fun ⟨h1, h2⟩ => h ⟨by simpa using h1, h2⟩); omega
      · have e : wdN (b :: l) = 0 := by simp [wdN, hb]
        omega
theorem wdN_le (l : List UInt8) : wdN l ≤ l.length := (List.takeWhile_sublist _).length_le
theorem bsz (s : ByteArray) : (bs s).length = s.size := by simp [bs]
set_option maxHeartbeats 1000000 in
theorem word_f (s : ByteArray) (m : Nat) (hs : s.size ≤ 281474976710656) : DCalls Tryz.prog 217 [ls s] (hget []) m (li (wdN (bs s))) (hget []) := by
  have hw := wdN_le (bs s)
  rw [bsz] at hw
  refine pureC (n := 29) (rs := [.tmp 2]) (ts := [3]) Tryz.func217 rfl (by decide) [] (by (exact SD)) ?_
  (repeat' (first | refine swp_seq [0, 2, 3, 25] ?_ | (first | refine rF (fun hf => ?_) | refine tN ?_ | refine swp_skip ?_ | refine swp_ret ?_ | refine swp_exit ?_ | refine swp_block ?_ | refine swp_scope ?_ | refine thenK_ret ?_ | refine thenK_exit ?_ | refine blockK_normal ?_ | refine blockK_ret ?_ | refine blockK_here ?_ | refine bX ?_ | refine scopeK_normal ?_ | refine scopeK_ret ?_ | refine scopeK_exit ?_ | refine loopK_ret ?_ | refine loopK_exit ?_ | refine dF mixed ?_ | (refine cB (fun hc => ?_) (fun hc => ?_) <;> first | exact False.elim hc | exact absurd hc Bool.false_ne_true | exact absurd hc.symm Bool.false_ne_true | skip) | refine cU ?_ ?_)))
  refine loop_swp [0, 3] [] 0 (fun k A H => ∃ i : Nat, i ≤ wdN (bs s) ∧ k = s.size - i ∧ A = [(0, ls s), (3, li i)] ∧ H = []) (by omega) ?_ ?_ ?_
  · rintro k A H ⟨i, h1, h2, rfl, rfl⟩
    exact ⟨by (exact SD), by (exact SD)⟩
  · refine ⟨_, 0, by omega, rfl, ?_, ?_⟩
    · exact DVR
    · exact DVR
  · rintro k A H ⟨i, h1, h2, rfl, rfl⟩
    have hst := wdN_step h1
    (repeat' (first | refine swp_seq [0, 2, 3, 25] ?_ | (first | refine rF (fun hf => ?_) | refine tN ?_ | refine swp_skip ?_ | refine swp_ret ?_ | refine swp_exit ?_ | refine swp_block ?_ | refine swp_scope ?_ | refine thenK_ret ?_ | refine thenK_exit ?_ | refine blockK_normal ?_ | refine blockK_ret ?_ | refine blockK_here ?_ | refine bX ?_ | refine scopeK_normal ?_ | refine scopeK_ret ?_ | refine scopeK_exit ?_ | refine loopK_ret ?_ | refine loopK_exit ?_ | refine dF mixed ?_ | (refine cB (fun hc => ?_) (fun hc => ?_) <;> first | exact False.elim hc | exact absurd hc Bool.false_ne_true | exact absurd hc.symm Bool.false_ne_true | skip) | refine cU ?_ ?_)))
    (refine rC (fun hf => ?_))
    (refine cA (letter_f _ _) (fun hf => ?_))
    (refine cA (digit_f _ _) (fun hf => ?_))
    (refine drun_end ?_)
    (repeat' (first | refine swp_seq [0, 2, 3, 25] ?_ | (first | refine rF (fun hf => ?_) | refine tN ?_ | refine swp_skip ?_ | refine swp_ret ?_ | refine swp_exit ?_ | refine swp_block ?_ | refine swp_scope ?_ | refine thenK_ret ?_ | refine thenK_exit ?_ | refine blockK_normal ?_ | refine blockK_ret ?_ | refine blockK_here ?_ | refine bX ?_ | refine scopeK_normal ?_ | refine scopeK_ret ?_ | refine scopeK_exit ?_ | refine loopK_ret ?_ | refine loopK_exit ?_ | refine dF mixed ?_ | (refine cB (fun hc => ?_) (fun hc => ?_) <;> first | exact False.elim hc | exact absurd hc Bool.false_ne_true | exact absurd hc.symm Bool.false_ne_true | skip) | refine cU ?_ ?_)))
    · (refine lN [] ?_)
      have h3 : i + 1 ≤ wdN (bs s) := hst.1 ⟨by rw [bsz]; omega, by unfold isWd bAt bs; grind⟩
      exact ⟨_, by omega, i + 1, h3, rfl, rfl, rfl⟩
    · (refine DVQ ?_)
      rw [hst.2 (by rw [bsz]; unfold isWd bAt bs; grind)]
set_option maxHeartbeats 1000000 in
theorem rWord_f (s : ByteArray) (m : Nat) (hs : s.size ≤ 281474976710656) : DCalls Tryz.prog 170 [ls s, li 0] (hget []) m (li (wdN (bs s))) (hget []) := by
  have hw := wdN_le (bs s)
  rw [bsz] at hw
  refine pureC (n := 30) (rs := [.tmp 4]) (ts := [3]) Tryz.func170 rfl (by decide) [] (by (exact SD)) ?_
  (repeat' (first | refine swp_seq [0, 1, 4, 26] ?_ | (first | refine rF (fun hf => ?_) | refine tN ?_ | refine swp_skip ?_ | refine swp_ret ?_ | refine swp_exit ?_ | refine swp_block ?_ | refine swp_scope ?_ | refine thenK_ret ?_ | refine thenK_exit ?_ | refine blockK_normal ?_ | refine blockK_ret ?_ | refine blockK_here ?_ | refine bX ?_ | refine scopeK_normal ?_ | refine scopeK_ret ?_ | refine scopeK_exit ?_ | refine loopK_ret ?_ | refine loopK_exit ?_ | refine dF mixed ?_ | (refine cB (fun hc => ?_) (fun hc => ?_) <;> first | exact False.elim hc | exact absurd hc Bool.false_ne_true | exact absurd hc.symm Bool.false_ne_true | skip) | refine cU ?_ ?_)))
  refine loop_swp [0, 1] [] 0 (fun k A H => ∃ i : Nat, i ≤ wdN (bs s) ∧ k = s.size - i ∧ A = [(0, ls s), (1, li i)] ∧ H = []) (by omega) ?_ ?_ ?_
  · rintro k A H ⟨i, h1, h2, rfl, rfl⟩
    exact ⟨by (exact SD), by (exact SD)⟩
  · refine ⟨_, 0, by omega, rfl, ?_, ?_⟩
    · exact DVR
    · exact DVR
  · rintro k A H ⟨i, h1, h2, rfl, rfl⟩
    have hst := wdN_step h1
    (repeat' (first | refine swp_seq [0, 1, 4, 26] ?_ | (first | refine rF (fun hf => ?_) | refine tN ?_ | refine swp_skip ?_ | refine swp_ret ?_ | refine swp_exit ?_ | refine swp_block ?_ | refine swp_scope ?_ | refine thenK_ret ?_ | refine thenK_exit ?_ | refine blockK_normal ?_ | refine blockK_ret ?_ | refine blockK_here ?_ | refine bX ?_ | refine scopeK_normal ?_ | refine scopeK_ret ?_ | refine scopeK_exit ?_ | refine loopK_ret ?_ | refine loopK_exit ?_ | refine dF mixed ?_ | (refine cB (fun hc => ?_) (fun hc => ?_) <;> first | exact False.elim hc | exact absurd hc Bool.false_ne_true | exact absurd hc.symm Bool.false_ne_true | skip) | refine cU ?_ ?_)))
    (refine rC (fun hf => ?_))
    (refine cA (rLetter_f _ _) (fun hf => ?_))
    (refine cA (rDigit_f _ _) (fun hf => ?_))
    (refine drun_end ?_)
    (repeat' (first | refine swp_seq [0, 1, 4, 26] ?_ | (first | refine rF (fun hf => ?_) | refine tN ?_ | refine swp_skip ?_ | refine swp_ret ?_ | refine swp_exit ?_ | refine swp_block ?_ | refine swp_scope ?_ | refine thenK_ret ?_ | refine thenK_exit ?_ | refine blockK_normal ?_ | refine blockK_ret ?_ | refine blockK_here ?_ | refine bX ?_ | refine scopeK_normal ?_ | refine scopeK_ret ?_ | refine scopeK_exit ?_ | refine loopK_ret ?_ | refine loopK_exit ?_ | refine dF mixed ?_ | (refine cB (fun hc => ?_) (fun hc => ?_) <;> first | exact False.elim hc | exact absurd hc Bool.false_ne_true | exact absurd hc.symm Bool.false_ne_true | skip) | refine cU ?_ ?_)))
    · (refine lN [] ?_)
      have h3 : i + 1 ≤ wdN (bs s) := hst.1 ⟨by rw [bsz]; omega, by unfold isWd bAt bs; grind⟩
      exact ⟨_, by omega, i + 1, h3, rfl, rfl, rfl⟩
    · (refine DVQ ?_)
      rw [hst.2 (by rw [bsz]; unfold isWd bAt bs; grind)]
theorem bEmpty (s : ByteArray) : decide (s = ByteArray.empty) = decide (s.size = 0) := by
  have : s = ByteArray.empty ↔ s.size = 0 := ⟨fun h => by subst h; rfl, fun h => by
    obtain ⟨d⟩ := s
    have : d = #[] := Array.eq_empty_of_size_eq_zero h
    rw [this]; rfl⟩
  exact decide_eq_decide.2 this
theorem bEmpty' (s : ByteArray) : decide (s = ⟨#[]⟩) = decide (s.size = 0) := bEmpty s
attribute [push_cast] bEmpty'
set_option maxHeartbeats 1000000 in
theorem name_f (s : ByteArray) (m : Nat) (hs : s.size ≤ 281474976710656) : DCalls Tryz.prog 178 [ls s] (hget []) m (lb (nameB s)) (hget []) := by
  refine pureC (n := 22) (rs := [.tmp 2]) (ts := [4]) Tryz.func178 rfl (by decide) [] (by (exact SD)) ?_
  (repeat' (first | refine swp_seq [0, 2] ?_ | (first | refine rF (fun hf => ?_) | refine tN ?_ | refine swp_skip ?_ | refine swp_ret ?_ | refine swp_exit ?_ | refine swp_block ?_ | refine swp_scope ?_ | refine thenK_ret ?_ | refine thenK_exit ?_ | refine blockK_normal ?_ | refine blockK_ret ?_ | refine blockK_here ?_ | refine bX ?_ | refine scopeK_normal ?_ | refine scopeK_ret ?_ | refine scopeK_exit ?_ | refine loopK_ret ?_ | refine loopK_exit ?_ | refine dF mixed ?_ | (refine cB (fun hc => ?_) (fun hc => ?_) <;> first | exact False.elim hc | exact absurd hc Bool.false_ne_true | exact absurd hc.symm Bool.false_ne_true | skip) | refine cU ?_ ?_)))
  (refine rC (fun hf => ?_))
  (refine cA (letter_f _ _) (fun hf => ?_))
  (refine cA (word_f _ _ hs) (fun hf => ?_))
  (refine drun_end ?_)
  (repeat' (first | refine swp_seq [0, 2] ?_ | (first | refine rF (fun hf => ?_) | refine tN ?_ | refine swp_skip ?_ | refine swp_ret ?_ | refine swp_exit ?_ | refine swp_block ?_ | refine swp_scope ?_ | refine thenK_ret ?_ | refine thenK_exit ?_ | refine blockK_normal ?_ | refine blockK_ret ?_ | refine blockK_here ?_ | refine bX ?_ | refine scopeK_normal ?_ | refine scopeK_ret ?_ | refine scopeK_exit ?_ | refine loopK_ret ?_ | refine loopK_exit ?_ | refine dF mixed ?_ | (refine cB (fun hc => ?_) (fun hc => ?_) <;> first | exact False.elim hc | exact absurd hc Bool.false_ne_true | exact absurd hc.symm Bool.false_ne_true | skip) | refine cU ?_ ?_)))
  (refine DVQ ?_)
  unfold nameB bAt bs
  congr 3
  grind
set_option maxHeartbeats 1000000 in
theorem rName_f (s : ByteArray) (m : Nat) (hs : s.size ≤ 281474976710656) : DCalls Tryz.prog 125 [ls s] (hget []) m (lb (nameB s)) (hget []) := by
  refine pureC (n := 22) (rs := [.tmp 2]) (ts := [4]) Tryz.func125 rfl (by decide) [] (by (exact SD)) ?_
  (repeat' (first | refine swp_seq [0, 2, 16] ?_ | (first | refine rF (fun hf => ?_) | refine tN ?_ | refine swp_skip ?_ | refine swp_ret ?_ | refine swp_exit ?_ | refine swp_block ?_ | refine swp_scope ?_ | refine thenK_ret ?_ | refine thenK_exit ?_ | refine blockK_normal ?_ | refine blockK_ret ?_ | refine blockK_here ?_ | refine bX ?_ | refine scopeK_normal ?_ | refine scopeK_ret ?_ | refine scopeK_exit ?_ | refine loopK_ret ?_ | refine loopK_exit ?_ | refine dF mixed ?_ | (refine cB (fun hc => ?_) (fun hc => ?_) <;> first | exact False.elim hc | exact absurd hc Bool.false_ne_true | exact absurd hc.symm Bool.false_ne_true | skip) | refine cU ?_ ?_)))
  (refine rC (fun hf => ?_))
  (refine cA (rLetter_f _ _) (fun hf => ?_))
  (refine drun_end ?_)
  (repeat' (first | refine swp_seq [0, 2, 16] ?_ | (first | refine rF (fun hf => ?_) | refine tN ?_ | refine swp_skip ?_ | refine swp_ret ?_ | refine swp_exit ?_ | refine swp_block ?_ | refine swp_scope ?_ | refine thenK_ret ?_ | refine thenK_exit ?_ | refine blockK_normal ?_ | refine blockK_ret ?_ | refine blockK_here ?_ | refine bX ?_ | refine scopeK_normal ?_ | refine scopeK_ret ?_ | refine scopeK_exit ?_ | refine loopK_ret ?_ | refine loopK_exit ?_ | refine dF mixed ?_ | (refine cB (fun hc => ?_) (fun hc => ?_) <;> first | exact False.elim hc | exact absurd hc Bool.false_ne_true | exact absurd hc.symm Bool.false_ne_true | skip) | refine cU ?_ ?_)))
  · (refine DVQ ?_)
    unfold nameB bAt bs
    congr 3
    grind
  · ((refine rC (fun hf => ?_); refine cA (rWord_f _ _ hs) (fun hf => ?_); refine drun_end ?_))
    (repeat' (first | refine swp_seq [0, 2, 16] ?_ | (first | refine rF (fun hf => ?_) | refine tN ?_ | refine swp_skip ?_ | refine swp_ret ?_ | refine swp_exit ?_ | refine swp_block ?_ | refine swp_scope ?_ | refine thenK_ret ?_ | refine thenK_exit ?_ | refine blockK_normal ?_ | refine blockK_ret ?_ | refine blockK_here ?_ | refine bX ?_ | refine scopeK_normal ?_ | refine scopeK_ret ?_ | refine scopeK_exit ?_ | refine loopK_ret ?_ | refine loopK_exit ?_ | refine dF mixed ?_ | (refine cB (fun hc => ?_) (fun hc => ?_) <;> first | exact False.elim hc | exact absurd hc Bool.false_ne_true | exact absurd hc.symm Bool.false_ne_true | skip) | refine cU ?_ ?_)))
    (refine DVQ ?_)
    unfold nameB bAt bs
    congr 3
    grind
theorem rall_true {n : Nat} {f : Nat → Bool} (h : ∀ i, i < n → f i = true) : (List.range n).all f = true := List.all_eq_true.2 fun i hi => h i (List.mem_range.1 hi)
theorem rall_false {n i : Nat} {f : Nat → Bool} (hi : i < n) (h : f i = false) : (List.range n).all f = false := by
  rw [List.all_eq_false]; exact ⟨i, List.mem_range.2 hi, by simp [h]⟩
def fitsB (n : Int) : Bool := decide (-1125899906842624 ≤ n) && decide (n ≤ 1125899906842624)
def tabR (t : List Knot) (i : Nat) : Bool := fitsB (t.getD i default).x && fitsB (t.getD i default).y && (decide (i = 0) || (decide ((t.getD (i - 1) default).x < (t.getD i default).x) && decide ((t.getD (i - 1) default).y ≤ (t.getD i default).y)))
def tabB (t : List Knot) : Bool := decide (1 ≤ t.length) && decide (t.length ≤ 100) && (List.range t.length).all (tabR t)
theorem fits_f (n : Int) (m : Nat) : DCalls Tryz.prog 224 [li n] (hget []) m (lb (fitsB n)) (hget []) := by
  refine pureC (n := 9) (rs := [.tmp 2]) (ts := [4]) Tryz.func224 rfl (by decide) [] (by (exact SD)) ?_
  (repeat' (first | refine swp_seq [0, 2] ?_ | refine st2 ?_ | (show Fct ..; refine fctI (fun hf => ?_)) | (show SWp _ _ _ (.cond _ _ _) _ _ _ _; first | refine cB (fun hc => ?_) (fun hc => ?_) | refine cU ?_ ?_)))
  exact DVR
theorem rNumber_f (n : Int) (m : Nat) : DCalls Tryz.prog 204 [li n] (hget []) m (lb (fitsB n)) (hget []) := by
  refine pureC (n := 9) (rs := [.tmp 2]) (ts := [4]) Tryz.func204 rfl (by decide) [] (by (exact SD)) ?_
  (repeat' (first | refine swp_seq [0, 2] ?_ | refine st2 ?_ | (show Fct ..; refine fctI (fun hf => ?_)) | (show SWp _ _ _ (.cond _ _ _) _ _ _ _; first | refine cB (fun hc => ?_) (fun hc => ?_) | refine cU ?_ ?_)))
  exact DVR
theorem callT {g : FuncId} {C : List Nat} {args : List DV} {h h' : Nat → Option HV} {m : Nat} {d : DV} (k : DCallsG Tryz.prog g C args h m d h' := by first | exact fits_f _ _ | exact rNumber_f _ _) : DCallsG Tryz.prog g C args h m d h' := k
set_option maxHeartbeats 1000000 in
theorem tab_f (t : List Knot) (m : Nat) (hl : t.length ≤ 281474976710656) : DCalls Tryz.prog 189 [knotL t] (hget []) m (lb (tabB t)) (hget []) := by
  refine pureC (n := 57) (rs := [.tmp 2]) (ts := [4]) Tryz.func189 rfl (by decide) [] (by (exact SD)) ?_
  (repeat' (first | refine swp_seq [0, 2, 3, 4, 12, 13, 14, 15, 16, 55] ?_ | refine st2 ?_ | (show Fct ..; refine fctI (fun hf => ?_)) | (show SWp _ _ _ (.cond _ _ _) _ _ _ _; first | refine cB (fun hc => ?_) (fun hc => ?_) | refine cU ?_ ?_)))
  · (refine DVQ ?_)
    refine lbC ?_
    unfold tabB
    rcases hc with h | h
    · rw [decide_eq_false (by omega)]; rfl
    · rw [decide_eq_false (p := t.length ≤ 100) (by omega)]; simp
  · refine loop_swp [0, 13, 14, 15] [] 0 (fun q A H => ∃ i : Nat, i ≤ t.length ∧ q = t.length - i ∧ (∀ j, j < i → tabR t j = true) ∧ A = [(0, knotL t), (13, knotL t), (14, li t.length), (15, li i)] ∧ H = []) (by omega) ?_ ?_ ?_
    · rintro q A H ⟨i, h1, h2, h3, rfl, rfl⟩
      exact ⟨by (exact SD), by (exact SD)⟩
    · refine ⟨_, 0, by omega, rfl, by omega, ?_, ?_⟩
      · exact DVR
      · exact DVR
    · rintro q A H ⟨i, h1, h2, h3, rfl, rfl⟩
      (repeat' (first | refine swp_seq [0, 2, 3, 4, 12, 13, 14, 15, 16, 55] ?_ | refine st2 ?_ | (show CallQ ..; first | refine cQ (fun hcc => callT) ?_ | (refine lP ?_; refine lQ (fun hcc m => callT) ?_)) | (show XCallQ ..; first | refine xQ (fun hcc => callT) ?_ | (refine xlP ?_; refine xlQ (fun hcc m => callT) ?_)) | (show Fct ..; refine fctI (fun hf => ?_)) | (show SWp _ _ _ (.cond _ _ _) _ _ _ _; first | refine cB (fun hc => ?_) (fun hc => ?_) | refine cU ?_ ?_)))
      · (refine DVQ ?_)
        refine lbC ?_
        rw [tabB, rall_false (i := i) (by omega) (by unfold tabR; grind)]; simp
      · (refine lN [] ?_)
        exact ⟨_, by omega, i + 1, by omega, rfl, fun j hj => by
          by_cases e : j = i
          · subst e; unfold tabR; grind
          · exact h3 j (by omega), rfl, rfl⟩
      · (refine DVQ ?_)
        refine lbC ?_
        rw [tabB, rall_true fun j hj => h3 j (by omega)]
        simp; omega
set_option maxHeartbeats 1000000 in
theorem rTab_f (t : List Knot) (m : Nat) (hl : t.length ≤ 281474976710656) : DCalls Tryz.prog 171 [knotL t] (hget []) m (lb (tabB t)) (hget []) := by
  refine pureC (n := 64) (rs := [.tmp 2]) (ts := [4]) Tryz.func171 rfl (by decide) [] (by (exact SD)) ?_
  (repeat' (first | refine swp_seq [0, 2, 3, 11, 15, 33, 63] ?_ | refine st2 ?_ | (show Fct ..; refine fctI (fun hf => ?_)) | (show SWp _ _ _ (.cond _ _ _) _ _ _ _; first | refine cB (fun hc => ?_) (fun hc => ?_) | refine cU ?_ ?_)))
  · (refine DVQ ?_)
    refine lbC ?_
    unfold tabB
    rcases hc with h | h
    · rw [decide_eq_false (by omega)]; rfl
    · rw [decide_eq_false (p := t.length ≤ 100) (by omega)]; simp
  · refine loop_swp [0, 3] [] 0 (fun q A H => ∃ i : Nat, i ≤ t.length ∧ q = t.length - i ∧ (∀ j, j < i → tabR t j = true) ∧ A = [(0, knotL t), (3, li i)] ∧ H = []) (by omega) ?_ ?_ ?_
    · rintro q A H ⟨i, h1, h2, h3, rfl, rfl⟩
      exact ⟨by (exact SD), by (exact SD)⟩
    · refine ⟨_, 0, by omega, rfl, by omega, ?_, ?_⟩
      · exact DVR
      · exact DVR
    · rintro q A H ⟨i, h1, h2, h3, rfl, rfl⟩
      (repeat' (first | refine swp_seq [0, 2, 3, 11, 15, 33, 63] ?_ | refine st2 ?_ | (show CallQ ..; first | refine cQ (fun hcc => callT) ?_ | (refine lP ?_; refine lQ (fun hcc m => callT) ?_)) | (show XCallQ ..; first | refine xQ (fun hcc => callT) ?_ | (refine xlP ?_; refine xlQ (fun hcc m => callT) ?_)) | (show Fct ..; refine fctI (fun hf => ?_)) | (show SWp _ _ _ (.cond _ _ _) _ _ _ _; first | refine cB (fun hc => ?_) (fun hc => ?_) | refine cU ?_ ?_)))
      · (refine DVQ ?_)
        refine lbC ?_
        rw [tabB, rall_false (i := i) (by omega) (by unfold tabR; grind)]; simp
      · (refine DVQ ?_)
        refine lbC ?_
        rw [tabB, rall_false (i := i) (by omega) (by unfold tabR; grind)]; simp
      · (refine lN [] ?_)
        exact ⟨_, by omega, i + 1, by omega, rfl, fun j hj => by
          by_cases e : j = i
          · subst e; unfold tabR; grind
          · exact h3 j (by omega), rfl, rfl⟩
      · (refine DVQ ?_)
        refine lbC ?_
        rw [tabB, rall_true fun j hj => h3 j (by omega)]
        simp; omega
set_option maxHeartbeats 1000000 in
theorem idxNode_f (g : FuncId) (p : Node → Bool) (l : List (Node)) (m : Nat) (hl : l.length ≤ 281474976710656) (hg : ∀ x, x ∈ l → ∀ m, DCalls Tryz.prog g [nodeD x] (hget []) m (lb (p x)) (hget [])) :
    DCalls Tryz.prog 110 [nodeL l, .clo g []] (hget []) m (li (idxI p l)) (hget []) := by
  refine pureC (n := 19) (rs := [.tmp 4]) (ts := [3]) Tryz.func110 rfl (by decide) [] (by (exact SD)) ?_
  (repeat' (first | refine swp_seq [0, 1, 4, 5, 7, 8, 9, 16] ?_ | refine st2 ?_ | (show Fct ..; refine fctI (fun hf => ?_)) | (show SWp _ _ _ (.cond _ _ _) _ _ _ _; first | refine cB (fun hc => ?_) (fun hc => ?_) | refine cU ?_ ?_)))
  refine loop_swp [0, 1, 7, 8] [] 0 (fun q A H => ∃ i : Nat, i ≤ l.length ∧ q = l.length - i ∧ (l.take i).any p = false ∧ A = [(0, nodeL l), (1, .clo g []), (7, li l.length), (8, li i)] ∧ H = []) (by omega) ?_ ?_ ?_
  · rintro q A H ⟨i, h1, h2, h3, rfl, rfl⟩
    exact ⟨by (exact SD), by (exact SD)⟩
  · refine ⟨_, 0, by omega, rfl, rfl, ?_, ?_⟩
    · exact DVR
    · exact DVR
  · rintro q A H ⟨i, h1, h2, h3, rfl, rfl⟩
    (repeat' (first | refine swp_seq [0, 1, 4, 5, 7, 8, 9, 16] ?_ | refine st2 ?_ | (show CallQ ..; first | refine cQ (fun hcc => (hg _ (getD_mem SC) _)) ?_ | (refine lP ?_; refine lQ (fun hcc m => (hg _ (getD_mem SC) _)) ?_)) | (show Fct ..; refine fctI (fun hf => ?_)) | (show SWp _ _ _ (.cond _ _ _) _ _ _ _; first | refine cB (fun hc => ?_) (fun hc => ?_) | refine cU ?_ ?_)))
    · (refine DVQ ?_)
      rw [idxI_hit h3 (by omega) (by assumption)]
    · (refine lN [] ?_)
      exact ⟨_, by omega, i + 1, by omega, rfl, any_step h3 (by omega) (by assumption), rfl, rfl⟩
    · (refine DVQ ?_)
      rw [List.take_of_length_le (by omega)] at h3
      rw [idxI_none h3]
theorem conNode_f (g : FuncId) (p : Node → Bool) (l : List (Node)) (m : Nat) (hl : l.length ≤ 281474976710656) (hg : ∀ x, x ∈ l → ∀ m, DCalls Tryz.prog g [nodeD x] (hget []) m (lb (p x)) (hget [])) :
    DCalls Tryz.prog 47 [nodeL l, .clo g []] (hget []) m (lb (l.any p)) (hget []) := by
  refine pureC (n := 9) (rs := [.tmp 4]) (ts := [4]) Tryz.func47 rfl (by decide) [] (by (exact SD)) ?_
  (repeat' (first | refine swp_seq [0, 1, 4] ?_ | refine st2 ?_ | (show CallQ ..; first | refine cQ (fun hcc => (idxNode_f g p l _ hl hg)) ?_ | (refine lP ?_; refine lQ (fun hcc m => (idxNode_f g p l _ hl hg)) ?_)) | (show Fct ..; refine fctI (fun hf => ?_)) | (show SWp _ _ _ (.cond _ _ _) _ _ _ _; first | refine cB (fun hc => ?_) (fun hc => ?_) | refine cU ?_ ?_)))
  (refine DVQ ?_)
  rw [idxI_any]
set_option maxHeartbeats 1000000 in
theorem idxNodeC_f (g : FuncId) (t : TypeId) (cs : List PV) (p : Node → Bool) (l : List (Node)) (hl : l.length ≤ 281474976710656) (hg : ∀ x, x ∈ l → ∀ m, DCalls Tryz.prog g [nodeD x, .ptr 0 0] (hget [(0, .blk t (cs.map .p))]) m (lb (p x)) (hget [(0, .blk t (cs.map .p))])) :
    DCalls Tryz.prog 110 [nodeL l, .clo g [.ptr 0 0]] (hget [(0, .blk t (cs.map .p))]) 1 (li (idxI p l)) (hget [(0, .blk t (cs.map .p))]) := by
  refine contract (n := 19) (rs := [.tmp 4]) (ts := [3]) Tryz.func110 rfl (by decide) 1 1 [] [] [] (li (idxI p l)) [(0, .blk t (cs.map .p))] (by (exact SD)) (by (exact SD)) ?_
  (repeat' (first | refine swp_seq [0, 1, 4, 5, 7, 8, 9, 16] ?_ | refine st2 ?_ | (show Fct ..; refine fctI (fun hf => ?_)) | (show SWp _ _ _ (.cond _ _ _) _ _ _ _; first | refine cB (fun hc => ?_) (fun hc => ?_) | refine cU ?_ ?_)))
  refine loop_swp [0, 1, 7, 8] [0] 1 (fun q A H => ∃ i : Nat, i ≤ l.length ∧ q = l.length - i ∧ (l.take i).any p = false ∧ A = [(0, nodeL l), (1, .clo g [.ptr 0 0]), (7, li l.length), (8, li i)] ∧ H = [(0, .blk t (cs.map .p))]) (by omega) ?_ ?_ ?_
  · rintro q A H ⟨i, h1, h2, h3, rfl, rfl⟩
    exact ⟨by (exact SD), by (exact SD)⟩
  · refine ⟨_, 0, by omega, rfl, rfl, ?_, ?_⟩
    · exact DVR
    · exact DVR
  · rintro q A H ⟨i, h1, h2, h3, rfl, rfl⟩
    (repeat' (first | refine swp_seq [0, 1, 4, 5, 7, 8, 9, 16] ?_ | refine st2 ?_ | (show CallQ ..; first | refine cQ (fun hcc => (hg _ (getD_mem SC) _)) ?_ | (refine lP ?_; refine lQ (fun hcc m => (hg _ (getD_mem SC) _)) ?_)) | (show Fct ..; refine fctI (fun hf => ?_)) | (show SWp _ _ _ (.cond _ _ _) _ _ _ _; first | refine cB (fun hc => ?_) (fun hc => ?_) | refine cU ?_ ?_)))
    · (refine DVQ ?_)
      rw [idxI_hit h3 (by omega) (by assumption)]
    · (refine lN [0] ?_)
      exact ⟨_, by omega, i + 1, by omega, rfl, any_step h3 (by omega) (by assumption), rfl, rfl⟩
    · (refine DVQ ?_)
      rw [List.take_of_length_le (by omega)] at h3
      rw [idxI_none h3]
set_option maxHeartbeats 1000000 in
theorem idxLink_f (g : FuncId) (p : Link → Bool) (l : List (Link)) (m : Nat) (hl : l.length ≤ 281474976710656) (hg : ∀ x, x ∈ l → ∀ m, DCalls Tryz.prog g [linkD x] (hget []) m (lb (p x)) (hget [])) :
    DCalls Tryz.prog 111 [linkL l, .clo g []] (hget []) m (li (idxI p l)) (hget []) := by
  refine pureC (n := 19) (rs := [.tmp 4]) (ts := [3]) Tryz.func111 rfl (by decide) [] (by (exact SD)) ?_
  (repeat' (first | refine swp_seq [0, 1, 4, 5, 7, 8, 9, 16] ?_ | refine st2 ?_ | (show Fct ..; refine fctI (fun hf => ?_)) | (show SWp _ _ _ (.cond _ _ _) _ _ _ _; first | refine cB (fun hc => ?_) (fun hc => ?_) | refine cU ?_ ?_)))
  refine loop_swp [0, 1, 7, 8] [] 0 (fun q A H => ∃ i : Nat, i ≤ l.length ∧ q = l.length - i ∧ (l.take i).any p = false ∧ A = [(0, linkL l), (1, .clo g []), (7, li l.length), (8, li i)] ∧ H = []) (by omega) ?_ ?_ ?_
  · rintro q A H ⟨i, h1, h2, h3, rfl, rfl⟩
    exact ⟨by (exact SD), by (exact SD)⟩
  · refine ⟨_, 0, by omega, rfl, rfl, ?_, ?_⟩
    · exact DVR
    · exact DVR
  · rintro q A H ⟨i, h1, h2, h3, rfl, rfl⟩
    (repeat' (first | refine swp_seq [0, 1, 4, 5, 7, 8, 9, 16] ?_ | refine st2 ?_ | (show CallQ ..; first | refine cQ (fun hcc => (hg _ (getD_mem SC) _)) ?_ | (refine lP ?_; refine lQ (fun hcc m => (hg _ (getD_mem SC) _)) ?_)) | (show Fct ..; refine fctI (fun hf => ?_)) | (show SWp _ _ _ (.cond _ _ _) _ _ _ _; first | refine cB (fun hc => ?_) (fun hc => ?_) | refine cU ?_ ?_)))
    · (refine DVQ ?_)
      rw [idxI_hit h3 (by omega) (by assumption)]
    · (refine lN [] ?_)
      exact ⟨_, by omega, i + 1, by omega, rfl, any_step h3 (by omega) (by assumption), rfl, rfl⟩
    · (refine DVQ ?_)
      rw [List.take_of_length_le (by omega)] at h3
      rw [idxI_none h3]
theorem conLink_f (g : FuncId) (p : Link → Bool) (l : List (Link)) (m : Nat) (hl : l.length ≤ 281474976710656) (hg : ∀ x, x ∈ l → ∀ m, DCalls Tryz.prog g [linkD x] (hget []) m (lb (p x)) (hget [])) :
    DCalls Tryz.prog 49 [linkL l, .clo g []] (hget []) m (lb (l.any p)) (hget []) := by
  refine pureC (n := 9) (rs := [.tmp 4]) (ts := [4]) Tryz.func49 rfl (by decide) [] (by (exact SD)) ?_
  (repeat' (first | refine swp_seq [0, 1, 4] ?_ | refine st2 ?_ | (show CallQ ..; first | refine cQ (fun hcc => (idxLink_f g p l _ hl hg)) ?_ | (refine lP ?_; refine lQ (fun hcc m => (idxLink_f g p l _ hl hg)) ?_)) | (show Fct ..; refine fctI (fun hf => ?_)) | (show SWp _ _ _ (.cond _ _ _) _ _ _ _; first | refine cB (fun hc => ?_) (fun hc => ?_) | refine cU ?_ ?_)))
  (refine DVQ ?_)
  rw [idxI_any]
set_option maxHeartbeats 1000000 in
theorem idxLinkC_f (g : FuncId) (t : TypeId) (cs : List PV) (p : Link → Bool) (l : List (Link)) (hl : l.length ≤ 281474976710656) (hg : ∀ x, x ∈ l → ∀ m, DCalls Tryz.prog g [linkD x, .ptr 0 0] (hget [(0, .blk t (cs.map .p))]) m (lb (p x)) (hget [(0, .blk t (cs.map .p))])) :
    DCalls Tryz.prog 111 [linkL l, .clo g [.ptr 0 0]] (hget [(0, .blk t (cs.map .p))]) 1 (li (idxI p l)) (hget [(0, .blk t (cs.map .p))]) := by
  refine contract (n := 19) (rs := [.tmp 4]) (ts := [3]) Tryz.func111 rfl (by decide) 1 1 [] [] [] (li (idxI p l)) [(0, .blk t (cs.map .p))] (by (exact SD)) (by (exact SD)) ?_
  (repeat' (first | refine swp_seq [0, 1, 4, 5, 7, 8, 9, 16] ?_ | refine st2 ?_ | (show Fct ..; refine fctI (fun hf => ?_)) | (show SWp _ _ _ (.cond _ _ _) _ _ _ _; first | refine cB (fun hc => ?_) (fun hc => ?_) | refine cU ?_ ?_)))
  refine loop_swp [0, 1, 7, 8] [0] 1 (fun q A H => ∃ i : Nat, i ≤ l.length ∧ q = l.length - i ∧ (l.take i).any p = false ∧ A = [(0, linkL l), (1, .clo g [.ptr 0 0]), (7, li l.length), (8, li i)] ∧ H = [(0, .blk t (cs.map .p))]) (by omega) ?_ ?_ ?_
  · rintro q A H ⟨i, h1, h2, h3, rfl, rfl⟩
    exact ⟨by (exact SD), by (exact SD)⟩
  · refine ⟨_, 0, by omega, rfl, rfl, ?_, ?_⟩
    · exact DVR
    · exact DVR
  · rintro q A H ⟨i, h1, h2, h3, rfl, rfl⟩
    (repeat' (first | refine swp_seq [0, 1, 4, 5, 7, 8, 9, 16] ?_ | refine st2 ?_ | (show CallQ ..; first | refine cQ (fun hcc => (hg _ (getD_mem SC) _)) ?_ | (refine lP ?_; refine lQ (fun hcc m => (hg _ (getD_mem SC) _)) ?_)) | (show Fct ..; refine fctI (fun hf => ?_)) | (show SWp _ _ _ (.cond _ _ _) _ _ _ _; first | refine cB (fun hc => ?_) (fun hc => ?_) | refine cU ?_ ?_)))
    · (refine DVQ ?_)
      rw [idxI_hit h3 (by omega) (by assumption)]
    · (refine lN [0] ?_)
      exact ⟨_, by omega, i + 1, by omega, rfl, any_step h3 (by omega) (by assumption), rfl, rfl⟩
    · (refine DVQ ?_)
      rw [List.take_of_length_le (by omega)] at h3
      rw [idxI_none h3]
set_option maxHeartbeats 1000000 in
theorem idxInt_f (g : FuncId) (p : Int → Bool) (l : List (Int)) (m : Nat) (hl : l.length ≤ 281474976710656) (hg : ∀ x, x ∈ l → ∀ m, DCalls Tryz.prog g [li x] (hget []) m (lb (p x)) (hget [])) :
    DCalls Tryz.prog 115 [ints l, .clo g []] (hget []) m (li (idxI p l)) (hget []) := by
  refine pureC (n := 19) (rs := [.tmp 4]) (ts := [3]) Tryz.func115 rfl (by decide) [] (by (exact SD)) ?_
  (repeat' (first | refine swp_seq [0, 1, 4, 5, 7, 8, 9, 16] ?_ | refine st2 ?_ | (show Fct ..; refine fctI (fun hf => ?_)) | (show SWp _ _ _ (.cond _ _ _) _ _ _ _; first | refine cB (fun hc => ?_) (fun hc => ?_) | refine cU ?_ ?_)))
  refine loop_swp [0, 1, 7, 8] [] 0 (fun q A H => ∃ i : Nat, i ≤ l.length ∧ q = l.length - i ∧ (l.take i).any p = false ∧ A = [(0, ints l), (1, .clo g []), (7, li l.length), (8, li i)] ∧ H = []) (by omega) ?_ ?_ ?_
  · rintro q A H ⟨i, h1, h2, h3, rfl, rfl⟩
    exact ⟨by (exact SD), by (exact SD)⟩
  · refine ⟨_, 0, by omega, rfl, rfl, ?_, ?_⟩
    · exact DVR
    · exact DVR
  · rintro q A H ⟨i, h1, h2, h3, rfl, rfl⟩
    (repeat' (first | refine swp_seq [0, 1, 4, 5, 7, 8, 9, 16] ?_ | refine st2 ?_ | (show CallQ ..; first | refine cQ (fun hcc => (hg _ (getD_mem SC) _)) ?_ | (refine lP ?_; refine lQ (fun hcc m => (hg _ (getD_mem SC) _)) ?_)) | (show Fct ..; refine fctI (fun hf => ?_)) | (show SWp _ _ _ (.cond _ _ _) _ _ _ _; first | refine cB (fun hc => ?_) (fun hc => ?_) | refine cU ?_ ?_)))
    · (refine DVQ ?_)
      rw [idxI_hit h3 (by omega) (by assumption)]
    · (refine lN [] ?_)
      exact ⟨_, by omega, i + 1, by omega, rfl, any_step h3 (by omega) (by assumption), rfl, rfl⟩
    · (refine DVQ ?_)
      rw [List.take_of_length_le (by omega)] at h3
      rw [idxI_none h3]
theorem conInt_f (g : FuncId) (p : Int → Bool) (l : List (Int)) (m : Nat) (hl : l.length ≤ 281474976710656) (hg : ∀ x, x ∈ l → ∀ m, DCalls Tryz.prog g [li x] (hget []) m (lb (p x)) (hget [])) :
    DCalls Tryz.prog 57 [ints l, .clo g []] (hget []) m (lb (l.any p)) (hget []) := by
  refine pureC (n := 9) (rs := [.tmp 4]) (ts := [4]) Tryz.func57 rfl (by decide) [] (by (exact SD)) ?_
  (repeat' (first | refine swp_seq [0, 1, 4] ?_ | refine st2 ?_ | (show CallQ ..; first | refine cQ (fun hcc => (idxInt_f g p l _ hl hg)) ?_ | (refine lP ?_; refine lQ (fun hcc m => (idxInt_f g p l _ hl hg)) ?_)) | (show Fct ..; refine fctI (fun hf => ?_)) | (show SWp _ _ _ (.cond _ _ _) _ _ _ _; first | refine cB (fun hc => ?_) (fun hc => ?_) | refine cU ?_ ?_)))
  (refine DVQ ?_)
  rw [idxI_any]
set_option maxHeartbeats 1000000 in
theorem idxSect_f (g : FuncId) (p : Sect → Bool) (l : List (Sect)) (m : Nat) (hl : l.length ≤ 281474976710656) (hg : ∀ x, x ∈ l → ∀ m, DCalls Tryz.prog g [sectD x] (hget []) m (lb (p x)) (hget [])) :
    DCalls Tryz.prog 112 [sectL l, .clo g []] (hget []) m (li (idxI p l)) (hget []) := by
  refine pureC (n := 19) (rs := [.tmp 4]) (ts := [3]) Tryz.func112 rfl (by decide) [] (by (exact SD)) ?_
  (repeat' (first | refine swp_seq [0, 1, 4, 5, 7, 8, 9, 16] ?_ | refine st2 ?_ | (show Fct ..; refine fctI (fun hf => ?_)) | (show SWp _ _ _ (.cond _ _ _) _ _ _ _; first | refine cB (fun hc => ?_) (fun hc => ?_) | refine cU ?_ ?_)))
  refine loop_swp [0, 1, 7, 8] [] 0 (fun q A H => ∃ i : Nat, i ≤ l.length ∧ q = l.length - i ∧ (l.take i).any p = false ∧ A = [(0, sectL l), (1, .clo g []), (7, li l.length), (8, li i)] ∧ H = []) (by omega) ?_ ?_ ?_
  · rintro q A H ⟨i, h1, h2, h3, rfl, rfl⟩
    exact ⟨by (exact SD), by (exact SD)⟩
  · refine ⟨_, 0, by omega, rfl, rfl, ?_, ?_⟩
    · exact DVR
    · exact DVR
  · rintro q A H ⟨i, h1, h2, h3, rfl, rfl⟩
    (repeat' (first | refine swp_seq [0, 1, 4, 5, 7, 8, 9, 16] ?_ | refine st2 ?_ | (show CallQ ..; first | refine cQ (fun hcc => (hg _ (getD_mem SC) _)) ?_ | (refine lP ?_; refine lQ (fun hcc m => (hg _ (getD_mem SC) _)) ?_)) | (show Fct ..; refine fctI (fun hf => ?_)) | (show SWp _ _ _ (.cond _ _ _) _ _ _ _; first | refine cB (fun hc => ?_) (fun hc => ?_) | refine cU ?_ ?_)))
    · (refine DVQ ?_)
      rw [idxI_hit h3 (by omega) (by assumption)]
    · (refine lN [] ?_)
      exact ⟨_, by omega, i + 1, by omega, rfl, any_step h3 (by omega) (by assumption), rfl, rfl⟩
    · (refine DVQ ?_)
      rw [List.take_of_length_le (by omega)] at h3
      rw [idxI_none h3]
theorem conSect_f (g : FuncId) (p : Sect → Bool) (l : List (Sect)) (m : Nat) (hl : l.length ≤ 281474976710656) (hg : ∀ x, x ∈ l → ∀ m, DCalls Tryz.prog g [sectD x] (hget []) m (lb (p x)) (hget [])) :
    DCalls Tryz.prog 51 [sectL l, .clo g []] (hget []) m (lb (l.any p)) (hget []) := by
  refine pureC (n := 9) (rs := [.tmp 4]) (ts := [4]) Tryz.func51 rfl (by decide) [] (by (exact SD)) ?_
  (repeat' (first | refine swp_seq [0, 1, 4] ?_ | refine st2 ?_ | (show CallQ ..; first | refine cQ (fun hcc => (idxSect_f g p l _ hl hg)) ?_ | (refine lP ?_; refine lQ (fun hcc m => (idxSect_f g p l _ hl hg)) ?_)) | (show Fct ..; refine fctI (fun hf => ?_)) | (show SWp _ _ _ (.cond _ _ _) _ _ _ _; first | refine cB (fun hc => ?_) (fun hc => ?_) | refine cU ?_ ?_)))
  (refine DVQ ?_)
  rw [idxI_any]
set_option maxHeartbeats 1000000 in
theorem idxSectC_f (g : FuncId) (t : TypeId) (cs : List PV) (p : Sect → Bool) (l : List (Sect)) (hl : l.length ≤ 281474976710656) (hg : ∀ x, x ∈ l → ∀ m, DCalls Tryz.prog g [sectD x, .ptr 0 0] (hget [(0, .blk t (cs.map .p))]) m (lb (p x)) (hget [(0, .blk t (cs.map .p))])) :
    DCalls Tryz.prog 112 [sectL l, .clo g [.ptr 0 0]] (hget [(0, .blk t (cs.map .p))]) 1 (li (idxI p l)) (hget [(0, .blk t (cs.map .p))]) := by
  refine contract (n := 19) (rs := [.tmp 4]) (ts := [3]) Tryz.func112 rfl (by decide) 1 1 [] [] [] (li (idxI p l)) [(0, .blk t (cs.map .p))] (by (exact SD)) (by (exact SD)) ?_
  (repeat' (first | refine swp_seq [0, 1, 4, 5, 7, 8, 9, 16] ?_ | refine st2 ?_ | (show Fct ..; refine fctI (fun hf => ?_)) | (show SWp _ _ _ (.cond _ _ _) _ _ _ _; first | refine cB (fun hc => ?_) (fun hc => ?_) | refine cU ?_ ?_)))
  refine loop_swp [0, 1, 7, 8] [0] 1 (fun q A H => ∃ i : Nat, i ≤ l.length ∧ q = l.length - i ∧ (l.take i).any p = false ∧ A = [(0, sectL l), (1, .clo g [.ptr 0 0]), (7, li l.length), (8, li i)] ∧ H = [(0, .blk t (cs.map .p))]) (by omega) ?_ ?_ ?_
  · rintro q A H ⟨i, h1, h2, h3, rfl, rfl⟩
    exact ⟨by (exact SD), by (exact SD)⟩
  · refine ⟨_, 0, by omega, rfl, rfl, ?_, ?_⟩
    · exact DVR
    · exact DVR
  · rintro q A H ⟨i, h1, h2, h3, rfl, rfl⟩
    (repeat' (first | refine swp_seq [0, 1, 4, 5, 7, 8, 9, 16] ?_ | refine st2 ?_ | (show CallQ ..; first | refine cQ (fun hcc => (hg _ (getD_mem SC) _)) ?_ | (refine lP ?_; refine lQ (fun hcc m => (hg _ (getD_mem SC) _)) ?_)) | (show Fct ..; refine fctI (fun hf => ?_)) | (show SWp _ _ _ (.cond _ _ _) _ _ _ _; first | refine cB (fun hc => ?_) (fun hc => ?_) | refine cU ?_ ?_)))
    · (refine DVQ ?_)
      rw [idxI_hit h3 (by omega) (by assumption)]
    · (refine lN [0] ?_)
      exact ⟨_, by omega, i + 1, by omega, rfl, any_step h3 (by omega) (by assumption), rfl, rfl⟩
    · (refine DVQ ?_)
      rw [List.take_of_length_le (by omega)] at h3
      rw [idxI_none h3]
set_option maxHeartbeats 1000000 in
theorem idxKnot_f (g : FuncId) (p : Knot → Bool) (l : List (Knot)) (m : Nat) (hl : l.length ≤ 281474976710656) (hg : ∀ x, x ∈ l → ∀ m, DCalls Tryz.prog g [knotD x] (hget []) m (lb (p x)) (hget [])) :
    DCalls Tryz.prog 218 [knotL l, .clo g []] (hget []) m (li (idxI p l)) (hget []) := by
  refine pureC (n := 19) (rs := [.tmp 4]) (ts := [3]) Tryz.func218 rfl (by decide) [] (by (exact SD)) ?_
  (repeat' (first | refine swp_seq [0, 1, 4, 5, 7, 8, 9, 16] ?_ | refine st2 ?_ | (show Fct ..; refine fctI (fun hf => ?_)) | (show SWp _ _ _ (.cond _ _ _) _ _ _ _; first | refine cB (fun hc => ?_) (fun hc => ?_) | refine cU ?_ ?_)))
  refine loop_swp [0, 1, 7, 8] [] 0 (fun q A H => ∃ i : Nat, i ≤ l.length ∧ q = l.length - i ∧ (l.take i).any p = false ∧ A = [(0, knotL l), (1, .clo g []), (7, li l.length), (8, li i)] ∧ H = []) (by omega) ?_ ?_ ?_
  · rintro q A H ⟨i, h1, h2, h3, rfl, rfl⟩
    exact ⟨by (exact SD), by (exact SD)⟩
  · refine ⟨_, 0, by omega, rfl, rfl, ?_, ?_⟩
    · exact DVR
    · exact DVR
  · rintro q A H ⟨i, h1, h2, h3, rfl, rfl⟩
    (repeat' (first | refine swp_seq [0, 1, 4, 5, 7, 8, 9, 16] ?_ | refine st2 ?_ | (show CallQ ..; first | refine cQ (fun hcc => (hg _ (getD_mem SC) _)) ?_ | (refine lP ?_; refine lQ (fun hcc m => (hg _ (getD_mem SC) _)) ?_)) | (show Fct ..; refine fctI (fun hf => ?_)) | (show SWp _ _ _ (.cond _ _ _) _ _ _ _; first | refine cB (fun hc => ?_) (fun hc => ?_) | refine cU ?_ ?_)))
    · (refine DVQ ?_)
      rw [idxI_hit h3 (by omega) (by assumption)]
    · (refine lN [] ?_)
      exact ⟨_, by omega, i + 1, by omega, rfl, any_step h3 (by omega) (by assumption), rfl, rfl⟩
    · (refine DVQ ?_)
      rw [List.take_of_length_le (by omega)] at h3
      rw [idxI_none h3]
theorem conKnot_f (g : FuncId) (p : Knot → Bool) (l : List (Knot)) (m : Nat) (hl : l.length ≤ 281474976710656) (hg : ∀ x, x ∈ l → ∀ m, DCalls Tryz.prog g [knotD x] (hget []) m (lb (p x)) (hget [])) :
    DCalls Tryz.prog 190 [knotL l, .clo g []] (hget []) m (lb (l.any p)) (hget []) := by
  refine pureC (n := 9) (rs := [.tmp 4]) (ts := [4]) Tryz.func190 rfl (by decide) [] (by (exact SD)) ?_
  (repeat' (first | refine swp_seq [0, 1, 4] ?_ | refine st2 ?_ | (show CallQ ..; first | refine cQ (fun hcc => (idxKnot_f g p l _ hl hg)) ?_ | (refine lP ?_; refine lQ (fun hcc m => (idxKnot_f g p l _ hl hg)) ?_)) | (show Fct ..; refine fctI (fun hf => ?_)) | (show SWp _ _ _ (.cond _ _ _) _ _ _ _; first | refine cB (fun hc => ?_) (fun hc => ?_) | refine cU ?_ ?_)))
  (refine DVQ ?_)
  rw [idxI_any]
set_option maxHeartbeats 1000000 in
theorem eqlInt_f (l k : List (Int)) (m : Nat) (hl : l.length ≤ 281474976710656) (hk : k.length ≤ 281474976710656) : DCalls Tryz.prog 22 [ints l, ints k] (hget []) m (lb (decide (l = k))) (hget []) := by
  refine pureC (n := 26) (rs := [.tmp 4]) (ts := [4]) Tryz.func22 rfl (by decide) [] (by (exact SD)) ?_
  (repeat' (first | refine swp_seq [0, 1, 4, 5, 10, 12, 13, 14, 24] ?_ | refine st2 ?_ | (show Fct ..; refine fctI (fun hf => ?_)) | (show SWp _ _ _ (.cond _ _ _) _ _ _ _; first | refine cB (fun hc => ?_) (fun hc => ?_) | refine cU ?_ ?_)))
  · (refine DVQ ?_)
    refine lbC ?_
    have : ¬ l = k := fun e => by subst e; exact hc rfl
    simp [this]
  · refine loop_swp [0, 1, 12, 13] [] 0 (fun q A H => ∃ i : Nat, i ≤ l.length ∧ q = l.length - i ∧ l.take i = k.take i ∧ A = [(0, ints l), (1, ints k), (12, li l.length), (13, li i)] ∧ H = []) (by omega) ?_ ?_ ?_
    · rintro q A H ⟨i, h1, h2, h3, rfl, rfl⟩
      exact ⟨by (exact SD), by (exact SD)⟩
    · refine ⟨_, 0, by omega, rfl, rfl, ?_, ?_⟩
      · exact DVR
      · exact DVR
    · rintro q A H ⟨i, h1, h2, h3, rfl, rfl⟩
      (repeat' (first | refine swp_seq [0, 1, 4, 5, 10, 12, 13, 14, 24] ?_ | refine st2 ?_ | (show Fct ..; refine fctI (fun hf => ?_)) | (show SWp _ _ _ (.cond _ _ _) _ _ _ _; first | refine cB (fun hc => ?_) (fun hc => ?_) | refine cU ?_ ?_)))
      · (refine DVQ ?_)
        refine lbC ?_
        have : ¬ l = k := fun e => by subst e; simp at hc
        simp [this]
      · (refine lN [] ?_)
        exact ⟨_, by omega, i + 1, by omega, rfl, take_next h3 (by omega) (by omega) (by exact hc), rfl, rfl⟩
      · (refine DVQ ?_)
        refine lbC ?_
        have : l = k := by
          have h4 := h3
          rw [List.take_of_length_le (by omega), List.take_of_length_le (by omega)] at h4
          exact h4
        simp [this]
set_option maxHeartbeats 1000000 in
theorem eqlKnot_f (l k : List (Knot)) (m : Nat) (hl : l.length ≤ 281474976710656) (hk : k.length ≤ 281474976710656) : DCalls Tryz.prog 223 [knotL l, knotL k] (hget []) m (lb (decide (l = k))) (hget []) := by
  refine pureC (n := 26) (rs := [.tmp 4]) (ts := [4]) Tryz.func223 rfl (by decide) [] (by (exact SD)) ?_
  (repeat' (first | refine swp_seq [0, 1, 4, 5, 10, 12, 13, 14, 24] ?_ | refine st2 ?_ | (show Fct ..; refine fctI (fun hf => ?_)) | (show SWp _ _ _ (.cond _ _ _) _ _ _ _; first | refine cB (fun hc => ?_) (fun hc => ?_) | refine cU ?_ ?_)))
  · (refine DVQ ?_)
    refine lbC ?_
    have : ¬ l = k := fun e => by subst e; exact hc rfl
    simp [this]
  · refine loop_swp [0, 1, 12, 13] [] 0 (fun q A H => ∃ i : Nat, i ≤ l.length ∧ q = l.length - i ∧ l.take i = k.take i ∧ A = [(0, knotL l), (1, knotL k), (12, li l.length), (13, li i)] ∧ H = []) (by omega) ?_ ?_ ?_
    · rintro q A H ⟨i, h1, h2, h3, rfl, rfl⟩
      exact ⟨by (exact SD), by (exact SD)⟩
    · refine ⟨_, 0, by omega, rfl, rfl, ?_, ?_⟩
      · exact DVR
      · exact DVR
    · rintro q A H ⟨i, h1, h2, h3, rfl, rfl⟩
      (repeat' (first | refine swp_seq [0, 1, 4, 5, 10, 12, 13, 14, 24] ?_ | refine st2 ?_ | (show Fct ..; refine fctI (fun hf => ?_)) | (show SWp _ _ _ (.cond _ _ _) _ _ _ _; first | refine cB (fun hc => ?_) (fun hc => ?_) | refine cU ?_ ?_)))
      · (refine DVQ ?_)
        refine lbC ?_
        have : ¬ l = k := fun e => by subst e; simp at hc
        simp [this]
      · (refine lN [] ?_)
        exact ⟨_, by omega, i + 1, by omega, rfl, take_next h3 (by omega) (by omega) (by refine knot_ext ?_; simpa using hc), rfl, rfl⟩
      · (refine DVQ ?_)
        refine lbC ?_
        have : l = k := by
          have h4 := h3
          rw [List.take_of_length_le (by omega), List.take_of_length_le (by omega)] at h4
          exact h4
        simp [this]
def levB (n : Int) : Bool := decide (-4194304 ≤ n) && decide (n ≤ 4194304)
def btwB (n lo hi : Int) : Bool := decide (lo ≤ n) && decide (n ≤ hi)
theorem between_f (n lo hi : Int) (m : Nat) : DCalls Tryz.prog 183 [li n, li lo, li hi] (hget []) m (lb (btwB n lo hi)) (hget []) := by
  refine pureC (n := 15) (rs := [.tmp 6]) (ts := [4]) Tryz.func183 rfl (by decide) [] (by (exact SD)) ?_
  (repeat' (first | refine swp_seq [0, 1, 2, 6] ?_ | refine st2 ?_ | (show Fct ..; refine fctI (fun hf => ?_)) | (show SWp _ _ _ (.cond _ _ _) _ _ _ _; first | refine cB (fun hc => ?_) (fun hc => ?_) | refine cU ?_ ?_)))
  exact DVR
theorem level1_f (n : Int) (m : Nat) : DCalls Tryz.prog 222 [li n] (hget []) m (lb (!levB n)) (hget []) := by
  refine pureC (n := 9) (rs := [.tmp 2]) (ts := [4]) Tryz.func222 rfl (by decide) [] (by (exact SD)) ?_
  (repeat' (first | refine swp_seq [0, 2] ?_ | refine st2 ?_ | (show Fct ..; refine fctI (fun hf => ?_)) | (show SWp _ _ _ (.cond _ _ _) _ _ _ _; first | refine cB (fun hc => ?_) (fun hc => ?_) | refine cU ?_ ?_)))
  (refine DVQ ?_)
  refine lbC ?_
  unfold levB; grind
theorem level_f (l : List Int) (m : Nat) (hl : l.length ≤ 281474976710656) : DCalls Tryz.prog 184 [ints l] (hget []) m (lb (!l.any fun n => !levB n)) (hget []) := by
  refine pureC (n := 6) (rs := [.tmp 2]) (ts := [4]) Tryz.func184 rfl (by decide) [] (by (exact SD)) ?_
  (repeat' (first | refine swp_seq [0, 2] ?_ | refine st2 ?_ | (show CallQ ..; first | refine cQ (fun hcc => (conInt_f _ (fun n => !levB n) l _ hl (fun n _ m => level1_f n m))) ?_ | (refine lP ?_; refine lQ (fun hcc m => (conInt_f _ (fun n => !levB n) l _ hl (fun n _ m => level1_f n m))) ?_)) | (show Fct ..; refine fctI (fun hf => ?_)) | (show SWp _ _ _ (.cond _ _ _) _ _ _ _; first | refine cB (fun hc => ?_) (fun hc => ?_) | refine cU ?_ ?_)))
  exact DVR
def shapeB (t : List Knot) (depth : Int) : Bool := tabB t && decide ((t.getD 0 default).x = 0) && decide ((t.getD 0 default).y = 0) && decide ((t.getD (t.length - 1) default).x = depth) && decide ((t.getD (t.length - 1) default).y ≤ 1125899906842624)
theorem callS {g : FuncId} {C : List Nat} {args : List DV} {h h' : Nat → Option HV} {m : Nat} {d : DV} (k : DCallsG Tryz.prog g C args h m d h' := by first | exact tab_f _ _ SC | exact rTab_f _ _ SC | exact between_f _ _ _ _ | exact level_f _ _ SC | exact name_f _ _ SC) : DCallsG Tryz.prog g C args h m d h' := k
theorem tabB_len {t : List Knot} (h : tabB t = true) : 1 ≤ t.length ∧ t.length ≤ 100 := by unfold tabB at h; simp at h; omega
theorem shaped_f (t : List Knot) (d : Int) (m : Nat) (hl : t.length ≤ 281474976710656) : DCalls Tryz.prog 185 [knotL t, li d] (hget []) m (lb (shapeB t d)) (hget []) := by
  refine pureC (n := 31) (rs := [.tmp 4]) (ts := [4]) Tryz.func185 rfl (by decide) [] (by (exact SD)) ?_
  (repeat' (first | refine swp_seq [0, 1, 4, 5, 8] ?_ | refine st2 ?_ | (show CallQ ..; first | refine cQ (fun hcc => callS) ?_ | (refine lP ?_; refine lQ (fun hcc m => callS) ?_)) | (show Fct ..; refine fctI (fun hf => ?_)) | (show SWp _ _ _ (.cond _ _ _) _ _ _ _; first | refine cB (fun hc => ?_) (fun hc => ?_) | refine cU ?_ ?_)))
  · (refine DVQ ?_)
    refine lbC ?_
    unfold shapeB; rw [hc]; rfl
  · have h2 := tabB_len hc
    (repeat' (first | refine swp_seq [0, 1, 4, 5, 8] ?_ | refine st2 ?_ | (show CallQ ..; first | refine cQ (fun hcc => callS) ?_ | (refine lP ?_; refine lQ (fun hcc m => callS) ?_)) | (show Fct ..; refine fctI (fun hf => ?_)) | (show SWp _ _ _ (.cond _ _ _) _ _ _ _; first | refine cB (fun hc => ?_) (fun hc => ?_) | refine cU ?_ ?_)))
    (refine DVQ ?_)
    refine lbC ?_
    unfold shapeB; rw [hc]
    grind
theorem shapeB_len {t : List Knot} {d : Int} (h : shapeB t d = true) : 1 ≤ t.length ∧ t.length ≤ 100 := tabB_len (by unfold shapeB at h; simp at h; exact h.1.1.1.1)
def kindB (x : Node) : Bool :=
  if x.kind = 1 ∨ x.kind = 2 then decide (x.inv < x.gnd) && shapeB x.shape (x.gnd - x.inv) && !(decide (x.kind = 1) && x.prot) && (if x.prot then btwB x.res 0 (x.shape.getD (x.shape.length - 1) default).y else decide (x.res = 0))
  else if x.kind = 3 then decide (x.inv ≤ x.gnd) && decide (x.shape.length = 0) && !x.prot && decide (x.res = 0) else false
def nodeR (x : Node) : Bool := nameB x.name && btwB x.pos.x (-16777216) 16777216 && btwB x.pos.y (-16777216) 16777216 && levB x.inv && levB x.gnd && kindB x
theorem callR {g : FuncId} {C : List Nat} {args : List DV} {h h' : Nat → Option HV} {m : Nat} {d : DV} (k : DCallsG Tryz.prog g C args h m d h' := by first | exact callS | exact shaped_f _ _ _ SC) : DCallsG Tryz.prog g C args h m d h' := k

end Go.Proofs.YthacnhidipeckaaGreat
