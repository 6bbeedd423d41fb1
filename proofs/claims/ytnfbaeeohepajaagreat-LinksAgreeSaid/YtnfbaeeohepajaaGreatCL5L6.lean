/-
  Contracts of functions of the program, over the engine.
  No condition.
-/
import Derived.Test.YtnfbaeeohepajaaGreatCL3L4
import Derived.Test.YtnfbaeeohepajaaGreatCL2cL2o
namespace Go.Proofs.YtnfbaeeohepajaaGreat
open Go.Eng
set_option linter.all false
attribute [local irreducible] DCallsG SWp Fct CallQ XCallQ LCallQ XLCallQ drun xrun

theorem owithin_f (n lo hi : Int) (m : Nat) : DCalls Tryz.prog 166 [li n, li lo, li hi] (hget []) m (lb (btwB n lo hi)) (hget []) := by
  refine pureC (n := 15) (rs := [.tmp 6]) (ts := [4]) Tryz.func166 rfl (by decide) [] (by (exact SD)) ?_
  (repeat' (first | refine swp_seq [0, 1, 2, 6] ?_ | refine st2 ?_ | (show Fct ..; refine fctI (fun hf => ?_)) | (show SWp _ _ _ (.cond _ _ _) _ _ _ _; first | refine cB (fun hc => ?_) (fun hc => ?_) | refine cU ?_ ?_)))
  exact DVR
theorem olevel_f (n : Int) (m : Nat) : DCalls Tryz.prog 161 [li n] (hget []) m (lb (levB n)) (hget []) := by
  refine pureC (n := 5) (rs := [.tmp 2]) (ts := [4]) Tryz.func161 rfl (by decide) [] (by (exact SD)) ?_
  (repeat' (first | refine swp_seq [0, 2] ?_ | refine st2 ?_ | (show CallQ ..; first | refine cQ (fun hcc => (owithin_f _ _ _ _)) ?_ | (refine lP ?_; refine lQ (fun hcc m => (owithin_f _ _ _ _)) ?_)) | (show Fct ..; refine fctI (fun hf => ?_)) | (show SWp _ _ _ (.cond _ _ _) _ _ _ _; first | refine cB (fun hc => ?_) (fun hc => ?_) | refine cU ?_ ?_)))
  exact DVR
theorem rLevel32_f (n : Int) (m : Nat) : DCalls Tryz.prog 146 [li n] (hget []) m (lb (levB n)) (hget []) := by
  refine pureC (n := 9) (rs := [.tmp 2]) (ts := [4]) Tryz.func146 rfl (by decide) [] (by (exact SD)) ?_
  (repeat' (first | refine swp_seq [0, 2] ?_ | refine st2 ?_ | (show Fct ..; refine fctI (fun hf => ?_)) | (show SWp _ _ _ (.cond _ _ _) _ _ _ _; first | refine cB (fun hc => ?_) (fun hc => ?_) | refine cU ?_ ?_)))
  exact DVR
def weirB (x : Link) : Bool := decide (x.kind = 2) && levB x.up && btwB x.width 1 1048576
def gateB (x : Link) : Bool := decide (x.kind = 3) && levB x.up && btwB x.width 1 32768 && btwB x.height 1 32768
theorem isWeir_f (x : Link) (m : Nat) : DCalls Tryz.prog 160 [linkD x] (hget []) m (lb (weirB x)) (hget []) := by
  refine pureC (n := 16) (rs := [.tmp 2]) (ts := [4]) Tryz.func160 rfl (by decide) [] (by (exact SD)) ?_
  (repeat' (first | refine swp_seq [0, 1, 2] ?_ | refine st2 ?_ | (show CallQ ..; first | refine cQ (fun hcc => (by first | exact owithin_f _ _ _ _ | exact olevel_f _ _)) ?_ | (refine lP ?_; refine lQ (fun hcc m => (by first | exact owithin_f _ _ _ _ | exact olevel_f _ _)) ?_)) | (show Fct ..; refine fctI (fun hf => ?_)) | (show SWp _ _ _ (.cond _ _ _) _ _ _ _; first | refine cB (fun hc => ?_) (fun hc => ?_) | refine cU ?_ ?_)))
  (refine DVQ ?_)
  refine lbC ?_
  unfold weirB
  rw [Bool.eq_iff_iff]; simp
theorem isGate_f (x : Link) (m : Nat) : DCalls Tryz.prog 165 [linkD x] (hget []) m (lb (gateB x)) (hget []) := by
  refine pureC (n := 21) (rs := [.tmp 2]) (ts := [4]) Tryz.func165 rfl (by decide) [] (by (exact SD)) ?_
  (repeat' (first | refine swp_seq [0, 1, 2] ?_ | refine st2 ?_ | (show CallQ ..; first | refine cQ (fun hcc => (by first | exact owithin_f _ _ _ _ | exact olevel_f _ _)) ?_ | (refine lP ?_; refine lQ (fun hcc m => (by first | exact owithin_f _ _ _ _ | exact olevel_f _ _)) ?_)) | (show Fct ..; refine fctI (fun hf => ?_)) | (show SWp _ _ _ (.cond _ _ _) _ _ _ _; first | refine cB (fun hc => ?_) (fun hc => ?_) | refine cU ?_ ?_)))
  (refine DVQ ?_)
  refine lbC ?_
  unfold gateB
  rw [Bool.eq_iff_iff]; simp
theorem rIsWeir_f (x : Link) (m : Nat) : DCalls Tryz.prog 145 [linkD x] (hget []) m (lb (weirB x)) (hget []) := by
  refine pureC (n := 21) (rs := [.tmp 2]) (ts := [4]) Tryz.func145 rfl (by decide) [] (by (exact SD)) ?_
  (repeat' (first | refine swp_seq [0, 1, 2] ?_ | refine st2 ?_ | (show CallQ ..; first | refine cQ (fun hcc => (rLevel32_f _ _)) ?_ | (refine lP ?_; refine lQ (fun hcc m => (rLevel32_f _ _)) ?_)) | (show Fct ..; refine fctI (fun hf => ?_)) | (show SWp _ _ _ (.cond _ _ _) _ _ _ _; first | refine cB (fun hc => ?_) (fun hc => ?_) | refine cU ?_ ?_)))
  (refine DVQ ?_)
  refine lbC ?_
  unfold weirB btwB
  rw [Bool.eq_iff_iff]; simp [and_assoc]
theorem rIsGate_f (x : Link) (m : Nat) : DCalls Tryz.prog 149 [linkD x] (hget []) m (lb (gateB x)) (hget []) := by
  refine pureC (n := 31) (rs := [.tmp 2]) (ts := [4]) Tryz.func149 rfl (by decide) [] (by (exact SD)) ?_
  (repeat' (first | refine swp_seq [0, 1, 2] ?_ | refine st2 ?_ | (show CallQ ..; first | refine cQ (fun hcc => (rLevel32_f _ _)) ?_ | (refine lP ?_; refine lQ (fun hcc m => (rLevel32_f _ _)) ?_)) | (show Fct ..; refine fctI (fun hf => ?_)) | (show SWp _ _ _ (.cond _ _ _) _ _ _ _; first | refine cB (fun hc => ?_) (fun hc => ?_) | refine cU ?_ ?_)))
  (refine DVQ ?_)
  refine lbC ?_
  unfold gateB btwB
  rw [Bool.eq_iff_iff]; simp [and_assoc]
def headI (x : Link) (up down : Int) : Int := if 0 < up - (if down < x.up then x.up else down) then up - (if down < x.up then x.up else down) else 0
theorem lev_in {n : Int} (h : levB n = true) : -4194304 ≤ n ∧ n ≤ 4194304 := by unfold levB at h; simpa using h
theorem btwB_in {n a b : Int} (h : btwB n a b = true) : a ≤ n ∧ n ≤ b := by unfold btwB at h; simpa using h
theorem head_f (x : Link) (up down : Int) (m : Nat) (h1 : levB x.up = true) (h2 : levB up = true) (h3 : levB down = true) : DCalls Tryz.prog 162 [linkD x, li up, li down] (hget []) m (li (headI x up down)) (hget []) := by
  have a1 := lev_in h1
  have a2 := lev_in h2
  have a3 := lev_in h3
  refine pureC (n := 14) (rs := [.tmp 6]) (ts := [3]) Tryz.func162 rfl (by decide) [] (by (exact SD)) ?_
  (repeat' (first | refine swp_seq [0, 1, 2, 3, 6] ?_ | refine st2 ?_ | (show Fct ..; refine fctI (fun hf => ?_)) | (show SWp _ _ _ (.cond _ _ _) _ _ _ _; first | refine cB (fun hc => ?_) (fun hc => ?_) | refine cU ?_ ?_)))
  exact DVR
theorem headI_in {x : Link} {up down : Int} (h1 : levB x.up = true) (h2 : levB up = true) (h3 : levB down = true) : 0 ≤ headI x up down ∧ headI x up down ≤ 8388608 := by
  have a1 := lev_in h1
  have a2 := lev_in h2
  have a3 := lev_in h3
  unfold headI
  split <;> split at * <;> omega
set_option maxHeartbeats 1000000 in
theorem rBetween32_f (x : Link) (up down : Int) (m : Nat) (h1 : levB x.up = true) (h2 : levB up = true) (h3 : levB down = true) : DCalls Tryz.prog 147 [linkD x, li up, li down] (hget []) m (li (headI x up down)) (hget []) := by
  have a1 := lev_in h1
  have a2 := lev_in h2
  have a3 := lev_in h3
  clear h1 h2 h3
  unfold headI
  by_cases h : down < x.up
  · (have := Nonempty.intro h)
    rw [if_pos h]
    by_cases k : up ≤ x.up
    · (have := Nonempty.intro k)
      rw [if_neg (by omega)]
      refine pureC (n := 19) (rs := [.tmp 6]) (ts := [3]) Tryz.func147 rfl (by decide) [] (by (exact SD)) ?_
      (repeat' (first | refine swp_seq [0, 1, 2, 3, 6, 10, 15] ?_ | refine st2 ?_ | (show Fct ..; refine fctI (fun hf => ?_)) | (show SWp _ _ _ (.cond _ _ _) _ _ _ _; first | refine cB (fun hc => ?_) (fun hc => ?_) | refine cU ?_ ?_)))
      exact DVR
    · (have := Nonempty.intro k)
      rw [if_pos (by omega)]
      refine pureC (n := 19) (rs := [.tmp 6]) (ts := [3]) Tryz.func147 rfl (by decide) [] (by (exact SD)) ?_
      (repeat' (first | refine swp_seq [0, 1, 2, 3, 6, 10, 15] ?_ | refine st2 ?_ | (show Fct ..; refine fctI (fun hf => ?_)) | (show SWp _ _ _ (.cond _ _ _) _ _ _ _; first | refine cB (fun hc => ?_) (fun hc => ?_) | refine cU ?_ ?_)))
      exact DVR
  · (have := Nonempty.intro h)
    rw [if_neg h]
    by_cases k : up ≤ down
    · (have := Nonempty.intro k)
      rw [if_neg (by omega)]
      refine pureC (n := 19) (rs := [.tmp 6]) (ts := [3]) Tryz.func147 rfl (by decide) [] (by (exact SD)) ?_
      (repeat' (first | refine swp_seq [0, 1, 2, 3, 6, 10, 15] ?_ | refine st2 ?_ | (show Fct ..; refine fctI (fun hf => ?_)) | (show SWp _ _ _ (.cond _ _ _) _ _ _ _; first | refine cB (fun hc => ?_) (fun hc => ?_) | refine cU ?_ ?_)))
      exact DVR
    · (have := Nonempty.intro k)
      rw [if_pos (by omega)]
      refine pureC (n := 19) (rs := [.tmp 6]) (ts := [3]) Tryz.func147 rfl (by decide) [] (by (exact SD)) ?_
      (repeat' (first | refine swp_seq [0, 1, 2, 3, 6, 10, 15] ?_ | refine st2 ?_ | (show Fct ..; refine fctI (fun hf => ?_)) | (show SWp _ _ _ (.cond _ _ _) _ _ _ _; first | refine cB (fun hc => ?_) (fun hc => ?_) | refine cU ?_ ?_)))
      exact DVR
def weirN (b h : Nat) : Nat := rt (b * b * (h * h) * h * 289 / 100000)
def orifN (a h : Nat) : Nat := rt (a * a * h * 8829 / 1250000)
theorem weir_fits {b h : Nat} (hb : b ≤ 1048576) (hh : h ≤ 1048576) : b * b ≤ 1099511627776 ∧ h * h ≤ 1099511627776 ∧ b * b * (h * h) ≤ 1208925819614629174706176 ∧ b * b * (h * h) * h ≤ 1267650600228229401496703205376 ∧ b * b * (h * h) * h * 289 ≤ 366351023465958297032547226353664 := by
  have a1 := Nat.mul_le_mul hb hb
  have a2 := Nat.mul_le_mul hh hh
  have a3 := Nat.mul_le_mul a1 a2
  have a4 := Nat.mul_le_mul a3 hh
  exact ⟨a1, a2, a3, a4, Nat.mul_le_mul_right 289 a4⟩
theorem orif_fits {a h : Nat} (ha : a ≤ 1073741824) (hh : h ≤ 1048576) : a * a ≤ 1152921504606846976 ∧ a * a * h ≤ 1208925819614629174706176 ∧ a * a * h * 8829 ≤ 10673606061377560983480827904 ∧ a * h ≤ 1125899906842624 := by
  have a1 := Nat.mul_le_mul ha ha
  have a2 := Nat.mul_le_mul a1 hh
  exact ⟨a1, a2, Nat.mul_le_mul_right 8829 a2, Nat.mul_le_mul ha hh⟩
set_option maxHeartbeats 1000000 in
theorem oweir_f (b h : Nat) (m : Nat) (hb : b ≤ 1048576) (hh : h ≤ 1048576) : DCalls Tryz.prog 164 [li b, li h] (hget []) m (li (weirN b h)) (hget []) := by
  have hf := weir_fits hb hh
  have e1 : (b : Int) * (b : Int) = ((b * b : Nat) : Int) := (Int.natCast_mul _ _).symm
  have e2 : (h : Int) * (h : Int) = ((h * h : Nat) : Int) := (Int.natCast_mul _ _).symm
  have hle := Nat.div_le_self (b * b * (h * h) * h * 289) 100000
  have c1 := fun m => oproduct_f (b * b) (h * h) m (by omega) (by omega)
  have c2 := fun m => otimes_f (b * b * (h * h)) h m (by omega) (by omega)
  have c3 := fun m => otimes_f (b * b * (h * h) * h) 289 m (by omega) (by omega)
  have c4 := fun m => oover_f (b * b * (h * h) * h * 289) 100000 m (by omega) (by omega) (by omega)
  have c5 := fun m => oroot_f (b * b * (h * h) * h * 289 / 100000) m (by omega)
  have b1 : 0 ≤ (b : Int) * (b : Int) ∧ (b : Int) * (b : Int) ≤ 1099511627776 := by rw [e1]; omega
  have b2 : 0 ≤ (h : Int) * (h : Int) ∧ (h : Int) * (h : Int) ≤ 1099511627776 := by rw [e2]; omega
  have c0 : ∀ m, DCalls Tryz.prog 187 [li ((b : Int) * (b : Int)), li ((h : Int) * (h : Int))] (hget []) m (wiD (b * b * (h * h))) (hget []) := by rw [e1, e2]; exact c1
  clear c1 e1 e2 hle hf
  unfold weirN
  generalize b * b * (h * h) * h * 289 / 100000 = z at *
  generalize b * b * (h * h) * h * 289 = z2 at *
  generalize b * b * (h * h) * h = z3 at *
  generalize b * b * (h * h) = z4 at *
  refine pureC (n := 17) (rs := [.tmp 4]) (ts := [3]) Tryz.func164 rfl (by decide) [] (by (exact SD)) ?_
  (repeat' (first | refine swp_seq [0, 1, 4] ?_ | refine st2 ?_ | (show CallQ ..; first | refine cQ (fun hcc => (by first | exact c0 _ | exact c2 _ | exact c3 _ | exact c4 _ | exact c5 _)) ?_ | (refine lP ?_; refine lQ (fun hcc m => (by first | exact c0 _ | exact c2 _ | exact c3 _ | exact c4 _ | exact c5 _)) ?_)) | (show Fct ..; refine fctI (fun hf => ?_)) | (show SWp _ _ _ (.cond _ _ _) _ _ _ _; first | refine cB (fun hc => ?_) (fun hc => ?_) | refine cU ?_ ?_)))
  exact DVR
set_option maxHeartbeats 1000000 in
theorem oorif_f (a h : Nat) (m : Nat) (ha : a ≤ 1073741824) (hh : h ≤ 1048576) : DCalls Tryz.prog 191 [li a, li h] (hget []) m (li (orifN a h)) (hget []) := by
  have hf := orif_fits ha hh
  have hle := Nat.div_le_self (a * a * h * 8829) 1250000
  have c1 := fun m => oproduct_f a a m (by omega) (by omega)
  have c2 := fun m => otimes_f (a * a) h m (by omega) (by omega)
  have c3 := fun m => otimes_f (a * a * h) 8829 m (by omega) (by omega)
  have c4 := fun m => oover_f (a * a * h * 8829) 1250000 m (by omega) (by omega) (by omega)
  have c5 := fun m => oroot_f (a * a * h * 8829 / 1250000) m (by omega)
  clear hle hf
  unfold orifN
  generalize a * a * h * 8829 / 1250000 = z at *
  generalize a * a * h * 8829 = z2 at *
  generalize a * a * h = z3 at *
  generalize a * a = z4 at *
  refine pureC (n := 13) (rs := [.tmp 4]) (ts := [3]) Tryz.func191 rfl (by decide) [] (by (exact SD)) ?_
  (repeat' (first | refine swp_seq [0, 1, 4] ?_ | refine st2 ?_ | (show CallQ ..; first | refine cQ (fun hcc => (by first | exact c1 _ | exact c2 _ | exact c3 _ | exact c4 _ | exact c5 _)) ?_ | (refine lP ?_; refine lQ (fun hcc m => (by first | exact c1 _ | exact c2 _ | exact c3 _ | exact c4 _ | exact c5 _)) ?_)) | (show Fct ..; refine fctI (fun hf => ?_)) | (show SWp _ _ _ (.cond _ _ _) _ _ _ _; first | refine cB (fun hc => ?_) (fun hc => ?_) | refine cU ?_ ?_)))
  exact DVR
theorem oflow_f (q : Nat) (m : Nat) : DCalls Tryz.prog 163 [li q] (hget []) m (.tup [li (capI q), li (capE q)]) (hget []) := by
  unfold capI capE bigB
  by_cases hb : (1099511627776 : Int) < (q : Int)
  · (have := Nonempty.intro hb)
    rw [decide_eq_true (by omega)]
    refine pureC (n := 7) (rs := [.tmp 2, .tmp 3]) (ts := [3, 30]) Tryz.func163 rfl (by decide) [] (by (exact SD)) ?_
    (repeat' (first | refine swp_seq [0, 2, 3, 5] ?_ | refine st2 ?_ | (show Fct ..; refine fctI (fun hf => ?_)) | (show SWp _ _ _ (.cond _ _ _) _ _ _ _; first | refine cB (fun hc => ?_) (fun hc => ?_) | refine cU ?_ ?_)))
    exact DVR
  · (have := Nonempty.intro hb)
    rw [decide_eq_false (by omega)]
    refine pureC (n := 7) (rs := [.tmp 2, .tmp 3]) (ts := [3, 30]) Tryz.func163 rfl (by decide) [] (by (exact SD)) ?_
    (repeat' (first | refine swp_seq [0, 2, 3, 5] ?_ | refine st2 ?_ | (show Fct ..; refine fctI (fun hf => ?_)) | (show SWp _ _ _ (.cond _ _ _) _ _ _ _; first | refine cB (fun hc => ?_) (fun hc => ?_) | refine cU ?_ ?_)))
    exact DVR
set_option maxHeartbeats 1000000 in
theorem root32_f (a b n : Nat) (m : Nat) (ha : a < 9223372036854775808) (hb : b < 9223372036854775808) (hn : 0 < n ∧ n < 9223372036854775808 / 2) (h : a * b < 85070591730234615865843651857942052864) : DCalls Tryz.prog 181 [li a, li b, li n] (hget []) m (.tup [li (capI (rt (a * b / n))), li (capE (rt (a * b / n)))]) (hget []) := by
  have c1 := fun m => rtimes_f a b (hiN (a * b)) (loN (a * b)) m ha hb (hl_eq _) (loN_lt _)
  have c2 := fun m => ofInt_f n m (by omega)
  have c3 := fun m => downN_f (a * b) n m (by omega) (by omega)
  have hle := Nat.div_le_self (a * b) n
  have hz : a * b / n < 85070591730234615865843651857942052864 := by omega
  have c4 := fun m => rroot_f (a * b / n) m hz
  have hr := rt_lt hz
  clear hle h hz
  generalize a * b / n = z at *
  generalize a * b = z2 at *
  generalize rt z = r at *
  (have := Nonempty.intro hr)
  unfold capI capE bigB
  by_cases hb : (1099511627776 : Int) < (r : Int)
  · (have := Nonempty.intro hb)
    rw [decide_eq_true (by omega)]
    refine pureC (n := 23) (rs := [.tmp 6, .tmp 7]) (ts := [3, 3]) Tryz.func181 rfl (by decide) [] (by (exact SD)) ?_
    (repeat' (first | refine swp_seq [0, 1, 2, 6, 7, 8, 9, 20] ?_ | refine st2 ?_ | (show CallQ ..; first | refine cQ (fun hcc => (by first | exact c1 _ | exact c2 _ | exact c3 _ | exact c4 _)) ?_ | (refine lP ?_; refine lQ (fun hcc m => (by first | exact c1 _ | exact c2 _ | exact c3 _ | exact c4 _)) ?_)) | (show Fct ..; refine fctI (fun hf => ?_)) | (show SWp _ _ _ (.cond _ _ _) _ _ _ _; first | refine cB (fun hc => ?_) (fun hc => ?_) | refine cU ?_ ?_)))
    exact DVR
  · (have := Nonempty.intro hb)
    rw [decide_eq_false (by omega)]
    refine pureC (n := 23) (rs := [.tmp 6, .tmp 7]) (ts := [3, 3]) Tryz.func181 rfl (by decide) [] (by (exact SD)) ?_
    (repeat' (first | refine swp_seq [0, 1, 2, 6, 7, 8, 9, 20] ?_ | refine st2 ?_ | (show CallQ ..; first | refine cQ (fun hcc => (by first | exact c1 _ | exact c2 _ | exact c3 _ | exact c4 _)) ?_ | (refine lP ?_; refine lQ (fun hcc m => (by first | exact c1 _ | exact c2 _ | exact c3 _ | exact c4 _)) ?_)) | (show Fct ..; refine fctI (fun hf => ?_)) | (show SWp _ _ _ (.cond _ _ _) _ _ _ _; first | refine cB (fun hc => ?_) (fun hc => ?_) | refine cU ?_ ?_)))
    exact DVR
theorem weir_re (b h : Nat) : b * b * 289 * (h * h * h) = b * b * (h * h) * h * 289 := by
  rw [Nat.mul_right_comm (b * b) 289, ← Nat.mul_assoc]
theorem orif_re (a h : Nat) : a * 8829 * (a * h) = a * a * h * 8829 := by
  rw [Nat.mul_right_comm a 8829, ← Nat.mul_assoc]
set_option maxHeartbeats 1000000 in
theorem rWeir_f (b h : Nat) (m : Nat) (h0 : 1 ≤ b) (hb : b ≤ 1048576) (hh : h ≤ 1048576) : DCalls Tryz.prog 148 [li b, li h] (hget []) m (.tup [li (capI (weirN b h)), li (capE (weirN b h))]) (hget []) := by
  have hf := weir_fits hb hh
  have hh3 : h * h * h ≤ 1152921504606846976 := Nat.mul_le_mul hf.2.1 hh
  have g1 : ¬ ((b : Int) < 1) := by omega
  have g2 : ¬ ((1048576 : Int) < (b : Int)) := by omega
  have g3 : ¬ ((h : Int) < 0) := by omega
  have g4 : ¬ ((1048576 : Int) < (h : Int)) := by omega
  (have := Nonempty.intro g1)
  (have := Nonempty.intro g2)
  (have := Nonempty.intro g3)
  (have := Nonempty.intro g4)
  have c1 := fun m => root32_f (b * b * 289) (h * h * h) 100000 m (by omega) (by omega) (by omega) (by rw [weir_re]; omega)
  rw [weir_re] at c1
  have e1 : (b : Int) * (b : Int) * 289 = ((b * b * 289 : Nat) : Int) := by rw [Int.natCast_mul, Int.natCast_mul]; rfl
  have e2 : (h : Int) * (h : Int) * (h : Int) = ((h * h * h : Nat) : Int) := by rw [Int.natCast_mul, Int.natCast_mul]
  have e3 : (b : Int) * (b : Int) = ((b * b : Nat) : Int) := (Int.natCast_mul _ _).symm
  have e4 : (h : Int) * (h : Int) = ((h * h : Nat) : Int) := (Int.natCast_mul _ _).symm
  have b1 : 0 ≤ (b : Int) * (b : Int) * 289 ∧ (b : Int) * (b : Int) * 289 ≤ 317758860427264 := by rw [e1]; omega
  have b2 : 0 ≤ (h : Int) * (h : Int) * (h : Int) ∧ (h : Int) * (h : Int) * (h : Int) ≤ 1152921504606846976 := by rw [e2]; omega
  have b3 : 0 ≤ (b : Int) * (b : Int) ∧ (b : Int) * (b : Int) ≤ 1099511627776 := by rw [e3]; omega
  have b4 : 0 ≤ (h : Int) * (h : Int) ∧ (h : Int) * (h : Int) ≤ 1099511627776 := by rw [e4]; omega
  have c0 : ∀ m, DCalls Tryz.prog 181 [li ((b : Int) * (b : Int) * 289), li ((h : Int) * (h : Int) * (h : Int)), li 100000] (hget []) m (.tup [li (capI (weirN b h)), li (capE (weirN b h))]) (hget []) := by rw [e1, e2]; exact c1
  clear c1 e1 e2 e3 e4 hf hh3
  generalize weirN b h = z at *
  generalize capI z = z1 at *
  generalize capE z = z2 at *
  refine pureC (n := 32) (rs := [.tmp 4, .tmp 5]) (ts := [3, 3]) Tryz.func148 rfl (by decide) [] (by (exact SD)) ?_
  (repeat' (first | refine swp_seq [0, 1, 4, 5, 19] ?_ | refine st2 ?_ | (show CallQ ..; first | refine cQ (fun hcc => (by first | exact c0 _)) ?_ | (refine lP ?_; refine lQ (fun hcc m => (by first | exact c0 _)) ?_)) | (show Fct ..; refine fctI (fun hf => ?_)) | (show SWp _ _ _ (.cond _ _ _) _ _ _ _; first | refine cB (fun hc => ?_) (fun hc => ?_) | refine cU ?_ ?_)))
  exact DVR
set_option maxHeartbeats 1000000 in
theorem rOrif_f (a h : Nat) (m : Nat) (ha : a ≤ 1073741824) (hh : h ≤ 1048576) : DCalls Tryz.prog 150 [li a, li h] (hget []) m (.tup [li (capI (orifN a h)), li (capE (orifN a h))]) (hget []) := by
  have hf := orif_fits ha hh
  have g1 : ¬ ((a : Int) < 0) := by omega
  have g2 : ¬ ((1073741824 : Int) < (a : Int)) := by omega
  have g3 : ¬ ((h : Int) < 0) := by omega
  have g4 : ¬ ((1048576 : Int) < (h : Int)) := by omega
  (have := Nonempty.intro g1)
  (have := Nonempty.intro g2)
  (have := Nonempty.intro g3)
  (have := Nonempty.intro g4)
  have c1 := fun m => root32_f (a * 8829) (a * h) 1250000 m (by omega) (by omega) (by omega) (by rw [orif_re]; omega)
  rw [orif_re] at c1
  have e1 : (a : Int) * 8829 = ((a * 8829 : Nat) : Int) := by rw [Int.natCast_mul]; rfl
  have e2 : (a : Int) * (h : Int) = ((a * h : Nat) : Int) := (Int.natCast_mul _ _).symm
  have b2 : 0 ≤ (a : Int) * (h : Int) ∧ (a : Int) * (h : Int) ≤ 1125899906842624 := by rw [e2]; omega
  have c0 : ∀ m, DCalls Tryz.prog 181 [li ((a : Int) * 8829), li ((a : Int) * (h : Int)), li 1250000] (hget []) m (.tup [li (capI (orifN a h)), li (capE (orifN a h))]) (hget []) := by rw [e1, e2]; exact c1
  clear c1 e1 e2 hf
  generalize orifN a h = z at *
  generalize capI z = z1 at *
  generalize capE z = z2 at *
  refine pureC (n := 28) (rs := [.tmp 4, .tmp 5]) (ts := [3, 3]) Tryz.func150 rfl (by decide) [] (by (exact SD)) ?_
  (repeat' (first | refine swp_seq [0, 1, 4, 5, 19] ?_ | refine st2 ?_ | (show CallQ ..; first | refine cQ (fun hcc => (by first | exact c0 _)) ?_ | (refine lP ?_; refine lQ (fun hcc m => (by first | exact c0 _)) ?_)) | (show Fct ..; refine fctI (fun hf => ?_)) | (show SWp _ _ _ (.cond _ _ _) _ _ _ _; first | refine cB (fun hc => ?_) (fun hc => ?_) | refine cU ?_ ?_)))
  exact DVR
class DivOk (a b : Int) (q : outParam Int) : Prop where
  out : IntKind.i64.wrap (a.tdiv b) = q
theorem div_ok {a b q : Int} [h : DivOk a b q] : IntKind.i64.wrap (a.tdiv b) = q := h.out
class MulOk (a b : Int) (q : outParam Int) : Prop where
  out : IntKind.i64.wrap (a * b) = q
theorem mul_ok {a b q : Int} [h : MulOk a b q] : IntKind.i64.wrap (a * b) = q := h.out
theorem ite_min (a b : Int) : (if b < a then b else a) = min a b := by rw [Int.min_def]; split <;> split <;> omega
theorem ite_max (a b : Int) : (if a < b then b else a) = max a b := by rw [Int.max_def]; split <;> split <;> omega
attribute [push_cast] div_ok mul_ok ite_min ite_max
theorem div_nat (a b : Nat) (h : a < 9223372036854775808) : DivOk (a : Int) (b : Int) ((a / b : Nat) : Int) := ⟨by
  have e : (a : Int) / (b : Int) = ((a / b : Nat) : Int) := (Int.natCast_ediv a b).symm
  rw [Int.tdiv_eq_ediv_of_nonneg (by omega), e]
  have := Nat.div_le_self a b
  generalize a / b = q at *
  exact i64w (by omega)⟩
theorem mul_nat (a b : Nat) (h : a * b < 9223372036854775808) : MulOk (a : Int) (b : Int) ((a * b : Nat) : Int) := ⟨by
  rw [← Int.natCast_mul]
  exact i64w (by omega)⟩
theorem cast_min (a b : Nat) : ((min a b : Nat) : Int) = min (a : Int) (b : Int) := by omega
theorem gate_nums (x : Link) (W Z s h : Nat) (hw : x.width = W) (hz : x.height = Z) (w1 : W ≤ 32768) (z1 : Z ≤ 32768) (s1 : s ≤ 1000) (h1 : h ≤ 1048576) : ∃ p q r : Nat, W * min (Z * s / 1000) h = r ∧ r ≤ 1073741824 ∧ q ≤ 32768 ∧ MulOk x.height (s : Int) (p : Int) ∧ DivOk (p : Int) 1000 (q : Int) ∧ MulOk x.width (min (q : Int) (h : Int)) (r : Int) ∧ MulOk x.width (q : Int) ((W * q : Nat) : Int) ∧ MulOk x.width (h : Int) ((W * h : Nat) : Int) ∧ min q h = min (Z * s / 1000) h := by
  have hp1 : Z * s ≤ 32768 * 1000 := Nat.mul_le_mul z1 s1
  have hq1 : Z * s / 1000 ≤ 32768 := by omega
  have hr1 : W * min (Z * s / 1000) h ≤ 32768 * 32768 := Nat.mul_le_mul w1 (by omega)
  have hr2 : W * (Z * s / 1000) ≤ 32768 * 32768 := Nat.mul_le_mul w1 (by omega)
  have hr3 : W * h ≤ 32768 * 1048576 := Nat.mul_le_mul w1 h1
  refine ⟨Z * s, Z * s / 1000, _, rfl, by omega, hq1, ?_, ?_, ?_, ?_, ?_, rfl⟩
  · rw [hz]; exact mul_nat _ _ (by omega)
  · exact div_nat _ 1000 (by omega)
  · rw [hw, ← cast_min]; exact mul_nat _ _ (by omega)
  · rw [hw]; exact mul_nat _ _ (by omega)
  · rw [hw]; exact mul_nat _ _ (by omega)
theorem ogate_f (x : Link) (W Z s h : Nat) (m : Nat) (hw : x.width = W) (hz : x.height = Z) (w1 : W ≤ 32768) (z1 : Z ≤ 32768) (s1 : s ≤ 1000) (h1 : h ≤ 1048576) : DCalls Tryz.prog 167 [linkD x, li s, li h] (hget []) m (li (orifN (W * min (Z * s / 1000) h) h)) (hget []) := by
  obtain ⟨p, q, r, hr, hr1, _, i1, i2, i3, _⟩ := gate_nums x W Z s h hw hz w1 z1 s1 h1
  rw [hr]
  have c1 := fun m => oorif_f r h m hr1 h1
  clear hr
  refine pureC (n := 19) (rs := [.tmp 6]) (ts := [3]) Tryz.func167 rfl (by decide) [] (by (exact SD)) ?_
  (repeat' (first | refine swp_seq [0, 1, 2, 3, 6] ?_ | refine st2 ?_ | (show CallQ ..; first | refine cQ (fun hcc => (by first | exact c1 _)) ?_ | (refine lP ?_; refine lQ (fun hcc m => (by first | exact c1 _)) ?_)) | (show Fct ..; refine fctI (fun hf => ?_)) | (show SWp _ _ _ (.cond _ _ _) _ _ _ _; first | refine cB (fun hc => ?_) (fun hc => ?_) | refine cU ?_ ?_)))
  exact DVR
def gateN (x : Link) (s h : Nat) : Nat := orifN (x.width.toNat * min (x.height.toNat * s / 1000) h) h
def overO (x : Link) (up down : Int) : Option Nat := if headI x up down ≤ 1048576 then some (weirN x.width.toNat (headI x up down).toNat) else none
def gateO (x : Link) (s : Nat) (up down : Int) : Option Nat := if headI x up down ≤ 1048576 then some (gateN x s (headI x up down).toNat) else none
def optI : Option Nat → Int
  | none => 0
  | some q => capI q
def optE : Option Nat → Int
  | none => 5
  | some q => capE q
def optL : Option Nat → Int
  | none => 1099511627776
  | some q => limI q
theorem weirB_in {x : Link} (h : weirB x = true) : levB x.up = true ∧ 1 ≤ x.width ∧ x.width ≤ 1048576 := by
  unfold weirB at h; simp only [Bool.and_eq_true] at h
  exact ⟨h.1.2, btwB_in h.2⟩
theorem gateB_in {x : Link} (h : gateB x = true) : levB x.up = true ∧ (1 ≤ x.width ∧ x.width ≤ 32768) ∧ 1 ≤ x.height ∧ x.height ≤ 32768 := by
  unfold gateB at h; simp only [Bool.and_eq_true] at h
  exact ⟨h.1.1.2, btwB_in h.1.2, btwB_in h.2⟩
set_option maxHeartbeats 1000000 in
theorem over_f (x : Link) (up down : Int) (m : Nat) (hx : weirB x = true) (h1 : levB up = true) (h2 : levB down = true) : DCalls Tryz.prog 120 [linkD x, li up, li down] (hget []) m (.tup [li (optI (overO x up down)), li (optE (overO x up down))]) (hget []) := by
  have hin := weirB_in hx
  have hh := headI_in hin.1 h1 h2
  have c1 := fun m => isWeir_f x m
  have c2 := fun m => olevel_f up m
  have c3 := fun m => olevel_f down m
  have c4 := fun m => head_f x up down m hin.1 h1 h2
  rw [hx] at c1
  rw [h1] at c2
  rw [h2] at c3
  unfold overO
  obtain ⟨h, eh⟩ : ∃ h : Nat, headI x up down = (h : Int) := ⟨(headI x up down).toNat, by omega⟩
  rw [eh] at c4 hh ⊢
  by_cases hb : (h : Int) ≤ 1048576
  · have hb2 : ¬ (1048576 : Int) < (h : Int) := by omega
    (have := Nonempty.intro hb2)
    rw [if_pos hb, Int.toNat_natCast]
    obtain ⟨W, hW⟩ : ∃ W : Nat, x.width = (W : Int) := ⟨x.width.toNat, by omega⟩
    rw [hW, Int.toNat_natCast]
    have c5 : ∀ m, DCalls Tryz.prog 164 [li x.width, li h] (hget []) m (li (weirN W h)) (hget []) := by rw [hW]; exact fun m => oweir_f W h m (by omega) (by omega)
    generalize weirN W h = q at *
    have c6 := fun m => oflow_f q m
    unfold optI optE
    dsimp only
    refine pureC (n := 35) (rs := [.tmp 6, .tmp 7]) (ts := [3, 30]) Tryz.func120 rfl (by decide) [] (by (exact SD)) ?_
    (repeat' (first | refine swp_seq [0, 1, 2, 3, 6, 7, 8, 9, 13, 27] ?_ | refine st2 ?_ | (show CallQ ..; first | refine cQ (fun hcc => (by first | exact c1 _ | exact c2 _ | exact c3 _ | exact c4 _ | exact c5 _ | exact c6 _)) ?_ | (refine lP ?_; refine lQ (fun hcc m => (by first | exact c1 _ | exact c2 _ | exact c3 _ | exact c4 _ | exact c5 _ | exact c6 _)) ?_)) | (show Fct ..; refine fctI (fun hf => ?_)) | (show SWp _ _ _ (.cond _ _ _) _ _ _ _; first | refine cB (fun hc => ?_) (fun hc => ?_) | refine cU ?_ ?_)))
    exact DVR
  · have hb2 : (1048576 : Int) < (h : Int) := by omega
    (have := Nonempty.intro hb2)
    rw [if_neg hb]
    unfold optI optE
    refine pureC (n := 35) (rs := [.tmp 6, .tmp 7]) (ts := [3, 30]) Tryz.func120 rfl (by decide) [] (by (exact SD)) ?_
    (repeat' (first | refine swp_seq [0, 1, 2, 3, 6, 7, 8, 9, 13, 27] ?_ | refine st2 ?_ | (show CallQ ..; first | refine cQ (fun hcc => (by first | exact c1 _ | exact c2 _ | exact c3 _ | exact c4 _)) ?_ | (refine lP ?_; refine lQ (fun hcc m => (by first | exact c1 _ | exact c2 _ | exact c3 _ | exact c4 _)) ?_)) | (show Fct ..; refine fctI (fun hf => ?_)) | (show SWp _ _ _ (.cond _ _ _) _ _ _ _; first | refine cB (fun hc => ?_) (fun hc => ?_) | refine cU ?_ ?_)))
    exact DVR
set_option maxHeartbeats 1000000 in
theorem rOver_f (x : Link) (up down : Int) (m : Nat) (hx : weirB x = true) (h1 : levB up = true) (h2 : levB down = true) : DCalls Tryz.prog 98 [linkD x, li up, li down] (hget []) m (.tup [li (optI (overO x up down)), li (optE (overO x up down))]) (hget []) := by
  have hin := weirB_in hx
  have hh := headI_in hin.1 h1 h2
  have c1 := fun m => rIsWeir_f x m
  have c2 := fun m => rLevel32_f up m
  have c3 := fun m => rLevel32_f down m
  have c4 := fun m => rBetween32_f x up down m hin.1 h1 h2
  rw [hx] at c1
  rw [h1] at c2
  rw [h2] at c3
  unfold overO
  obtain ⟨h, eh⟩ : ∃ h : Nat, headI x up down = (h : Int) := ⟨(headI x up down).toNat, by omega⟩
  rw [eh] at c4 hh ⊢
  by_cases hb : (h : Int) ≤ 1048576
  · have hb2 : ¬ (1048576 : Int) < (h : Int) := by omega
    (have := Nonempty.intro hb2)
    rw [if_pos hb, Int.toNat_natCast]
    obtain ⟨W, hW⟩ : ∃ W : Nat, x.width = (W : Int) := ⟨x.width.toNat, by omega⟩
    rw [hW, Int.toNat_natCast]
    have c5 : ∀ m, DCalls Tryz.prog 148 [li x.width, li h] (hget []) m (.tup [li (capI (weirN W h)), li (capE (weirN W h))]) (hget []) := by rw [hW]; exact fun m => rWeir_f W h m (by omega) (by omega) (by omega)
    generalize weirN W h = q at *
    unfold optI optE
    dsimp only
    refine pureC (n := 32) (rs := [.tmp 6, .tmp 7]) (ts := [3, 3]) Tryz.func98 rfl (by decide) [] (by (exact SD)) ?_
    (repeat' (first | refine swp_seq [0, 1, 2, 3, 6, 7, 8, 11, 19, 25] ?_ | refine st2 ?_ | (show CallQ ..; first | refine cQ (fun hcc => (by first | exact c1 _ | exact c2 _ | exact c3 _ | exact c4 _ | exact c5 _)) ?_ | (refine lP ?_; refine lQ (fun hcc m => (by first | exact c1 _ | exact c2 _ | exact c3 _ | exact c4 _ | exact c5 _)) ?_)) | (show Fct ..; refine fctI (fun hf => ?_)) | (show SWp _ _ _ (.cond _ _ _) _ _ _ _; first | refine cB (fun hc => ?_) (fun hc => ?_) | refine cU ?_ ?_)))
    exact DVR
  · have hb2 : (1048576 : Int) < (h : Int) := by omega
    (have := Nonempty.intro hb2)
    rw [if_neg hb]
    unfold optI optE
    refine pureC (n := 32) (rs := [.tmp 6, .tmp 7]) (ts := [3, 3]) Tryz.func98 rfl (by decide) [] (by (exact SD)) ?_
    (repeat' (first | refine swp_seq [0, 1, 2, 3, 6, 7, 8, 11, 19, 25] ?_ | refine st2 ?_ | (show CallQ ..; first | refine cQ (fun hcc => (by first | exact c1 _ | exact c2 _ | exact c3 _ | exact c4 _)) ?_ | (refine lP ?_; refine lQ (fun hcc m => (by first | exact c1 _ | exact c2 _ | exact c3 _ | exact c4 _)) ?_)) | (show Fct ..; refine fctI (fun hf => ?_)) | (show SWp _ _ _ (.cond _ _ _) _ _ _ _; first | refine cB (fun hc => ?_) (fun hc => ?_) | refine cU ?_ ?_)))
    exact DVR
set_option maxHeartbeats 1000000 in
theorem gate_f (x : Link) (s : Nat) (up down : Int) (m : Nat) (hx : gateB x = true) (hs : s ≤ 1000) (h1 : levB up = true) (h2 : levB down = true) : DCalls Tryz.prog 121 [linkD x, li s, li up, li down] (hget []) m (.tup [li (optI (gateO x s up down)), li (optE (gateO x s up down))]) (hget []) := by
  have hin := gateB_in hx
  have hh := headI_in hin.1 h1 h2
  have c0 := fun m => owithin_f s 0 1000 m
  rw [show btwB (s : Int) 0 1000 = true by unfold btwB; simp; omega] at c0
  have c1 := fun m => isGate_f x m
  have c2 := fun m => olevel_f up m
  have c3 := fun m => olevel_f down m
  have c4 := fun m => head_f x up down m hin.1 h1 h2
  rw [hx] at c1
  rw [h1] at c2
  rw [h2] at c3
  unfold gateO
  obtain ⟨h, eh⟩ : ∃ h : Nat, headI x up down = (h : Int) := ⟨(headI x up down).toNat, by omega⟩
  rw [eh] at c4 hh ⊢
  by_cases hb : (h : Int) ≤ 1048576
  · have hb2 : ¬ (1048576 : Int) < (h : Int) := by omega
    (have := Nonempty.intro hb2)
    rw [if_pos hb, Int.toNat_natCast]
    have c5 := fun m => ogate_f x x.width.toNat x.height.toNat s h m (by omega) (by omega) (by omega) (by omega) hs (by omega)
    unfold gateN
    generalize orifN (x.width.toNat * min (x.height.toNat * s / 1000) h) h = q at *
    have c6 := fun m => oflow_f q m
    unfold optI optE
    dsimp only
    refine pureC (n := 42) (rs := [.tmp 8, .tmp 9]) (ts := [3, 30]) Tryz.func121 rfl (by decide) [] (by (exact SD)) ?_
    (repeat' (first | refine swp_seq [0, 1, 2, 3, 4, 8, 9, 10, 11, 15, 34] ?_ | refine st2 ?_ | (show CallQ ..; first | refine cQ (fun hcc => (by first | exact c0 _ | exact c1 _ | exact c2 _ | exact c3 _ | exact c4 _ | exact c5 _ | exact c6 _)) ?_ | (refine lP ?_; refine lQ (fun hcc m => (by first | exact c0 _ | exact c1 _ | exact c2 _ | exact c3 _ | exact c4 _ | exact c5 _ | exact c6 _)) ?_)) | (show Fct ..; refine fctI (fun hf => ?_)) | (show SWp _ _ _ (.cond _ _ _) _ _ _ _; first | refine cB (fun hc => ?_) (fun hc => ?_) | refine cU ?_ ?_)))
    exact DVR
  · have hb2 : (1048576 : Int) < (h : Int) := by omega
    (have := Nonempty.intro hb2)
    rw [if_neg hb]
    unfold optI optE
    refine pureC (n := 42) (rs := [.tmp 8, .tmp 9]) (ts := [3, 30]) Tryz.func121 rfl (by decide) [] (by (exact SD)) ?_
    (repeat' (first | refine swp_seq [0, 1, 2, 3, 4, 8, 9, 10, 11, 15, 34] ?_ | refine st2 ?_ | (show CallQ ..; first | refine cQ (fun hcc => (by first | exact c0 _ | exact c1 _ | exact c2 _ | exact c3 _ | exact c4 _)) ?_ | (refine lP ?_; refine lQ (fun hcc m => (by first | exact c0 _ | exact c1 _ | exact c2 _ | exact c3 _ | exact c4 _)) ?_)) | (show Fct ..; refine fctI (fun hf => ?_)) | (show SWp _ _ _ (.cond _ _ _) _ _ _ _; first | refine cB (fun hc => ?_) (fun hc => ?_) | refine cU ?_ ?_)))
    exact DVR
set_option maxHeartbeats 1000000 in
theorem rGate_f (x : Link) (s : Nat) (up down : Int) (m : Nat) (hx : gateB x = true) (hs : s ≤ 1000) (h1 : levB up = true) (h2 : levB down = true) : DCalls Tryz.prog 100 [linkD x, li s, li up, li down] (hget []) m (.tup [li (optI (gateO x s up down)), li (optE (gateO x s up down))]) (hget []) := by
  have hin := gateB_in hx
  have hh := headI_in hin.1 h1 h2
  have c1 := fun m => rIsGate_f x m
  have c2 := fun m => rLevel32_f up m
  have c3 := fun m => rLevel32_f down m
  have c4 := fun m => rBetween32_f x up down m hin.1 h1 h2
  rw [hx] at c1
  rw [h1] at c2
  rw [h2] at c3
  have s0 : ¬ ((s : Int) < 0) := by omega
  have s1 : ¬ ((1000 : Int) < (s : Int)) := by omega
  (have := Nonempty.intro s0)
  (have := Nonempty.intro s1)
  unfold gateO
  obtain ⟨h, eh⟩ : ∃ h : Nat, headI x up down = (h : Int) := ⟨(headI x up down).toNat, by omega⟩
  rw [eh] at c4 hh ⊢
  by_cases hb : (h : Int) ≤ 1048576
  · have hb2 : ¬ (1048576 : Int) < (h : Int) := by omega
    (have := Nonempty.intro hb2)
    rw [if_pos hb, Int.toNat_natCast]
    obtain ⟨p, q, r, hr, hr1, hq1, i1, i2, i3, i4, i5, hmin⟩ := gate_nums x x.width.toNat x.height.toNat s h (by omega) (by omega) (by omega) (by omega) hs (by omega)
    unfold gateN
    rw [hr]
    rw [← hmin] at hr
    clear hmin
    by_cases hlt : (h : Int) < (q : Int)
    · (have := Nonempty.intro hlt)
      have er : x.width.toNat * h = r := by rw [← hr]; congr 1; omega
      rw [er] at i5
      have c5 := fun m => rOrif_f r h m (by omega) (by omega)
      generalize orifN r h = z at *
      clear hr er hin i3 i4
      unfold optI optE
      dsimp only
      refine pureC (n := 54) (rs := [.tmp 8, .tmp 9]) (ts := [3, 3]) Tryz.func100 rfl (by decide) [] (by (exact SD)) ?_
      (repeat' (first | refine swp_seq [0, 1, 2, 3, 4, 8, 9, 10, 11, 14, 30, 36, 44] ?_ | refine st2 ?_ | (show CallQ ..; first | refine cQ (fun hcc => (by first | exact c1 _ | exact c2 _ | exact c3 _ | exact c4 _ | exact c5 _)) ?_ | (refine lP ?_; refine lQ (fun hcc m => (by first | exact c1 _ | exact c2 _ | exact c3 _ | exact c4 _ | exact c5 _)) ?_)) | (show Fct ..; refine fctI (fun hf => ?_)) | (show SWp _ _ _ (.cond _ _ _) _ _ _ _; first | refine cB (fun hc => ?_) (fun hc => ?_) | refine cU ?_ ?_)))
      exact DVR
    · (have := Nonempty.intro hlt)
      have er : x.width.toNat * q = r := by rw [← hr]; congr 1; omega
      rw [er] at i4
      have c5 := fun m => rOrif_f r h m (by omega) (by omega)
      generalize orifN r h = z at *
      clear hr er hin i3 i5
      unfold optI optE
      dsimp only
      refine pureC (n := 54) (rs := [.tmp 8, .tmp 9]) (ts := [3, 3]) Tryz.func100 rfl (by decide) [] (by (exact SD)) ?_
      (repeat' (first | refine swp_seq [0, 1, 2, 3, 4, 8, 9, 10, 11, 14, 30, 36, 44] ?_ | refine st2 ?_ | (show CallQ ..; first | refine cQ (fun hcc => (by first | exact c1 _ | exact c2 _ | exact c3 _ | exact c4 _ | exact c5 _)) ?_ | (refine lP ?_; refine lQ (fun hcc m => (by first | exact c1 _ | exact c2 _ | exact c3 _ | exact c4 _ | exact c5 _)) ?_)) | (show Fct ..; refine fctI (fun hf => ?_)) | (show SWp _ _ _ (.cond _ _ _) _ _ _ _; first | refine cB (fun hc => ?_) (fun hc => ?_) | refine cU ?_ ?_)))
      exact DVR
  · have hb2 : (1048576 : Int) < (h : Int) := by omega
    (have := Nonempty.intro hb2)
    rw [if_neg hb]
    unfold optI optE
    refine pureC (n := 54) (rs := [.tmp 8, .tmp 9]) (ts := [3, 3]) Tryz.func100 rfl (by decide) [] (by (exact SD)) ?_
    (repeat' (first | refine swp_seq [0, 1, 2, 3, 4, 8, 9, 10, 11, 14, 30, 36, 44] ?_ | refine st2 ?_ | (show CallQ ..; first | refine cQ (fun hcc => (by first | exact c1 _ | exact c2 _ | exact c3 _ | exact c4 _)) ?_ | (refine lP ?_; refine lQ (fun hcc m => (by first | exact c1 _ | exact c2 _ | exact c3 _ | exact c4 _)) ?_)) | (show Fct ..; refine fctI (fun hf => ?_)) | (show SWp _ _ _ (.cond _ _ _) _ _ _ _; first | refine cB (fun hc => ?_) (fun hc => ?_) | refine cU ?_ ?_)))
    exact DVR
theorem limitedO_f (o : Option Nat) (m : Nat) : DCalls Tryz.prog 119 [li (optI o), li (optE o)] (hget []) m (.tup [li (optL o), li 0]) (hget []) := by
  cases o with
  | some q => exact limited_f q m
  | none =>
    unfold optI optE optL
    refine pureC (n := 10) (rs := [.tmp 4, .tmp 5]) (ts := [3, 30]) Tryz.func119 rfl (by decide) [] (by (exact SD)) ?_
    (repeat' (first | refine swp_seq [0, 1, 4, 5, 7] ?_ | refine st2 ?_ | (show Fct ..; refine fctI (fun hf => ?_)) | (show SWp _ _ _ (.cond _ _ _) _ _ _ _; first | refine cB (fun hc => ?_) (fun hc => ?_) | refine cU ?_ ?_)))
    exact DVR
theorem rflowO_f (o : Option Nat) (m : Nat) : DCalls Tryz.prog 99 [li (optI o), li (optE o)] (hget []) m (li (optL o)) (hget []) := by
  cases o with
  | some q => exact rflow34_f q m
  | none =>
    unfold optI optE optL
    refine pureC (n := 8) (rs := [.tmp 4]) (ts := [3]) Tryz.func99 rfl (by decide) [] (by (exact SD)) ?_
    (repeat' (first | refine swp_seq [0, 1, 4, 6] ?_ | refine st2 ?_ | (show Fct ..; refine fctI (fun hf => ?_)) | (show SWp _ _ _ (.cond _ _ _) _ _ _ _; first | refine cB (fun hc => ?_) (fun hc => ?_) | refine cU ?_ ?_)))
    exact DVR

end Go.Proofs.YtnfbaeeohepajaaGreat
