/-
  Contracts of functions of the program, over the engine.
  No condition.
-/
import Derived.Test.YthacnhidipeckaaGreatCKSK1K2K3K5
namespace Go.Proofs.YthacnhidipeckaaGreat
open Go.Eng
set_option linter.all false
attribute [local irreducible] DCallsG SWp Fct CallQ XCallQ LCallQ XLCallQ drun xrun
theorem w64s (s : Nat) [h : Nonempty (s < 64)] : IntKind.u64.wrap (64 - (s : Int)) = ((64 - s : Nat) : Int) := by
  have := h.elim id
  rw [u64w]; omega
attribute [push_cast] w64s
set_option maxRecDepth 20000 in
set_option maxHeartbeats 8000000 in
theorem div64q_f (hi lo y QQ RR : Nat) (m : Nat) (h1 : hi < y) (hy : y < 18446744073709551616) (hl : lo < 18446744073709551616) (h0 : 0 < hi) (hQ : (hi * 18446744073709551616 + lo) / y = QQ) (hR : (hi * 18446744073709551616 + lo) % y = RR) : DCalls Tryz.prog 167 [lu hi, lu lo, lu y] (hget []) m (.tup [lu QQ, lu RR]) (hget []) := by
  have n1 : ¬ ((y : Int) = 0) := by omega
  have n2 : ¬ ((y : Int) ≤ (hi : Int)) := by omega
  have n3 : ¬ ((hi : Int) = 0) := by omega
  (have := Nonempty.intro n1)
  (have := Nonempty.intro n2)
  (have := Nonempty.intro n3)
  have hlen : lenN y ≤ 64 ∧ 1 ≤ lenN y := by
    unfold lenN
    rw [if_neg (by omega)]
    have := (Nat.log2_lt (k := 64) (by omega : y ≠ 0)).2 hy
    omega
  refine pureC (n := 135) (rs := [.tmp 6, .tmp 7]) (ts := [191, 191]) Tryz.func167 rfl (by decide) [] (by (exact SD)) ?_
  (repeat' (first | refine swp_seq [0, 1, 2, 6, 7, 8, 9, 10, 11, 12, 13, 14, 15, 16, 17, 18, 20, 24, 27, 78, 85, 113, 120] ?_ | refine st2 ?_ | (show CallQ ..; first | refine cQ (fun hcc => (lz64_f y _ hy)) ?_ | (refine lP ?_; refine lQ (fun hcc m => (lz64_f y _ hy)) ?_)) | (show XCallQ ..; first | refine xQ (fun hcc => (lz64_f y _ hy)) ?_ | (refine xlP ?_; refine xlQ (fun hcc m => (lz64_f y _ hy)) ?_)) | (show Fct ..; refine fctI (fun hf => ?_)) | (show SWp _ _ _ (.cond _ _ _) _ _ _ _; first | refine cB (fun hc => ?_) (fun hc => ?_) | refine cU ?_ ?_)))
  have hs : IntKind.u64.wrap (64 - (lenN y : Int)) = ((64 - lenN y : Nat) : Int) := by rw [u64w]; omega
  rw [hs]
  have hs2 : 64 - lenN y < 64 := by omega
  generalize hS : 64 - lenN y = s at *
  (have := Nonempty.intro hs2)
  have hV1 := norm64 (by omega) hS hlen.1
  have hsp := split64 hi lo s hs2 hl
  have hrem : lo / 2 ^ (64 - s) < 2 ^ s := by
    rw [Nat.div_lt_iff_lt_mul (Nat.pow_pos (by decide)), ← Nat.pow_add, show s + (64 - s) = 64 by omega]; exact hl
  have hhi : hi * 2 ^ s + 2 ^ s ≤ y * 2 ^ s := by
    have := Nat.mul_le_mul_right (2 ^ s) h1
    rwa [Nat.succ_mul] at this
  (repeat' (first | (show SWp _ _ _ (.seq (.region 9 _ _) _) _ _ _ _; refine (stop_in ?_)) | refine swp_seq [0, 1, 2, 6, 7, 8, 9, 10, 11, 12, 13, 14, 15, 16, 17, 18, 20, 24, 27, 78, 85, 113, 120] ?_ | (show SWp _ _ _ (.region _ _ true) _ _ _ _; refine xG mixed [] ?_) | refine st2 ?_ | (show CallQ ..; first | refine cQ (fun hcc => (by fail)) ?_ | (refine lP ?_; refine lQ (fun hcc m => (by fail)) ?_)) | (show XCallQ ..; first | refine xQ (fun hcc => (by fail)) ?_ | (refine xlP ?_; refine xlQ (fun hcc m => (by fail)) ?_)) | (show Fct ..; refine fctI (fun hf => ?_)) | (show SWp _ _ _ (.cond _ _ _) _ _ _ _; first | refine cB (fun hc => ?_) (fun hc => ?_) | refine cU ?_ ?_)))
  refine stop_out ?_
  rw [shl64 y s hs2 hV1.2]
  have hq1 : QQ = (hi * 18446744073709551616 + lo) * 2 ^ s / (y * 2 ^ s) := by rw [← hQ]; exact (Nat.mul_div_mul_right _ _ (Nat.pow_pos (by decide))).symm
  have hq2 : (hi * 18446744073709551616 + lo) * 2 ^ s % (y * 2 ^ s) = RR * 2 ^ s := by rw [← hR]; exact Nat.mul_mod_mul_right _ _ _
  have hqlt : QQ < 18446744073709551616 := by rw [← hQ]; exact kn_lt h1 hl
  clear hQ hR
  have hU1 : hi * 2 ^ s + lo / 2 ^ (64 - s) < y * 2 ^ s := by omega
  have hhs : hi * 2 ^ s < 18446744073709551616 := Nat.lt_of_le_of_lt (Nat.le_add_right _ _) (Nat.lt_trans hU1 hV1.2)
  have hus : hi * 2 ^ s + lo / 2 ^ (64 - s) < 18446744073709551616 := Nat.lt_trans hU1 hV1.2
  generalize hVV : y * 2 ^ s = V at *
  (repeat' (first | (show SWp _ _ _ (.seq (.region 12 _ _) _) _ _ _ _; refine (stop_in ?_)) | refine swp_seq [0, 1, 2, 6, 7, 8, 9, 10, 11, 12, 13, 14, 15, 16, 17, 18, 20, 24, 27, 78, 85, 113, 120] ?_ | (show SWp _ _ _ (.region _ _ true) _ _ _ _; refine xG mixed [] ?_) | refine st2 ?_ | (show CallQ ..; first | refine cQ (fun hcc => (by fail)) ?_ | (refine lP ?_; refine lQ (fun hcc m => (by fail)) ?_)) | (show XCallQ ..; first | refine xQ (fun hcc => (by fail)) ?_ | (refine xlP ?_; refine xlQ (fun hcc m => (by fail)) ?_)) | (show Fct ..; refine fctI (fun hf => ?_)) | (show SWp _ _ _ (.cond _ _ _) _ _ _ _; first | refine cB (fun hc => ?_) (fun hc => ?_) | refine cU ?_ ?_)))
  refine stop_out ?_
  rw [shl64 hi s hs2 hhs, shr64 lo (64 - s) (by omega), or64 hi (lo / 2 ^ (64 - s)) s hrem hus]
  generalize hUU : hi * 2 ^ s + lo / 2 ^ (64 - s) = U at *
  (repeat' (first | (show SWp _ _ _ (.seq (.region 13 _ _) _) _ _ _ _; refine (stop_in ?_)) | refine swp_seq [0, 1, 2, 6, 7, 8, 9, 10, 11, 12, 13, 14, 15, 16, 17, 18, 20, 24, 27, 78, 85, 113, 120] ?_ | (show SWp _ _ _ (.region _ _ true) _ _ _ _; refine xG mixed [] ?_) | refine st2 ?_ | (show CallQ ..; first | refine cQ (fun hcc => (by fail)) ?_ | (refine lP ?_; refine lQ (fun hcc m => (by fail)) ?_)) | (show XCallQ ..; first | refine xQ (fun hcc => (by fail)) ?_ | (refine xlP ?_; refine xlQ (fun hcc m => (by fail)) ?_)) | (show Fct ..; refine fctI (fun hf => ?_)) | (show SWp _ _ _ (.cond _ _ _) _ _ _ _; first | refine cB (fun hc => ?_) (fun hc => ?_) | refine cU ?_ ?_)))
  refine stop_out ?_
  rw [shl64m lo s hs2]
  have hW1 : lo * 2 ^ s % 18446744073709551616 < 18446744073709551616 := Nat.mod_lt _ (by decide)
  generalize hWW : lo * 2 ^ s % 18446744073709551616 = W at *
  have hy1 : ¬ ((V : Int) / 4294967296 = 0) := by omega
  (have := Nonempty.intro hy1)
  (repeat' (first | (show SWp _ _ _ (.seq (.block 0 _) _) _ _ _ _; refine (stop_in ?_)) | refine swp_seq [0, 1, 2, 6, 7, 8, 9, 10, 11, 12, 13, 14, 15, 16, 17, 18, 20, 24, 27, 78, 85, 113, 120] ?_ | (show SWp _ _ _ (.region _ _ true) _ _ _ _; refine xG mixed [] ?_) | refine st2 ?_ | (show CallQ ..; first | refine cQ (fun hcc => (by fail)) ?_ | (refine lP ?_; refine lQ (fun hcc m => (by fail)) ?_)) | (show XCallQ ..; first | refine xQ (fun hcc => (by fail)) ?_ | (refine xlP ?_; refine xlQ (fun hcc m => (by fail)) ?_)) | (show Fct ..; refine fctI (fun hf => ?_)) | (show SWp _ _ _ (.cond _ _ _) _ _ _ _; first | refine cB (fun hc => ?_) (fun hc => ?_) | refine cU ?_ ?_)))
  refine stop_out ?_
  have ea : (V : Int) / 4294967296 = ((V / 4294967296 : Nat) : Int) := by omega
  have eb : (V : Int) % 4294967296 = ((V % 4294967296 : Nat) : Int) := by omega
  have ew : (W : Int) / 4294967296 = ((W / 4294967296 : Nat) : Int) := by omega
  have ez : (W : Int) % 4294967296 = ((W % 4294967296 : Nat) : Int) := by omega
  rw [ea, eb, ew, ez]
  have ha : 2147483648 ≤ V / 4294967296 ∧ V / 4294967296 < 4294967296 := by omega
  have hb : V % 4294967296 < 4294967296 := by omega
  have hw : W / 4294967296 < 4294967296 := by omega
  have hz : W % 4294967296 < 4294967296 := by omega
  have hVd : V = V / 4294967296 * 4294967296 + V % 4294967296 := by omega
  have hWd : W = W / 4294967296 * 4294967296 + W % 4294967296 := by omega
  generalize V / 4294967296 = a at *
  generalize V % 4294967296 = b at *
  generalize W / 4294967296 = w at *
  generalize W % 4294967296 = z at *
  have hUV : U < a * 4294967296 + b := by omega
  have e15 : IntKind.u64.wrap ((U : Int).tdiv (a : Int)) = ((U / a : Nat) : Int) := by
    have := kn_most hb (by omega : 4294967296 ≤ 2 * a) (by omega) hUV
    rw [u64w, Int.tdiv_eq_ediv_of_nonneg (by omega), ← Int.natCast_ediv]
    generalize U / a = t at *
    omega
  have hUm := Nat.div_add_mod U a
  have e16 : IntKind.u64.wrap ((U : Int) - IntKind.u64.wrap (((U / a : Nat) : Int) * (a : Int))) = ((U % a : Nat) : Int) := by
    rw [u64w, u64w, ← Int.natCast_mul, Nat.mul_comm (U / a) a]
    generalize a * (U / a) = t at *
    generalize U % a = r at *
    omega
  rw [e15, e16]
  obtain ⟨Q1, hQ1⟩ : ∃ q, (U * 4294967296 + w) / V = q := ⟨_, rfl⟩
  obtain ⟨R, hRR⟩ : ∃ q, (U * 4294967296 + w) % V = q := ⟨_, rfl⟩
  obtain ⟨Q0, hQ0⟩ : ∃ q, (R * 4294967296 + z) / V = q := ⟨_, rfl⟩
  obtain ⟨S0, hS0⟩ : ∃ q, (R * 4294967296 + z) % V = q := ⟨_, rfl⟩
  have hV0 : 0 < V := by omega
  have hdm := Nat.div_add_mod (U * 4294967296 + w) V
  have hR := Nat.mod_lt (U * 4294967296 + w) hV0
  have hq1lt := kn_lt hU1 hw
  have hdm2 := Nat.div_add_mod (R * 4294967296 + z) V
  have hR2 := Nat.mod_lt (R * 4294967296 + z) hV0
  rw [hQ1, hRR] at hdm
  rw [hRR] at hR
  rw [hQ1] at hq1lt
  rw [hQ0, hS0] at hdm2
  rw [hS0] at hR2
  have hE2 := kn_two2 (z := z) hV0 hz (by omega) hQ1 hRR hQ0 hS0
  have hfull : (hi * 18446744073709551616 + lo) * 2 ^ s = (U * 4294967296 + w) * 4294967296 + z := by rw [hsp, hWd]; omega
  rw [hfull, ← hE2.1] at hq1
  rw [hfull, ← hE2.2] at hq2
  clear hsp hfull hE2
  have hk := kn_first (B := 4294967296) (b := b) (u := U) (by omega : 0 < a) hw
  refine swp_mid [2, 8, 9, 10, 11, 13, 14, 15] [] 0 (fun A H => A = [(2, lu V), (8, lu s), (9, lu a), (10, lu b), (11, lu U), (13, lu w), (14, lu z), (15, lu Q1)] ∧ H = []) (by omega) ?_ ?_ ?_
  · rintro A H ⟨rfl, rfl⟩
    exact ⟨by (exact SD), by (exact SD)⟩
  · (repeat' (first | refine swp_seq [0, 1, 2, 6, 7, 8, 9, 10, 11, 12, 13, 14, 15, 16, 17, 18, 20, 24, 27, 78, 85, 113, 120] ?_ | refine st2 ?_ | (show Fct ..; refine fctI (fun hf => ?_)) | (show SWp _ _ _ (.cond _ _ _) _ _ _ _; first | refine cB (fun hc => ?_) (fun hc => ?_) | refine cU ?_ ?_)))
    refine loop_swp [2, 8, 9, 10, 11, 13, 14, 15, 16] [] 0 (fun k A H => ∃ q r : Nat, k = q ∧ U = q * a + r ∧ U * 4294967296 + w < (q + 1) * (a * 4294967296 + b) ∧ q ≤ 4294967297 ∧ r < 4294967296 ∧ A = [(2, lu V), (8, lu s), (9, lu a), (10, lu b), (11, lu U), (13, lu w), (14, lu z), (15, lu q), (16, lu r)] ∧ H = []) (by omega) ?_ ?_ ?_
    · rintro k A H ⟨q, r, g1, g2, g3, g4, g5, rfl, rfl⟩
      exact ⟨by (exact SD), by (exact SD)⟩
    · refine ⟨_, U / a, U % a, rfl, ?_, hk, kn_most hb (by omega) (by omega) hUV, Nat.lt_trans (Nat.mod_lt _ (by omega)) ha.2, ?_, ?_⟩
      · rw [Nat.mul_comm]; exact hUm.symm
      · exact DVR
      · exact DVR
    rintro k A H ⟨q, r, rfl, g2, g3, g4, g5, rfl, rfl⟩
    have hqb : k * b ≤ 4294967297 * 4294967295 := Nat.mul_le_mul g4 (by omega)
    have hst := kn_step (B := 4294967296) hb hw hUV g2 g3
    have hsp2 := kn_stop (B := 4294967296) (w := w) (b := b) g2 g3
    rw [← hVd] at hst hsp2
    have ew1 : IntKind.u64.wrap ((k : Int) * (b : Int)) = ((k * b : Nat) : Int) := by rw [u64w, ← Int.natCast_mul]; generalize k * b = t at *; omega
    have ew2 : IntKind.u64.wrap (IntKind.u64.wrap (4294967296 * (r : Int)) + (w : Int)) = ((4294967296 * r + w : Nat) : Int) := by rw [u64w, u64w]; omega
    have ew3 : IntKind.u64.wrap ((r : Int) + (a : Int)) = ((r + a : Nat) : Int) := by rw [u64w]; omega
    generalize k * b = kb at *
    have ew4 : 1 ≤ k → IntKind.u64.wrap ((k : Int) - 1) = ((k - 1 : Nat) : Int) := fun q => by rw [u64w]; omega
    (repeat' (first | refine swp_seq [0, 1, 2, 6, 7, 8, 9, 10, 11, 12, 13, 14, 15, 16, 17, 18, 20, 24, 27, 78, 85, 113, 120] ?_ | refine st2 ?_ | (show Fct ..; refine fctI (fun hf => ?_)) | (show SWp _ _ _ (.cond _ _ _) _ _ _ _; first | refine cB (fun hc => ?_) (fun hc => ?_) | refine cU ?_ ?_)))
    · rename_i hct
      rw [ew1, ew2] at hct
      rw [ew3] at hc
      obtain ⟨q1, q2, q3, q4⟩ := hst (by omega)
      exact midK_normal (A2 := [(2, lu V), (8, lu s), (9, lu a), (10, lu b), (11, lu U), (13, lu w), (14, lu z), (15, lv (.int .u64 (IntKind.u64.wrap ((k : Int) - 1))))]) (H2 := []) (by exact DVR) (by exact DVR) ⟨by rw [ew4 q1, hQ1.symm.trans (q4 (by omega))], rfl⟩
    · rename_i hct
      rw [ew1, ew2] at hct
      rw [ew3] at hc
      obtain ⟨q1, q2, q3, q4⟩ := hst (by omega)
      (refine lN [] ?_)
      exact ⟨k - 1, by omega, k - 1, r + a, rfl, q3, by rw [← hVd]; exact q2, by omega, by omega, by rw [ew4 q1, ew3]; rfl, rfl⟩
    · rw [ew1, ew2] at hc
      exact midK_normal (A2 := [(2, lu V), (8, lu s), (9, lu a), (10, lu b), (11, lu U), (13, lu w), (14, lu z), (15, lu k)]) (H2 := []) (by exact DVR) (by exact DVR) ⟨by rw [hQ1.symm.trans (hsp2 (by omega))], rfl⟩
  rintro A H ⟨rfl, rfl⟩
  have e17 : IntKind.u64.wrap (IntKind.u64.wrap (IntKind.u64.wrap ((U : Int) * 4294967296) + (w : Int)) - IntKind.u64.wrap ((Q1 : Int) * (V : Int))) = (R : Int) := by
    rw [← Int.natCast_mul, Nat.mul_comm Q1 V]
    exact u64_diff _ _ _ _ hdm (Nat.lt_trans hR hV1.2)
  (repeat' (first | (show SWp _ _ _ (.seq (.region 22 _ _) _) _ _ _ _; refine (stop_in ?_)) | refine swp_seq [0, 1, 2, 6, 7, 8, 9, 10, 11, 12, 13, 14, 15, 16, 17, 18, 20, 24, 27, 78, 85, 113, 120] ?_ | (show SWp _ _ _ (.region _ _ true) _ _ _ _; refine xG mixed [] ?_) | refine st2 ?_ | (show CallQ ..; first | refine cQ (fun hcc => (by fail)) ?_ | (refine lP ?_; refine lQ (fun hcc m => (by fail)) ?_)) | (show XCallQ ..; first | refine xQ (fun hcc => (by fail)) ?_ | (refine xlP ?_; refine xlQ (fun hcc m => (by fail)) ?_)) | (show Fct ..; refine fctI (fun hf => ?_)) | (show SWp _ _ _ (.cond _ _ _) _ _ _ _; first | refine cB (fun hc => ?_) (fun hc => ?_) | refine cU ?_ ?_)))
  refine stop_out ?_
  rw [e17]
  have hRV : R < a * 4294967296 + b := by omega
  have e18 : IntKind.u64.wrap ((R : Int).tdiv (a : Int)) = ((R / a : Nat) : Int) := by
    have := kn_most hb (by omega : 4294967296 ≤ 2 * a) (by omega) hRV
    rw [u64w, Int.tdiv_eq_ediv_of_nonneg (by omega), ← Int.natCast_ediv]
    generalize R / a = t at *
    omega
  have hRm := Nat.div_add_mod R a
  have e19 : IntKind.u64.wrap ((R : Int) - IntKind.u64.wrap (((R / a : Nat) : Int) * (a : Int))) = ((R % a : Nat) : Int) := by
    rw [u64w, u64w, ← Int.natCast_mul, Nat.mul_comm (R / a) a]
    generalize a * (R / a) = t at *
    generalize R % a = r at *
    omega
  have ha0 : ¬ ((a : Int) = 0) := by omega
  (have := Nonempty.intro ha0)
  (repeat' (first | (show SWp _ _ _ (.seq (.block 2 _) _) _ _ _ _; refine (stop_in ?_)) | refine swp_seq [0, 1, 2, 6, 7, 8, 9, 10, 11, 12, 13, 14, 15, 16, 17, 18, 20, 24, 27, 78, 85, 113, 120] ?_ | (show SWp _ _ _ (.region _ _ true) _ _ _ _; refine xG mixed [] ?_) | refine st2 ?_ | (show CallQ ..; first | refine cQ (fun hcc => (by fail)) ?_ | (refine lP ?_; refine lQ (fun hcc m => (by fail)) ?_)) | (show XCallQ ..; first | refine xQ (fun hcc => (by fail)) ?_ | (refine xlP ?_; refine xlQ (fun hcc m => (by fail)) ?_)) | (show Fct ..; refine fctI (fun hf => ?_)) | (show SWp _ _ _ (.cond _ _ _) _ _ _ _; first | refine cB (fun hc => ?_) (fun hc => ?_) | refine cU ?_ ?_)))
  refine stop_out ?_
  rw [e18, e19]
  have hk2 := kn_first (B := 4294967296) (b := b) (u := R) (by omega : 0 < a) hz
  refine swp_mid [2, 8, 14, 15, 17, 18] [] 0 (fun A H => A = [(2, lu V), (8, lu s), (14, lu z), (15, lu Q1), (17, lu R), (18, lu Q0)] ∧ H = []) (by omega) ?_ ?_ ?_
  · rintro A H ⟨rfl, rfl⟩
    exact ⟨by (exact SD), by (exact SD)⟩
  · (repeat' (first | refine swp_seq [0, 1, 2, 6, 7, 8, 9, 10, 11, 12, 13, 14, 15, 16, 17, 18, 20, 24, 27, 78, 85, 113, 120] ?_ | refine st2 ?_ | (show Fct ..; refine fctI (fun hf => ?_)) | (show SWp _ _ _ (.cond _ _ _) _ _ _ _; first | refine cB (fun hc => ?_) (fun hc => ?_) | refine cU ?_ ?_)))
    refine loop_swp [2, 8, 9, 10, 14, 15, 16, 17, 18] [] 0 (fun k A H => ∃ q r : Nat, k = q ∧ R = q * a + r ∧ R * 4294967296 + z < (q + 1) * (a * 4294967296 + b) ∧ q ≤ 4294967297 ∧ r < 4294967296 ∧ A = [(2, lu V), (8, lu s), (9, lu a), (10, lu b), (14, lu z), (15, lu Q1), (16, lu r), (17, lu R), (18, lu q)] ∧ H = []) (by omega) ?_ ?_ ?_
    · rintro k A H ⟨q, r, g1, g2, g3, g4, g5, rfl, rfl⟩
      exact ⟨by (exact SD), by (exact SD)⟩
    · refine ⟨_, R / a, R % a, rfl, ?_, hk2, kn_most hb (by omega) (by omega) hRV, Nat.lt_trans (Nat.mod_lt _ (by omega)) ha.2, ?_, ?_⟩
      · rw [Nat.mul_comm]; exact hRm.symm
      · exact DVR
      · exact DVR
    rintro k A H ⟨q, r, rfl, g2, g3, g4, g5, rfl, rfl⟩
    have hqb : k * b ≤ 4294967297 * 4294967295 := Nat.mul_le_mul g4 (by omega)
    have hst := kn_step (B := 4294967296) hb hz hRV g2 g3
    have hsp2 := kn_stop (B := 4294967296) (w := z) (b := b) g2 g3
    rw [← hVd] at hst hsp2
    have ew1 : IntKind.u64.wrap ((k : Int) * (b : Int)) = ((k * b : Nat) : Int) := by rw [u64w, ← Int.natCast_mul]; generalize k * b = t at *; omega
    have ew2 : IntKind.u64.wrap (IntKind.u64.wrap (4294967296 * (r : Int)) + (z : Int)) = ((4294967296 * r + z : Nat) : Int) := by rw [u64w, u64w]; omega
    have ew3 : IntKind.u64.wrap ((r : Int) + (a : Int)) = ((r + a : Nat) : Int) := by rw [u64w]; omega
    generalize k * b = kb at *
    have ew4 : 1 ≤ k → IntKind.u64.wrap ((k : Int) - 1) = ((k - 1 : Nat) : Int) := fun q => by rw [u64w]; omega
    (repeat' (first | refine swp_seq [0, 1, 2, 6, 7, 8, 9, 10, 11, 12, 13, 14, 15, 16, 17, 18, 20, 24, 27, 78, 85, 113, 120] ?_ | refine st2 ?_ | (show Fct ..; refine fctI (fun hf => ?_)) | (show SWp _ _ _ (.cond _ _ _) _ _ _ _; first | refine cB (fun hc => ?_) (fun hc => ?_) | refine cU ?_ ?_)))
    · rename_i hct
      rw [ew1, ew2] at hct
      rw [ew3] at hc
      obtain ⟨q1, q2, q3, q4⟩ := hst (by omega)
      exact midK_normal (A2 := [(2, lu V), (8, lu s), (14, lu z), (15, lu Q1), (17, lu R), (18, lv (.int .u64 (IntKind.u64.wrap ((k : Int) - 1))))]) (H2 := []) (by exact DVR) (by exact DVR) ⟨by rw [ew4 q1, hQ0.symm.trans (q4 (by omega))], rfl⟩
    · rename_i hct
      rw [ew1, ew2] at hct
      rw [ew3] at hc
      obtain ⟨q1, q2, q3, q4⟩ := hst (by omega)
      (refine lN [] ?_)
      exact ⟨k - 1, by omega, k - 1, r + a, rfl, q3, by rw [← hVd]; exact q2, by omega, by omega, by rw [ew4 q1, ew3]; rfl, rfl⟩
    · rw [ew1, ew2] at hc
      exact midK_normal (A2 := [(2, lu V), (8, lu s), (14, lu z), (15, lu Q1), (17, lu R), (18, lu k)]) (H2 := []) (by exact DVR) (by exact DVR) ⟨by rw [hQ0.symm.trans (hsp2 (by omega))], rfl⟩
  rintro A H ⟨rfl, rfl⟩
  have e20 : IntKind.u64.wrap (IntKind.u64.wrap ((Q1 : Int) * 4294967296) + (Q0 : Int)) = (QQ : Int) := u64_sum _ _ _ hq1.symm hqlt
  have e21 : IntKind.u64.wrap (IntKind.u64.wrap (IntKind.u64.wrap ((R : Int) * 4294967296) + (z : Int)) - IntKind.u64.wrap ((Q0 : Int) * (V : Int))) = (S0 : Int) := by
    rw [← Int.natCast_mul, Nat.mul_comm Q0 V]
    exact u64_diff _ _ _ _ hdm2 (Nat.lt_trans hR2 hV1.2)
  (repeat' (first | refine swp_seq [0, 1, 2, 6, 7, 8, 9, 10, 11, 12, 13, 14, 15, 16, 17, 18, 20, 24, 27, 78, 85, 113, 120] ?_ | refine st2 ?_ | (show Fct ..; refine fctI (fun hf => ?_)) | (show SWp _ _ _ (.cond _ _ _) _ _ _ _; first | refine cB (fun hc => ?_) (fun hc => ?_) | refine cU ?_ ?_)))
  (refine DVQ ?_)
  rw [e20, e21, hq2, shr64 _ s (by omega), Nat.mul_div_cancel _ (Nat.pow_pos (by decide))]
theorem div64g_f (hi lo y : Nat) (m : Nat) (h1 : hi < y) (hy : y < 18446744073709551616) (hl : lo < 18446744073709551616) : DCalls Tryz.prog 167 [lu hi, lu lo, lu y] (hget []) m (.tup [lu ((hi * 18446744073709551616 + lo) / y), lu ((hi * 18446744073709551616 + lo) % y)]) (hget []) := by
  rcases Nat.eq_zero_or_pos hi with rfl | h0
  · rw [Nat.zero_mul, Nat.zero_add]
    exact div64_f lo y m hl hy (by omega)
  · exact div64q_f hi lo y _ _ m h1 hy hl h0 rfl rfl
theorem sub64_run (x y : Nat) (w : World) : ((Option.get (Extern.find Tryz.f306) (by kernel_rfl)) #[.int .u64 x, .int .u64 y, .int .u64 0]).run Tryz.prog w =
    .ok (.tuple #[.int .u64 (((x + 18446744073709551616 - y - 0) % 18446744073709551616 : Nat) : Int), .int .u64 ((if x < y + 0 then 1 else 0 : Nat) : Int)]) w := by
  kernel_rfl
theorem sub64_f (x y : Nat) (m : Nat) (hx : x < 18446744073709551616) (hy : y < 18446744073709551616) : DCalls Tryz.prog 306 [lu x, lu y, lu 0] (hget []) m (.tup [lu ((x + 18446744073709551616 - y) % 18446744073709551616), lu (if x < y then 1 else 0)]) (hget []) := by
  unfold DCalls DCallsG
  refine ⟨trivial, fun U ρ S w vs H0 hmU hr huU => ?_⟩
  obtain ⟨v1, v2, v3, rfl, r1, r2, r3⟩ : ∃ v1 v2 v3, vs = [v1, v2, v3] ∧ v1 = .int .u64 x ∧ v2 = .int .u64 y ∧ v3 = .int .u64 ((0 : Nat) : Int) := by
    match vs, hr with
    | [v1, v2, v3], hr => exact ⟨v1, v2, v3, rfl, rel_lit hr.1, rel_lit hr.2.1, rel_lit hr.2.2.1⟩
  subst r1 r2 r3
  have hc : ¬ callable Tryz.prog 306 := by
    rintro ⟨fn, h1, h2, h3⟩
    rw [Tryz.func306] at h1
    cases h1
    have hb0 : (Func.body Tryz.f306 ).isSome = false := by kernel_rfl
    rw [hb0] at h2
    cases h2
  have hrn := Go.run_callFunc_extern (P := Tryz.prog) (f := 306) Tryz.func306 (by kernel_rfl) (by kernel_rfl) (by kernel_rfl) (Option.some_get (by kernel_rfl)).symm #[.int .u64 x, .int .u64 y, .int .u64 0] w
  rw [sub64_run x y w] at hrn
  refine CallsX.ext hc hrn ⟨_, ρ, S, rfl, (HSat0.to H0 (fun i v k => (hnil_no k).elim)).used fun i k => .inl k, ?_, ?_⟩
  · simp only [Rel]
    exact ⟨_, rfl, .lit _ rfl, .lit _ rfl, trivial⟩
  · exact ⟨trivial, trivial, trivial⟩
theorem add64_run (x y : Nat) (w : World) : ((Option.get (Extern.find Tryz.f305) (by kernel_rfl)) #[.int .u64 x, .int .u64 y, .int .u64 0]).run Tryz.prog w =
    .ok (.tuple #[.int .u64 (((x + y + 0) % 18446744073709551616 : Nat) : Int), .int .u64 (((x + y + 0) / 18446744073709551616 : Nat) : Int)]) w := by
  kernel_rfl
theorem add64_f (x y : Nat) (m : Nat) (hx : x < 18446744073709551616) (hy : y < 18446744073709551616) : DCalls Tryz.prog 305 [lu x, lu y, lu 0] (hget []) m (.tup [lu ((x + y) % 18446744073709551616), lu ((x + y) / 18446744073709551616)]) (hget []) := by
  unfold DCalls DCallsG
  refine ⟨trivial, fun U ρ S w vs H0 hmU hr huU => ?_⟩
  obtain ⟨v1, v2, v3, rfl, r1, r2, r3⟩ : ∃ v1 v2 v3, vs = [v1, v2, v3] ∧ v1 = .int .u64 x ∧ v2 = .int .u64 y ∧ v3 = .int .u64 ((0 : Nat) : Int) := by
    match vs, hr with
    | [v1, v2, v3], hr => exact ⟨v1, v2, v3, rfl, rel_lit hr.1, rel_lit hr.2.1, rel_lit hr.2.2.1⟩
  subst r1 r2 r3
  have hc : ¬ callable Tryz.prog 305 := by
    rintro ⟨fn, h1, h2, h3⟩
    rw [Tryz.func305] at h1
    cases h1
    have hb0 : (Func.body Tryz.f305 ).isSome = false := by kernel_rfl
    rw [hb0] at h2
    cases h2
  have hrn := Go.run_callFunc_extern (P := Tryz.prog) (f := 305) Tryz.func305 (by kernel_rfl) (by kernel_rfl) (by kernel_rfl) (Option.some_get (by kernel_rfl)).symm #[.int .u64 x, .int .u64 y, .int .u64 0] w
  rw [add64_run x y w] at hrn
  refine CallsX.ext hc hrn ⟨_, ρ, S, rfl, (HSat0.to H0 (fun i v k => (hnil_no k).elim)).used fun i k => .inl k, ?_, ?_⟩
  · simp only [Rel]
    exact ⟨_, rfl, .lit _ rfl, .lit _ rfl, trivial⟩
  · exact ⟨trivial, trivial, trivial⟩
abbrev nmD (hi lo : Nat) (b : Bool) : DV := .agg [lu hi, lu lo, lb b]
abbrev wdD (h l : Nat) : DV := .agg [li h, li l]
theorem u64n (n : Nat) (h : n < 18446744073709551616) : IntKind.u64.wrap (n : Int) = n := by rw [u64w]; omega
theorem size_f (n : Nat) (m : Nat) (h : n < 9223372036854775808) : DCalls Tryz.prog 260 [li n] (hget []) m (lu n) (hget []) := by
  have h0 : ¬ ((n : Int) < 0) := by omega
  (have := Nonempty.intro h0)
  refine pureC (n := 10) (rs := [.tmp 2]) (ts := [191]) Tryz.func260 rfl (by decide) [] (by (exact SD)) ?_
  (repeat' (first | refine swp_seq [0, 2, 4] ?_ | refine st2 ?_ | (show Fct ..; refine fctI (fun hf => ?_)) | (show SWp _ _ _ (.cond _ _ _) _ _ _ _; first | refine cB (fun hc => ?_) (fun hc => ?_) | refine cU ?_ ?_)))
  (refine DVQ ?_)
  rw [u64n n (by omega)]
theorem signed_f (hi lo : Nat) (m : Nat) : DCalls Tryz.prog 261 [lu hi, lu lo, lb false] (hget []) m (nmD hi lo false) (hget []) := by
  refine pureC (n := 19) (rs := [.cell 6 243]) (ts := [243]) Tryz.func261 rfl (by decide) [] (by (exact SD)) ?_
  (repeat' (first | refine swp_seq [0, 1, 2, 6] ?_ | refine st2 ?_ | (show Fct ..; refine fctI (fun hf => ?_)) | (show SWp _ _ _ (.cond _ _ _) _ _ _ _; first | refine cB (fun hc => ?_) (fun hc => ?_) | refine cU ?_ ?_)))
  exact DVR
theorem signedT_f (hi lo : Nat) (m : Nat) : DCalls Tryz.prog 261 [lu hi, lu lo, lb true] (hget []) m (nmD hi lo (decide (0 < hi) || decide (0 < lo))) (hget []) := by
  by_cases h : (hi : Int) = 0
  · have hh : hi = 0 := by omega
    subst hh
    by_cases k : (lo : Int) = 0
    · have hk : lo = 0 := by omega
      subst hk
      refine pureC (n := 19) (rs := [.cell 6 243]) (ts := [243]) Tryz.func261 rfl (by decide) [] (by (exact SD)) ?_
      (repeat' (first | refine swp_seq [0, 1, 2, 6] ?_ | refine st2 ?_ | (show Fct ..; refine fctI (fun hf => ?_)) | (show SWp _ _ _ (.cond _ _ _) _ _ _ _; first | refine cB (fun hc => ?_) (fun hc => ?_) | refine cU ?_ ?_)))
      exact DVR
    · (have := Nonempty.intro k)
      have hk : decide (0 < lo) = true := decide_eq_true (by omega)
      rw [hk]
      refine pureC (n := 19) (rs := [.cell 6 243]) (ts := [243]) Tryz.func261 rfl (by decide) [] (by (exact SD)) ?_
      (repeat' (first | refine swp_seq [0, 1, 2, 6] ?_ | refine st2 ?_ | (show Fct ..; refine fctI (fun hf => ?_)) | (show SWp _ _ _ (.cond _ _ _) _ _ _ _; first | refine cB (fun hc => ?_) (fun hc => ?_) | refine cU ?_ ?_)))
      exact DVR
  · (have := Nonempty.intro h)
    have hk : decide (0 < hi) = true := decide_eq_true (by omega)
    rw [hk]
    refine pureC (n := 19) (rs := [.cell 6 243]) (ts := [243]) Tryz.func261 rfl (by decide) [] (by (exact SD)) ?_
    (repeat' (first | refine swp_seq [0, 1, 2, 6] ?_ | refine st2 ?_ | (show Fct ..; refine fctI (fun hf => ?_)) | (show SWp _ _ _ (.cond _ _ _) _ _ _ _; first | refine cB (fun hc => ?_) (fun hc => ?_) | refine cU ?_ ?_)))
    exact DVR
theorem times_f (a b : Nat) (m : Nat) (ha : a < 9223372036854775808) (hb : b < 9223372036854775808) : DCalls Tryz.prog 239 [li a, li b] (hget []) m (nmD (a * b / 18446744073709551616) (a * b % 18446744073709551616) false) (hget []) := by
  have h0 : ¬ ((a : Int) < 0) := by omega
  have h1 : ¬ ((b : Int) < 0) := by omega
  (have := Nonempty.intro h0)
  (have := Nonempty.intro h1)
  have cm := fun m => mul64_f a b m (by omega) (by omega)
  generalize a * b / 18446744073709551616 = hi at *
  generalize a * b % 18446744073709551616 = lo at *
  refine pureC (n := 23) (rs := [.cell 4 243]) (ts := [243]) Tryz.func239 rfl (by decide) [] (by (exact SD)) ?_
  (repeat' (first | refine swp_seq [0, 1, 4, 5, 6] ?_ | refine st2 ?_ | (show CallQ ..; first | refine cQ (fun hcc => (by first | exact size_f _ _ (by omega) | exact cm _ | exact signed_f _ _ _)) ?_ | (refine lP ?_; refine lQ (fun hcc m => (by first | exact size_f _ _ (by omega) | exact cm _ | exact signed_f _ _ _)) ?_)) | (show Fct ..; refine fctI (fun hf => ?_)) | (show SWp _ _ _ (.cond _ _ _) _ _ _ _; first | refine cB (fun hc => ?_) (fun hc => ?_) | refine cU ?_ ?_)))
  exact DVR
theorem whole_f (n : Nat) (m : Nat) (h : n < 9223372036854775808) : DCalls Tryz.prog 262 [lu n, lb false] (hget []) m (.tup [li n, li 0]) (hget []) := by
  have h0 : (n : Int) ≤ 9223372036854775807 := by omega
  (have := Nonempty.intro h0)
  refine pureC (n := 24) (rs := [.tmp 4, .tmp 5]) (ts := [3, 37]) Tryz.func262 rfl (by decide) [] (by (exact SD)) ?_
  (repeat' (first | refine swp_seq [0, 1, 4, 5, 6, 15] ?_ | refine st2 ?_ | (show Fct ..; refine fctI (fun hf => ?_)) | (show SWp _ _ _ (.cond _ _ _) _ _ _ _; first | refine cB (fun hc => ?_) (fun hc => ?_) | refine cU ?_ ?_)))
  exact DVR
abbrev qtR (q r : Nat) (up : Bool) : Nat := if up = true ∧ 0 < r then q + 1 else q
set_option maxHeartbeats 4000000 in
theorem quotient_f (hi lo b Q R : Nat) (up : Bool) (m : Nat) (hb : 0 < b ∧ b < 9223372036854775808) (hlo : lo < 18446744073709551616) (hq : hi * 18446744073709551616 + lo = b * Q + R) (hR : R < b) (hQ : Q < 9223372036854775807) :
    DCalls Tryz.prog 240 [nmD hi lo false, li b, lb up] (hget []) m (.tup [li (qtR Q R up), li 0]) (hget []) := by
  have hhi : hi < b := by
    refine Nat.lt_of_not_le fun k => ?_
    have h1 := Nat.mul_le_mul_right 18446744073709551616 k
    have h2 : b * Q ≤ b * 9223372036854775806 := Nat.mul_le_mul_left b (by omega)
    omega
  have cd := fun m => div64g_f hi lo b m hhi (by omega) hlo
  have e1 : (hi * 18446744073709551616 + lo) / b = Q := by
    rw [hq, Nat.mul_add_div hb.1, Nat.div_eq_of_lt hR, Nat.add_zero]
  have e2 : (hi * 18446744073709551616 + lo) % b = R := by
    rw [hq, Nat.mul_add_mod, Nat.mod_eq_of_lt hR]
  rw [e1, e2] at cd
  clear e1 e2 hq
  have h0 : ¬ ((b : Int) < 0) := by omega
  have h1 : ¬ ((b : Int) ≤ (hi : Int)) := by omega
  (have := Nonempty.intro h0)
  (have := Nonempty.intro h1)
  have hQ1 : IntKind.u64.wrap ((Q : Int) + 1) = ((Q + 1 : Nat) : Int) := by rw [u64w]; omega
  cases up
  · have e : qtR Q R false = Q := if_neg (fun k => by cases k.1)
    rw [e]
    by_cases hr : (0 : Int) < (R : Int)
    · (have := Nonempty.intro hr)
      refine pureC (n := 52) (rs := [.tmp 6, .tmp 7]) (ts := [3, 37]) Tryz.func240 rfl (by decide) [] (by (exact SD)) ?_
      (repeat' (first | refine swp_seq [0, 1, 2, 3, 6, 7, 8, 9, 10, 11, 17, 38, 42] ?_ | refine st2 ?_ | (show CallQ ..; first | refine cQ (fun hcc => (by first | exact size_f _ _ (by omega) | exact cd _ | exact whole_f _ _ (by omega))) ?_ | (refine lP ?_; refine lQ (fun hcc m => (by first | exact size_f _ _ (by omega) | exact cd _ | exact whole_f _ _ (by omega))) ?_)) | (show Fct ..; refine fctI (fun hf => ?_)) | (show SWp _ _ _ (.cond _ _ _) _ _ _ _; first | refine cB (fun hc => ?_) (fun hc => ?_) | refine cU ?_ ?_)))
      exact DVR
    · (have := Nonempty.intro hr)
      refine pureC (n := 52) (rs := [.tmp 6, .tmp 7]) (ts := [3, 37]) Tryz.func240 rfl (by decide) [] (by (exact SD)) ?_
      (repeat' (first | refine swp_seq [0, 1, 2, 3, 6, 7, 8, 9, 10, 11, 17, 38, 42] ?_ | refine st2 ?_ | (show CallQ ..; first | refine cQ (fun hcc => (by first | exact size_f _ _ (by omega) | exact cd _ | exact whole_f _ _ (by omega))) ?_ | (refine lP ?_; refine lQ (fun hcc m => (by first | exact size_f _ _ (by omega) | exact cd _ | exact whole_f _ _ (by omega))) ?_)) | (show Fct ..; refine fctI (fun hf => ?_)) | (show SWp _ _ _ (.cond _ _ _) _ _ _ _; first | refine cB (fun hc => ?_) (fun hc => ?_) | refine cU ?_ ?_)))
      exact DVR
  · by_cases hr : (0 : Int) < (R : Int)
    · (have := Nonempty.intro hr)
      have e : qtR Q R true = Q + 1 := if_pos ⟨rfl, by omega⟩
      rw [e]
      have h3 : ¬ (IntKind.u64.wrap ((Q : Int) + 1) = 0) := by rw [hQ1]; omega
      have hQ9 : Q + 1 < 9223372036854775808 := by omega
      generalize Q + 1 = Q1 at *
      (have := Nonempty.intro h3)
      refine pureC (n := 52) (rs := [.tmp 6, .tmp 7]) (ts := [3, 37]) Tryz.func240 rfl (by decide) [] (by (exact SD)) ?_
      (repeat' (first | (show SWp _ _ _ (.seq (.region 10 _ _) _) _ _ _ _; refine (stop_in ?_)) | refine swp_seq [0, 1, 2, 3, 6, 7, 8, 9, 10, 11, 17, 38, 42] ?_ | refine st2 ?_ | (show CallQ ..; first | refine cQ (fun hcc => (by first | exact size_f _ _ (by omega) | exact cd _)) ?_ | (refine lP ?_; refine lQ (fun hcc m => (by first | exact size_f _ _ (by omega) | exact cd _)) ?_)) | (show Fct ..; refine fctI (fun hf => ?_)) | (show SWp _ _ _ (.cond _ _ _) _ _ _ _; first | refine cB (fun hc => ?_) (fun hc => ?_) | refine cU ?_ ?_)))
      refine stop_out ?_
      rw [hQ1]
      (repeat' (first | refine swp_seq [0, 1, 2, 3, 6, 7, 8, 9, 10, 11, 17, 38, 42] ?_ | refine st2 ?_ | (show CallQ ..; first | refine cQ (fun hcc => (by first | exact whole_f _ _ (by omega))) ?_ | (refine lP ?_; refine lQ (fun hcc m => (by first | exact whole_f _ _ (by omega))) ?_)) | (show Fct ..; refine fctI (fun hf => ?_)) | (show SWp _ _ _ (.cond _ _ _) _ _ _ _; first | refine cB (fun hc => ?_) (fun hc => ?_) | refine cU ?_ ?_)))
      exact DVR
    · (have := Nonempty.intro hr)
      have e : qtR Q R true = Q := if_neg (fun k => hr (by omega))
      rw [e]
      refine pureC (n := 52) (rs := [.tmp 6, .tmp 7]) (ts := [3, 37]) Tryz.func240 rfl (by decide) [] (by (exact SD)) ?_
      (repeat' (first | refine swp_seq [0, 1, 2, 3, 6, 7, 8, 9, 10, 11, 17, 38, 42] ?_ | refine st2 ?_ | (show CallQ ..; first | refine cQ (fun hcc => (by first | exact size_f _ _ (by omega) | exact cd _ | exact whole_f _ _ (by omega))) ?_ | (refine lP ?_; refine lQ (fun hcc m => (by first | exact size_f _ _ (by omega) | exact cd _ | exact whole_f _ _ (by omega))) ?_)) | (show Fct ..; refine fctI (fun hf => ?_)) | (show SWp _ _ _ (.cond _ _ _) _ _ _ _; first | refine cB (fun hc => ?_) (fun hc => ?_) | refine cU ?_ ?_)))
      exact DVR
set_option maxHeartbeats 4000000 in
theorem scale_f (n k b Q R : Nat) (m : Nat) (hn : n < 9223372036854775808) (hk : k < 9223372036854775808) (hb : 0 < b ∧ b < 9223372036854775808) (hq : n * k = b * Q + R) (hR : R < b) (hQ : Q < 9223372036854775807) :
    DCalls Tryz.prog 220 [li n, li k, li b] (hget []) m (.tup [li Q, li (qtR Q R true), li 0]) (hget []) := by
  have ct := fun m => times_f n k m hn hk
  have hdm := Nat.div_add_mod (n * k) 18446744073709551616
  have hlo := Nat.mod_lt (n * k) (by decide : 18446744073709551616 > 0)
  rw [hq] at hdm hlo ct
  generalize (b * Q + R) / 18446744073709551616 = hi at *
  generalize (b * Q + R) % 18446744073709551616 = lo at *
  rw [Nat.mul_comm] at hdm
  have cq := fun up m => quotient_f hi lo b Q R up m hb hlo hdm hR hQ
  have cq0 := cq false
  have cq1 := cq true
  have e : qtR Q R false = Q := if_neg (fun k => by cases k.1)
  rw [e] at cq0
  generalize qtR Q R true = QQ at *
  clear cq e hdm hq
  have h0 : ¬ ((b : Int) = 0) := by omega
  (have := Nonempty.intro h0)
  refine pureC (n := 35) (rs := [.tmp 6, .tmp 7, .tmp 8]) (ts := [3, 3, 37]) Tryz.func220 rfl (by decide) [] (by (exact SD)) ?_
  (repeat' (first | refine swp_seq [0, 1, 2, 6, 7, 8, 9, 11, 22, 31] ?_ | refine st2 ?_ | (show CallQ ..; first | refine cQ (fun hcc => (by first | exact ct _ | exact cq0 _ | exact cq1 _)) ?_ | (refine lP ?_; refine lQ (fun hcc m => (by first | exact ct _ | exact cq0 _ | exact cq1 _)) ?_)) | (show Fct ..; refine fctI (fun hf => ?_)) | (show SWp _ _ _ (.cond _ _ _) _ _ _ _; first | refine cB (fun hc => ?_) (fun hc => ?_) | refine cU ?_ ?_)))
  exact DVR
theorem or_top (x l : Nat) (hl : l < 1152921504606846976) (hx : x < 16) : IntKind.u64.wrap ((BitVec.ofInt IntKind.u64.bits ((x * 1152921504606846976 : Nat) : Int) ||| BitVec.ofInt IntKind.u64.bits (l : Int)).toNat : Int) = ((x * 1152921504606846976 + l : Nat) : Int) :=
  or64 x l 60 hl (by show x * 1152921504606846976 + l < _; omega)
theorem or_four (x l : Nat) (hl : l < 16) (hx : x < 1152921504606846976) : IntKind.u64.wrap ((BitVec.ofInt IntKind.u64.bits ((x * 16 : Nat) : Int) ||| BitVec.ofInt IntKind.u64.bits (l : Int)).toNat : Int) = ((x * 16 + l : Nat) : Int) :=
  or64 x l 4 hl (by show x * 16 + l < _; omega)
theorem mask60 (z : Int) : IntKind.u64.wrap ((BitVec.ofInt IntKind.u64.bits z &&& BitVec.ofInt IntKind.u64.bits 1152921504606846975).toNat : Int) = z % 1152921504606846976 := by
  have h : ∀ b : BitVec 64, (b &&& 1152921504606846975#64).toNat = b.toNat % 1152921504606846976 := fun b => by
    rw [BitVec.toNat_and]
    exact Nat.and_two_pow_sub_one_eq_mod _ 60
  have e := h (BitVec.ofInt 64 z)
  show IntKind.u64.wrap ((BitVec.ofInt 64 z &&& 1152921504606846975#64).toNat : Int) = _
  rw [e, BitVec.toNat_ofInt, u64w]
  omega
theorem shl_four (x : Nat) (h : x < 1152921504606846976) : IntKind.u64.wrap ((x : Int) * 2 ^ min 4 IntKind.u64.bits) = ((x * 16 : Nat) : Int) :=
  shl64 x 4 (by omega) (by show x * 16 < _; omega)
theorem shr_four (x : Nat) : (x : Int).fdiv (2 ^ min 4 IntKind.u64.bits) = ((x / 16 : Nat) : Int) := shr64 x 4 (by omega)
theorem shr_60 (x : Nat) : (x : Int).fdiv (2 ^ min 60 IntKind.u64.bits) = ((x / 1152921504606846976 : Nat) : Int) := shr64 x 60 (by omega)
theorem shl_60 (x : Nat) : IntKind.u64.wrap ((x : Int) * 2 ^ min 60 IntKind.u64.bits) = ((x % 16 * 1152921504606846976 : Nat) : Int) := by
  rw [shl64m x 60 (by omega)]
  show ((x * 1152921504606846976 % 18446744073709551616 : Nat) : Int) = _
  omega

end Go.Proofs.YthacnhidipeckaaGreat
