/-
  Contracts of functions of the program, over the engine.
  No condition.
-/
import Derived.Test.YtnfbaeeohepajaaGreatCN0N1NBKSK1
namespace Go.Proofs.YtnfbaeeohepajaaGreat
open Go.Eng
set_option linter.all false
attribute [local irreducible] DCallsG SWp Fct CallQ XCallQ LCallQ XLCallQ drun xrun

abbrev lu (n : Nat) : DV := lv (.int .u64 (n : Int))
theorem u64_mask (z : Int) : IntKind.u64.wrap ((BitVec.ofInt IntKind.u64.bits z &&& BitVec.ofInt IntKind.u64.bits 4294967295).toNat : Int) = z % 4294967296 := by
  have e1 : (BitVec.ofInt IntKind.u64.bits z).toNat = (z % 18446744073709551616).toNat := by
    show (BitVec.ofInt 64 _).toNat = _
    rw [BitVec.toNat_ofInt]; rfl
  have e2 : (BitVec.ofInt IntKind.u64.bits (4294967295 : Int)).toNat = 2 ^ 32 - 1 := rfl
  rw [BitVec.toNat_and, e1, e2, Nat.and_two_pow_sub_one_eq_mod, u64w]
  omega
theorem u64_shr (z : Int) : z.fdiv (2 ^ min 32 IntKind.u64.bits) = z / 4294967296 := by
  have : (2 : Int) ^ min 32 IntKind.u64.bits = 4294967296 := rfl
  rw [this, Int.fdiv_eq_ediv_of_nonneg _ (by omega)]
attribute [push_cast] u64_mask u64_shr
theorem mul_hi (x y : Int) (hx : 0 ≤ x ∧ x < 18446744073709551616) (hy : 0 ≤ y ∧ y < 18446744073709551616) :
    (((x / 4294967296 * (y / 4294967296)) % 18446744073709551616 + (((x / 4294967296 * (y % 4294967296)) % 18446744073709551616 + ((x % 4294967296) * (y % 4294967296)) % 18446744073709551616 / 4294967296) % 18446744073709551616) / 4294967296) % 18446744073709551616 +
      (((((x / 4294967296 * (y % 4294967296)) % 18446744073709551616 + ((x % 4294967296) * (y % 4294967296)) % 18446744073709551616 / 4294967296) % 18446744073709551616) % 4294967296 + ((x % 4294967296) * (y / 4294967296)) % 18446744073709551616) % 18446744073709551616) / 4294967296) % 18446744073709551616 = x * y / 18446744073709551616 := by
  have d1 : x = x / 4294967296 * 4294967296 + x % 4294967296 := by omega
  have d2 : y = y / 4294967296 * 4294967296 + y % 4294967296 := by omega
  have b1 : 0 ≤ x / 4294967296 ∧ x / 4294967296 ≤ 4294967295 := by omega
  have b2 : 0 ≤ x % 4294967296 ∧ x % 4294967296 ≤ 4294967295 := by omega
  have b3 : 0 ≤ y / 4294967296 ∧ y / 4294967296 ≤ 4294967295 := by omega
  have b4 : 0 ≤ y % 4294967296 ∧ y % 4294967296 ≤ 4294967295 := by omega
  generalize x / 4294967296 = a at *
  generalize x % 4294967296 = b at *
  generalize y / 4294967296 = c at *
  generalize y % 4294967296 = d at *
  have hm : ∀ p q : Int, 0 ≤ p ∧ p ≤ 4294967295 → 0 ≤ q ∧ q ≤ 4294967295 → 0 ≤ p * q ∧ p * q ≤ 18446744065119617025 := fun p q h1 h2 =>
    ⟨Int.mul_nonneg h1.1 h2.1, Int.le_trans (Int.mul_le_mul h1.2 h2.2 h2.1 (by omega)) (by omega)⟩
  have m1 := hm a c b1 b3
  have m2 := hm a d b1 b4
  have m3 := hm b c b2 b3
  have m4 := hm b d b2 b4
  have e : x * y = a * c * 18446744073709551616 + a * d * 4294967296 + b * c * 4294967296 + b * d := by
    rw [d1, d2]; grind
  rw [e]
  generalize a * c = p at *
  generalize a * d = q at *
  generalize b * c = r at *
  generalize b * d = t at *
  clear e d1 d2 hm
  omega
theorem mul_hi' (x y : Nat) (hx : x < 18446744073709551616) (hy : y < 18446744073709551616) :
    IntKind.u64.wrap (IntKind.u64.wrap (IntKind.u64.wrap ((x : Int) / 4294967296 * ((y : Int) / 4294967296)) + IntKind.u64.wrap (IntKind.u64.wrap ((x : Int) / 4294967296 * ((y : Int) % 4294967296)) + IntKind.u64.wrap ((x : Int) % 4294967296 * ((y : Int) % 4294967296)) / 4294967296) / 4294967296) +
      IntKind.u64.wrap (IntKind.u64.wrap (IntKind.u64.wrap ((x : Int) / 4294967296 * ((y : Int) % 4294967296)) + IntKind.u64.wrap ((x : Int) % 4294967296 * ((y : Int) % 4294967296)) / 4294967296) % 4294967296 + IntKind.u64.wrap ((x : Int) % 4294967296 * ((y : Int) / 4294967296))) / 4294967296) = ((x * y / 18446744073709551616 : Nat) : Int) := by
  simp only [u64w]
  rw [mul_hi x y (by omega) (by omega)]
  rw [← Int.natCast_mul]; omega
theorem mul_lo (x y : Nat) : IntKind.u64.wrap ((x : Int) * (y : Int)) = ((x * y % 18446744073709551616 : Nat) : Int) := by
  rw [u64w, ← Int.natCast_mul]; omega
set_option maxRecDepth 20000 in
set_option maxHeartbeats 8000000 in
theorem mul64_f (x y : Nat) (m : Nat) (hx : x < 18446744073709551616) (hy : y < 18446744073709551616) : DCalls Tryz.prog 207 [lu x, lu y] (hget []) m (.tup [lu (x * y / 18446744073709551616), lu (x * y % 18446744073709551616)]) (hget []) := by
  refine pureC (n := 51) (rs := [.tmp 4, .tmp 5]) (ts := [139, 139]) Tryz.func207 rfl (by decide) [] (by (exact SD)) ?_
  (repeat' (first | refine swp_seq [0, 1, 4, 5, 6, 7, 8, 9, 10, 11, 12, 13] ?_ | refine st2 ?_ | (show Fct ..; refine fctI (fun hf => ?_)) | (show SWp _ _ _ (.cond _ _ _) _ _ _ _; first | refine cB (fun hc => ?_) (fun hc => ?_) | refine cU ?_ ?_)))
  rw [mul_hi' x y hx hy, mul_lo x y]
  generalize x * y / 18446744073709551616 = a
  generalize x * y % 18446744073709551616 = b
  exact DVR
theorem div64_f (x y : Nat) (m : Nat) (hx : x < 18446744073709551616) (hy : y < 18446744073709551616) (h0 : 0 < y) : DCalls Tryz.prog 208 [lu 0, lu x, lu y] (hget []) m (.tup [lu (x / y), lu (x % y)]) (hget []) := by
  have n1 : ¬ ((y : Int) = 0) := by omega
  have n2 : ¬ ((y : Int) ≤ 0) := by omega
  have i0 : (0 : Int) = 0 := rfl
  (have := Nonempty.intro n1)
  (have := Nonempty.intro n2)
  (have := Nonempty.intro i0)
  have e1 : IntKind.u64.wrap ((x : Int).tdiv (y : Int)) = ((x / y : Nat) : Int) := by
    rw [u64w, Int.tdiv_eq_ediv_of_nonneg (by omega), ← Int.natCast_ediv]
    have := Nat.div_le_self x y
    generalize x / y = q at *
    omega
  have e2 : ((x : Int).tmod (y : Int)) = ((x % y : Nat) : Int) := by
    rw [Int.tmod_eq_emod_of_nonneg (by omega)]; rfl
  refine pureC (n := 135) (rs := [.tmp 6, .tmp 7]) (ts := [139, 139]) Tryz.func208 rfl (by decide) [] (by (exact SD)) ?_
  (repeat' (first | refine swp_seq [0, 1, 2, 6, 7, 8, 9, 10, 11, 12, 13, 14, 15, 16, 17, 18, 20, 24, 27, 78, 85, 113, 120] ?_ | refine st2 ?_ | (show Fct ..; refine fctI (fun hf => ?_)) | (show SWp _ _ _ (.cond _ _ _) _ _ _ _; first | refine cB (fun hc => ?_) (fun hc => ?_) | refine cU ?_ ?_)))
  rw [e1, e2]
  generalize x / y = a
  generalize x % y = b
  exact DVR
theorem u64_shr16 (z : Int) : z.fdiv (2 ^ min 16 IntKind.u64.bits) = z / 65536 := by
  have : (2 : Int) ^ min 16 IntKind.u64.bits = 65536 := rfl
  rw [this, Int.fdiv_eq_ediv_of_nonneg _ (by omega)]
theorem u64_shr8 (z : Int) : z.fdiv (2 ^ min 8 IntKind.u64.bits) = z / 256 := by
  have : (2 : Int) ^ min 8 IntKind.u64.bits = 256 := rfl
  rw [this, Int.fdiv_eq_ediv_of_nonneg _ (by omega)]
attribute [push_cast] u64_shr16 u64_shr8
theorem u8w_nz (n : Nat) [h : Nonempty (n < 256)] : IntKind.u8.wrap (n : Int) = n := by
  have := h.elim id
  rw [IntKind.wrap_u8]; omega
attribute [push_cast] u8w_nz
def lenN (n : Nat) : Nat := if n = 0 then 0 else Nat.log2 n + 1
theorem len_shift (x k : Nat) (h : 0 < x / 2 ^ k) : lenN x = k + lenN (x / 2 ^ k) := by
  have hx : 0 < x := Nat.pos_of_ne_zero fun e => by rw [e, Nat.zero_div] at h; exact Nat.lt_irrefl _ h
  unfold lenN
  rw [if_neg (by omega), if_neg (by omega)]
  have h2 : 2 ^ k ≤ x := by
    refine Nat.le_of_not_lt fun q => ?_
    rw [Nat.div_eq_of_lt q] at h; exact Nat.lt_irrefl _ h
  have e : Nat.log2 x = k + Nat.log2 (x / 2 ^ k) := by
    refine (Nat.log2_eq_iff (by omega)).2 ⟨?_, ?_⟩
    · have a := Nat.log2_self_le (n := x / 2 ^ k) (by omega)
      have b := Nat.mul_le_of_le_div _ _ _ a
      rw [Nat.pow_add, Nat.mul_comm]; exact b
    · have a : x / 2 ^ k < 2 ^ (Nat.log2 (x / 2 ^ k) + 1) := Nat.lt_log2_self
      have b := (Nat.div_lt_iff_lt_mul (Nat.pow_pos (by decide))).1 a
      rw [Nat.add_assoc, Nat.pow_add, Nat.mul_comm]; exact b
  omega
theorem len8 (x : Nat) (h : 256 ≤ x) : lenN x = 8 + lenN (x / 256) := len_shift x 8 (by show 0 < x / 256; omega)
theorem len16 (x : Nat) (h : 65536 ≤ x) : lenN x = 16 + lenN (x / 65536) := len_shift x 16 (by show 0 < x / 65536; omega)
theorem len32 (x : Nat) (h : 4294967296 ≤ x) : lenN x = 32 + lenN (x / 4294967296) := len_shift x 32 (by show 0 < x / 4294967296; omega)
theorem len_le8 {n : Nat} (h : n < 256) : lenN n ≤ 8 := by
  unfold lenN
  split
  · omega
  · next e =>
    have := (Nat.log2_lt (k := 8) e).2 h
    omega
set_option maxRecDepth 20000 in
set_option maxHeartbeats 8000000 in
theorem len64_f (x : Nat) (m : Nat) (hx : x < 18446744073709551616) : DCalls Tryz.prog 228 [lu x] (hget []) m (li (lenN x)) (hget []) := by
  by_cases h3 : (4294967296 : Int) ≤ (x : Int)
  · (have := Nonempty.intro h3)
    by_cases h2 : (65536 : Int) ≤ (x : Int) / 4294967296
    · (have := Nonempty.intro h2)
      by_cases h1 : (256 : Int) ≤ (x : Int) / 4294967296 / 65536
      · (have := Nonempty.intro h1)
        refine pureC (n := 25) (rs := [.tmp 2]) (ts := [3]) Tryz.func228 rfl (by decide) [] (by (exact SD)) ?_
        (repeat' (first | (show SWp _ _ _ (.seq (.region 10 _ _) _) _ _ _ _; refine (stop_in ?_)) | refine swp_seq [0, 2, 4, 8, 14] ?_ | refine st2 ?_ | (show CallQ ..; first | refine cQ (fun hcc => (by fail)) ?_ | (refine lP ?_; refine lQ (fun hcc m => (by fail)) ?_)) | (show Fct ..; refine fctI (fun hf => ?_)) | (show SWp _ _ _ (.cond _ _ _) _ _ _ _; first | refine cB (fun hc => ?_) (fun hc => ?_) | refine cU ?_ ?_)))
        refine stop_out ?_
        generalize hT : ByteArray.mk _ = T
        have hs : T.size = 256 := by rw [← hT]; rfl
        have hg : ∀ n : Nat, n < 256 → (T.data.toList.getD n 0).toNat = lenN n := by rw [← hT]; decide +kernel
        clear hT
        have hn : (x : Int) / 4294967296 / 65536 / 256 = ((x / 4294967296 / 65536 / 256 : Nat) : Int) := by omega
        have hl : lenN x = 56 + lenN (x / 4294967296 / 65536 / 256) := by rw [len32 x (by omega), len16 _ (by omega), len8 _ (by omega)]; omega
        have hlt : x / 4294967296 / 65536 / 256 < 256 := by omega
        rw [hn, hl]
        generalize x / 4294967296 / 65536 / 256 = n at *
        (have := Nonempty.intro hlt)
        have hgn := hg n hlt
        have hle := len_le8 hlt
        (repeat' (first | refine swp_seq [0, 2, 4, 8, 14] ?_ | refine st2 ?_ | (show Fct ..; refine fctI (fun hf => ?_)) | (show SWp _ _ _ (.cond _ _ _) _ _ _ _; first | refine cB (fun hc => ?_) (fun hc => ?_) | refine cU ?_ ?_)))
        (refine DVQ ?_)
        rw [hgn]
      · (have := Nonempty.intro h1)
        refine pureC (n := 25) (rs := [.tmp 2]) (ts := [3]) Tryz.func228 rfl (by decide) [] (by (exact SD)) ?_
        (repeat' (first | (show SWp _ _ _ (.seq (.region 10 _ _) _) _ _ _ _; refine (stop_in ?_)) | refine swp_seq [0, 2, 4, 8, 14] ?_ | refine st2 ?_ | (show CallQ ..; first | refine cQ (fun hcc => (by fail)) ?_ | (refine lP ?_; refine lQ (fun hcc m => (by fail)) ?_)) | (show Fct ..; refine fctI (fun hf => ?_)) | (show SWp _ _ _ (.cond _ _ _) _ _ _ _; first | refine cB (fun hc => ?_) (fun hc => ?_) | refine cU ?_ ?_)))
        refine stop_out ?_
        generalize hT : ByteArray.mk _ = T
        have hs : T.size = 256 := by rw [← hT]; rfl
        have hg : ∀ n : Nat, n < 256 → (T.data.toList.getD n 0).toNat = lenN n := by rw [← hT]; decide +kernel
        clear hT
        have hn : (x : Int) / 4294967296 / 65536 = ((x / 4294967296 / 65536 : Nat) : Int) := by omega
        have hl : lenN x = 48 + lenN (x / 4294967296 / 65536) := by rw [len32 x (by omega), len16 _ (by omega)]; omega
        have hlt : x / 4294967296 / 65536 < 256 := by omega
        rw [hn, hl]
        generalize x / 4294967296 / 65536 = n at *
        (have := Nonempty.intro hlt)
        have hgn := hg n hlt
        have hle := len_le8 hlt
        (repeat' (first | refine swp_seq [0, 2, 4, 8, 14] ?_ | refine st2 ?_ | (show Fct ..; refine fctI (fun hf => ?_)) | (show SWp _ _ _ (.cond _ _ _) _ _ _ _; first | refine cB (fun hc => ?_) (fun hc => ?_) | refine cU ?_ ?_)))
        (refine DVQ ?_)
        rw [hgn]
    · (have := Nonempty.intro h2)
      by_cases h1 : (256 : Int) ≤ (x : Int) / 4294967296
      · (have := Nonempty.intro h1)
        refine pureC (n := 25) (rs := [.tmp 2]) (ts := [3]) Tryz.func228 rfl (by decide) [] (by (exact SD)) ?_
        (repeat' (first | (show SWp _ _ _ (.seq (.region 10 _ _) _) _ _ _ _; refine (stop_in ?_)) | refine swp_seq [0, 2, 4, 8, 14] ?_ | refine st2 ?_ | (show CallQ ..; first | refine cQ (fun hcc => (by fail)) ?_ | (refine lP ?_; refine lQ (fun hcc m => (by fail)) ?_)) | (show Fct ..; refine fctI (fun hf => ?_)) | (show SWp _ _ _ (.cond _ _ _) _ _ _ _; first | refine cB (fun hc => ?_) (fun hc => ?_) | refine cU ?_ ?_)))
        refine stop_out ?_
        generalize hT : ByteArray.mk _ = T
        have hs : T.size = 256 := by rw [← hT]; rfl
        have hg : ∀ n : Nat, n < 256 → (T.data.toList.getD n 0).toNat = lenN n := by rw [← hT]; decide +kernel
        clear hT
        have hn : (x : Int) / 4294967296 / 256 = ((x / 4294967296 / 256 : Nat) : Int) := by omega
        have hl : lenN x = 40 + lenN (x / 4294967296 / 256) := by rw [len32 x (by omega), len8 _ (by omega)]; omega
        have hlt : x / 4294967296 / 256 < 256 := by omega
        rw [hn, hl]
        generalize x / 4294967296 / 256 = n at *
        (have := Nonempty.intro hlt)
        have hgn := hg n hlt
        have hle := len_le8 hlt
        (repeat' (first | refine swp_seq [0, 2, 4, 8, 14] ?_ | refine st2 ?_ | (show Fct ..; refine fctI (fun hf => ?_)) | (show SWp _ _ _ (.cond _ _ _) _ _ _ _; first | refine cB (fun hc => ?_) (fun hc => ?_) | refine cU ?_ ?_)))
        (refine DVQ ?_)
        rw [hgn]
      · (have := Nonempty.intro h1)
        refine pureC (n := 25) (rs := [.tmp 2]) (ts := [3]) Tryz.func228 rfl (by decide) [] (by (exact SD)) ?_
        (repeat' (first | (show SWp _ _ _ (.seq (.region 10 _ _) _) _ _ _ _; refine (stop_in ?_)) | refine swp_seq [0, 2, 4, 8, 14] ?_ | refine st2 ?_ | (show CallQ ..; first | refine cQ (fun hcc => (by fail)) ?_ | (refine lP ?_; refine lQ (fun hcc m => (by fail)) ?_)) | (show Fct ..; refine fctI (fun hf => ?_)) | (show SWp _ _ _ (.cond _ _ _) _ _ _ _; first | refine cB (fun hc => ?_) (fun hc => ?_) | refine cU ?_ ?_)))
        refine stop_out ?_
        generalize hT : ByteArray.mk _ = T
        have hs : T.size = 256 := by rw [← hT]; rfl
        have hg : ∀ n : Nat, n < 256 → (T.data.toList.getD n 0).toNat = lenN n := by rw [← hT]; decide +kernel
        clear hT
        have hn : (x : Int) / 4294967296 = ((x / 4294967296 : Nat) : Int) := by omega
        have hl : lenN x = 32 + lenN (x / 4294967296) := by rw [len32 x (by omega)]
        have hlt : x / 4294967296 < 256 := by omega
        rw [hn, hl]
        generalize x / 4294967296 = n at *
        (have := Nonempty.intro hlt)
        have hgn := hg n hlt
        have hle := len_le8 hlt
        (repeat' (first | refine swp_seq [0, 2, 4, 8, 14] ?_ | refine st2 ?_ | (show Fct ..; refine fctI (fun hf => ?_)) | (show SWp _ _ _ (.cond _ _ _) _ _ _ _; first | refine cB (fun hc => ?_) (fun hc => ?_) | refine cU ?_ ?_)))
        (refine DVQ ?_)
        rw [hgn]
  · (have := Nonempty.intro h3)
    by_cases h2 : (65536 : Int) ≤ (x : Int)
    · (have := Nonempty.intro h2)
      by_cases h1 : (256 : Int) ≤ (x : Int) / 65536
      · (have := Nonempty.intro h1)
        refine pureC (n := 25) (rs := [.tmp 2]) (ts := [3]) Tryz.func228 rfl (by decide) [] (by (exact SD)) ?_
        (repeat' (first | (show SWp _ _ _ (.seq (.region 10 _ _) _) _ _ _ _; refine (stop_in ?_)) | refine swp_seq [0, 2, 4, 8, 14] ?_ | refine st2 ?_ | (show CallQ ..; first | refine cQ (fun hcc => (by fail)) ?_ | (refine lP ?_; refine lQ (fun hcc m => (by fail)) ?_)) | (show Fct ..; refine fctI (fun hf => ?_)) | (show SWp _ _ _ (.cond _ _ _) _ _ _ _; first | refine cB (fun hc => ?_) (fun hc => ?_) | refine cU ?_ ?_)))
        refine stop_out ?_
        generalize hT : ByteArray.mk _ = T
        have hs : T.size = 256 := by rw [← hT]; rfl
        have hg : ∀ n : Nat, n < 256 → (T.data.toList.getD n 0).toNat = lenN n := by rw [← hT]; decide +kernel
        clear hT
        have hn : (x : Int) / 65536 / 256 = ((x / 65536 / 256 : Nat) : Int) := by omega
        have hl : lenN x = 24 + lenN (x / 65536 / 256) := by rw [len16 x (by omega), len8 _ (by omega)]; omega
        have hlt : x / 65536 / 256 < 256 := by omega
        rw [hn, hl]
        generalize x / 65536 / 256 = n at *
        (have := Nonempty.intro hlt)
        have hgn := hg n hlt
        have hle := len_le8 hlt
        (repeat' (first | refine swp_seq [0, 2, 4, 8, 14] ?_ | refine st2 ?_ | (show Fct ..; refine fctI (fun hf => ?_)) | (show SWp _ _ _ (.cond _ _ _) _ _ _ _; first | refine cB (fun hc => ?_) (fun hc => ?_) | refine cU ?_ ?_)))
        (refine DVQ ?_)
        rw [hgn]
      · (have := Nonempty.intro h1)
        refine pureC (n := 25) (rs := [.tmp 2]) (ts := [3]) Tryz.func228 rfl (by decide) [] (by (exact SD)) ?_
        (repeat' (first | (show SWp _ _ _ (.seq (.region 10 _ _) _) _ _ _ _; refine (stop_in ?_)) | refine swp_seq [0, 2, 4, 8, 14] ?_ | refine st2 ?_ | (show CallQ ..; first | refine cQ (fun hcc => (by fail)) ?_ | (refine lP ?_; refine lQ (fun hcc m => (by fail)) ?_)) | (show Fct ..; refine fctI (fun hf => ?_)) | (show SWp _ _ _ (.cond _ _ _) _ _ _ _; first | refine cB (fun hc => ?_) (fun hc => ?_) | refine cU ?_ ?_)))
        refine stop_out ?_
        generalize hT : ByteArray.mk _ = T
        have hs : T.size = 256 := by rw [← hT]; rfl
        have hg : ∀ n : Nat, n < 256 → (T.data.toList.getD n 0).toNat = lenN n := by rw [← hT]; decide +kernel
        clear hT
        have hn : (x : Int) / 65536 = ((x / 65536 : Nat) : Int) := by omega
        have hl : lenN x = 16 + lenN (x / 65536) := by rw [len16 x (by omega)]
        have hlt : x / 65536 < 256 := by omega
        rw [hn, hl]
        generalize x / 65536 = n at *
        (have := Nonempty.intro hlt)
        have hgn := hg n hlt
        have hle := len_le8 hlt
        (repeat' (first | refine swp_seq [0, 2, 4, 8, 14] ?_ | refine st2 ?_ | (show Fct ..; refine fctI (fun hf => ?_)) | (show SWp _ _ _ (.cond _ _ _) _ _ _ _; first | refine cB (fun hc => ?_) (fun hc => ?_) | refine cU ?_ ?_)))
        (refine DVQ ?_)
        rw [hgn]
    · (have := Nonempty.intro h2)
      by_cases h1 : (256 : Int) ≤ (x : Int)
      · (have := Nonempty.intro h1)
        refine pureC (n := 25) (rs := [.tmp 2]) (ts := [3]) Tryz.func228 rfl (by decide) [] (by (exact SD)) ?_
        (repeat' (first | (show SWp _ _ _ (.seq (.region 10 _ _) _) _ _ _ _; refine (stop_in ?_)) | refine swp_seq [0, 2, 4, 8, 14] ?_ | refine st2 ?_ | (show CallQ ..; first | refine cQ (fun hcc => (by fail)) ?_ | (refine lP ?_; refine lQ (fun hcc m => (by fail)) ?_)) | (show Fct ..; refine fctI (fun hf => ?_)) | (show SWp _ _ _ (.cond _ _ _) _ _ _ _; first | refine cB (fun hc => ?_) (fun hc => ?_) | refine cU ?_ ?_)))
        refine stop_out ?_
        generalize hT : ByteArray.mk _ = T
        have hs : T.size = 256 := by rw [← hT]; rfl
        have hg : ∀ n : Nat, n < 256 → (T.data.toList.getD n 0).toNat = lenN n := by rw [← hT]; decide +kernel
        clear hT
        have hn : (x : Int) / 256 = ((x / 256 : Nat) : Int) := by omega
        have hl : lenN x = 8 + lenN (x / 256) := by rw [len8 x (by omega)]
        have hlt : x / 256 < 256 := by omega
        rw [hn, hl]
        generalize x / 256 = n at *
        (have := Nonempty.intro hlt)
        have hgn := hg n hlt
        have hle := len_le8 hlt
        (repeat' (first | refine swp_seq [0, 2, 4, 8, 14] ?_ | refine st2 ?_ | (show Fct ..; refine fctI (fun hf => ?_)) | (show SWp _ _ _ (.cond _ _ _) _ _ _ _; first | refine cB (fun hc => ?_) (fun hc => ?_) | refine cU ?_ ?_)))
        (refine DVQ ?_)
        rw [hgn]
      · (have := Nonempty.intro h1)
        refine pureC (n := 25) (rs := [.tmp 2]) (ts := [3]) Tryz.func228 rfl (by decide) [] (by (exact SD)) ?_
        (repeat' (first | (show SWp _ _ _ (.seq (.region 10 _ _) _) _ _ _ _; refine (stop_in ?_)) | refine swp_seq [0, 2, 4, 8, 14] ?_ | refine st2 ?_ | (show CallQ ..; first | refine cQ (fun hcc => (by fail)) ?_ | (refine lP ?_; refine lQ (fun hcc m => (by fail)) ?_)) | (show Fct ..; refine fctI (fun hf => ?_)) | (show SWp _ _ _ (.cond _ _ _) _ _ _ _; first | refine cB (fun hc => ?_) (fun hc => ?_) | refine cU ?_ ?_)))
        refine stop_out ?_
        generalize hT : ByteArray.mk _ = T
        have hs : T.size = 256 := by rw [← hT]; rfl
        have hg : ∀ n : Nat, n < 256 → (T.data.toList.getD n 0).toNat = lenN n := by rw [← hT]; decide +kernel
        clear hT
        have hn : (x : Int) = ((x : Nat) : Int) := rfl
        have hl : lenN x = 0 + lenN (x) := by omega
        have hlt : x < 256 := by omega
        skip
        obtain ⟨n, rfl⟩ : ∃ n, n = x := ⟨x, rfl⟩
        (have := Nonempty.intro hlt)
        have hgn := hg n hlt
        have hle := len_le8 hlt
        (repeat' (first | refine swp_seq [0, 2, 4, 8, 14] ?_ | refine st2 ?_ | (show Fct ..; refine fctI (fun hf => ?_)) | (show SWp _ _ _ (.cond _ _ _) _ _ _ _; first | refine cB (fun hc => ?_) (fun hc => ?_) | refine cU ?_ ?_)))
        (refine DVQ ?_)
        rw [hgn]
theorem lz64_f (x : Nat) (m : Nat) (hx : x < 18446744073709551616) : DCalls Tryz.prog 220 [lu x] (hget []) m (li (64 - (lenN x : Int))) (hget []) := by
  have hl : lenN x ≤ 64 := by
    unfold lenN
    split
    · omega
    · next e =>
      have := (Nat.log2_lt (k := 64) e).2 hx
      omega
  refine pureC (n := 6) (rs := [.tmp 2]) (ts := [3]) Tryz.func220 rfl (by decide) [] (by (exact SD)) ?_
  (repeat' (first | refine swp_seq [0, 2] ?_ | refine st2 ?_ | (show CallQ ..; first | refine cQ (fun hcc => (len64_f x _ hx)) ?_ | (refine lP ?_; refine lQ (fun hcc m => (len64_f x _ hx)) ?_)) | (show Fct ..; refine fctI (fun hf => ?_)) | (show SWp _ _ _ (.cond _ _ _) _ _ _ _; first | refine cB (fun hc => ?_) (fun hc => ?_) | refine cU ?_ ?_)))
  exact DVR
theorem pow_cast (s : Nat) : ((2 ^ s : Nat) : Int) = (2 : Int) ^ s := Int.natCast_pow 2 s
theorem shl64 (x s : Nat) (hs : s < 64) (h : x * 2 ^ s < 18446744073709551616) : IntKind.u64.wrap ((x : Int) * 2 ^ min s IntKind.u64.bits) = ((x * 2 ^ s : Nat) : Int) := by
  have e0 : min s IntKind.u64.bits = s := by show min s 64 = s; omega
  rw [e0, u64w, ← pow_cast, ← Int.natCast_mul]
  omega
theorem shr64 (x s : Nat) (hs : s ≤ 64) : (x : Int).fdiv (2 ^ min s IntKind.u64.bits) = ((x / 2 ^ s : Nat) : Int) := by
  have e0 : min s IntKind.u64.bits = s := by show min s 64 = s; omega
  rw [e0, ← pow_cast, Int.fdiv_eq_ediv_of_nonneg _ (Int.natCast_nonneg _), ← Int.natCast_ediv]
theorem or64 (x l s : Nat) (hl : l < 2 ^ s) (h : x * 2 ^ s + l < 18446744073709551616) : IntKind.u64.wrap ((BitVec.ofInt IntKind.u64.bits ((x * 2 ^ s : Nat) : Int) ||| BitVec.ofInt IntKind.u64.bits ((l : Nat) : Int)).toNat : Int) = ((x * 2 ^ s + l : Nat) : Int) := by
  have e2 : ∀ n : Nat, n < 18446744073709551616 → (BitVec.ofInt IntKind.u64.bits ((n : Nat) : Int)).toNat = n := fun n hn => by
    show (BitVec.ofInt 64 _).toNat = _
    rw [BitVec.toNat_ofInt]; omega
  rw [BitVec.toNat_or, e2 _ (by omega), e2 _ (by omega)]
  have : x * 2 ^ s ||| l = x * 2 ^ s + l := by
    have := Nat.shiftLeft_add_eq_or_of_lt hl x
    rw [Nat.shiftLeft_eq] at this
    exact this.symm
  rw [this, u64w]; omega
theorem norm64 {y s : Nat} (h0 : 0 < y) (hs : 64 - lenN y = s) (hl : lenN y ≤ 64) : 9223372036854775808 ≤ y * 2 ^ s ∧ y * 2 ^ s < 18446744073709551616 := by
  unfold lenN at hs hl
  rw [if_neg (by omega)] at hs hl
  have a := Nat.log2_self_le (n := y) (by omega)
  have b : y < 2 ^ (Nat.log2 y + 1) := Nat.lt_log2_self
  have e1 : (2 : Nat) ^ 63 = 2 ^ Nat.log2 y * 2 ^ s := by rw [← Nat.pow_add]; congr 1; omega
  have e2 : (2 : Nat) ^ 64 = 2 ^ (Nat.log2 y + 1) * 2 ^ s := by rw [← Nat.pow_add]; congr 1; omega
  have c := Nat.mul_le_mul_right (2 ^ s) a
  have d := Nat.mul_lt_mul_of_pos_right b (Nat.pow_pos (by decide) : 0 < 2 ^ s)
  rw [← e1] at c
  rw [← e2] at d
  exact ⟨c, d⟩
theorem split64 (hi lo s : Nat) (hs : s < 64) (hl : lo < 18446744073709551616) : (hi * 18446744073709551616 + lo) * 2 ^ s = (hi * 2 ^ s + lo / 2 ^ (64 - s)) * 18446744073709551616 + (lo * 2 ^ s) % 18446744073709551616 := by
  have e : (18446744073709551616 : Nat) = 2 ^ (64 - s) * 2 ^ s := by
    rw [← Nat.pow_add, show 64 - s + s = 64 by omega]
  have h1 := Nat.div_add_mod lo (2 ^ (64 - s))
  have h2 : (lo * 2 ^ s) % 18446744073709551616 = (lo % 2 ^ (64 - s)) * 2 ^ s := by
    rw [e, Nat.mul_mod_mul_right]
  rw [h2, Nat.add_mul, Nat.add_mul]
  have h3 : lo * 2 ^ s = lo / 2 ^ (64 - s) * 18446744073709551616 + lo % 2 ^ (64 - s) * 2 ^ s := by
    rw [e, ← Nat.mul_assoc, ← Nat.add_mul, Nat.mul_comm (lo / 2 ^ (64 - s)), h1]
  rw [h3, Nat.mul_right_comm hi]
  omega
theorem shl64m (x s : Nat) (hs : s < 64) : IntKind.u64.wrap ((x : Int) * 2 ^ min s IntKind.u64.bits) = ((x * 2 ^ s % 18446744073709551616 : Nat) : Int) := by
  have e0 : min s IntKind.u64.bits = s := by show min s 64 = s; omega
  rw [e0, u64w, ← pow_cast, ← Int.natCast_mul]
  omega
theorem u64_diff (U w p R : Nat) (h : p + R = U * 4294967296 + w) (hR : R < 18446744073709551616) : IntKind.u64.wrap (IntKind.u64.wrap (IntKind.u64.wrap ((U : Int) * 4294967296) + (w : Int)) - IntKind.u64.wrap (p : Int)) = (R : Int) := by
  rw [u64w, u64w, u64w, u64w]; omega
theorem u64_sum (Q t r : Nat) (h : Q * 4294967296 + t = r) (hr : r < 18446744073709551616) : IntKind.u64.wrap (IntKind.u64.wrap ((Q : Int) * 4294967296) + (t : Int)) = (r : Int) := by
  rw [u64w, u64w]; omega
theorem or_top (x l : Nat) (hl : l < 1152921504606846976) (hx : x < 16) : IntKind.u64.wrap ((BitVec.ofInt IntKind.u64.bits ((x * 1152921504606846976 : Nat) : Int) ||| BitVec.ofInt IntKind.u64.bits (l : Int)).toNat : Int) = ((x * 1152921504606846976 + l : Nat) : Int) :=
  or64 x l 60 hl (by show x * 1152921504606846976 + l < _; omega)
theorem or_four (x l : Nat) (hl : l < 16) (hx : x < 1152921504606846976) : IntKind.u64.wrap ((BitVec.ofInt IntKind.u64.bits ((x * 16 : Nat) : Int) ||| BitVec.ofInt IntKind.u64.bits (l : Int)).toNat : Int) = ((x * 16 + l : Nat) : Int) :=
  or64 x l 4 hl (by show x * 16 + l < _; omega)
theorem mask60 (z : Int) : IntKind.u64.wrap ((BitVec.ofInt IntKind.u64.bits z &&& BitVec.ofInt IntKind.u64.bits 1152921504606846975).toNat : Int) = z % 1152921504606846976 := by
  have h : ∀ b : BitVec 64, (b &&& 1152921504606846975#64).toNat = b.toNat % 1152921504606846976 := fun b => by
    rw [BitVec.toNat_and]
    exact Nat.and_two_pow_sub_one_eq_mod _ 60
  have e := h (BitVec.ofInt 64 z)
  show IntKind.u64.wrap ((BitVec.ofInt 64 z &&& 1152921504606846975#64).toNat : Int) = _
  rw [e, BitVec.toNat_ofInt, u64w]
  omega
theorem shl_four (x : Nat) (h : x < 1152921504606846976) : IntKind.u64.wrap ((x : Int) * 2 ^ min 4 IntKind.u64.bits) = ((x * 16 : Nat) : Int) :=
  shl64 x 4 (by omega) (by show x * 16 < _; omega)
theorem shr_four (x : Nat) : (x : Int).fdiv (2 ^ min 4 IntKind.u64.bits) = ((x / 16 : Nat) : Int) := shr64 x 4 (by omega)
theorem shr_60 (x : Nat) : (x : Int).fdiv (2 ^ min 60 IntKind.u64.bits) = ((x / 1152921504606846976 : Nat) : Int) := shr64 x 60 (by omega)
theorem shl_60 (x : Nat) : IntKind.u64.wrap ((x : Int) * 2 ^ min 60 IntKind.u64.bits) = ((x % 16 * 1152921504606846976 : Nat) : Int) := by
  rw [shl64m x 60 (by omega)]
  show ((x * 1152921504606846976 % 18446744073709551616 : Nat) : Int) = _
  omega

end Go.Proofs.YtnfbaeeohepajaaGreat
