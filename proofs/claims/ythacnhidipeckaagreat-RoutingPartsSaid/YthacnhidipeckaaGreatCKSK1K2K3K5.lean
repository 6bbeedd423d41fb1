/-
  Contracts of functions of the program, over the engine.
  No condition.
-/
import Derived.Test.YthacnhidipeckaaGreatCN0
namespace Go.Proofs.YthacnhidipeckaaGreat
open Go.Eng
set_option linter.all false
attribute [local irreducible] DCallsG SWp Fct CallQ XCallQ LCallQ XLCallQ drun xrun
def Stop (p : Prop) : Prop := p
theorem stop_in {p : Prop} (h : Stop p) : p := h
theorem stop_out {p : Prop} (h : p) : Stop p := h
attribute [irreducible] Stop
section
open Go.Eng
variable {P : Program} {N pin nx : Nat}
def midK (L K : List Nat) (M : LE → LH → Prop) (Q : Exit → LE → LH → Nat → Prop) : Exit → LE → LH → Nat → Prop := fun e A H nx =>
  match e with
  | .normal => M (ekeep A L) (hkeep H K)
  | e => Q e A H nx
theorem midK_normal {L K : List Nat} {M : LE → LH → Prop} {Q : Exit → LE → LH → Nat → Prop} {A A2 : LE} {H H2 : LH} (hA : ekeep A L = A2) (hH : hkeep H K = H2) (h : M A2 H2) : midK L K M Q .normal A H nx := by subst hA hH; exact h
theorem swp_mid {x y : Code} {Q : Exit → LE → LH → Nat → Prop} {A : LE} {H : LH} (L K : List Nat) (n0 : Nat) (M : LE → LH → Prop) (hp : pin ≤ n0) (hI : ∀ A H, M A H → usesA n0 A ∧ usesH n0 H)
    (h1 : SWp P N pin x (midK L K M Q) A H nx) (h2 : ∀ A H, M A H → SWp P N pin y Q A H n0) : SWp P N pin (.seq x y) Q A H nx := by
  unfold SWp at h1 h2 ⊢
  intro hp1 B hB a w hS
  refine wp_seq (wp_mono (h1 hp1 B hB a w hS) fun e a' w' ⟨A', H', nx', k1, k2, k3⟩ => ?_)
  cases e with
  | normal =>
    have u := hI _ _ k3
    exact h2 _ _ k3 hp B hB a' w' (k2.reset L K u.1 u.2)
  | _ => exact ⟨A', H', nx', k1, k2, k3⟩
end
attribute [irreducible] midK
theorem kn_test {B a b u w q r : Nat} (he : u = q * a + r) : B * r + w < q * b ↔ u * B + w < q * (a * B + b) := by
  have e1 : u * B = q * a * B + r * B := by rw [he, Nat.add_mul]
  have e2 : q * (a * B + b) = q * a * B + q * b := by rw [Nat.mul_add, Nat.mul_assoc]
  rw [e1, e2, Nat.mul_comm B r]
  generalize q * a * B = t
  generalize r * B = s
  generalize q * b = p
  omega
theorem kn_small {B a b u q r : Nat} (hb : b < B) (hu : u < a * B + b) (he : u = q * a + r) (hr : B ≤ r) : q < B := by
  refine Nat.lt_of_not_le fun h => ?_
  have := Nat.mul_le_mul_right a h
  rw [Nat.mul_comm B a] at this
  generalize q * a = t at *
  generalize a * B = s at *
  omega
theorem kn_rest {B a b u w q r : Nat} (hb : b < B) (hu : u < a * B + b) (he : u = q * a + r) (hr : B ≤ r) : ¬ B * r + w < q * b := by
  have hq := kn_small hb hu he hr
  have h1 : q * b ≤ B * B := Nat.mul_le_mul (by omega) (by omega)
  have h2 : B * B ≤ B * r := Nat.mul_le_mul_left B hr
  generalize q * b = p at *
  generalize B * r = s at *
  generalize B * B = t at *
  omega
theorem kn_great {B v u w q : Nat} (hu : u < v) (hw : w < B) (hq : B ≤ q) : u * B + w < q * v := by
  have h1 : (u + 1) * B ≤ v * B := Nat.mul_le_mul_right B hu
  have h2 : B * v ≤ q * v := Nat.mul_le_mul_right v hq
  rw [Nat.add_mul, Nat.one_mul] at h1
  rw [Nat.mul_comm B v] at h2
  generalize u * B = s at *
  generalize v * B = t at *
  generalize q * v = p at *
  omega
theorem kn_first {B a b u w : Nat} (ha : 0 < a) (hw : w < B) : u * B + w < (u / a + 1) * (a * B + b) := by
  have h1 : u + 1 ≤ (u / a + 1) * a := by
    have := Nat.lt_div_mul_add ha (a := u)
    rw [Nat.add_mul, Nat.one_mul]; omega
  have h2 : (u + 1) * B ≤ (u / a + 1) * a * B := Nat.mul_le_mul_right B h1
  rw [Nat.add_mul, Nat.one_mul] at h2
  rw [Nat.mul_add, ← Nat.mul_assoc]
  generalize (u / a + 1) * a * B = t at *
  generalize (u / a + 1) * b = p at *
  generalize u * B = s at *
  omega
theorem kn_most {B a b u : Nat} (hb : b < B) (hB : B ≤ 2 * a) (ha : 0 < a) (hu : u < a * B + b) : u / a ≤ B + 1 := by
  have h2 : u < (B + 2) * a := by
    rw [Nat.add_mul, Nat.mul_comm B a]
    generalize a * B = s at *
    omega
  have := (Nat.div_lt_iff_lt_mul ha).2 h2
  omega
theorem kn_done {v x q : Nat} (h1 : q * v ≤ x) (h2 : x < (q + 1) * v) : x / v = q := by
  have hv : 0 < v := Nat.pos_of_ne_zero fun e => by rw [e, Nat.mul_zero] at h2; exact Nat.not_lt_zero _ h2
  exact Nat.div_eq_of_lt_le h1 h2
theorem kn_two {B v u w z : Nat} (hv : 0 < v) (hz : z < B) (hB : 0 < B) : (u * B + w) / v * B + ((u * B + w) % v * B + z) / v = ((u * B + w) * B + z) / v ∧ ((u * B + w) % v * B + z) % v = ((u * B + w) * B + z) % v := by
  have e : (u * B + w) * B + z = ((u * B + w) % v * B + z) + v * ((u * B + w) / v * B) := by
    have h := Nat.mod_add_div (u * B + w) v
    generalize (u * B + w) / v = q at *
    generalize (u * B + w) % v = r at *
    rw [← h, Nat.add_mul, Nat.mul_assoc]
    generalize v * (q * B) = t
    generalize r * B = s
    omega
  rw [e, Nat.add_mul_div_left _ _ hv, Nat.add_mul_mod_self_left]
  exact ⟨Nat.add_comm _ _, rfl⟩
theorem kn_step {B a b u w q r : Nat} (hb : b < B) (hw : w < B) (hu : u < a * B + b) (he : u = q * a + r) (h : u * B + w < (q + 1) * (a * B + b)) (ht : B ≤ q ∨ B * r + w < q * b) :
    1 ≤ q ∧ u * B + w < (q - 1 + 1) * (a * B + b) ∧ u = (q - 1) * a + (r + a) ∧ (B ≤ r + a → (u * B + w) / (a * B + b) = q - 1) := by
  have h1 : u * B + w < q * (a * B + b) := by
    rcases ht with ht | ht
    · exact kn_great hu hw ht
    · exact (kn_test he).1 ht
  have hq : 1 ≤ q := by
    rcases Nat.eq_zero_or_pos q with e | e
    · rw [e, Nat.zero_mul] at h1; exact absurd h1 (Nat.not_lt_zero _)
    · exact e
  have e1 : q - 1 + 1 = q := by omega
  have e2 : u = (q - 1) * a + (r + a) := by
    have : q * a = (q - 1) * a + a := by rw [← Nat.succ_mul]; congr 1; omega
    omega
  refine ⟨hq, by rw [e1]; exact h1, e2, fun hr => ?_⟩
  refine kn_done (Nat.le_of_not_lt fun h3 => ?_) (by rw [e1]; exact h1)
  exact kn_rest hb hu e2 hr ((kn_test e2).2 h3)
theorem kn_stop {B a b u w q r : Nat} (he : u = q * a + r) (h : u * B + w < (q + 1) * (a * B + b)) (ht : ¬ B * r + w < q * b) : (u * B + w) / (a * B + b) = q :=
  kn_done (Nat.le_of_not_lt fun h3 => ht ((kn_test he).2 h3)) h
theorem kn_lt {B hi lo y : Nat} (h1 : hi < y) (hl : lo < B) : (hi * B + lo) / y < B := by
  rw [Nat.div_lt_iff_lt_mul (by omega)]
  have h2 : (hi + 1) * B ≤ y * B := Nat.mul_le_mul_right B h1
  rw [Nat.add_mul, Nat.one_mul] at h2
  rw [Nat.mul_comm B y]
  generalize hi * B = s at *
  generalize y * B = t at *
  omega
theorem kn_two2 {B v u w z Q R T S : Nat} (hv : 0 < v) (hz : z < B) (hB : 0 < B) (hQ : (u * B + w) / v = Q) (hR : (u * B + w) % v = R) (hT : (R * B + z) / v = T) (hS : (R * B + z) % v = S) : Q * B + T = ((u * B + w) * B + z) / v ∧ S = ((u * B + w) * B + z) % v := by
  subst hQ hR
  have := kn_two (u := u) (w := w) hv hz hB
  rw [hT, hS] at this
  exact this
abbrev lu (n : Nat) : DV := lv (.int .u64 (n : Int))
theorem u64_mask (z : Int) : IntKind.u64.wrap ((BitVec.ofInt IntKind.u64.bits z &&& BitVec.ofInt IntKind.u64.bits 4294967295).toNat : Int) = z % 4294967296 := by
  have e1 : (BitVec.ofInt IntKind.u64.bits z).toNat = (z % 18446744073709551616).toNat := by
    show (BitVec.ofInt 64 _).toNat = _
    rw [BitVec.toNat_ofInt]; rfl
  have e2 : (BitVec.ofInt IntKind.u64.bits (4294967295 : Int)).toNat = 2 ^ 32 - 1 := rfl
  rw [BitVec.toNat_and, e1, e2, Nat.and_two_pow_sub_one_eq_mod, u64w]
  omega
theorem u64_shr (z : Int) : z.fdiv (2 ^ min 32 IntKind.u64.bits) = z / 4294967296 := by
  have : (2 : Int) ^ min 32 IntKind.u64.bits = 4294967296 := rfl
  rw [this, Int.fdiv_eq_ediv_of_nonneg _ (by omega)]
attribute [push_cast] u64_mask u64_shr
theorem mul_hi (x y : Int) (hx : 0 ≤ x ∧ x < 18446744073709551616) (hy : 0 ≤ y ∧ y < 18446744073709551616) :
    (((x / 4294967296 * (y / 4294967296)) % 18446744073709551616 + (((x / 4294967296 * (y % 4294967296)) % 18446744073709551616 + ((x % 4294967296) * (y % 4294967296)) % 18446744073709551616 / 4294967296) % 18446744073709551616) / 4294967296) % 18446744073709551616 +
      (((((x / 4294967296 * (y % 4294967296)) % 18446744073709551616 + ((x % 4294967296) * (y % 4294967296)) % 18446744073709551616 / 4294967296) % 18446744073709551616) % 4294967296 + ((x % 4294967296) * (y / 4294967296)) % 18446744073709551616) % 18446744073709551616) / 4294967296) % 18446744073709551616 = x * y / 18446744073709551616 := by
  have d1 : x = x / 4294967296 * 4294967296 + x % 4294967296 := by omega
  have d2 : y = y / 4294967296 * 4294967296 + y % 4294967296 := by omega
  have b1 : 0 ≤ x / 4294967296 ∧ x / 4294967296 ≤ 4294967295 := by omega
  have b2 : 0 ≤ x % 4294967296 ∧ x % 4294967296 ≤ 4294967295 := by omega
  have b3 : 0 ≤ y / 4294967296 ∧ y / 4294967296 ≤ 4294967295 := by omega
  have b4 : 0 ≤ y % 4294967296 ∧ y % 4294967296 ≤ 4294967295 := by omega
  generalize x / 4294967296 = a at *
  generalize x % 4294967296 = b at *
  generalize y / 4294967296 = c at *
  generalize y % 4294967296 = d at *
  have hm : ∀ p q : Int, 0 ≤ p ∧ p ≤ 4294967295 → 0 ≤ q ∧ q ≤ 4294967295 → 0 ≤ p * q ∧ p * q ≤ 18446744065119617025 := fun p q h1 h2 =>
    ⟨Int.mul_nonneg h1.1 h2.1, Int.le_trans (Int.mul_le_mul h1.2 h2.2 h2.1 (by omega)) (by omega)⟩
  have m1 := hm a c b1 b3
  have m2 := hm a d b1 b4
  have m3 := hm b c b2 b3
  have m4 := hm b d b2 b4
  have e : x * y = a * c * 18446744073709551616 + a * d * 4294967296 + b * c * 4294967296 + b * d := by
    rw [d1, d2]; grind
  rw [e]
  generalize a * c = p at *
  generalize a * d = q at *
  generalize b * c = r at *
  generalize b * d = t at *
  clear e d1 d2 hm
  omega
theorem mul_hi' (x y : Nat) (hx : x < 18446744073709551616) (hy : y < 18446744073709551616) :
    IntKind.u64.wrap (IntKind.u64.wrap (IntKind.u64.wrap ((x : Int) / 4294967296 * ((y : Int) / 4294967296)) + IntKind.u64.wrap (IntKind.u64.wrap ((x : Int) / 4294967296 * ((y : Int) % 4294967296)) + IntKind.u64.wrap ((x : Int) % 4294967296 * ((y : Int) % 4294967296)) / 4294967296) / 4294967296) +
      IntKind.u64.wrap (IntKind.u64.wrap (IntKind.u64.wrap ((x : Int) / 4294967296 * ((y : Int) % 4294967296)) + IntKind.u64.wrap ((x : Int) % 4294967296 * ((y : Int) % 4294967296)) / 4294967296) % 4294967296 + IntKind.u64.wrap ((x : Int) % 4294967296 * ((y : Int) / 4294967296))) / 4294967296) = ((x * y / 18446744073709551616 : Nat) : Int) := by
  simp only [u64w]
  rw [mul_hi x y (by omega) (by omega)]
  rw [← Int.natCast_mul]; omega
theorem mul_lo (x y : Nat) : IntKind.u64.wrap ((x : Int) * (y : Int)) = ((x * y % 18446744073709551616 : Nat) : Int) := by
  rw [u64w, ← Int.natCast_mul]; omega
set_option maxRecDepth 20000 in
set_option maxHeartbeats 8000000 in
theorem mul64_f (x y : Nat) (m : Nat) (hx : x < 18446744073709551616) (hy : y < 18446744073709551616) : DCalls Tryz.prog 166 [lu x, lu y] (hget []) m (.tup [lu (x * y / 18446744073709551616), lu (x * y % 18446744073709551616)]) (hget []) := by
  refine pureC (n := 51) (rs := [.tmp 4, .tmp 5]) (ts := [191, 191]) Tryz.func166 rfl (by decide) [] (by (exact SD)) ?_
  (repeat' (first | refine swp_seq [0, 1, 4, 5, 6, 7, 8, 9, 10, 11, 12, 13] ?_ | refine st2 ?_ | (show Fct ..; refine fctI (fun hf => ?_)) | (show SWp _ _ _ (.cond _ _ _) _ _ _ _; first | refine cB (fun hc => ?_) (fun hc => ?_) | refine cU ?_ ?_)))
  rw [mul_hi' x y hx hy, mul_lo x y]
  generalize x * y / 18446744073709551616 = a
  generalize x * y % 18446744073709551616 = b
  exact DVR
theorem div64_f (x y : Nat) (m : Nat) (hx : x < 18446744073709551616) (hy : y < 18446744073709551616) (h0 : 0 < y) : DCalls Tryz.prog 167 [lu 0, lu x, lu y] (hget []) m (.tup [lu (x / y), lu (x % y)]) (hget []) := by
  have n1 : ¬ ((y : Int) = 0) := by omega
  have n2 : ¬ ((y : Int) ≤ 0) := by omega
  have i0 : (0 : Int) = 0 := rfl
  (have := Nonempty.intro n1)
  (have := Nonempty.intro n2)
  (have := Nonempty.intro i0)
  have e1 : IntKind.u64.wrap ((x : Int).tdiv (y : Int)) = ((x / y : Nat) : Int) := by
    rw [u64w, Int.tdiv_eq_ediv_of_nonneg (by omega), ← Int.natCast_ediv]
    have := Nat.div_le_self x y
    generalize x / y = q at *
    omega
  have e2 : ((x : Int).tmod (y : Int)) = ((x % y : Nat) : Int) := by
    rw [Int.tmod_eq_emod_of_nonneg (by omega)]; rfl
  refine pureC (n := 135) (rs := [.tmp 6, .tmp 7]) (ts := [191, 191]) Tryz.func167 rfl (by decide) [] (by (exact SD)) ?_
  (repeat' (first | refine swp_seq [0, 1, 2, 6, 7, 8, 9, 10, 11, 12, 13, 14, 15, 16, 17, 18, 20, 24, 27, 78, 85, 113, 120] ?_ | refine st2 ?_ | (show Fct ..; refine fctI (fun hf => ?_)) | (show SWp _ _ _ (.cond _ _ _) _ _ _ _; first | refine cB (fun hc => ?_) (fun hc => ?_) | refine cU ?_ ?_)))
  rw [e1, e2]
  generalize x / y = a
  generalize x % y = b
  exact DVR
theorem u64_shr16 (z : Int) : z.fdiv (2 ^ min 16 IntKind.u64.bits) = z / 65536 := by
  have : (2 : Int) ^ min 16 IntKind.u64.bits = 65536 := rfl
  rw [this, Int.fdiv_eq_ediv_of_nonneg _ (by omega)]
theorem u64_shr8 (z : Int) : z.fdiv (2 ^ min 8 IntKind.u64.bits) = z / 256 := by
  have : (2 : Int) ^ min 8 IntKind.u64.bits = 256 := rfl
  rw [this, Int.fdiv_eq_ediv_of_nonneg _ (by omega)]
attribute [push_cast] u64_shr16 u64_shr8
theorem u8w_nz (n : Nat) [h : Nonempty (n < 256)] : IntKind.u8.wrap (n : Int) = n := by
  have := h.elim id
  rw [IntKind.wrap_u8]; omega
attribute [push_cast] u8w_nz
def lenN (n : Nat) : Nat := if n = 0 then 0 else Nat.log2 n + 1
theorem len_shift (x k : Nat) (h : 0 < x / 2 ^ k) : lenN x = k + lenN (x / 2 ^ k) := by
  have hx : 0 < x := Nat.pos_of_ne_zero fun e => by rw [e, Nat.zero_div] at h; exact Nat.lt_irrefl _ h
  unfold lenN
  rw [if_neg (by omega), if_neg (by omega)]
  have h2 : 2 ^ k ≤ x := by
    refine Nat.le_of_not_lt fun q => ?_
    rw [Nat.div_eq_of_lt q] at h; exact Nat.lt_irrefl _ h
  have e : Nat.log2 x = k + Nat.log2 (x / 2 ^ k) := by
    refine (Nat.log2_eq_iff (by omega)).2 ⟨?_, ?_⟩
    · have a := Nat.log2_self_le (n := x / 2 ^ k) (by omega)
      have b := Nat.mul_le_of_le_div _ _ _ a
      rw [Nat.pow_add, Nat.mul_comm]; exact b
    · have a : x / 2 ^ k < 2 ^ (Nat.log2 (x / 2 ^ k) + 1) := Nat.lt_log2_self
      have b := (Nat.div_lt_iff_lt_mul (Nat.pow_pos (by decide))).1 a
      rw [Nat.add_assoc, Nat.pow_add, Nat.mul_comm]; exact b
  omega
theorem len8 (x : Nat) (h : 256 ≤ x) : lenN x = 8 + lenN (x / 256) := len_shift x 8 (by show 0 < x / 256; omega)
theorem len16 (x : Nat) (h : 65536 ≤ x) : lenN x = 16 + lenN (x / 65536) := len_shift x 16 (by show 0 < x / 65536; omega)
theorem len32 (x : Nat) (h : 4294967296 ≤ x) : lenN x = 32 + lenN (x / 4294967296) := len_shift x 32 (by show 0 < x / 4294967296; omega)
theorem len_le8 {n : Nat} (h : n < 256) : lenN n ≤ 8 := by
  unfold lenN
  split
  · omega
  · next e =>
    have := (Nat.log2_lt (k := 8) e).2 h
    omega
set_option maxRecDepth 20000 in
set_option maxHeartbeats 8000000 in
theorem len64_f (x : Nat) (m : Nat) (hx : x < 18446744073709551616) : DCalls Tryz.prog 232 [lu x] (hget []) m (li (lenN x)) (hget []) := by
  by_cases h3 : (4294967296 : Int) ≤ (x : Int)
  · (have := Nonempty.intro h3)
    by_cases h2 : (65536 : Int) ≤ (x : Int) / 4294967296
    · (have := Nonempty.intro h2)
      by_cases h1 : (256 : Int) ≤ (x : Int) / 4294967296 / 65536
      · (have := Nonempty.intro h1)
        refine pureC (n := 25) (rs := [.tmp 2]) (ts := [3]) Tryz.func232 rfl (by decide) [] (by (exact SD)) ?_
        (repeat' (first | (show SWp _ _ _ (.seq (.region 10 _ _) _) _ _ _ _; refine (stop_in ?_)) | refine swp_seq [0, 2, 4, 8, 14] ?_ | refine st2 ?_ | (show CallQ ..; first | refine cQ (fun hcc => (by fail)) ?_ | (refine lP ?_; refine lQ (fun hcc m => (by fail)) ?_)) | (show Fct ..; refine fctI (fun hf => ?_)) | (show SWp _ _ _ (.cond _ _ _) _ _ _ _; first | refine cB (fun hc => ?_) (fun hc => ?_) | refine cU ?_ ?_)))
        refine stop_out ?_
        generalize hT : ByteArray.mk _ = T
        have hs : T.size = 256 := by rw [← hT]; rfl
        have hg : ∀ n : Nat, n < 256 → (T.data.toList.getD n 0).toNat = lenN n := by rw [← hT]; decide +kernel
        clear hT
        have hn : (x : Int) / 4294967296 / 65536 / 256 = ((x / 4294967296 / 65536 / 256 : Nat) : Int) := by omega
        have hl : lenN x = 56 + lenN (x / 4294967296 / 65536 / 256) := by rw [len32 x (by omega), len16 _ (by omega), len8 _ (by omega)]; omega
        have hlt : x / 4294967296 / 65536 / 256 < 256 := by omega
        rw [hn, hl]
        generalize x / 4294967296 / 65536 / 256 = n at *
        (have := Nonempty.intro hlt)
        have hgn := hg n hlt
        have hle := len_le8 hlt
        (repeat' (first | refine swp_seq [0, 2, 4, 8, 14] ?_ | refine st2 ?_ | (show Fct ..; refine fctI (fun hf => ?_)) | (show SWp _ _ _ (.cond _ _ _) _ _ _ _; first | refine cB (fun hc => ?_) (fun hc => ?_) | refine cU ?_ ?_)))
        (refine DVQ ?_)
        rw [hgn]
      · (have := Nonempty.intro h1)
        refine pureC (n := 25) (rs := [.tmp 2]) (ts := [3]) Tryz.func232 rfl (by decide) [] (by (exact SD)) ?_
        (repeat' (first | (show SWp _ _ _ (.seq (.region 10 _ _) _) _ _ _ _; refine (stop_in ?_)) | refine swp_seq [0, 2, 4, 8, 14] ?_ | refine st2 ?_ | (show CallQ ..; first | refine cQ (fun hcc => (by fail)) ?_ | (refine lP ?_; refine lQ (fun hcc m => (by fail)) ?_)) | (show Fct ..; refine fctI (fun hf => ?_)) | (show SWp _ _ _ (.cond _ _ _) _ _ _ _; first | refine cB (fun hc => ?_) (fun hc => ?_) | refine cU ?_ ?_)))
        refine stop_out ?_
        generalize hT : ByteArray.mk _ = T
        have hs : T.size = 256 := by rw [← hT]; rfl
        have hg : ∀ n : Nat, n < 256 → (T.data.toList.getD n 0).toNat = lenN n := by rw [← hT]; decide +kernel
        clear hT
        have hn : (x : Int) / 4294967296 / 65536 = ((x / 4294967296 / 65536 : Nat) : Int) := by omega
        have hl : lenN x = 48 + lenN (x / 4294967296 / 65536) := by rw [len32 x (by omega), len16 _ (by omega)]; omega
        have hlt : x / 4294967296 / 65536 < 256 := by omega
        rw [hn, hl]
        generalize x / 4294967296 / 65536 = n at *
        (have := Nonempty.intro hlt)
        have hgn := hg n hlt
        have hle := len_le8 hlt
        (repeat' (first | refine swp_seq [0, 2, 4, 8, 14] ?_ | refine st2 ?_ | (show Fct ..; refine fctI (fun hf => ?_)) | (show SWp _ _ _ (.cond _ _ _) _ _ _ _; first | refine cB (fun hc => ?_) (fun hc => ?_) | refine cU ?_ ?_)))
        (refine DVQ ?_)
        rw [hgn]
    · (have := Nonempty.intro h2)
      by_cases h1 : (256 : Int) ≤ (x : Int) / 4294967296
      · (have := Nonempty.intro h1)
        refine pureC (n := 25) (rs := [.tmp 2]) (ts := [3]) Tryz.func232 rfl (by decide) [] (by (exact SD)) ?_
        (repeat' (first | (show SWp _ _ _ (.seq (.region 10 _ _) _) _ _ _ _; refine (stop_in ?_)) | refine swp_seq [0, 2, 4, 8, 14] ?_ | refine st2 ?_ | (show CallQ ..; first | refine cQ (fun hcc => (by fail)) ?_ | (refine lP ?_; refine lQ (fun hcc m => (by fail)) ?_)) | (show Fct ..; refine fctI (fun hf => ?_)) | (show SWp _ _ _ (.cond _ _ _) _ _ _ _; first | refine cB (fun hc => ?_) (fun hc => ?_) | refine cU ?_ ?_)))
        refine stop_out ?_
        generalize hT : ByteArray.mk _ = T
        have hs : T.size = 256 := by rw [← hT]; rfl
        have hg : ∀ n : Nat, n < 256 → (T.data.toList.getD n 0).toNat = lenN n := by rw [← hT]; decide +kernel
        clear hT
        have hn : (x : Int) / 4294967296 / 256 = ((x / 4294967296 / 256 : Nat) : Int) := by omega
        have hl : lenN x = 40 + lenN (x / 4294967296 / 256) := by rw [len32 x (by omega), len8 _ (by omega)]; omega
        have hlt : x / 4294967296 / 256 < 256 := by omega
        rw [hn, hl]
        generalize x / 4294967296 / 256 = n at *
        (have := Nonempty.intro hlt)
        have hgn := hg n hlt
        have hle := len_le8 hlt
        (repeat' (first | refine swp_seq [0, 2, 4, 8, 14] ?_ | refine st2 ?_ | (show Fct ..; refine fctI (fun hf => ?_)) | (show SWp _ _ _ (.cond _ _ _) _ _ _ _; first | refine cB (fun hc => ?_) (fun hc => ?_) | refine cU ?_ ?_)))
        (refine DVQ ?_)
        rw [hgn]
      · (have := Nonempty.intro h1)
        refine pureC (n := 25) (rs := [.tmp 2]) (ts := [3]) Tryz.func232 rfl (by decide) [] (by (exact SD)) ?_
        (repeat' (first | (show SWp _ _ _ (.seq (.region 10 _ _) _) _ _ _ _; refine (stop_in ?_)) | refine swp_seq [0, 2, 4, 8, 14] ?_ | refine st2 ?_ | (show CallQ ..; first | refine cQ (fun hcc => (by fail)) ?_ | (refine lP ?_; refine lQ (fun hcc m => (by fail)) ?_)) | (show Fct ..; refine fctI (fun hf => ?_)) | (show SWp _ _ _ (.cond _ _ _) _ _ _ _; first | refine cB (fun hc => ?_) (fun hc => ?_) | refine cU ?_ ?_)))
        refine stop_out ?_
        generalize hT : ByteArray.mk _ = T
        have hs : T.size = 256 := by rw [← hT]; rfl
        have hg : ∀ n : Nat, n < 256 → (T.data.toList.getD n 0).toNat = lenN n := by rw [← hT]; decide +kernel
        clear hT
        have hn : (x : Int) / 4294967296 = ((x / 4294967296 : Nat) : Int) := by omega
        have hl : lenN x = 32 + lenN (x / 4294967296) := by rw [len32 x (by omega)]
        have hlt : x / 4294967296 < 256 := by omega
        rw [hn, hl]
        generalize x / 4294967296 = n at *
        (have := Nonempty.intro hlt)
        have hgn := hg n hlt
        have hle := len_le8 hlt
        (repeat' (first | refine swp_seq [0, 2, 4, 8, 14] ?_ | refine st2 ?_ | (show Fct ..; refine fctI (fun hf => ?_)) | (show SWp _ _ _ (.cond _ _ _) _ _ _ _; first | refine cB (fun hc => ?_) (fun hc => ?_) | refine cU ?_ ?_)))
        (refine DVQ ?_)
        rw [hgn]
  · (have := Nonempty.intro h3)
    by_cases h2 : (65536 : Int) ≤ (x : Int)
    · (have := Nonempty.intro h2)
      by_cases h1 : (256 : Int) ≤ (x : Int) / 65536
      · (have := Nonempty.intro h1)
        refine pureC (n := 25) (rs := [.tmp 2]) (ts := [3]) Tryz.func232 rfl (by decide) [] (by (exact SD)) ?_
        (repeat' (first | (show SWp _ _ _ (.seq (.region 10 _ _) _) _ _ _ _; refine (stop_in ?_)) | refine swp_seq [0, 2, 4, 8, 14] ?_ | refine st2 ?_ | (show CallQ ..; first | refine cQ (fun hcc => (by fail)) ?_ | (refine lP ?_; refine lQ (fun hcc m => (by fail)) ?_)) | (show Fct ..; refine fctI (fun hf => ?_)) | (show SWp _ _ _ (.cond _ _ _) _ _ _ _; first | refine cB (fun hc => ?_) (fun hc => ?_) | refine cU ?_ ?_)))
        refine stop_out ?_
        generalize hT : ByteArray.mk _ = T
        have hs : T.size = 256 := by rw [← hT]; rfl
        have hg : ∀ n : Nat, n < 256 → (T.data.toList.getD n 0).toNat = lenN n := by rw [← hT]; decide +kernel
        clear hT
        have hn : (x : Int) / 65536 / 256 = ((x / 65536 / 256 : Nat) : Int) := by omega
        have hl : lenN x = 24 + lenN (x / 65536 / 256) := by rw [len16 x (by omega), len8 _ (by omega)]; omega
        have hlt : x / 65536 / 256 < 256 := by omega
        rw [hn, hl]
        generalize x / 65536 / 256 = n at *
        (have := Nonempty.intro hlt)
        have hgn := hg n hlt
        have hle := len_le8 hlt
        (repeat' (first | refine swp_seq [0, 2, 4, 8, 14] ?_ | refine st2 ?_ | (show Fct ..; refine fctI (fun hf => ?_)) | (show SWp _ _ _ (.cond _ _ _) _ _ _ _; first | refine cB (fun hc => ?_) (fun hc => ?_) | refine cU ?_ ?_)))
        (refine DVQ ?_)
        rw [hgn]
      · (have := Nonempty.intro h1)
        refine pureC (n := 25) (rs := [.tmp 2]) (ts := [3]) Tryz.func232 rfl (by decide) [] (by (exact SD)) ?_
        (repeat' (first | (show SWp _ _ _ (.seq (.region 10 _ _) _) _ _ _ _; refine (stop_in ?_)) | refine swp_seq [0, 2, 4, 8, 14] ?_ | refine st2 ?_ | (show CallQ ..; first | refine cQ (fun hcc => (by fail)) ?_ | (refine lP ?_; refine lQ (fun hcc m => (by fail)) ?_)) | (show Fct ..; refine fctI (fun hf => ?_)) | (show SWp _ _ _ (.cond _ _ _) _ _ _ _; first | refine cB (fun hc => ?_) (fun hc => ?_) | refine cU ?_ ?_)))
        refine stop_out ?_
        generalize hT : ByteArray.mk _ = T
        have hs : T.size = 256 := by rw [← hT]; rfl
        have hg : ∀ n : Nat, n < 256 → (T.data.toList.getD n 0).toNat = lenN n := by rw [← hT]; decide +kernel
        clear hT
        have hn : (x : Int) / 65536 = ((x / 65536 : Nat) : Int) := by omega
        have hl : lenN x = 16 + lenN (x / 65536) := by rw [len16 x (by omega)]
        have hlt : x / 65536 < 256 := by omega
        rw [hn, hl]
        generalize x / 65536 = n at *
        (have := Nonempty.intro hlt)
        have hgn := hg n hlt
        have hle := len_le8 hlt
        (repeat' (first | refine swp_seq [0, 2, 4, 8, 14] ?_ | refine st2 ?_ | (show Fct ..; refine fctI (fun hf => ?_)) | (show SWp _ _ _ (.cond _ _ _) _ _ _ _; first | refine cB (fun hc => ?_) (fun hc => ?_) | refine cU ?_ ?_)))
        (refine DVQ ?_)
        rw [hgn]
    · (have := Nonempty.intro h2)
      by_cases h1 : (256 : Int) ≤ (x : Int)
      · (have := Nonempty.intro h1)
        refine pureC (n := 25) (rs := [.tmp 2]) (ts := [3]) Tryz.func232 rfl (by decide) [] (by (exact SD)) ?_
        (repeat' (first | (show SWp _ _ _ (.seq (.region 10 _ _) _) _ _ _ _; refine (stop_in ?_)) | refine swp_seq [0, 2, 4, 8, 14] ?_ | refine st2 ?_ | (show CallQ ..; first | refine cQ (fun hcc => (by fail)) ?_ | (refine lP ?_; refine lQ (fun hcc m => (by fail)) ?_)) | (show Fct ..; refine fctI (fun hf => ?_)) | (show SWp _ _ _ (.cond _ _ _) _ _ _ _; first | refine cB (fun hc => ?_) (fun hc => ?_) | refine cU ?_ ?_)))
        refine stop_out ?_
        generalize hT : ByteArray.mk _ = T
        have hs : T.size = 256 := by rw [← hT]; rfl
        have hg : ∀ n : Nat, n < 256 → (T.data.toList.getD n 0).toNat = lenN n := by rw [← hT]; decide +kernel
        clear hT
        have hn : (x : Int) / 256 = ((x / 256 : Nat) : Int) := by omega
        have hl : lenN x = 8 + lenN (x / 256) := by rw [len8 x (by omega)]
        have hlt : x / 256 < 256 := by omega
        rw [hn, hl]
        generalize x / 256 = n at *
        (have := Nonempty.intro hlt)
        have hgn := hg n hlt
        have hle := len_le8 hlt
        (repeat' (first | refine swp_seq [0, 2, 4, 8, 14] ?_ | refine st2 ?_ | (show Fct ..; refine fctI (fun hf => ?_)) | (show SWp _ _ _ (.cond _ _ _) _ _ _ _; first | refine cB (fun hc => ?_) (fun hc => ?_) | refine cU ?_ ?_)))
        (refine DVQ ?_)
        rw [hgn]
      · (have := Nonempty.intro h1)
        refine pureC (n := 25) (rs := [.tmp 2]) (ts := [3]) Tryz.func232 rfl (by decide) [] (by (exact SD)) ?_
        (repeat' (first | (show SWp _ _ _ (.seq (.region 10 _ _) _) _ _ _ _; refine (stop_in ?_)) | refine swp_seq [0, 2, 4, 8, 14] ?_ | refine st2 ?_ | (show CallQ ..; first | refine cQ (fun hcc => (by fail)) ?_ | (refine lP ?_; refine lQ (fun hcc m => (by fail)) ?_)) | (show Fct ..; refine fctI (fun hf => ?_)) | (show SWp _ _ _ (.cond _ _ _) _ _ _ _; first | refine cB (fun hc => ?_) (fun hc => ?_) | refine cU ?_ ?_)))
        refine stop_out ?_
        generalize hT : ByteArray.mk _ = T
        have hs : T.size = 256 := by rw [← hT]; rfl
        have hg : ∀ n : Nat, n < 256 → (T.data.toList.getD n 0).toNat = lenN n := by rw [← hT]; decide +kernel
        clear hT
        have hn : (x : Int) = ((x : Nat) : Int) := rfl
        have hl : lenN x = 0 + lenN (x) := by omega
        have hlt : x < 256 := by omega
        skip
        obtain ⟨n, rfl⟩ : ∃ n, n = x := ⟨x, rfl⟩
        (have := Nonempty.intro hlt)
        have hgn := hg n hlt
        have hle := len_le8 hlt
        (repeat' (first | refine swp_seq [0, 2, 4, 8, 14] ?_ | refine st2 ?_ | (show Fct ..; refine fctI (fun hf => ?_)) | (show SWp _ _ _ (.cond _ _ _) _ _ _ _; first | refine cB (fun hc => ?_) (fun hc => ?_) | refine cU ?_ ?_)))
        (refine DVQ ?_)
        rw [hgn]
theorem lz64_f (x : Nat) (m : Nat) (hx : x < 18446744073709551616) : DCalls Tryz.prog 202 [lu x] (hget []) m (li (64 - (lenN x : Int))) (hget []) := by
  have hl : lenN x ≤ 64 := by
    unfold lenN
    split
    · omega
    · next e =>
      have := (Nat.log2_lt (k := 64) e).2 hx
      omega
  refine pureC (n := 6) (rs := [.tmp 2]) (ts := [3]) Tryz.func202 rfl (by decide) [] (by (exact SD)) ?_
  (repeat' (first | refine swp_seq [0, 2] ?_ | refine st2 ?_ | (show CallQ ..; first | refine cQ (fun hcc => (len64_f x _ hx)) ?_ | (refine lP ?_; refine lQ (fun hcc m => (len64_f x _ hx)) ?_)) | (show Fct ..; refine fctI (fun hf => ?_)) | (show SWp _ _ _ (.cond _ _ _) _ _ _ _; first | refine cB (fun hc => ?_) (fun hc => ?_) | refine cU ?_ ?_)))
  exact DVR
theorem pow_cast (s : Nat) : ((2 ^ s : Nat) : Int) = (2 : Int) ^ s := Int.natCast_pow 2 s
theorem shl64 (x s : Nat) (hs : s < 64) (h : x * 2 ^ s < 18446744073709551616) : IntKind.u64.wrap ((x : Int) * 2 ^ min s IntKind.u64.bits) = ((x * 2 ^ s : Nat) : Int) := by
  have e0 : min s IntKind.u64.bits = s := by show min s 64 = s; omega
  rw [e0, u64w, ← pow_cast, ← Int.natCast_mul]
  omega
theorem shr64 (x s : Nat) (hs : s ≤ 64) : (x : Int).fdiv (2 ^ min s IntKind.u64.bits) = ((x / 2 ^ s : Nat) : Int) := by
  have e0 : min s IntKind.u64.bits = s := by show min s 64 = s; omega
  rw [e0, ← pow_cast, Int.fdiv_eq_ediv_of_nonneg _ (Int.natCast_nonneg _), ← Int.natCast_ediv]
theorem or64 (x l s : Nat) (hl : l < 2 ^ s) (h : x * 2 ^ s + l < 18446744073709551616) : IntKind.u64.wrap ((BitVec.ofInt IntKind.u64.bits ((x * 2 ^ s : Nat) : Int) ||| BitVec.ofInt IntKind.u64.bits ((l : Nat) : Int)).toNat : Int) = ((x * 2 ^ s + l : Nat) : Int) := by
  have e2 : ∀ n : Nat, n < 18446744073709551616 → (BitVec.ofInt IntKind.u64.bits ((n : Nat) : Int)).toNat = n := fun n hn => by
    show (BitVec.ofInt 64 _).toNat = _
    rw [BitVec.toNat_ofInt]; omega
  rw [BitVec.toNat_or, e2 _ (by omega), e2 _ (by omega)]
  have : x * 2 ^ s ||| l = x * 2 ^ s + l := by
    have := Nat.shiftLeft_add_eq_or_of_lt hl x
    rw [Nat.shiftLeft_eq] at this
    exact this.symm
  rw [this, u64w]; omega
theorem norm64 {y s : Nat} (h0 : 0 < y) (hs : 64 - lenN y = s) (hl : lenN y ≤ 64) : 9223372036854775808 ≤ y * 2 ^ s ∧ y * 2 ^ s < 18446744073709551616 := by
  unfold lenN at hs hl
  rw [if_neg (by omega)] at hs hl
  have a := Nat.log2_self_le (n := y) (by omega)
  have b : y < 2 ^ (Nat.log2 y + 1) := Nat.lt_log2_self
  have e1 : (2 : Nat) ^ 63 = 2 ^ Nat.log2 y * 2 ^ s := by rw [← Nat.pow_add]; congr 1; omega
  have e2 : (2 : Nat) ^ 64 = 2 ^ (Nat.log2 y + 1) * 2 ^ s := by rw [← Nat.pow_add]; congr 1; omega
  have c := Nat.mul_le_mul_right (2 ^ s) a
  have d := Nat.mul_lt_mul_of_pos_right b (Nat.pow_pos (by decide) : 0 < 2 ^ s)
  rw [← e1] at c
  rw [← e2] at d
  exact ⟨c, d⟩
theorem split64 (hi lo s : Nat) (hs : s < 64) (hl : lo < 18446744073709551616) : (hi * 18446744073709551616 + lo) * 2 ^ s = (hi * 2 ^ s + lo / 2 ^ (64 - s)) * 18446744073709551616 + (lo * 2 ^ s) % 18446744073709551616 := by
  have e : (18446744073709551616 : Nat) = 2 ^ (64 - s) * 2 ^ s := by
    rw [← Nat.pow_add, show 64 - s + s = 64 by omega]
  have h1 := Nat.div_add_mod lo (2 ^ (64 - s))
  have h2 : (lo * 2 ^ s) % 18446744073709551616 = (lo % 2 ^ (64 - s)) * 2 ^ s := by
    rw [e, Nat.mul_mod_mul_right]
  rw [h2, Nat.add_mul, Nat.add_mul]
  have h3 : lo * 2 ^ s = lo / 2 ^ (64 - s) * 18446744073709551616 + lo % 2 ^ (64 - s) * 2 ^ s := by
    rw [e, ← Nat.mul_assoc, ← Nat.add_mul, Nat.mul_comm (lo / 2 ^ (64 - s)), h1]
  rw [h3, Nat.mul_right_comm hi]
  omega
theorem shl64m (x s : Nat) (hs : s < 64) : IntKind.u64.wrap ((x : Int) * 2 ^ min s IntKind.u64.bits) = ((x * 2 ^ s % 18446744073709551616 : Nat) : Int) := by
  have e0 : min s IntKind.u64.bits = s := by show min s 64 = s; omega
  rw [e0, u64w, ← pow_cast, ← Int.natCast_mul]
  omega
theorem u64_diff (U w p R : Nat) (h : p + R = U * 4294967296 + w) (hR : R < 18446744073709551616) : IntKind.u64.wrap (IntKind.u64.wrap (IntKind.u64.wrap ((U : Int) * 4294967296) + (w : Int)) - IntKind.u64.wrap (p : Int)) = (R : Int) := by
  rw [u64w, u64w, u64w, u64w]; omega
theorem u64_sum (Q t r : Nat) (h : Q * 4294967296 + t = r) (hr : r < 18446744073709551616) : IntKind.u64.wrap (IntKind.u64.wrap ((Q : Int) * 4294967296) + (t : Int)) = (r : Int) := by
  rw [u64w, u64w]; omega

end Go.Proofs.YthacnhidipeckaaGreat
