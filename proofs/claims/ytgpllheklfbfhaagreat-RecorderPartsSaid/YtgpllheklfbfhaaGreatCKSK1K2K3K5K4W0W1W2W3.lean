/-
  Contracts of functions of the program, over the engine.
  No condition.
-/
import Derived.Test.YtgpllheklfbfhaaGreatCN0N1NBNmT1T2T2eT3
namespace Go.Proofs.YtgpllheklfbfhaaGreat
open Go.Eng
set_option linter.all false
attribute [local irreducible] DCallsG SWp Fct CallQ XCallQ LCallQ XLCallQ drun xrun
set_option maxHeartbeats 64000000

def Stop (p : Prop) : Prop := p
theorem stop_in {p : Prop} (h : Stop p) : p := h
theorem stop_out {p : Prop} (h : p) : Stop p := h
attribute [irreducible] Stop
section
open Go.Eng
variable {P : Program} {N pin nx : Nat}
def midK (L K : List Nat) (M : LE -> LH -> Prop) (Q : Exit -> LE -> LH -> Nat -> Prop) : Exit -> LE -> LH -> Nat -> Prop := fun e A H nx =>
  match e with
  | .normal => M (ekeep A L) (hkeep H K)
  | e => Q e A H nx
theorem midK_normal {L K : List Nat} {M : LE -> LH -> Prop} {Q : Exit -> LE -> LH -> Nat -> Prop} {A A2 : LE} {H H2 : LH} (hA : ekeep A L = A2) (hH : hkeep H K = H2) (h : M A2 H2) : midK L K M Q .normal A H nx := by subst hA hH; exact h
theorem swp_mid {x y : Code} {Q : Exit -> LE -> LH -> Nat -> Prop} {A : LE} {H : LH} (L K : List Nat) (n0 : Nat) (M : LE -> LH -> Prop) (hp : pin <= n0) (hI : ∀ A H, M A H -> usesA n0 A /\ usesH n0 H)
    (h1 : SWp P N pin x (midK L K M Q) A H nx) (h2 : ∀ A H, M A H -> SWp P N pin y Q A H n0) : SWp P N pin (.seq x y) Q A H nx := by
  unfold SWp at h1 h2 ⊢;intro hp1 B hB a w hS;refine wp_seq (wp_mono (h1 hp1 B hB a w hS) fun e a' w' ⟨A', H', nx', k1, k2, k3⟩ => ?_);cases e with
  | normal =>
    have u := hI _ _ k3;exact h2 _ _ k3 hp B hB a' w' (k2.reset L K u.1 u.2)
  | _ => exact ⟨A', H', nx', k1, k2, k3⟩
end
attribute [irreducible] midK
theorem kn_test {B a b u w q r : Nat} (he : u = q * a + r) : B * r + w < q * b ↔ u * B + w < q * (a * B + b) := by
  have e1 : u * B = q * a * B + r * B := by rw [he, Nat.add_mul]
  have e2 : q * (a * B + b) = q * a * B + q * b := by rw [Nat.mul_add, Nat.mul_assoc]
  rw [e1, e2, Nat.mul_comm B r];generalize q * a * B = t;generalize r * B = s;generalize q * b = p;omega
theorem kn_small {B a b u q r : Nat} (hb : b < B) (hu : u < a * B + b) (he : u = q * a + r) (hr : B <= r) : q < B := by
  refine Nat.lt_of_not_le fun h => ?_
  have := Nat.mul_le_mul_right a h;rw [Nat.mul_comm B a] at this;generalize q * a = t at *
  generalize a * B = s at *
  omega
theorem kn_rest {B a b u w q r : Nat} (hb : b < B) (hu : u < a * B + b) (he : u = q * a + r) (hr : B <= r) : ¬ B * r + w < q * b := by
  have hq := kn_small hb hu he hr;have h1 : q * b <= B * B := Nat.mul_le_mul (by omega) (by omega);have h2 : B * B <= B * r := Nat.mul_le_mul_left B hr;generalize q * b = p at *
  generalize B * r = s at *
  generalize B * B = t at *
  omega
theorem kn_great {B v u w q : Nat} (hu : u < v) (hw : w < B) (hq : B <= q) : u * B + w < q * v := by
  have h1 : (u + 1) * B <= v * B := Nat.mul_le_mul_right B hu;have h2 : B * v <= q * v := Nat.mul_le_mul_right v hq;rw [Nat.add_mul, Nat.one_mul] at h1;rw [Nat.mul_comm B v] at h2;generalize u * B = s at *
  generalize v * B = t at *
  generalize q * v = p at *
  omega
theorem kn_first {B a b u w : Nat} (ha : 0 < a) (hw : w < B) : u * B + w < (u / a + 1) * (a * B + b) := by
  have h1 : u + 1 <= (u / a + 1) * a := by
    have := Nat.lt_div_mul_add ha (a := u);rw [Nat.add_mul, Nat.one_mul]; omega
  have h2 : (u + 1) * B <= (u / a + 1) * a * B := Nat.mul_le_mul_right B h1;rw [Nat.add_mul, Nat.one_mul] at h2;rw [Nat.mul_add, <- Nat.mul_assoc];generalize (u / a + 1) * a * B = t at *
  generalize (u / a + 1) * b = p at *
  generalize u * B = s at *
  omega
theorem kn_most {B a b u : Nat} (hb : b < B) (hB : B <= 2 * a) (ha : 0 < a) (hu : u < a * B + b) : u / a <= B + 1 := by
  have h2 : u < (B + 2) * a := by
    rw [Nat.add_mul, Nat.mul_comm B a];generalize a * B = s at *
    omega
  have := (Nat.div_lt_iff_lt_mul ha).2 h2;omega
theorem kn_done {v x q : Nat} (h1 : q * v <= x) (h2 : x < (q + 1) * v) : x / v = q := by
  have hv : 0 < v := Nat.pos_of_ne_zero fun e => by rw [e, Nat.mul_zero] at h2; exact Nat.not_lt_zero _ h2
  exact Nat.div_eq_of_lt_le h1 h2
theorem kn_two {B v u w z : Nat} (hv : 0 < v) (hz : z < B) (hB : 0 < B) : (u * B + w) / v * B + ((u * B + w) % v * B + z) / v = ((u * B + w) * B + z) / v /\ ((u * B + w) % v * B + z) % v = ((u * B + w) * B + z) % v := by
  have e : (u * B + w) * B + z = ((u * B + w) % v * B + z) + v * ((u * B + w) / v * B) := by
    have h := Nat.mod_add_div (u * B + w) v;generalize (u * B + w) / v = q at *
    generalize (u * B + w) % v = r at *
    rw [<- h, Nat.add_mul, Nat.mul_assoc];generalize v * (q * B) = t;generalize r * B = s;omega
  rw [e, Nat.add_mul_div_left _ _ hv, Nat.add_mul_mod_self_left];exact ⟨Nat.add_comm _ _, rfl⟩
theorem kn_step {B a b u w q r : Nat} (hb : b < B) (hw : w < B) (hu : u < a * B + b) (he : u = q * a + r) (h : u * B + w < (q + 1) * (a * B + b)) (ht : B <= q ∨ B * r + w < q * b) :
    1 <= q /\ u * B + w < (q - 1 + 1) * (a * B + b) /\ u = (q - 1) * a + (r + a) /\ (B <= r + a -> (u * B + w) / (a * B + b) = q - 1) := by
  have h1 : u * B + w < q * (a * B + b) := by
    rcases ht with ht | ht
    · exact kn_great hu hw ht
    · exact (kn_test he).1 ht
  have hq : 1 <= q := by
    rcases Nat.eq_zero_or_pos q with e | e
    · rw [e, Nat.zero_mul] at h1; exact absurd h1 (Nat.not_lt_zero _)
    · exact e
  have e1 : q - 1 + 1 = q := by omega
  have e2 : u = (q - 1) * a + (r + a) := by
    have : q * a = (q - 1) * a + a := by rw [<- Nat.succ_mul]; congr 1; omega
    omega
  refine ⟨hq, by rw [e1]; exact h1, e2, fun hr => ?_⟩;refine kn_done (Nat.le_of_not_lt fun h3 => ?_) (by rw [e1]; exact h1);exact kn_rest hb hu e2 hr ((kn_test e2).2 h3)
theorem kn_stop {B a b u w q r : Nat} (he : u = q * a + r) (h : u * B + w < (q + 1) * (a * B + b)) (ht : ¬ B * r + w < q * b) : (u * B + w) / (a * B + b) = q :=
  kn_done (Nat.le_of_not_lt fun h3 => ht ((kn_test he).2 h3)) h
theorem kn_lt {B hi lo y : Nat} (h1 : hi < y) (hl : lo < B) : (hi * B + lo) / y < B := by
  rw [Nat.div_lt_iff_lt_mul (by omega)];have h2 : (hi + 1) * B <= y * B := Nat.mul_le_mul_right B h1;rw [Nat.add_mul, Nat.one_mul] at h2;rw [Nat.mul_comm B y];generalize hi * B = s at *
  generalize y * B = t at *
  omega
theorem kn_two2 {B v u w z Q R T S : Nat} (hv : 0 < v) (hz : z < B) (hB : 0 < B) (hQ : (u * B + w) / v = Q) (hR : (u * B + w) % v = R) (hT : (R * B + z) / v = T) (hS : (R * B + z) % v = S) : Q * B + T = ((u * B + w) * B + z) / v /\ S = ((u * B + w) * B + z) % v := by
  subst hQ hR;have := kn_two (u := u) (w := w) hv hz hB;rw [hT, hS] at this;exact this
abbrev lu (n : Nat) : DV := lv (.int .u64 (n : Int))
theorem u64_mask (z : Int) : IntKind.u64.wrap ((BitVec.ofInt IntKind.u64.bits z &&& BitVec.ofInt IntKind.u64.bits 4294967295).toNat : Int) = z % 4294967296 := by
  have e1 : (BitVec.ofInt IntKind.u64.bits z).toNat = (z % 18446744073709551616).toNat := by
    show (BitVec.ofInt 64 _).toNat = _;rw [BitVec.toNat_ofInt]; rfl
  have e2 : (BitVec.ofInt IntKind.u64.bits (4294967295 : Int)).toNat = 2 ^ 32 - 1 := rfl;rw [BitVec.toNat_and, e1, e2, Nat.and_two_pow_sub_one_eq_mod, u64w];omega
theorem u64_shr (z : Int) : z.fdiv (2 ^ min 32 IntKind.u64.bits) = z / 4294967296 := by
  have : (2 : Int) ^ min 32 IntKind.u64.bits = 4294967296 := rfl;rw [this, Int.fdiv_eq_ediv_of_nonneg _ (by omega)]
attribute [push_cast] u64_mask u64_shr
theorem mul_hi (x y : Int) (hx : 0 <= x /\ x < 18446744073709551616) (hy : 0 <= y /\ y < 18446744073709551616) :
    (((x / 4294967296 * (y / 4294967296)) % 18446744073709551616 + (((x / 4294967296 * (y % 4294967296)) % 18446744073709551616 + ((x % 4294967296) * (y % 4294967296)) % 18446744073709551616 / 4294967296) % 18446744073709551616) / 4294967296) % 18446744073709551616 +
      (((((x / 4294967296 * (y % 4294967296)) % 18446744073709551616 + ((x % 4294967296) * (y % 4294967296)) % 18446744073709551616 / 4294967296) % 18446744073709551616) % 4294967296 + ((x % 4294967296) * (y / 4294967296)) % 18446744073709551616) % 18446744073709551616) / 4294967296) % 18446744073709551616 = x * y / 18446744073709551616 := by
  have d1 : x = x / 4294967296 * 4294967296 + x % 4294967296 := by omega
  have d2 : y = y / 4294967296 * 4294967296 + y % 4294967296 := by omega
  have b1 : 0 <= x / 4294967296 /\ x / 4294967296 <= 4294967295 := by omega
  have b2 : 0 <= x % 4294967296 /\ x % 4294967296 <= 4294967295 := by omega
  have b3 : 0 <= y / 4294967296 /\ y / 4294967296 <= 4294967295 := by omega
  have b4 : 0 <= y % 4294967296 /\ y % 4294967296 <= 4294967295 := by omega
  generalize x / 4294967296 = a at *
  generalize x % 4294967296 = b at *
  generalize y / 4294967296 = c at *
  generalize y % 4294967296 = d at *
  have hm : ∀ p q : Int, 0 <= p /\ p <= 4294967295 -> 0 <= q /\ q <= 4294967295 -> 0 <= p * q /\ p * q <= 18446744065119617025 := fun p q h1 h2 =>
    ⟨Int.mul_nonneg h1.1 h2.1, Int.le_trans (Int.mul_le_mul h1.2 h2.2 h2.1 (by omega)) (by omega)⟩
  have m1 := hm a c b1 b3;have m2 := hm a d b1 b4;have m3 := hm b c b2 b3;have m4 := hm b d b2 b4;have e : x * y = a * c * 18446744073709551616 + a * d * 4294967296 + b * c * 4294967296 + b * d := by
    rw [d1, d2]; grind
  rw [e];generalize a * c = p at *
  generalize a * d = q at *
  generalize b * c = r at *
  generalize b * d = t at *
  clear e d1 d2 hm;omega
theorem mul_hi' (x y : Nat) (hx : x < 18446744073709551616) (hy : y < 18446744073709551616) :
    IntKind.u64.wrap (IntKind.u64.wrap (IntKind.u64.wrap ((x : Int) / 4294967296 * ((y : Int) / 4294967296)) + IntKind.u64.wrap (IntKind.u64.wrap ((x : Int) / 4294967296 * ((y : Int) % 4294967296)) + IntKind.u64.wrap ((x : Int) % 4294967296 * ((y : Int) % 4294967296)) / 4294967296) / 4294967296) +
      IntKind.u64.wrap (IntKind.u64.wrap (IntKind.u64.wrap ((x : Int) / 4294967296 * ((y : Int) % 4294967296)) + IntKind.u64.wrap ((x : Int) % 4294967296 * ((y : Int) % 4294967296)) / 4294967296) % 4294967296 + IntKind.u64.wrap ((x : Int) % 4294967296 * ((y : Int) / 4294967296))) / 4294967296) = ((x * y / 18446744073709551616 : Nat) : Int) := by
  simp only [u64w];rw [mul_hi x y (by omega) (by omega)];rw [<- Int.natCast_mul]; omega
theorem mul_lo (x y : Nat) : IntKind.u64.wrap ((x : Int) * (y : Int)) = ((x * y % 18446744073709551616 : Nat) : Int) := by
  rw [u64w, <- Int.natCast_mul]; omega
set_option maxRecDepth 20000 in
theorem mul64_f (x y : Nat) (m : Nat) (hx : x < 18446744073709551616) (hy : y < 18446744073709551616) : Pu 176 [lu x, lu y] m (.tup [lu (x * y / 18446744073709551616), lu (x * y % 18446744073709551616)]) := by
  refine pcN 51 [.tmp 4,.tmp 5] [154,154] Tryz.func176 rfl [] ?_;(repeat' first|refine stW [0,1,4,5,6,7,8,9,10,11,12,13] ?_|refine fctI fun hf=>?_|refine twI (fun hc=>?_) fun hc=>?_);rw [mul_hi' x y hx hy, mul_lo x y];generalize x * y / 18446744073709551616 = a;generalize x * y % 18446744073709551616 = b;exact DVR
theorem div64_f (x y : Nat) (m : Nat) (hx : x < 18446744073709551616) (hy : y < 18446744073709551616) (h0 : 0 < y) : Pu 177 [lu 0, lu x, lu y] m (.tup [lu (x / y), lu (x % y)]) := by
  have n1 : ¬ ((y : Int) = 0) := by omega
  have n2 : ¬ ((y : Int) <= 0) := by omega
  have i0 : (0 : Int) = 0 := rfl;(have:=NeI n1);(have:=NeI n2);(have:=NeI i0);have e1 : IntKind.u64.wrap ((x : Int).tdiv (y : Int)) = ((x / y : Nat) : Int) := by
    rw [u64w, Int.tdiv_eq_ediv_of_nonneg (by omega), <- Int.natCast_ediv];have := Nat.div_le_self x y;generalize x / y = q at *
    omega
  have e2 : ((x : Int).tmod (y : Int)) = ((x % y : Nat) : Int) := by
    rw [Int.tmod_eq_emod_of_nonneg (by omega)]; rfl
  refine pcN 135 [.tmp 6,.tmp 7] [154,154] Tryz.func177 rfl [] ?_;(repeat' first|refine stW [0,1,2,6,7,8,9,10,11,12,13,14,15,16,17,18,20,24,27,78,85,113,120] ?_|refine fctI fun hf=>?_|refine twI (fun hc=>?_) fun hc=>?_);rw [e1, e2];generalize x / y = a;generalize x % y = b;exact DVR
theorem u64_shr16 (z : Int) : z.fdiv (2 ^ min 16 IntKind.u64.bits) = z / 65536 := by
  have : (2 : Int) ^ min 16 IntKind.u64.bits = 65536 := rfl;rw [this, Int.fdiv_eq_ediv_of_nonneg _ (by omega)]
theorem u64_shr8 (z : Int) : z.fdiv (2 ^ min 8 IntKind.u64.bits) = z / 256 := by
  have : (2 : Int) ^ min 8 IntKind.u64.bits = 256 := rfl;rw [this, Int.fdiv_eq_ediv_of_nonneg _ (by omega)]
attribute [push_cast] u64_shr16 u64_shr8
theorem u8w_nz (n : Nat) [h : Nonempty (n < 256)] : IntKind.u8.wrap (n : Int) = n := by
  have := h.elim id;rw [IntKind.wrap_u8]; omega
attribute [push_cast] u8w_nz
def lenN (n : Nat) : Nat := if n = 0 then 0 else Nat.log2 n + 1
theorem len_shift (x k : Nat) (h : 0 < x / 2 ^ k) : lenN x = k + lenN (x / 2 ^ k) := by
  have hx : 0 < x := Nat.pos_of_ne_zero fun e => by rw [e, Nat.zero_div] at h; exact Nat.lt_irrefl _ h
  unfold lenN;rw [if_neg (by omega), if_neg (by omega)];have h2 : 2 ^ k <= x := by
    refine Nat.le_of_not_lt fun q => ?_
    rw [Nat.div_eq_of_lt q] at h; exact Nat.lt_irrefl _ h
  have e : Nat.log2 x = k + Nat.log2 (x / 2 ^ k) := by
    refine (Nat.log2_eq_iff (by omega)).2 ⟨?_, ?_⟩
    · have a := Nat.log2_self_le (n := x / 2 ^ k) (by omega);have b := Nat.mul_le_of_le_div _ _ _ a;rw [Nat.pow_add, Nat.mul_comm]; exact b
    · have a : x / 2 ^ k < 2 ^ (Nat.log2 (x / 2 ^ k) + 1) := Nat.lt_log2_self;have b := (Nat.div_lt_iff_lt_mul (Nat.pow_pos (by decide))).1 a;rw [Nat.add_assoc, Nat.pow_add, Nat.mul_comm]; exact b
  omega
theorem len8 (x : Nat) (h : 256 <= x) : lenN x = 8 + lenN (x / 256) := len_shift x 8 (by show 0 < x / 256; omega)
theorem len16 (x : Nat) (h : 65536 <= x) : lenN x = 16 + lenN (x / 65536) := len_shift x 16 (by show 0 < x / 65536; omega)
theorem len32 (x : Nat) (h : 4294967296 <= x) : lenN x = 32 + lenN (x / 4294967296) := len_shift x 32 (by show 0 < x / 4294967296; omega)
theorem len_le8 {n : Nat} (h : n < 256) : lenN n <= 8 := by
  unfold lenN;split
  · omega
  · next e =>
    have := (Nat.log2_lt (k := 8) e).2 h;omega
set_option maxRecDepth 20000 in
theorem len64_f (x : Nat) (m : Nat) (hx : x < 18446744073709551616) : Pu 202 [lu x] m (li (lenN x)) := by
  by_cases h3 : (4294967296 : Int) <= (x : Int)
  · (have:=NeI h3);by_cases h2 : (65536 : Int) <= (x : Int) / 4294967296
    · (have:=NeI h2);by_cases h1 : (256 : Int) <= (x : Int) / 4294967296 / 65536
      · (have:=NeI h1);refine pcN 25 [.tmp 2] [3] Tryz.func202 rfl [] ?_;(repeat' first|(show SWp _ _ _ (.seq (.region 10 _ _) _) _ _ _ _;refine (stop_in ?_))|refine stW [0,2,4,8,14] ?_|refine fctI fun hf=>?_|refine twI (fun hc=>?_) fun hc=>?_);refine stop_out ?_;generalize hT : ByteArray.mk _ = T;have hs : T.size = 256 := by rw [<- hT]; rfl
        have hg : ∀ n : Nat, n < 256 -> (T.data.toList.getD n 0).toNat = lenN n := by rw [<- hT]; decide +kernel
        clear hT;have hn : (x : Int) / 4294967296 / 65536 / 256 = ((x / 4294967296 / 65536 / 256 : Nat) : Int) := by omega
        have hl : lenN x = 56 + lenN (x / 4294967296 / 65536 / 256) := by rw [len32 x (by omega), len16 _ (by omega), len8 _ (by omega)]; omega
        have hlt : x / 4294967296 / 65536 / 256 < 256 := by omega
        rw [hn, hl];generalize x / 4294967296 / 65536 / 256 = n at *
        (have:=NeI hlt);have hgn := hg n hlt;have hle := len_le8 hlt;(repeat' first|refine stW [0,2,4,8,14] ?_|refine fctI fun hf=>?_|refine twI (fun hc=>?_) fun hc=>?_);(refine DVQ ?_);rw [hgn]
      · (have:=NeI h1);refine pcN 25 [.tmp 2] [3] Tryz.func202 rfl [] ?_;(repeat' first|(show SWp _ _ _ (.seq (.region 10 _ _) _) _ _ _ _;refine (stop_in ?_))|refine stW [0,2,4,8,14] ?_|refine fctI fun hf=>?_|refine twI (fun hc=>?_) fun hc=>?_);refine stop_out ?_;generalize hT : ByteArray.mk _ = T;have hs : T.size = 256 := by rw [<- hT]; rfl
        have hg : ∀ n : Nat, n < 256 -> (T.data.toList.getD n 0).toNat = lenN n := by rw [<- hT]; decide +kernel
        clear hT;have hn : (x : Int) / 4294967296 / 65536 = ((x / 4294967296 / 65536 : Nat) : Int) := by omega
        have hl : lenN x = 48 + lenN (x / 4294967296 / 65536) := by rw [len32 x (by omega), len16 _ (by omega)]; omega
        have hlt : x / 4294967296 / 65536 < 256 := by omega
        rw [hn, hl];generalize x / 4294967296 / 65536 = n at *
        (have:=NeI hlt);have hgn := hg n hlt;have hle := len_le8 hlt;(repeat' first|refine stW [0,2,4,8,14] ?_|refine fctI fun hf=>?_|refine twI (fun hc=>?_) fun hc=>?_);(refine DVQ ?_);rw [hgn]
    · (have:=NeI h2);by_cases h1 : (256 : Int) <= (x : Int) / 4294967296
      · (have:=NeI h1);refine pcN 25 [.tmp 2] [3] Tryz.func202 rfl [] ?_;(repeat' first|(show SWp _ _ _ (.seq (.region 10 _ _) _) _ _ _ _;refine (stop_in ?_))|refine stW [0,2,4,8,14] ?_|refine fctI fun hf=>?_|refine twI (fun hc=>?_) fun hc=>?_);refine stop_out ?_;generalize hT : ByteArray.mk _ = T;have hs : T.size = 256 := by rw [<- hT]; rfl
        have hg : ∀ n : Nat, n < 256 -> (T.data.toList.getD n 0).toNat = lenN n := by rw [<- hT]; decide +kernel
        clear hT;have hn : (x : Int) / 4294967296 / 256 = ((x / 4294967296 / 256 : Nat) : Int) := by omega
        have hl : lenN x = 40 + lenN (x / 4294967296 / 256) := by rw [len32 x (by omega), len8 _ (by omega)]; omega
        have hlt : x / 4294967296 / 256 < 256 := by omega
        rw [hn, hl];generalize x / 4294967296 / 256 = n at *
        (have:=NeI hlt);have hgn := hg n hlt;have hle := len_le8 hlt;(repeat' first|refine stW [0,2,4,8,14] ?_|refine fctI fun hf=>?_|refine twI (fun hc=>?_) fun hc=>?_);(refine DVQ ?_);rw [hgn]
      · (have:=NeI h1);refine pcN 25 [.tmp 2] [3] Tryz.func202 rfl [] ?_;(repeat' first|(show SWp _ _ _ (.seq (.region 10 _ _) _) _ _ _ _;refine (stop_in ?_))|refine stW [0,2,4,8,14] ?_|refine fctI fun hf=>?_|refine twI (fun hc=>?_) fun hc=>?_);refine stop_out ?_;generalize hT : ByteArray.mk _ = T;have hs : T.size = 256 := by rw [<- hT]; rfl
        have hg : ∀ n : Nat, n < 256 -> (T.data.toList.getD n 0).toNat = lenN n := by rw [<- hT]; decide +kernel
        clear hT;have hn : (x : Int) / 4294967296 = ((x / 4294967296 : Nat) : Int) := by omega
        have hl : lenN x = 32 + lenN (x / 4294967296) := by rw [len32 x (by omega)]
        have hlt : x / 4294967296 < 256 := by omega
        rw [hn, hl];generalize x / 4294967296 = n at *
        (have:=NeI hlt);have hgn := hg n hlt;have hle := len_le8 hlt;(repeat' first|refine stW [0,2,4,8,14] ?_|refine fctI fun hf=>?_|refine twI (fun hc=>?_) fun hc=>?_);(refine DVQ ?_);rw [hgn]
  · (have:=NeI h3);by_cases h2 : (65536 : Int) <= (x : Int)
    · (have:=NeI h2);by_cases h1 : (256 : Int) <= (x : Int) / 65536
      · (have:=NeI h1);refine pcN 25 [.tmp 2] [3] Tryz.func202 rfl [] ?_;(repeat' first|(show SWp _ _ _ (.seq (.region 10 _ _) _) _ _ _ _;refine (stop_in ?_))|refine stW [0,2,4,8,14] ?_|refine fctI fun hf=>?_|refine twI (fun hc=>?_) fun hc=>?_);refine stop_out ?_;generalize hT : ByteArray.mk _ = T;have hs : T.size = 256 := by rw [<- hT]; rfl
        have hg : ∀ n : Nat, n < 256 -> (T.data.toList.getD n 0).toNat = lenN n := by rw [<- hT]; decide +kernel
        clear hT;have hn : (x : Int) / 65536 / 256 = ((x / 65536 / 256 : Nat) : Int) := by omega
        have hl : lenN x = 24 + lenN (x / 65536 / 256) := by rw [len16 x (by omega), len8 _ (by omega)]; omega
        have hlt : x / 65536 / 256 < 256 := by omega
        rw [hn, hl];generalize x / 65536 / 256 = n at *
        (have:=NeI hlt);have hgn := hg n hlt;have hle := len_le8 hlt;(repeat' first|refine stW [0,2,4,8,14] ?_|refine fctI fun hf=>?_|refine twI (fun hc=>?_) fun hc=>?_);(refine DVQ ?_);rw [hgn]
      · (have:=NeI h1);refine pcN 25 [.tmp 2] [3] Tryz.func202 rfl [] ?_;(repeat' first|(show SWp _ _ _ (.seq (.region 10 _ _) _) _ _ _ _;refine (stop_in ?_))|refine stW [0,2,4,8,14] ?_|refine fctI fun hf=>?_|refine twI (fun hc=>?_) fun hc=>?_);refine stop_out ?_;generalize hT : ByteArray.mk _ = T;have hs : T.size = 256 := by rw [<- hT]; rfl
        have hg : ∀ n : Nat, n < 256 -> (T.data.toList.getD n 0).toNat = lenN n := by rw [<- hT]; decide +kernel
        clear hT;have hn : (x : Int) / 65536 = ((x / 65536 : Nat) : Int) := by omega
        have hl : lenN x = 16 + lenN (x / 65536) := by rw [len16 x (by omega)]
        have hlt : x / 65536 < 256 := by omega
        rw [hn, hl];generalize x / 65536 = n at *
        (have:=NeI hlt);have hgn := hg n hlt;have hle := len_le8 hlt;(repeat' first|refine stW [0,2,4,8,14] ?_|refine fctI fun hf=>?_|refine twI (fun hc=>?_) fun hc=>?_);(refine DVQ ?_);rw [hgn]
    · (have:=NeI h2);by_cases h1 : (256 : Int) <= (x : Int)
      · (have:=NeI h1);refine pcN 25 [.tmp 2] [3] Tryz.func202 rfl [] ?_;(repeat' first|(show SWp _ _ _ (.seq (.region 10 _ _) _) _ _ _ _;refine (stop_in ?_))|refine stW [0,2,4,8,14] ?_|refine fctI fun hf=>?_|refine twI (fun hc=>?_) fun hc=>?_);refine stop_out ?_;generalize hT : ByteArray.mk _ = T;have hs : T.size = 256 := by rw [<- hT]; rfl
        have hg : ∀ n : Nat, n < 256 -> (T.data.toList.getD n 0).toNat = lenN n := by rw [<- hT]; decide +kernel
        clear hT;have hn : (x : Int) / 256 = ((x / 256 : Nat) : Int) := by omega
        have hl : lenN x = 8 + lenN (x / 256) := by rw [len8 x (by omega)]
        have hlt : x / 256 < 256 := by omega
        rw [hn, hl];generalize x / 256 = n at *
        (have:=NeI hlt);have hgn := hg n hlt;have hle := len_le8 hlt;(repeat' first|refine stW [0,2,4,8,14] ?_|refine fctI fun hf=>?_|refine twI (fun hc=>?_) fun hc=>?_);(refine DVQ ?_);rw [hgn]
      · (have:=NeI h1);refine pcN 25 [.tmp 2] [3] Tryz.func202 rfl [] ?_;(repeat' first|(show SWp _ _ _ (.seq (.region 10 _ _) _) _ _ _ _;refine (stop_in ?_))|refine stW [0,2,4,8,14] ?_|refine fctI fun hf=>?_|refine twI (fun hc=>?_) fun hc=>?_);refine stop_out ?_;generalize hT : ByteArray.mk _ = T;have hs : T.size = 256 := by rw [<- hT]; rfl
        have hg : ∀ n : Nat, n < 256 -> (T.data.toList.getD n 0).toNat = lenN n := by rw [<- hT]; decide +kernel
        clear hT;have hn : (x : Int) = ((x : Nat) : Int) := rfl;have hl : lenN x = 0 + lenN (x) := by omega
        have hlt : x < 256 := by omega
        skip
        obtain ⟨n, rfl⟩ : ∃ n, n = x := ⟨x, rfl⟩;(have:=NeI hlt);have hgn := hg n hlt;have hle := len_le8 hlt;(repeat' first|refine stW [0,2,4,8,14] ?_|refine fctI fun hf=>?_|refine twI (fun hc=>?_) fun hc=>?_);(refine DVQ ?_);rw [hgn]
theorem lz64_f (x : Nat) (m : Nat) (hx : x < 18446744073709551616) : Pu 191 [lu x] m (li (64 - (lenN x : Int))) := by
  have hl : lenN x <= 64 := by
    unfold lenN;split
    · omega
    · next e =>
      have := (Nat.log2_lt (k := 64) e).2 hx;omega
  refine pcN 6 [.tmp 2] [3] Tryz.func191 rfl [] ?_;(repeat' first|refine stW [0,2] ?_|(show CallQ ..;first|refine cQ (fun hcc=>(len64_f x _ hx)) ?_|(refine lP ?_;refine lQ (fun hcc m=>(len64_f x _ hx)) ?_))|refine fctI fun hf=>?_|refine twI (fun hc=>?_) fun hc=>?_);exact DVR
theorem pow_cast (s : Nat) : ((2 ^ s : Nat) : Int) = (2 : Int) ^ s := Int.natCast_pow 2 s
theorem shl64 (x s : Nat) (hs : s < 64) (h : x * 2 ^ s < 18446744073709551616) : IntKind.u64.wrap ((x : Int) * 2 ^ min s IntKind.u64.bits) = ((x * 2 ^ s : Nat) : Int) := by
  have e0 : min s IntKind.u64.bits = s := by show min s 64 = s; omega
  rw [e0, u64w, <- pow_cast, <- Int.natCast_mul];omega
theorem shr64 (x s : Nat) (hs : s <= 64) : (x : Int).fdiv (2 ^ min s IntKind.u64.bits) = ((x / 2 ^ s : Nat) : Int) := by
  have e0 : min s IntKind.u64.bits = s := by show min s 64 = s; omega
  rw [e0, <- pow_cast, Int.fdiv_eq_ediv_of_nonneg _ (Int.natCast_nonneg _), <- Int.natCast_ediv]
theorem or64 (x l s : Nat) (hl : l < 2 ^ s) (h : x * 2 ^ s + l < 18446744073709551616) : IntKind.u64.wrap ((BitVec.ofInt IntKind.u64.bits ((x * 2 ^ s : Nat) : Int) ||| BitVec.ofInt IntKind.u64.bits ((l : Nat) : Int)).toNat : Int) = ((x * 2 ^ s + l : Nat) : Int) := by
  have e2 : ∀ n : Nat, n < 18446744073709551616 -> (BitVec.ofInt IntKind.u64.bits ((n : Nat) : Int)).toNat = n := fun n hn => by
    show (BitVec.ofInt 64 _).toNat = _;rw [BitVec.toNat_ofInt]; omega
  rw [BitVec.toNat_or, e2 _ (by omega), e2 _ (by omega)];have : x * 2 ^ s ||| l = x * 2 ^ s + l := by
    have := Nat.shiftLeft_add_eq_or_of_lt hl x;rw [Nat.shiftLeft_eq] at this;exact this.symm
  rw [this, u64w]; omega
theorem norm64 {y s : Nat} (h0 : 0 < y) (hs : 64 - lenN y = s) (hl : lenN y <= 64) : 9223372036854775808 <= y * 2 ^ s /\ y * 2 ^ s < 18446744073709551616 := by
  unfold lenN at hs hl;rw [if_neg (by omega)] at hs hl;have a := Nat.log2_self_le (n := y) (by omega);have b : y < 2 ^ (Nat.log2 y + 1) := Nat.lt_log2_self;have e1 : (2 : Nat) ^ 63 = 2 ^ Nat.log2 y * 2 ^ s := by rw [<- Nat.pow_add]; congr 1; omega
  have e2 : (2 : Nat) ^ 64 = 2 ^ (Nat.log2 y + 1) * 2 ^ s := by rw [<- Nat.pow_add]; congr 1; omega
  have c := Nat.mul_le_mul_right (2 ^ s) a;have d := Nat.mul_lt_mul_of_pos_right b (Nat.pow_pos (by decide) : 0 < 2 ^ s);rw [<- e1] at c;rw [<- e2] at d;exact ⟨c, d⟩
theorem split64 (hi lo s : Nat) (hs : s < 64) (hl : lo < 18446744073709551616) : (hi * 18446744073709551616 + lo) * 2 ^ s = (hi * 2 ^ s + lo / 2 ^ (64 - s)) * 18446744073709551616 + (lo * 2 ^ s) % 18446744073709551616 := by
  have e : (18446744073709551616 : Nat) = 2 ^ (64 - s) * 2 ^ s := by
    rw [<- Nat.pow_add, show 64 - s + s = 64 by omega]
  have h1 := Nat.div_add_mod lo (2 ^ (64 - s));have h2 : (lo * 2 ^ s) % 18446744073709551616 = (lo % 2 ^ (64 - s)) * 2 ^ s := by
    rw [e, Nat.mul_mod_mul_right]
  rw [h2, Nat.add_mul, Nat.add_mul];have h3 : lo * 2 ^ s = lo / 2 ^ (64 - s) * 18446744073709551616 + lo % 2 ^ (64 - s) * 2 ^ s := by
    rw [e, <- Nat.mul_assoc, <- Nat.add_mul, Nat.mul_comm (lo / 2 ^ (64 - s)), h1]
  rw [h3, Nat.mul_right_comm hi];omega
theorem shl64m (x s : Nat) (hs : s < 64) : IntKind.u64.wrap ((x : Int) * 2 ^ min s IntKind.u64.bits) = ((x * 2 ^ s % 18446744073709551616 : Nat) : Int) := by
  have e0 : min s IntKind.u64.bits = s := by show min s 64 = s; omega
  rw [e0, u64w, <- pow_cast, <- Int.natCast_mul];omega
theorem u64_diff (U w p R : Nat) (h : p + R = U * 4294967296 + w) (hR : R < 18446744073709551616) : IntKind.u64.wrap (IntKind.u64.wrap (IntKind.u64.wrap ((U : Int) * 4294967296) + (w : Int)) - IntKind.u64.wrap (p : Int)) = (R : Int) := by
  rw [u64w, u64w, u64w, u64w]; omega
theorem u64_sum (Q t r : Nat) (h : Q * 4294967296 + t = r) (hr : r < 18446744073709551616) : IntKind.u64.wrap (IntKind.u64.wrap ((Q : Int) * 4294967296) + (t : Int)) = (r : Int) := by
  rw [u64w, u64w]; omega
theorem w64s (s : Nat) [h : Nonempty (s < 64)] : IntKind.u64.wrap (64 - (s : Int)) = ((64 - s : Nat) : Int) := by
  have := h.elim id;rw [u64w]; omega
attribute [push_cast] w64s
set_option maxRecDepth 20000 in
theorem div64q_f (hi lo y QQ RR : Nat) (m : Nat) (h1 : hi < y) (hy : y < 18446744073709551616) (hl : lo < 18446744073709551616) (h0 : 0 < hi) (hQ : (hi * 18446744073709551616 + lo) / y = QQ) (hR : (hi * 18446744073709551616 + lo) % y = RR) : Pu 177 [lu hi, lu lo, lu y] m (.tup [lu QQ, lu RR]) := by
  have n1 : ¬ ((y : Int) = 0) := by omega
  have n2 : ¬ ((y : Int) <= (hi : Int)) := by omega
  have n3 : ¬ ((hi : Int) = 0) := by omega
  (have:=NeI n1);(have:=NeI n2);(have:=NeI n3);have hlen : lenN y <= 64 /\ 1 <= lenN y := by
    unfold lenN;rw [if_neg (by omega)];have := (Nat.log2_lt (k := 64) (by omega : y ≠ 0)).2 hy;omega
  refine pcN 135 [.tmp 6,.tmp 7] [154,154] Tryz.func177 rfl [] ?_;(repeat' first|refine stW [0,1,2,6,7,8,9,10,11,12,13,14,15,16,17,18,20,24,27,78,85,113,120] ?_|(show CallQ ..;first|refine cQ (fun hcc=>(lz64_f y _ hy)) ?_|(refine lP ?_;refine lQ (fun hcc m=>(lz64_f y _ hy)) ?_))|refine fctI fun hf=>?_|refine twI (fun hc=>?_) fun hc=>?_);have hs : IntKind.u64.wrap (64 - (lenN y : Int)) = ((64 - lenN y : Nat) : Int) := by rw [u64w]; omega
  rw [hs];have hs2 : 64 - lenN y < 64 := by omega
  generalize hS : 64 - lenN y = s at *
  (have:=NeI hs2);have hV1 := norm64 (by omega) hS hlen.1;have hsp := split64 hi lo s hs2 hl;have hrem : lo / 2 ^ (64 - s) < 2 ^ s := by
    rw [Nat.div_lt_iff_lt_mul (Nat.pow_pos (by decide)), <- Nat.pow_add, show s + (64 - s) = 64 by omega]; exact hl
  have hhi : hi * 2 ^ s + 2 ^ s <= y * 2 ^ s := by
    have := Nat.mul_le_mul_right (2 ^ s) h1
    rwa [Nat.succ_mul] at this
  (repeat' first|(show SWp _ _ _ (.seq (.region 9 _ _) _) _ _ _ _;refine (stop_in ?_))|(show SWp _ _ _ (.region _ _ true) _ _ _ _;refine xG mixed [] ?_)|refine stW [0,1,2,6,7,8,9,10,11,12,13,14,15,16,17,18,20,24,27,78,85,113,120] ?_|refine fctI fun hf=>?_|refine twI (fun hc=>?_) fun hc=>?_);refine stop_out ?_;rw [shl64 y s hs2 hV1.2];have hq1 : QQ = (hi * 18446744073709551616 + lo) * 2 ^ s / (y * 2 ^ s) := by rw [<- hQ]; exact (Nat.mul_div_mul_right _ _ (Nat.pow_pos (by decide))).symm
  have hq2 : (hi * 18446744073709551616 + lo) * 2 ^ s % (y * 2 ^ s) = RR * 2 ^ s := by rw [<- hR]; exact Nat.mul_mod_mul_right _ _ _
  have hqlt : QQ < 18446744073709551616 := by rw [<- hQ]; exact kn_lt h1 hl
  clear hQ hR;have hU1 : hi * 2 ^ s + lo / 2 ^ (64 - s) < y * 2 ^ s := by omega
  have hhs : hi * 2 ^ s < 18446744073709551616 := Nat.lt_of_le_of_lt (Nat.le_add_right _ _) (Nat.lt_trans hU1 hV1.2);have hus : hi * 2 ^ s + lo / 2 ^ (64 - s) < 18446744073709551616 := Nat.lt_trans hU1 hV1.2;generalize hVV : y * 2 ^ s = V at *
  (repeat' first|(show SWp _ _ _ (.seq (.region 12 _ _) _) _ _ _ _;refine (stop_in ?_))|(show SWp _ _ _ (.region _ _ true) _ _ _ _;refine xG mixed [] ?_)|refine stW [0,1,2,6,7,8,9,10,11,12,13,14,15,16,17,18,20,24,27,78,85,113,120] ?_|refine fctI fun hf=>?_|refine twI (fun hc=>?_) fun hc=>?_);refine stop_out ?_;rw [shl64 hi s hs2 hhs, shr64 lo (64 - s) (by omega), or64 hi (lo / 2 ^ (64 - s)) s hrem hus];generalize hUU : hi * 2 ^ s + lo / 2 ^ (64 - s) = U at *
  (repeat' first|(show SWp _ _ _ (.seq (.region 13 _ _) _) _ _ _ _;refine (stop_in ?_))|(show SWp _ _ _ (.region _ _ true) _ _ _ _;refine xG mixed [] ?_)|refine stW [0,1,2,6,7,8,9,10,11,12,13,14,15,16,17,18,20,24,27,78,85,113,120] ?_|refine fctI fun hf=>?_|refine twI (fun hc=>?_) fun hc=>?_);refine stop_out ?_;rw [shl64m lo s hs2];have hW1 : lo * 2 ^ s % 18446744073709551616 < 18446744073709551616 := Nat.mod_lt _ (by decide);generalize hWW : lo * 2 ^ s % 18446744073709551616 = W at *
  have hy1 : ¬ ((V : Int) / 4294967296 = 0) := by omega
  (have:=NeI hy1);(repeat' first|(show SWp _ _ _ (.seq (.block 0 _) _) _ _ _ _;refine (stop_in ?_))|(show SWp _ _ _ (.region _ _ true) _ _ _ _;refine xG mixed [] ?_)|refine stW [0,1,2,6,7,8,9,10,11,12,13,14,15,16,17,18,20,24,27,78,85,113,120] ?_|refine fctI fun hf=>?_|refine twI (fun hc=>?_) fun hc=>?_);refine stop_out ?_;have ea : (V : Int) / 4294967296 = ((V / 4294967296 : Nat) : Int) := by omega
  have eb : (V : Int) % 4294967296 = ((V % 4294967296 : Nat) : Int) := by omega
  have ew : (W : Int) / 4294967296 = ((W / 4294967296 : Nat) : Int) := by omega
  have ez : (W : Int) % 4294967296 = ((W % 4294967296 : Nat) : Int) := by omega
  rw [ea, eb, ew, ez];have ha : 2147483648 <= V / 4294967296 /\ V / 4294967296 < 4294967296 := by omega
  have hb : V % 4294967296 < 4294967296 := by omega
  have hw : W / 4294967296 < 4294967296 := by omega
  have hz : W % 4294967296 < 4294967296 := by omega
  have hVd : V = V / 4294967296 * 4294967296 + V % 4294967296 := by omega
  have hWd : W = W / 4294967296 * 4294967296 + W % 4294967296 := by omega
  generalize V / 4294967296 = a at *
  generalize V % 4294967296 = b at *
  generalize W / 4294967296 = w at *
  generalize W % 4294967296 = z at *
  have hUV : U < a * 4294967296 + b := by omega
  have e15 : IntKind.u64.wrap ((U : Int).tdiv (a : Int)) = ((U / a : Nat) : Int) := by
    have := kn_most hb (by omega : 4294967296 <= 2 * a) (by omega) hUV;rw [u64w, Int.tdiv_eq_ediv_of_nonneg (by omega), <- Int.natCast_ediv];generalize U / a = t at *
    omega
  have hUm := Nat.div_add_mod U a;have e16 : IntKind.u64.wrap ((U : Int) - IntKind.u64.wrap (((U / a : Nat) : Int) * (a : Int))) = ((U % a : Nat) : Int) := by
    rw [u64w, u64w, <- Int.natCast_mul, Nat.mul_comm (U / a) a];generalize a * (U / a) = t at *
    generalize U % a = r at *
    omega
  rw [e15, e16];obtain ⟨Q1, hQ1⟩ : ∃ q, (U * 4294967296 + w) / V = q := ⟨_, rfl⟩;obtain ⟨R, hRR⟩ : ∃ q, (U * 4294967296 + w) % V = q := ⟨_, rfl⟩;obtain ⟨Q0, hQ0⟩ : ∃ q, (R * 4294967296 + z) / V = q := ⟨_, rfl⟩;obtain ⟨S0, hS0⟩ : ∃ q, (R * 4294967296 + z) % V = q := ⟨_, rfl⟩;have hV0 : 0 < V := by omega
  have hdm := Nat.div_add_mod (U * 4294967296 + w) V;have hR := Nat.mod_lt (U * 4294967296 + w) hV0;have hq1lt := kn_lt hU1 hw;have hdm2 := Nat.div_add_mod (R * 4294967296 + z) V;have hR2 := Nat.mod_lt (R * 4294967296 + z) hV0;rw [hQ1, hRR] at hdm;rw [hRR] at hR;rw [hQ1] at hq1lt;rw [hQ0, hS0] at hdm2;rw [hS0] at hR2;have hE2 := kn_two2 (z := z) hV0 hz (by omega) hQ1 hRR hQ0 hS0;have hfull : (hi * 18446744073709551616 + lo) * 2 ^ s = (U * 4294967296 + w) * 4294967296 + z := by rw [hsp, hWd]; omega
  rw [hfull, <- hE2.1] at hq1;rw [hfull, <- hE2.2] at hq2;clear hsp hfull hE2;have hk := kn_first (B := 4294967296) (b := b) (u := U) (by omega : 0 < a) hw;refine swp_mid [2, 8, 9, 10, 11, 13, 14, 15] [] 0 (fun A H => A = [(2, lu V), (8, lu s), (9, lu a), (10, lu b), (11, lu U), (13, lu w), (14, lu z), (15, lu Q1)] /\ H = []) (by omega) ?_ ?_ ?_
  · rintro A H ⟨rfl, rfl⟩;exact SDD
  · (repeat' first|refine stW [0,1,2,6,7,8,9,10,11,12,13,14,15,16,17,18,20,24,27,78,85,113,120] ?_|refine fctI fun hf=>?_|refine twI (fun hc=>?_) fun hc=>?_);refine loop_swp [2, 8, 9, 10, 11, 13, 14, 15, 16] [] 0 (fun k A H => ∃ q r : Nat, k = q /\ U = q * a + r /\ U * 4294967296 + w < (q + 1) * (a * 4294967296 + b) /\ q <= 4294967297 /\ r < 4294967296 /\ A = [(2, lu V), (8, lu s), (9, lu a), (10, lu b), (11, lu U), (13, lu w), (14, lu z), (15, lu q), (16, lu r)] /\ H = []) (by omega) ?_ ?_ ?_
    · rintro k A H ⟨q, r, g1, g2, g3, g4, g5, rfl, rfl⟩;exact SDD
    · refine ⟨_, U / a, U % a, rfl, ?_, hk, kn_most hb (by omega) (by omega) hUV, Nat.lt_trans (Nat.mod_lt _ (by omega)) ha.2, ?_, ?_⟩
      · rw [Nat.mul_comm]; exact hUm.symm
      · exact DVR
      · exact DVR
    rintro k A H ⟨q, r, rfl, g2, g3, g4, g5, rfl, rfl⟩;have hqb : k * b <= 4294967297 * 4294967295 := Nat.mul_le_mul g4 (by omega);have hst := kn_step (B := 4294967296) hb hw hUV g2 g3;have hsp2 := kn_stop (B := 4294967296) (w := w) (b := b) g2 g3;rw [<- hVd] at hst hsp2;have ew1 : IntKind.u64.wrap ((k : Int) * (b : Int)) = ((k * b : Nat) : Int) := by rw [u64w, <- Int.natCast_mul]; generalize k * b = t at *; omega
    have ew2 : IntKind.u64.wrap (IntKind.u64.wrap (4294967296 * (r : Int)) + (w : Int)) = ((4294967296 * r + w : Nat) : Int) := by rw [u64w, u64w]; omega
    have ew3 : IntKind.u64.wrap ((r : Int) + (a : Int)) = ((r + a : Nat) : Int) := by rw [u64w]; omega
    generalize k * b = kb at *
    have ew4 : 1 <= k -> IntKind.u64.wrap ((k : Int) - 1) = ((k - 1 : Nat) : Int) := fun q => by rw [u64w]; omega
    (repeat' first|refine stW [0,1,2,6,7,8,9,10,11,12,13,14,15,16,17,18,20,24,27,78,85,113,120] ?_|refine fctI fun hf=>?_|refine twI (fun hc=>?_) fun hc=>?_)
    · rename_i hct
      rw [ew1, ew2] at hct;rw [ew3] at hc;obtain ⟨q1, q2, q3, q4⟩ := hst (by omega);exact midK_normal (A2 := [(2, lu V), (8, lu s), (9, lu a), (10, lu b), (11, lu U), (13, lu w), (14, lu z), (15, lv (.int .u64 (IntKind.u64.wrap ((k : Int) - 1))))]) (H2 := []) (by exact DVR) (by exact DVR) ⟨by rw [ew4 q1, hQ1.symm.trans (q4 (by omega))], rfl⟩
    · rename_i hct
      rw [ew1, ew2] at hct;rw [ew3] at hc;obtain ⟨q1, q2, q3, q4⟩ := hst (by omega);(refine lN [] ?_);exact ⟨k - 1, by omega, k - 1, r + a, rfl, q3, by rw [<- hVd]; exact q2, by omega, by omega, by rw [ew4 q1, ew3]; rfl, rfl⟩
    · rw [ew1, ew2] at hc;exact midK_normal (A2 := [(2, lu V), (8, lu s), (9, lu a), (10, lu b), (11, lu U), (13, lu w), (14, lu z), (15, lu k)]) (H2 := []) (by exact DVR) (by exact DVR) ⟨by rw [hQ1.symm.trans (hsp2 (by omega))], rfl⟩
  rintro A H ⟨rfl, rfl⟩;have e17 : IntKind.u64.wrap (IntKind.u64.wrap (IntKind.u64.wrap ((U : Int) * 4294967296) + (w : Int)) - IntKind.u64.wrap ((Q1 : Int) * (V : Int))) = (R : Int) := by
    rw [<- Int.natCast_mul, Nat.mul_comm Q1 V];exact u64_diff _ _ _ _ hdm (Nat.lt_trans hR hV1.2)
  (repeat' first|(show SWp _ _ _ (.seq (.region 22 _ _) _) _ _ _ _;refine (stop_in ?_))|(show SWp _ _ _ (.region _ _ true) _ _ _ _;refine xG mixed [] ?_)|refine stW [0,1,2,6,7,8,9,10,11,12,13,14,15,16,17,18,20,24,27,78,85,113,120] ?_|refine fctI fun hf=>?_|refine twI (fun hc=>?_) fun hc=>?_);refine stop_out ?_;rw [e17];have hRV : R < a * 4294967296 + b := by omega
  have e18 : IntKind.u64.wrap ((R : Int).tdiv (a : Int)) = ((R / a : Nat) : Int) := by
    have := kn_most hb (by omega : 4294967296 <= 2 * a) (by omega) hRV;rw [u64w, Int.tdiv_eq_ediv_of_nonneg (by omega), <- Int.natCast_ediv];generalize R / a = t at *
    omega
  have hRm := Nat.div_add_mod R a;have e19 : IntKind.u64.wrap ((R : Int) - IntKind.u64.wrap (((R / a : Nat) : Int) * (a : Int))) = ((R % a : Nat) : Int) := by
    rw [u64w, u64w, <- Int.natCast_mul, Nat.mul_comm (R / a) a];generalize a * (R / a) = t at *
    generalize R % a = r at *
    omega
  have ha0 : ¬ ((a : Int) = 0) := by omega
  (have:=NeI ha0);(repeat' first|(show SWp _ _ _ (.seq (.block 2 _) _) _ _ _ _;refine (stop_in ?_))|(show SWp _ _ _ (.region _ _ true) _ _ _ _;refine xG mixed [] ?_)|refine stW [0,1,2,6,7,8,9,10,11,12,13,14,15,16,17,18,20,24,27,78,85,113,120] ?_|refine fctI fun hf=>?_|refine twI (fun hc=>?_) fun hc=>?_);refine stop_out ?_;rw [e18, e19];have hk2 := kn_first (B := 4294967296) (b := b) (u := R) (by omega : 0 < a) hz;refine swp_mid [2, 8, 14, 15, 17, 18] [] 0 (fun A H => A = [(2, lu V), (8, lu s), (14, lu z), (15, lu Q1), (17, lu R), (18, lu Q0)] /\ H = []) (by omega) ?_ ?_ ?_
  · rintro A H ⟨rfl, rfl⟩;exact SDD
  · (repeat' first|refine stW [0,1,2,6,7,8,9,10,11,12,13,14,15,16,17,18,20,24,27,78,85,113,120] ?_|refine fctI fun hf=>?_|refine twI (fun hc=>?_) fun hc=>?_);refine loop_swp [2, 8, 9, 10, 14, 15, 16, 17, 18] [] 0 (fun k A H => ∃ q r : Nat, k = q /\ R = q * a + r /\ R * 4294967296 + z < (q + 1) * (a * 4294967296 + b) /\ q <= 4294967297 /\ r < 4294967296 /\ A = [(2, lu V), (8, lu s), (9, lu a), (10, lu b), (14, lu z), (15, lu Q1), (16, lu r), (17, lu R), (18, lu q)] /\ H = []) (by omega) ?_ ?_ ?_
    · rintro k A H ⟨q, r, g1, g2, g3, g4, g5, rfl, rfl⟩;exact SDD
    · refine ⟨_, R / a, R % a, rfl, ?_, hk2, kn_most hb (by omega) (by omega) hRV, Nat.lt_trans (Nat.mod_lt _ (by omega)) ha.2, ?_, ?_⟩
      · rw [Nat.mul_comm]; exact hRm.symm
      · exact DVR
      · exact DVR
    rintro k A H ⟨q, r, rfl, g2, g3, g4, g5, rfl, rfl⟩;have hqb : k * b <= 4294967297 * 4294967295 := Nat.mul_le_mul g4 (by omega);have hst := kn_step (B := 4294967296) hb hz hRV g2 g3;have hsp2 := kn_stop (B := 4294967296) (w := z) (b := b) g2 g3;rw [<- hVd] at hst hsp2;have ew1 : IntKind.u64.wrap ((k : Int) * (b : Int)) = ((k * b : Nat) : Int) := by rw [u64w, <- Int.natCast_mul]; generalize k * b = t at *; omega
    have ew2 : IntKind.u64.wrap (IntKind.u64.wrap (4294967296 * (r : Int)) + (z : Int)) = ((4294967296 * r + z : Nat) : Int) := by rw [u64w, u64w]; omega
    have ew3 : IntKind.u64.wrap ((r : Int) + (a : Int)) = ((r + a : Nat) : Int) := by rw [u64w]; omega
    generalize k * b = kb at *
    have ew4 : 1 <= k -> IntKind.u64.wrap ((k : Int) - 1) = ((k - 1 : Nat) : Int) := fun q => by rw [u64w]; omega
    (repeat' first|refine stW [0,1,2,6,7,8,9,10,11,12,13,14,15,16,17,18,20,24,27,78,85,113,120] ?_|refine fctI fun hf=>?_|refine twI (fun hc=>?_) fun hc=>?_)
    · rename_i hct
      rw [ew1, ew2] at hct;rw [ew3] at hc;obtain ⟨q1, q2, q3, q4⟩ := hst (by omega);exact midK_normal (A2 := [(2, lu V), (8, lu s), (14, lu z), (15, lu Q1), (17, lu R), (18, lv (.int .u64 (IntKind.u64.wrap ((k : Int) - 1))))]) (H2 := []) (by exact DVR) (by exact DVR) ⟨by rw [ew4 q1, hQ0.symm.trans (q4 (by omega))], rfl⟩
    · rename_i hct
      rw [ew1, ew2] at hct;rw [ew3] at hc;obtain ⟨q1, q2, q3, q4⟩ := hst (by omega);(refine lN [] ?_);exact ⟨k - 1, by omega, k - 1, r + a, rfl, q3, by rw [<- hVd]; exact q2, by omega, by omega, by rw [ew4 q1, ew3]; rfl, rfl⟩
    · rw [ew1, ew2] at hc;exact midK_normal (A2 := [(2, lu V), (8, lu s), (14, lu z), (15, lu Q1), (17, lu R), (18, lu k)]) (H2 := []) (by exact DVR) (by exact DVR) ⟨by rw [hQ0.symm.trans (hsp2 (by omega))], rfl⟩
  rintro A H ⟨rfl, rfl⟩;have e20 : IntKind.u64.wrap (IntKind.u64.wrap ((Q1 : Int) * 4294967296) + (Q0 : Int)) = (QQ : Int) := u64_sum _ _ _ hq1.symm hqlt;have e21 : IntKind.u64.wrap (IntKind.u64.wrap (IntKind.u64.wrap ((R : Int) * 4294967296) + (z : Int)) - IntKind.u64.wrap ((Q0 : Int) * (V : Int))) = (S0 : Int) := by
    rw [<- Int.natCast_mul, Nat.mul_comm Q0 V];exact u64_diff _ _ _ _ hdm2 (Nat.lt_trans hR2 hV1.2)
  (repeat' first|refine stW [0,1,2,6,7,8,9,10,11,12,13,14,15,16,17,18,20,24,27,78,85,113,120] ?_|refine fctI fun hf=>?_|refine twI (fun hc=>?_) fun hc=>?_);(refine DVQ ?_);rw [e20, e21, hq2, shr64 _ s (by omega), Nat.mul_div_cancel _ (Nat.pow_pos (by decide))]
theorem div64g_f (hi lo y : Nat) (m : Nat) (h1 : hi < y) (hy : y < 18446744073709551616) (hl : lo < 18446744073709551616) : Pu 177 [lu hi, lu lo, lu y] m (.tup [lu ((hi * 18446744073709551616 + lo) / y), lu ((hi * 18446744073709551616 + lo) % y)]) := by
  rcases Nat.eq_zero_or_pos hi with rfl | h0
  · rw [Nat.zero_mul, Nat.zero_add];exact div64_f lo y m hl hy (by omega)
  · exact div64q_f hi lo y _ _ m h1 hy hl h0 rfl rfl
theorem sub64_run (x y : Nat) (w : World) : ((Option.get (Extern.find Tryz.f237) (by kernel_rfl)) #[.int .u64 x, .int .u64 y, .int .u64 0]).run Tryz.prog w =
    .ok (.tuple #[.int .u64 (((x + 18446744073709551616 - y - 0) % 18446744073709551616 : Nat) : Int), .int .u64 ((if x < y + 0 then 1 else 0 : Nat) : Int)]) w := by
  kernel_rfl
theorem sub64_f (x y : Nat) (m : Nat) (hx : x < 18446744073709551616) (hy : y < 18446744073709551616) : Pu 237 [lu x, lu y, lu 0] m (.tup [lu ((x + 18446744073709551616 - y) % 18446744073709551616), lu (if x < y then 1 else 0)]) := by
  show DCalls ..;unfold DCalls DCallsG;refine ⟨trivial, fun U ρ S w vs H0 hmU hr huU => ?_⟩;obtain ⟨v1, v2, v3, rfl, r1, r2, r3⟩ : ∃ v1 v2 v3, vs = [v1, v2, v3] /\ v1 = .int .u64 x /\ v2 = .int .u64 y /\ v3 = .int .u64 ((0 : Nat) : Int) := by
    match vs, hr with
    | [v1, v2, v3], hr => exact ⟨v1, v2, v3, rfl, rel_lit hr.1, rel_lit hr.2.1, rel_lit hr.2.2.1⟩
  subst r1 r2 r3;have hc : ¬ callable Tryz.prog 237 := by
    rintro ⟨fn, h1, h2, h3⟩;rw [Tryz.func237] at h1;cases h1;have hb0 : (Func.body Tryz.f237 ).isSome = false := by kernel_rfl
    rw [hb0] at h2;cases h2
  have hrn := Go.run_callFunc_extern (P := Tryz.prog) (f := 237) Tryz.func237 (by kernel_rfl) (by kernel_rfl) (by kernel_rfl) (Option.some_get (by kernel_rfl)).symm #[.int .u64 x, .int .u64 y, .int .u64 0] w;rw [sub64_run x y w] at hrn;refine CallsX.ext hc hrn ⟨_, ρ, S, rfl, (HSat0.to H0 (fun i v k => (hnil_no k).elim)).used fun i k => .inl k, ?_, ?_⟩
  · simp only [Rel];exact ⟨_, rfl, .lit _ rfl, .lit _ rfl, trivial⟩
  · exact ⟨trivial, trivial, trivial⟩
theorem add64_run (x y : Nat) (w : World) : ((Option.get (Extern.find Tryz.f236) (by kernel_rfl)) #[.int .u64 x, .int .u64 y, .int .u64 0]).run Tryz.prog w =
    .ok (.tuple #[.int .u64 (((x + y + 0) % 18446744073709551616 : Nat) : Int), .int .u64 (((x + y + 0) / 18446744073709551616 : Nat) : Int)]) w := by
  kernel_rfl
theorem add64_f (x y : Nat) (m : Nat) (hx : x < 18446744073709551616) (hy : y < 18446744073709551616) : Pu 236 [lu x, lu y, lu 0] m (.tup [lu ((x + y) % 18446744073709551616), lu ((x + y) / 18446744073709551616)]) := by
  show DCalls ..;unfold DCalls DCallsG;refine ⟨trivial, fun U ρ S w vs H0 hmU hr huU => ?_⟩;obtain ⟨v1, v2, v3, rfl, r1, r2, r3⟩ : ∃ v1 v2 v3, vs = [v1, v2, v3] /\ v1 = .int .u64 x /\ v2 = .int .u64 y /\ v3 = .int .u64 ((0 : Nat) : Int) := by
    match vs, hr with
    | [v1, v2, v3], hr => exact ⟨v1, v2, v3, rfl, rel_lit hr.1, rel_lit hr.2.1, rel_lit hr.2.2.1⟩
  subst r1 r2 r3;have hc : ¬ callable Tryz.prog 236 := by
    rintro ⟨fn, h1, h2, h3⟩;rw [Tryz.func236] at h1;cases h1;have hb0 : (Func.body Tryz.f236 ).isSome = false := by kernel_rfl
    rw [hb0] at h2;cases h2
  have hrn := Go.run_callFunc_extern (P := Tryz.prog) (f := 236) Tryz.func236 (by kernel_rfl) (by kernel_rfl) (by kernel_rfl) (Option.some_get (by kernel_rfl)).symm #[.int .u64 x, .int .u64 y, .int .u64 0] w;rw [add64_run x y w] at hrn;refine CallsX.ext hc hrn ⟨_, ρ, S, rfl, (HSat0.to H0 (fun i v k => (hnil_no k).elim)).used fun i k => .inl k, ?_, ?_⟩
  · simp only [Rel];exact ⟨_, rfl, .lit _ rfl, .lit _ rfl, trivial⟩
  · exact ⟨trivial, trivial, trivial⟩
abbrev nmD (hi lo : Nat) (b : Bool) : DV := .agg [lu hi, lu lo, lb b]
abbrev wdD (h l : Nat) : DV := .agg [li h, li l]
theorem u64n (n : Nat) (h : n < 18446744073709551616) : IntKind.u64.wrap (n : Int) = n := by rw [u64w]; omega
theorem size_f (n : Nat) (m : Nat) (h : n < 9223372036854775808) : Pu 192 [li n] m (lu n) := by
  have h0 : ¬ ((n : Int) < 0) := by omega
  (have:=NeI h0);refine pcN 10 [.tmp 2] [154] Tryz.func192 rfl [] ?_;(repeat' first|refine stW [0,2,4] ?_|refine fctI fun hf=>?_|refine twI (fun hc=>?_) fun hc=>?_);(refine DVQ ?_);rw [u64n n (by omega)]
theorem signed_f (hi lo : Nat) (m : Nat) : Pu 193 [lu hi, lu lo, lb false] m (nmD hi lo false) := by
  refine pcN 19 [.cell 6 213] [213] Tryz.func193 rfl [] ?_;(repeat' first|refine stW [0,1,2,6] ?_|refine fctI fun hf=>?_|refine twI (fun hc=>?_) fun hc=>?_);exact DVR
theorem signedT_f (hi lo : Nat) (m : Nat) : Pu 193 [lu hi, lu lo, lb true] m (nmD hi lo (decide (0 < hi) || decide (0 < lo))) := by
  by_cases h : (hi : Int) = 0
  · have hh : hi = 0 := by omega
    subst hh;by_cases k : (lo : Int) = 0
    · have hk : lo = 0 := by omega
      subst hk;refine pcN 19 [.cell 6 213] [213] Tryz.func193 rfl [] ?_;(repeat' first|refine stW [0,1,2,6] ?_|refine fctI fun hf=>?_|refine twI (fun hc=>?_) fun hc=>?_);exact DVR
    · (have:=NeI k);have hk : decide (0 < lo) = true := decide_eq_true (by omega);rw [hk];refine pcN 19 [.cell 6 213] [213] Tryz.func193 rfl [] ?_;(repeat' first|refine stW [0,1,2,6] ?_|refine fctI fun hf=>?_|refine twI (fun hc=>?_) fun hc=>?_);exact DVR
  · (have:=NeI h);have hk : decide (0 < hi) = true := decide_eq_true (by omega);rw [hk];refine pcN 19 [.cell 6 213] [213] Tryz.func193 rfl [] ?_;(repeat' first|refine stW [0,1,2,6] ?_|refine fctI fun hf=>?_|refine twI (fun hc=>?_) fun hc=>?_);exact DVR
theorem times_f (a b : Nat) (m : Nat) (ha : a < 9223372036854775808) (hb : b < 9223372036854775808) : Pu 181 [li a, li b] m (nmD (a * b / 18446744073709551616) (a * b % 18446744073709551616) false) := by
  have h0 : ¬ ((a : Int) < 0) := by omega
  have h1 : ¬ ((b : Int) < 0) := by omega
  (have:=NeI h0);(have:=NeI h1);have cm := fun m => mul64_f a b m (by omega) (by omega)
  generalize a * b / 18446744073709551616 = hi at *
  generalize a * b % 18446744073709551616 = lo at *
  refine pcN 23 [.cell 4 213] [213] Tryz.func181 rfl [] ?_;(repeat' first|refine stW [0,1,4,5,6] ?_|(show CallQ ..;first|refine cQ (fun hcc=>(by first | exact size_f _ _ (by omega) | exact signed_f _ _ _)) ?_|(refine lP ?_;refine lQ (fun hcc m=>(by first | exact size_f _ _ (by omega) | exact signed_f _ _ _)) ?_))|refine fctI fun hf=>?_|refine twI (fun hc=>?_) fun hc=>?_);exact DVR
theorem whole_f (n : Nat) (m : Nat) (h : n < 9223372036854775808) : Pu 194 [lu n, lb false] m (.tup [li n, li 0]) := by
  have h0 : (n : Int) <= 9223372036854775807 := by omega
  (have:=NeI h0);refine pcN 24 [.tmp 4,.tmp 5] [3,45] Tryz.func194 rfl [] ?_;(repeat' first|refine stW [0,1,4,5,6,15] ?_|refine fctI fun hf=>?_|refine twI (fun hc=>?_) fun hc=>?_);exact DVR
abbrev qtR (q r : Nat) (up : Bool) : Nat := if up = true /\ 0 < r then q + 1 else q
theorem quotient_f (hi lo b Q R : Nat) (up : Bool) (m : Nat) (hb : 0 < b /\ b < 9223372036854775808) (hlo : lo < 18446744073709551616) (hq : hi * 18446744073709551616 + lo = b * Q + R) (hR : R < b) (hQ : Q < 9223372036854775807) :
    Pu 182 [nmD hi lo false, li b, lb up] m (.tup [li (qtR Q R up), li 0]) := by
  have hhi : hi < b := by
    refine Nat.lt_of_not_le fun k => ?_
    have h1 := Nat.mul_le_mul_right 18446744073709551616 k;have h2 : b * Q <= b * 9223372036854775806 := Nat.mul_le_mul_left b (by omega);omega
  have cd := fun m => div64g_f hi lo b m hhi (by omega) hlo
  have e1 : (hi * 18446744073709551616 + lo) / b = Q := by
    rw [hq, Nat.mul_add_div hb.1, Nat.div_eq_of_lt hR, Nat.add_zero]
  have e2 : (hi * 18446744073709551616 + lo) % b = R := by
    rw [hq, Nat.mul_add_mod, Nat.mod_eq_of_lt hR]
  rw [e1, e2] at cd;clear e1 e2 hq;have h0 : ¬ ((b : Int) < 0) := by omega
  have h1 : ¬ ((b : Int) <= (hi : Int)) := by omega
  (have:=NeI h0);(have:=NeI h1);have hQ1 : IntKind.u64.wrap ((Q : Int) + 1) = ((Q + 1 : Nat) : Int) := by rw [u64w]; omega
  cases up
  · have e : qtR Q R false = Q := if_neg (fun k => by cases k.1);rw [e];by_cases hr : (0 : Int) < (R : Int)
    · (have:=NeI hr);refine pcN 52 [.tmp 6,.tmp 7] [3,45] Tryz.func182 rfl [] ?_;(repeat' first|refine stW [0,1,2,3,6,7,8,9,10,11,17,38,42] ?_|(show CallQ ..;first|refine cQ (fun hcc=>(by first | exact size_f _ _ (by omega) | exact whole_f _ _ (by omega))) ?_|(refine lP ?_;refine lQ (fun hcc m=>(by first | exact size_f _ _ (by omega) | exact whole_f _ _ (by omega))) ?_))|refine fctI fun hf=>?_|refine twI (fun hc=>?_) fun hc=>?_);exact DVR
    · (have:=NeI hr);refine pcN 52 [.tmp 6,.tmp 7] [3,45] Tryz.func182 rfl [] ?_;(repeat' first|refine stW [0,1,2,3,6,7,8,9,10,11,17,38,42] ?_|(show CallQ ..;first|refine cQ (fun hcc=>(by first | exact size_f _ _ (by omega) | exact whole_f _ _ (by omega))) ?_|(refine lP ?_;refine lQ (fun hcc m=>(by first | exact size_f _ _ (by omega) | exact whole_f _ _ (by omega))) ?_))|refine fctI fun hf=>?_|refine twI (fun hc=>?_) fun hc=>?_);exact DVR
  · by_cases hr : (0 : Int) < (R : Int)
    · (have:=NeI hr);have e : qtR Q R true = Q + 1 := if_pos ⟨rfl, by omega⟩;rw [e];have h3 : ¬ (IntKind.u64.wrap ((Q : Int) + 1) = 0) := by rw [hQ1]; omega
      have hQ9 : Q + 1 < 9223372036854775808 := by omega
      generalize Q + 1 = Q1 at *
      (have:=NeI h3);refine pcN 52 [.tmp 6,.tmp 7] [3,45] Tryz.func182 rfl [] ?_;(repeat' first|(show SWp _ _ _ (.seq (.region 10 _ _) _) _ _ _ _;refine (stop_in ?_))|refine stW [0,1,2,3,6,7,8,9,10,11,17,38,42] ?_|(show CallQ ..;first|refine cQ (fun hcc=>(by exact size_f _ _ (by omega))) ?_|(refine lP ?_;refine lQ (fun hcc m=>(by exact size_f _ _ (by omega))) ?_))|refine fctI fun hf=>?_|refine twI (fun hc=>?_) fun hc=>?_);refine stop_out ?_;rw [hQ1];(repeat' first|refine stW [0,1,2,3,6,7,8,9,10,11,17,38,42] ?_|(show CallQ ..;first|refine cQ (fun hcc=>(by first | exact whole_f _ _ (by omega))) ?_|(refine lP ?_;refine lQ (fun hcc m=>(by first | exact whole_f _ _ (by omega))) ?_))|refine fctI fun hf=>?_|refine twI (fun hc=>?_) fun hc=>?_);exact DVR
    · (have:=NeI hr);have e : qtR Q R true = Q := if_neg (fun k => hr (by omega));rw [e];refine pcN 52 [.tmp 6,.tmp 7] [3,45] Tryz.func182 rfl [] ?_;(repeat' first|refine stW [0,1,2,3,6,7,8,9,10,11,17,38,42] ?_|(show CallQ ..;first|refine cQ (fun hcc=>(by first | exact size_f _ _ (by omega) | exact whole_f _ _ (by omega))) ?_|(refine lP ?_;refine lQ (fun hcc m=>(by first | exact size_f _ _ (by omega) | exact whole_f _ _ (by omega))) ?_))|refine fctI fun hf=>?_|refine twI (fun hc=>?_) fun hc=>?_);exact DVR
theorem scale_f (n k b Q R : Nat) (m : Nat) (hn : n < 9223372036854775808) (hk : k < 9223372036854775808) (hb : 0 < b /\ b < 9223372036854775808) (hq : n * k = b * Q + R) (hR : R < b) (hQ : Q < 9223372036854775807) :
    Pu 167 [li n, li k, li b] m (.tup [li Q, li (qtR Q R true), li 0]) := by
  have ct := fun m => times_f n k m hn hk
  have hdm := Nat.div_add_mod (n * k) 18446744073709551616;have hlo := Nat.mod_lt (n * k) (by decide : 18446744073709551616 > 0);rw [hq] at hdm hlo ct;generalize (b * Q + R) / 18446744073709551616 = hi at *
  generalize (b * Q + R) % 18446744073709551616 = lo at *
  rw [Nat.mul_comm] at hdm;have cq := fun up m => quotient_f hi lo b Q R up m hb hlo hdm hR hQ
  have cq0 := cq false;have cq1 := cq true;have e : qtR Q R false = Q := if_neg (fun k => by cases k.1);rw [e] at cq0;generalize qtR Q R true = QQ at *
  clear cq e hdm hq;have h0 : ¬ ((b : Int) = 0) := by omega
  (have:=NeI h0);refine pcN 35 [.tmp 6,.tmp 7,.tmp 8] [3,3,45] Tryz.func167 rfl [] ?_;(repeat' first|refine stW [0,1,2,6,7,8,9,11,22,31] ?_|refine fctI fun hf=>?_|refine twI (fun hc=>?_) fun hc=>?_);exact DVR
theorem or_top (x l : Nat) (hl : l < 1152921504606846976) (hx : x < 16) : IntKind.u64.wrap ((BitVec.ofInt IntKind.u64.bits ((x * 1152921504606846976 : Nat) : Int) ||| BitVec.ofInt IntKind.u64.bits (l : Int)).toNat : Int) = ((x * 1152921504606846976 + l : Nat) : Int) :=
  or64 x l 60 hl (by show x * 1152921504606846976 + l < _; omega)
theorem or_four (x l : Nat) (hl : l < 16) (hx : x < 1152921504606846976) : IntKind.u64.wrap ((BitVec.ofInt IntKind.u64.bits ((x * 16 : Nat) : Int) ||| BitVec.ofInt IntKind.u64.bits (l : Int)).toNat : Int) = ((x * 16 + l : Nat) : Int) :=
  or64 x l 4 hl (by show x * 16 + l < _; omega)
theorem mask60 (z : Int) : IntKind.u64.wrap ((BitVec.ofInt IntKind.u64.bits z &&& BitVec.ofInt IntKind.u64.bits 1152921504606846975).toNat : Int) = z % 1152921504606846976 := by
  have h : ∀ b : BitVec 64, (b &&& 1152921504606846975#64).toNat = b.toNat % 1152921504606846976 := fun b => by
    rw [BitVec.toNat_and];exact Nat.and_two_pow_sub_one_eq_mod _ 60
  have e := h (BitVec.ofInt 64 z);show IntKind.u64.wrap ((BitVec.ofInt 64 z &&& 1152921504606846975#64).toNat : Int) = _;rw [e, BitVec.toNat_ofInt, u64w];omega
theorem shl_four (x : Nat) (h : x < 1152921504606846976) : IntKind.u64.wrap ((x : Int) * 2 ^ min 4 IntKind.u64.bits) = ((x * 16 : Nat) : Int) :=
  shl64 x 4 (by omega) (by show x * 16 < _; omega)
theorem shr_four (x : Nat) : (x : Int).fdiv (2 ^ min 4 IntKind.u64.bits) = ((x / 16 : Nat) : Int) := shr64 x 4 (by omega)
theorem shr_60 (x : Nat) : (x : Int).fdiv (2 ^ min 60 IntKind.u64.bits) = ((x / 1152921504606846976 : Nat) : Int) := shr64 x 60 (by omega)
theorem shl_60 (x : Nat) : IntKind.u64.wrap ((x : Int) * 2 ^ min 60 IntKind.u64.bits) = ((x % 16 * 1152921504606846976 : Nat) : Int) := by
  rw [shl64m x 60 (by omega)];show ((x * 1152921504606846976 % 18446744073709551616 : Nat) : Int) = _;omega

end Go.Proofs.YtgpllheklfbfhaaGreat
