/-
  Contracts of functions of the program, over the engine.
  No condition.
-/
import Derived.Test.YthacnhidipeckaaGreatCL1L2L2cL2o
import Derived.Test.YthacnhidipeckaaGreatCW4W5W6R1R2R3R4
namespace Go.Proofs.YthacnhidipeckaaGreat
open Go.Eng
set_option linter.all false
attribute [local irreducible] DCallsG SWp Fct CallQ XCallQ LCallQ XLCallQ drun xrun
abbrev uN (N : Nat) : DV := uD (hiN N) (loN N)
abbrev nN (N : Nat) : DV := nuD (hiN N) (loN N) false
theorem less_f (M N : Nat) (m : Nat) : DCalls Tryz.prog 236 [uN M, uN N] (hget []) m (lb (decide (M < N))) (hget []) := by
  have e : decide (M < N) = (decide ((hiN M : Int) < (hiN N : Int)) || ((hiN M : Int) == (hiN N : Int) && decide ((loN M : Int) < (loN N : Int)))) := by
    have h := le_parts (M := N) (N := M);rw [Bool.eq_iff_iff];simp only [Bool.or_eq_true, Bool.and_eq_true, decide_eq_true_eq, beq_iff_eq];omega
  rw [e];refine pureC (n := 24) (rs := [.tmp 4]) (ts := [4]) Tryz.func236 rfl (by decide) [] (by (exact SD)) ?_;(repeat' (first|refine swp_seq [0,1,2,3,4] ?_|refine st2 ?_|refine fctI fun hf=>?_|(show CondG ..;first|refine cBG (fun hc=>?_) (fun hc=>?_)|refine cUG ?_ ?_)));exact DVR
theorem hiN_small {n : Nat} (h : n < 18446744073709551616) : hiN n = 0 := hiN_of (by rw [Nat.zero_mul, Nat.zero_add]) h
theorem loN_small {n : Nat} (h : n < 18446744073709551616) : loN n = n := loN_of (by rw [Nat.zero_mul, Nat.zero_add]) h
structure DwI (A b i N q r : Nat) : Prop where
  hN : N < 340282366920938463463374607431768211456
  hr : r < b
  hb : b < 4611686018427387904
  hA : A < 340282366920938463463374607431768211456
  hq : q <= A
  ex : ∃ X, X = A * 2 ^ i /\ X = (b * q + r) * 340282366920938463463374607431768211456 + N
theorem DwI.init {A b : Nat} (hA : A < 340282366920938463463374607431768211456) (hb : 0 < b /\ b < 4611686018427387904) : DwI A b 0 A 0 0 :=
  ⟨hA, hb.1, hb.2, hA, Nat.zero_le _, A, by rw [Nat.pow_zero, Nat.mul_one], by rw [Nat.mul_zero]; omega⟩
theorem q_le {A b q r : Nat} (hb : 0 < b) (h : b * q + r <= A) : q <= A :=
  Nat.le_trans (Nat.le_mul_of_pos_left q hb) (Nat.le_trans (Nat.le_add_right _ _) h)
theorem dbl_N {N : Nat} (h : N < 340282366920938463463374607431768211456) : ∃ bit N2, hiN N / 9223372036854775808 = bit /\ bit <= 1 /\ N2 < 340282366920938463463374607431768211456 /\ 2 * N = bit * 340282366920938463463374607431768211456 + N2 /\
    2 * (hiN N * 18446744073709551616 + loN N) + 0 = bit * 340282366920938463463374607431768211456 + (hiN N2 * 18446744073709551616 + loN N2) := by
  have e := hl_eq N;have h1 := hiN_lt h;have h2 := loN_lt N;refine ⟨_, 2 * N - hiN N / 9223372036854775808 * 340282366920938463463374607431768211456, rfl, ?_⟩;have e2 := hl_eq (2 * N - hiN N / 9223372036854775808 * 340282366920938463463374607431768211456);rw [<- e2, <- e];clear e2;generalize hiN N = a at *
  generalize loN N = c at *
  omega
theorem dbl_q {q : Nat} (h : 2 * q < 340282366920938463463374607431768211456) : 2 * (hiN q * 18446744073709551616 + loN q) + 0 = 0 * 340282366920938463463374607431768211456 + (hiN (2 * q) * 18446744073709551616 + loN (2 * q)) := by
  rw [<- hl_eq, <- hl_eq]; omega
theorem lo_next (q : Nat) : hiN (2 * q + 1) = hiN (2 * q) /\ IntKind.u64.wrap ((loN (2 * q) : Int) + 1) = (loN (2 * q + 1) : Int) := by
  have e := hl_eq (2 * q);have h := loN_lt (2 * q);have e2 : 2 * q + 1 = hiN (2 * q) * 18446744073709551616 + (loN (2 * q) + 1) := by omega
  have h3 : loN (2 * q) + 1 < 18446744073709551616 := by omega
  refine ⟨hiN_of e2 h3, ?_⟩;rw [loN_of e2 h3, u64w]; omega
theorem DwI.step {A b i N q r : Nat} (I : DwI A b i N q r) (hi : i < 128) : ∃ N2 bit r2 : Nat, (hiN N : Int).fdiv (2 ^ min 63 IntKind.u64.bits) = (bit : Int) /\ bit <= 1 /\ N2 < 340282366920938463463374607431768211456 /\
    2 * (hiN N * 18446744073709551616 + loN N) + 0 = bit * 340282366920938463463374607431768211456 + (hiN N2 * 18446744073709551616 + loN N2) /\ 2 * r + bit = r2 /\ r2 < 9223372036854775808 /\ 2 * q < 340282366920938463463374607431768211456 /\
    (r2 < b -> DwI A b (i + 1) N2 (2 * q) r2) /\ (¬ r2 < b -> DwI A b (i + 1) N2 (2 * q + 1) (r2 - b)) := by
  obtain ⟨hN, hr, hb, hA, hq, X, e1, e2⟩ := I;obtain ⟨bit, N2, hbit, hb1, hN2, hs, hs2⟩ := dbl_N hN;have hr3 : 2 * r + bit < 9223372036854775808 := by clear e1 e2 hs hs2 hbit; omega
  have hfd : (hiN N : Int).fdiv (2 ^ min 63 IntKind.u64.bits) = (bit : Int) := by rw [<- hbit]; exact shr64 (hiN N) 63 (by decide)
  have hstep := div_step (a2 := N2) e2 rfl hs;have hX2 : 2 * X = A * 2 ^ (i + 1) := by rw [e1, Nat.pow_succ, <- Nat.mul_assoc A, Nat.mul_comm 2]
  have htop := top_le (i := i + 1) (by omega) hX2 hstep;have hb0 : 0 < b := by omega
  have hq2 := q_le hb0 htop;refine ⟨N2, bit, 2 * r + bit, hfd, hb1, hN2, hs2, rfl, hr3, Nat.lt_of_le_of_lt hq2 hA, fun hlt => ?_, fun hlt => ?_⟩
  · exact ⟨hN2, hlt, hb, hA, hq2, 2 * X, hX2, hstep⟩
  · have e3 : b * (2 * q + 1) + (2 * r + bit - b) = b * (2 * q) + (2 * r + bit) := sub_back (Nat.le_of_not_lt hlt);refine ⟨hN2, by clear e1 e2 hs hs2 hstep hX2 htop e3; omega, hb, hA, q_le hb0 (r := 2 * r + bit - b) (by rw [e3]; exact htop), 2 * X, hX2, by rw [e3]; exact hstep⟩
theorem DwI.fin {A b N q r : Nat} (I : DwI A b 128 N q r) : q = A / b /\ r = A % b := by
  obtain ⟨hN, hr, hb, hA, hq, X, e1, e2⟩ := I;have h3 : (2 : Nat) ^ 128 = 340282366920938463463374607431768211456 := by decide
  rw [h3] at e1;rw [e1] at e2;have e : A = b * q + r := by
    generalize b * q + r = t at *
    omega
  rw [e, Nat.mul_add_div (by omega), Nat.div_eq_of_lt hr, Nat.mul_add_mod, Nat.mod_eq_of_lt hr];exact ⟨rfl, rfl⟩
set_option maxRecDepth 20000 in
set_option maxHeartbeats 16000000 in
theorem rdivN_f (A b : Nat) (m : Nat) (hA : A < 340282366920938463463374607431768211456) (hb : 0 < b /\ b < 4611686018427387904) :
    DCalls Tryz.prog 214 [uN A, uD 0 b] (hget []) m (.tup [uN (A / b), uD 0 (A % b)]) (hget []) := by
  have I0 := DwI.init hA hb;have z0 : hiN 0 = 0 := hiN_small (by decide);have z1 : loN 0 = 0 := loN_small (by decide);refine pureC (n := 45) (rs := [.cell 4 225, .cell 5 225]) (ts := [225, 225]) Tryz.func214 rfl (by decide) [] (by (exact SD)) ?_;(repeat' (first|refine swp_seq [0,1,2,3,4,5,6,7,8,9,10,12,35] ?_|refine st2 ?_|refine fctI fun hf=>?_|(show CondG ..;first|refine cBG (fun hc=>?_) (fun hc=>?_)|refine cUG ?_ ?_)));refine loop_swp [2, 3, 4, 5, 6, 7, 8] [0, 8, 16, 24, 32, 40] 41 (fun k M H => ∃ i N q r : Nat, i <= 128 /\ k = 128 - i /\ DwI A b i N q r /\ M = [(2, .ptr 0 0), (3, .ptr 8 0), (4, .ptr 16 0), (5, .ptr 24 0), (6, .ptr 32 0), (7, .ptr 40 0), (8, li i)] /\ H = [(0, .blk 225 [lu (hiN N), lu (loN N)]), (8, .blk 225 [lu 0, lu b]), (16, .blk 225 [lu 0, lu 0]), (24, .blk 225 [lu 0, lu 0]), (32, .blk 225 [lu (hiN q), lu (loN q)]), (40, .blk 225 [lu 0, lu r])]) (by omega) ?_ ?_ ?_
  · rintro k M H ⟨i, N, q, r, g1, g2, g3, rfl, rfl⟩;exact SDD
  · refine ⟨_, 0, A, 0, 0, by omega, rfl, I0, ?_, ?_⟩
    · exact DVR
    · rw [z0, z1];exact DVR
  rintro k M H ⟨i, N, q, r, g1, g2, g3, rfl, rfl⟩;by_cases hi : i < 128
  · have hi3 : (i : Int) < 128 := by omega
    (have:=NeI hi3);obtain ⟨N2, bit, r2, es, hb1, hN2, hs2, er, hr2, hq2, n1, n2⟩ := g3.step hi;have c1 := fun m => shift_f (hiN N) (loN N) 0 (hiN N2) (loN N2) bit m (hiN_lt g3.hN) (loN_lt N) (by omega) (hiN_lt hN2) (loN_lt N2) hs2
    have c2 := fun m => shift0_f r bit r2 m hb1 er hr2
    have hqA : q < 340282366920938463463374607431768211456 := by omega
    have c3 := fun m => shift_f (hiN q) (loN q) 0 (hiN (2 * q)) (loN (2 * q)) 0 m (hiN_lt hqA) (loN_lt q) (by omega) (hiN_lt hq2) (loN_lt _) (dbl_q hq2)
    have c4 := fun m => less0_f r2 b m
    have hnx := lo_next q;clear hs2 er;generalize 2 * q = q2 at *
    (repeat' (first|(show SWp _ _ _ (.seq (.region 6 _ _) _) _ _ _ _;refine (stop_in ?_))|refine swp_seq [0,1,2,3,4,5,6,7,8,9,10,12,35] ?_|(show SWp _ _ _ (.region _ _ true) _ _ _ _;refine xG mixed [] ?_)|refine st2 ?_|(show CallQ ..;first|refine cQ (fun hcc=>(by fail)) ?_|(refine lP ?_;refine lQ (fun hcc m=>(by fail)) ?_))|refine fctI fun hf=>?_|(show CondG ..;first|refine cBG (fun hc=>?_) (fun hc=>?_)|refine cUG ?_ ?_)));refine stop_out ?_;rw [es];clear es;by_cases hlt : r2 < b
    · rw [decide_eq_true hlt] at c4;(repeat' (first|refine swp_seq [0,1,2,3,4,5,6,7,8,9,10,12,35] ?_|refine st2 ?_|(show CallQ ..;first|refine cQ (fun hcc=>(by first | exact c1 _ | exact c2 _ | exact c3 _ | exact c4 _)) ?_|(refine lP ?_;refine lQ (fun hcc m=>(by first | exact c1 _ | exact c2 _ | exact c3 _ | exact c4 _)) ?_))|refine fctI fun hf=>?_|(show CondG ..;first|refine cBG (fun hc=>?_) (fun hc=>?_)|refine cUG ?_ ?_)));(refine lN [0, 8, 16, 24, 32, 40] ?_);exact ⟨_, by omega, i + 1, N2, q2, r2, by omega, rfl, n1 hlt, rfl, rfl⟩
    · rw [decide_eq_false hlt] at c4;have c5 := fun m => minusr_f r2 b m (by omega) (by omega)
      have n3 := n2 hlt;generalize r2 - b = r3 at *
      (repeat' (first|refine swp_seq [0,1,2,3,4,5,6,7,8,9,10,12,35] ?_|refine st2 ?_|(show CallQ ..;first|refine cQ (fun hcc=>(by first | exact c1 _ | exact c2 _ | exact c3 _ | exact c4 _ | exact c5 _)) ?_|(refine lP ?_;refine lQ (fun hcc m=>(by first | exact c1 _ | exact c2 _ | exact c3 _ | exact c4 _ | exact c5 _)) ?_))|refine fctI fun hf=>?_|(show CondG ..;first|refine cBG (fun hc=>?_) (fun hc=>?_)|refine cUG ?_ ?_)));(refine lN [0, 8, 16, 24, 32, 40] ?_);exact ⟨_, by omega, i + 1, N2, q2 + 1, r3, by omega, rfl, n3, rfl, by rw [hnx.1, hnx.2]; rfl⟩
  obtain rfl : i = 128 := by omega
  have hi3 : ¬ ((128 : Int) < 128) := by omega
  (have:=NeI hi3);obtain ⟨e1, e2⟩ := g3.fin;rw [<- e1, <- e2];clear g3 I0 e1 e2;(repeat' (first|refine swp_seq [0,1,2,3,4,5,6,7,8,9,10,12,35] ?_|(show SWp _ _ _ (.region _ _ true) _ _ _ _;refine xG mixed [16, 24] ?_)|refine st2 ?_|refine fctI fun hf=>?_|(show CondG ..;first|refine cBG (fun hc=>?_) (fun hc=>?_)|refine cUG ?_ ?_)));exact DVR
set_option maxHeartbeats 4000000 in
theorem downN_f (A b : Nat) (m : Nat) (hA : A < 340282366920938463463374607431768211456) (hb : 0 < b /\ b < 4611686018427387904) :
    DCalls Tryz.prog 242 [nN A, nuD 0 b false] (hget []) m (nN (A / b)) (hget []) := by
  have cd := fun m => rdivN_f A b m hA hb
  generalize A / b = Q at *
  generalize A % b = R at *
  refine pureC (n := 33) (rs := [.cell 4 248]) (ts := [248]) Tryz.func242 rfl (by decide) [] (by (exact SD)) ?_;(repeat' (first|refine swp_seq [0,1,2,3,4,5,6,7,26] ?_|refine st2 ?_|(show CallQ ..;first|refine cQ (fun hcc=>(by first | exact cd _ | exact made_f _ _ _)) ?_|(refine lP ?_;refine lQ (fun hcc m=>(by first | exact cd _ | exact made_f _ _ _)) ?_))|refine fctI fun hf=>?_|(show CondG ..;first|refine cBG (fun hc=>?_) (fun hc=>?_)|refine cUG ?_ ?_)));exact DVR
set_option maxRecDepth 20000 in
set_option maxHeartbeats 4000000 in
theorem rroot_f (N : Nat) (m : Nat) (hN : N < 85070591730234615865843651857942052864) : DCalls Tryz.prog 298 [uN N] (hget []) m (lu (rt N)) (hget []) := by
  have hrt := rt_lt hN;refine pureC (n := 24) (rs := [.tmp 2]) (ts := [191]) Tryz.func298 rfl (by decide) [] (by (exact SD)) ?_;(repeat' (first|refine swp_seq [0,1,2,3,4,5,7,21] ?_|refine st2 ?_|refine fctI fun hf=>?_|(show CondG ..;first|refine cBG (fun hc=>?_) (fun hc=>?_)|refine cUG ?_ ?_)));refine loop_swp [1, 3, 4] [0] 1 (fun q A H => ∃ k r : Nat, k <= 63 /\ q = k /\ RtI N k r /\ A = [(1, .ptr 0 0), (3, lu r), (4, li ((63 - k : Nat) : Int))] /\ H = [(0, .blk 225 [lu (hiN N), lu (loN N)])]) (by omega) ?_ ?_ ?_
  · rintro q A H ⟨k, r, g0, g1, g2, rfl, rfl⟩;exact SDD
  · refine ⟨_, 63, 0, by omega, rfl, RtI.init N, ?_, ?_⟩
    · exact DVR
    · exact DVR
  rintro q A H ⟨k, r, g0, g1, g2, rfl, rfl⟩;cases k with
  | zero =>
    have er := g2.fin;subst er;have hz : ¬ ((63 : Int) < 63) := by omega
    (have:=NeI hz);(repeat' (first|refine swp_seq [0,1,2,3,4,5,7,21] ?_|refine st2 ?_|refine fctI fun hf=>?_|(show CondG ..;first|refine cBG (fun hc=>?_) (fun hc=>?_)|refine cUG ?_ ?_)));exact DVR
  | succ k =>
    obtain ⟨s, hs, hs1, hk1, ho, n1, n2⟩ := g2.step;have cm := fun m => rmul_f s s (hiN (s * s)) (loN (s * s)) m (by omega) (by omega) (hl_eq _) (loN_lt _)
    have cl := fun m => less_f N (s * s) m
    obtain ⟨i, hi⟩ : ∃ i, 63 - (k + 1) = i := ⟨_, rfl⟩;rw [hi];have hik : i < 63 := by omega
    have hi3 : (i : Int) < 63 := by omega
    (have:=NeI hi3);have e62 : IntKind.u64.wrap (62 - (i : Int)) = (k : Int) := by rw [u64w]; omega
    have esh : IntKind.u64.wrap ((r : Int) + IntKind.u64.wrap (1 * 2 ^ min k IntKind.u64.bits)) = (s : Int) := by
      have h1 : IntKind.u64.wrap (((1 : Nat) : Int) * 2 ^ min k IntKind.u64.bits) = ((1 * 2 ^ k : Nat) : Int) := shl64 1 k (by omega) (by rw [Nat.one_mul]; omega);have h2 : IntKind.u64.wrap (1 * 2 ^ min k IntKind.u64.bits) = ((2 ^ k : Nat) : Int) := by rw [Nat.one_mul] at h1; exact h1
      rw [h2, u64w]; omega
    clear hs ho g2;obtain ⟨M, hM⟩ : ∃ M, s * s = M := ⟨_, rfl⟩;rw [hM] at cm cl n1 n2;clear hM;(repeat' (first|(show SWp _ _ _ (.seq (.region 6 _ _) _) _ _ _ _;refine (stop_in ?_))|refine swp_seq [0,1,2,3,4,5,7,21] ?_|(show SWp _ _ _ (.region _ _ true) _ _ _ _;refine xG mixed [] ?_)|refine st2 ?_|(show CallQ ..;first|refine cQ (fun hcc=>(by fail)) ?_|(refine lP ?_;refine lQ (fun hcc m=>(by fail)) ?_))|(show XCallQ ..;first|refine xQ (fun hcc=>(by fail)) ?_|(refine xlP ?_;refine xlQ (fun hcc m=>(by fail)) ?_))|refine fctI fun hf=>?_|(show CondG ..;first|refine cBG (fun hc=>?_) (fun hc=>?_)|refine cUG ?_ ?_)));refine stop_out ?_;rw [e62, Int.toNat_natCast, esh];have hni : ((63 - k : Nat) : Int) = (i : Int) + 1 := by omega
    by_cases hle : M <= N
    · rw [decide_eq_false (by omega)] at cl;(repeat' (first|refine swp_seq [0,1,2,3,4,5,7,21] ?_|refine st2 ?_|(show XCallQ ..;first|refine xQ (fun hcc=>(by first | exact cm _ | exact cl _)) ?_|(refine xlP ?_;refine xlQ (fun hcc m=>(by first | exact cm _ | exact cl _)) ?_))|refine fctI fun hf=>?_|(show CondG ..;first|refine cBG (fun hc=>?_) (fun hc=>?_)|refine cUG ?_ ?_)));(refine lN [0] ?_);exact ⟨_, by omega, k, s, by omega, rfl, n1 hle, by rw [hni]; rfl, rfl⟩
    · rw [decide_eq_true (by omega)] at cl;(repeat' (first|refine swp_seq [0,1,2,3,4,5,7,21] ?_|refine st2 ?_|(show XCallQ ..;first|refine xQ (fun hcc=>(by first | exact cm _ | exact cl _)) ?_|(refine xlP ?_;refine xlQ (fun hcc m=>(by first | exact cm _ | exact cl _)) ?_))|refine fctI fun hf=>?_|(show CondG ..;first|refine cBG (fun hc=>?_) (fun hc=>?_)|refine cUG ?_ ?_)));(refine lN [0] ?_);exact ⟨_, by omega, k, r, by omega, rfl, n2 hle, by rw [hni]; rfl, rfl⟩
def capaN (s : Sect) (y fall len : Nat) : Nat := rt ((floorT s.conv y).toNat * (floorT s.conv y).toNat * fall / len)
def bigB (q : Nat) : Bool := decide (1099511627776 < q)
def limI (q : Nat) : Int := if bigB q then 1099511627776 else q
theorem fitT_in {t : List Knot} {h most : Int} (k : fitT t h most = true) : tabB t = true /\ (t.getD 0 default).x = 0 /\ (t.getD 0 default).y = 0 /\ (t.getD (t.length - 1) default).x = h /\ (t.getD (t.length - 1) default).y <= most := by
  unfold fitT at k; simp only [Bool.and_eq_true, decide_eq_true_eq] at k;exact ⟨k.1.1.1.1, k.1.1.1.2, k.1.1.2, k.1.2, k.2⟩
structure SecIn (s : Sect) : Prop where
  h1 : 1 <= s.height
  h2 : s.height <= 32768
  conv : fitT s.conv s.height 1099511627776 = true
theorem secB_in {s : Sect} (h : secB s = true) : SecIn s := by
  unfold secB at h; simp only [Bool.and_eq_true, decide_eq_true_eq] at h;exact ⟨h.1.1.1.1.1.2, h.1.1.1.1.2, h.2⟩
theorem conv_in {s : Sect} (h : secB s = true) (y : Int) : 0 <= floorT s.conv y /\ floorT s.conv y <= 1099511627776 := by
  have k := fitT_in (secB_in h).conv;have := floorT_in (x := y) k.1;omega
theorem cap_fits {k fall : Nat} (h1 : k <= 1099511627776) (h2 : fall <= 4194304) : k * k <= 1208925819614629174706176 /\ k * k * fall <= 5070602400912917605986812821504 := by
  have a := Nat.mul_le_mul h1 h1;exact ⟨a, Nat.mul_le_mul a h2⟩
theorem slope_f (a b : Int) (m : Nat) (h : (0 <= a /\ a <= 4194304) /\ 1 <= b /\ b <= 16777216) : DCalls Tryz.prog 266 [li a, li b] (hget []) m (lb true) (hget []) := by
  obtain ⟨⟨h1, h2⟩, h3, h4⟩ := h;(have:=NeI h1);(have:=NeI h2);(have:=NeI h3);(have:=NeI h4);refine pureC (n := 19) (rs := [.tmp 4]) (ts := [4]) Tryz.func266 rfl (by decide) [] (by (exact SD)) ?_;(repeat' (first|refine swp_seq [0,1,4] ?_|refine st2 ?_|refine fctI fun hf=>?_|(show CondG ..;first|refine cBG (fun hc=>?_) (fun hc=>?_)|refine cUG ?_ ?_)));exact DVR
theorem rSlope_f (a b : Int) (m : Nat) (h : (0 <= a /\ a <= 4194304) /\ 1 <= b /\ b <= 16777216) : DCalls Tryz.prog 288 [li a, li b] (hget []) m (lb true) (hget []) := by
  obtain ⟨⟨h1, h2⟩, h3, h4⟩ := h;(have:=NeI h1);(have:=NeI h2);(have:=NeI h3);(have:=NeI h4);refine pureC (n := 19) (rs := [.tmp 4]) (ts := [4]) Tryz.func288 rfl (by decide) [] (by (exact SD)) ?_;(repeat' (first|refine swp_seq [0,1,4] ?_|refine st2 ?_|refine fctI fun hf=>?_|(show CondG ..;first|refine cBG (fun hc=>?_) (fun hc=>?_)|refine cUG ?_ ?_)));exact DVR
set_option maxHeartbeats 1000000 in
theorem carried_f (s : Sect) (y fall len : Nat) (m : Nat) (h : secB s = true) (hy : y <= 32768) (hf : fall <= 4194304) (hl : 1 <= len /\ len <= 16777216) : DCalls Tryz.prog 267 [sectD s, li y, li fall, li len] (hget []) m (.tup [li (capaN s y fall len), li 0]) (hget []) := by
  have hc := conv_in h y;have cf := fun m => floor_f s.conv y m (fitT_in (secB_in h).conv).1 (by unfold i64ok; omega)
  unfold capaN;obtain ⟨k, hk⟩ : ∃ k : Nat, floorT s.conv y = (k : Int) := ⟨(floorT s.conv y).toNat, by omega⟩;rw [hk] at cf hc ⊢;rw [Int.toNat_natCast];have hk1 : k <= 1099511627776 := by omega
  have hb := cap_fits hk1 hf;have c1 := fun m => cproduct_f k k m (by omega) (by omega)
  have c2 := fun m => ctimes_f (k * k) fall m (by omega) (by omega)
  have c3 := fun m => cover_f (k * k * fall) len m (by omega) (by omega) (by omega)
  have hle := Nat.div_le_self (k * k * fall) len;have c4 := fun m => croot_f (k * k * fall / len) m (by omega)
  clear hle hb;generalize k * k * fall / len = z at *
  generalize k * k * fall = z2 at *
  generalize k * k = z3 at *
  refine pureC (n := 30) (rs := [.tmp 8, .tmp 9]) (ts := [3, 37]) Tryz.func267 rfl (by decide) [] (by (exact SD)) ?_;(repeat' (first|refine swp_seq [0,1,2,3,4,8,9,10,11,20] ?_|refine st2 ?_|(show CallQ ..;first|refine cQ (fun hcc=>(by first | exact cf _ | exact c1 _ | exact c2 _ | exact c3 _ | exact c4 _)) ?_|(refine lP ?_;refine lQ (fun hcc m=>(by first | exact cf _ | exact c1 _ | exact c2 _ | exact c3 _ | exact c4 _)) ?_))|refine fctI fun hf=>?_|(show CondG ..;first|refine cBG (fun hc=>?_) (fun hc=>?_)|refine cUG ?_ ?_)));exact DVR
theorem root28_f (a b n : Nat) (m : Nat) (ha : a < 9223372036854775808) (hb : b < 9223372036854775808) (hn : 0 < n /\ n < 9223372036854775808 / 2) (h : a * b < 85070591730234615865843651857942052864) : DCalls Tryz.prog 297 [li a, li b, li n] (hget []) m (li (rt (a * b / n))) (hget []) := by
  have c1 := fun m => rtimes_f a b (hiN (a * b)) (loN (a * b)) m ha hb (hl_eq _) (loN_lt _)
  have c2 := fun m => ofInt_f n m (by omega)
  have c3 := fun m => downN_f (a * b) n m (by omega) (by omega)
  have hle := Nat.div_le_self (a * b) n;have hz : a * b / n < 85070591730234615865843651857942052864 := by omega
  have c4 := fun m => rroot_f (a * b / n) m hz
  have hr := rt_lt hz;clear hle h hz;generalize a * b / n = z at *
  generalize a * b = z2 at *
  generalize rt z = r at *
  (have:=NeI hr);refine pureC (n := 18) (rs := [.tmp 6]) (ts := [3]) Tryz.func297 rfl (by decide) [] (by (exact SD)) ?_;(repeat' (first|refine swp_seq [0,1,2,6,7] ?_|refine st2 ?_|(show CallQ ..;first|refine cQ (fun hcc=>(by first | exact c1 _ | exact c2 _ | exact c3 _ | exact c4 _)) ?_|(refine lP ?_;refine lQ (fun hcc m=>(by first | exact c1 _ | exact c2 _ | exact c3 _ | exact c4 _)) ?_))|refine fctI fun hf=>?_|(show CondG ..;first|refine cBG (fun hc=>?_) (fun hc=>?_)|refine cUG ?_ ?_)));exact DVR
set_option maxHeartbeats 1000000 in
theorem rCarried_f (s : Sect) (y fall len : Nat) (m : Nat) (h : secB s = true) (hy : y <= 32768) (hf : fall <= 4194304) (hl : 1 <= len /\ len <= 16777216) : DCalls Tryz.prog 289 [sectD s, li y, li fall, li len] (hget []) m (li (capaN s y fall len)) (hget []) := by
  have hc := conv_in h y;have cf := fun m => rfloor_f s.conv y m (fitT_in (secB_in h).conv).1 (by unfold i64ok; omega)
  unfold capaN;obtain ⟨k, hk⟩ : ∃ k : Nat, floorT s.conv y = (k : Int) := ⟨(floorT s.conv y).toNat, by omega⟩;rw [hk] at cf hc ⊢;rw [Int.toNat_natCast];have hk1 : k <= 1099511627776 := by omega
  have hb := cap_fits hk1 hf;have hkf : k * fall <= 4611686018427387904 := Nat.mul_le_mul hk1 hf;have hm : (k : Int) * (fall : Int) = ((k * fall : Nat) : Int) := (Int.natCast_mul _ _).symm;have c1 := fun m => root28_f k (k * fall) len m (by omega) (by omega) (by omega) (by rw [<- Nat.mul_assoc]; omega)
  rw [<- Nat.mul_assoc] at c1;generalize rt (k * k * fall / len) = z at *
  have hkf2 : 0 <= (k : Int) * (fall : Int) /\ (k : Int) * (fall : Int) <= 4611686018427387904 := by rw [hm]; omega
  have c2 : ∀ m, DCalls Tryz.prog 297 [li k, li ((k : Int) * (fall : Int)), li len] (hget []) m (li z) (hget []) := by rw [hm]; exact c1
  clear hm c1 hb hkf;refine pureC (n := 20) (rs := [.tmp 8]) (ts := [3]) Tryz.func289 rfl (by decide) [] (by (exact SD)) ?_;(repeat' (first|(show SWp _ _ _ (.seq (.region 2 _ _) _) _ _ _ _;refine (stop_in ?_))|refine swp_seq [0,1,2,3,4,8,9] ?_|refine st2 ?_|(show CallQ ..;first|refine cQ (fun hcc=>(by first | exact cf _)) ?_|(refine lP ?_;refine lQ (fun hcc m=>(by first | exact cf _)) ?_))|refine fctI fun hf=>?_|(show CondG ..;first|refine cBG (fun hc=>?_) (fun hc=>?_)|refine cUG ?_ ?_)));refine stop_out ?_;(repeat' (first|refine swp_seq [0,1,2,3,4,8,9] ?_|refine st2 ?_|(show CallQ ..;first|refine cQ (fun hcc=>(by first | exact c2 _)) ?_|(refine lP ?_;refine lQ (fun hcc m=>(by first | exact c2 _)) ?_))|refine fctI fun hf=>?_|(show CondG ..;first|refine cBG (fun hc=>?_) (fun hc=>?_)|refine cUG ?_ ?_)));exact DVR
def capI (q : Nat) : Int := if bigB q then 0 else q
def capE (q : Nat) : Int := if bigB q then 5 else 0
set_option maxHeartbeats 1000000 in
theorem capacity28_f (s : Sect) (y fall len : Nat) (m : Nat) (hs : sectOk s) (h : secB s = true) (hy : (y : Int) <= s.height) (hf : fall <= 4194304) (hl : 1 <= len /\ len <= 16777216) : DCalls Tryz.prog 245 [sectD s, li y, li fall, li len] (hget []) m (.tup [li (capI (capaN s y fall len)), li (capE (capaN s y fall len))]) (hget []) := by
  have hin := secB_in h;have hh := hin.h2;have cv := fun m => sect_f s m hs
  rw [h] at cv;have c1 := fun m => slope_f fall len m (by omega)
  have c2 := fun m => carried_f s y fall len m h (by omega) hf hl
  generalize capaN s y fall len = q at *
  have y0 : ¬ ((y : Int) < 0) := by omega
  have y1 : ¬ (s.height < (y : Int)) := by omega
  (have:=NeI y0);(have:=NeI y1);clear hin hl hf h;unfold capI capE bigB;by_cases hb : (1099511627776 : Int) < (q : Int)
  · (have:=NeI hb);rw [decide_eq_true (by omega)];refine pureC (n := 47) (rs := [.tmp 8, .tmp 9]) (ts := [3, 37]) Tryz.func245 rfl (by decide) [] (by (exact SD)) ?_;(repeat' (first|refine swp_seq [0,1,2,3,4,8,9,10,11,12,16,39,43] ?_|refine st2 ?_|(show CallQ ..;first|refine cQ (fun hcc=>(by first | exact cv _ | exact c1 _ | exact c2 _)) ?_|(refine lP ?_;refine lQ (fun hcc m=>(by first | exact cv _ | exact c1 _ | exact c2 _)) ?_))|refine fctI fun hf=>?_|(show CondG ..;first|refine cBG (fun hc=>?_) (fun hc=>?_)|refine cUG ?_ ?_)));exact DVR
  · (have:=NeI hb);rw [decide_eq_false (by omega)];refine pureC (n := 47) (rs := [.tmp 8, .tmp 9]) (ts := [3, 37]) Tryz.func245 rfl (by decide) [] (by (exact SD)) ?_;(repeat' (first|refine swp_seq [0,1,2,3,4,8,9,10,11,12,16,39,43] ?_|refine st2 ?_|(show CallQ ..;first|refine cQ (fun hcc=>(by first | exact cv _ | exact c1 _ | exact c2 _)) ?_|(refine lP ?_;refine lQ (fun hcc m=>(by first | exact cv _ | exact c1 _ | exact c2 _)) ?_))|refine fctI fun hf=>?_|(show CondG ..;first|refine cBG (fun hc=>?_) (fun hc=>?_)|refine cUG ?_ ?_)));exact DVR
set_option maxHeartbeats 1000000 in
theorem rCapacity28_f (s : Sect) (y fall len : Nat) (m : Nat) (hs : sectOk s) (h : secB s = true) (hy : (y : Int) <= s.height) (hf : fall <= 4194304) (hl : 1 <= len /\ len <= 16777216) : DCalls Tryz.prog 275 [sectD s, li y, li fall, li len] (hget []) m (.tup [li (capI (capaN s y fall len)), li (capE (capaN s y fall len))]) (hget []) := by
  have hin := secB_in h;have hh := hin.h2;have cv := fun m => rSect_f s m hs
  rw [h] at cv;have c1 := fun m => rSlope_f fall len m (by omega)
  have c2 := fun m => rCarried_f s y fall len m h (by omega) hf hl
  generalize capaN s y fall len = q at *
  have y0 : ¬ ((y : Int) < 0) := by omega
  have y1 : ¬ (s.height < (y : Int)) := by omega
  (have:=NeI y0);(have:=NeI y1);clear hin hl hf h;unfold capI capE bigB;by_cases hb : (1099511627776 : Int) < (q : Int)
  · (have:=NeI hb);rw [decide_eq_true (by omega)];refine pureC (n := 36) (rs := [.tmp 8, .tmp 9]) (ts := [3, 3]) Tryz.func275 rfl (by decide) [] (by (exact SD)) ?_;(repeat' (first|refine swp_seq [0,1,2,3,4,8,9,10,13,27,34] ?_|refine st2 ?_|(show CallQ ..;first|refine cQ (fun hcc=>(by first | exact cv _ | exact c1 _ | exact c2 _)) ?_|(refine lP ?_;refine lQ (fun hcc m=>(by first | exact cv _ | exact c1 _ | exact c2 _)) ?_))|refine fctI fun hf=>?_|(show CondG ..;first|refine cBG (fun hc=>?_) (fun hc=>?_)|refine cUG ?_ ?_)));exact DVR
  · (have:=NeI hb);rw [decide_eq_false (by omega)];refine pureC (n := 36) (rs := [.tmp 8, .tmp 9]) (ts := [3, 3]) Tryz.func275 rfl (by decide) [] (by (exact SD)) ?_;(repeat' (first|refine swp_seq [0,1,2,3,4,8,9,10,13,27,34] ?_|refine st2 ?_|(show CallQ ..;first|refine cQ (fun hcc=>(by first | exact cv _ | exact c1 _ | exact c2 _)) ?_|(refine lP ?_;refine lQ (fun hcc m=>(by first | exact cv _ | exact c1 _ | exact c2 _)) ?_))|refine fctI fun hf=>?_|(show CondG ..;first|refine cBG (fun hc=>?_) (fun hc=>?_)|refine cUG ?_ ?_)));exact DVR
theorem limited_f (q : Nat) (m : Nat) : DCalls Tryz.prog 228 [li (capI q), li (capE q)] (hget []) m (.tup [li (limI q), li 0]) (hget []) := by
  unfold capI capE limI;cases bigB q
  · refine pureC (n := 10) (rs := [.tmp 4, .tmp 5]) (ts := [3, 37]) Tryz.func228 rfl (by decide) [] (by (exact SD)) ?_;(repeat' (first|refine swp_seq [0,1,4,5,7] ?_|refine st2 ?_|refine fctI fun hf=>?_|(show CondG ..;first|refine cBG (fun hc=>?_) (fun hc=>?_)|refine cUG ?_ ?_)));exact DVR
  · refine pureC (n := 10) (rs := [.tmp 4, .tmp 5]) (ts := [3, 37]) Tryz.func228 rfl (by decide) [] (by (exact SD)) ?_;(repeat' (first|refine swp_seq [0,1,4,5,7] ?_|refine st2 ?_|refine fctI fun hf=>?_|(show CondG ..;first|refine cBG (fun hc=>?_) (fun hc=>?_)|refine cUG ?_ ?_)));exact DVR
theorem rflow34_f (q : Nat) (m : Nat) : DCalls Tryz.prog 257 [li (capI q), li (capE q)] (hget []) m (li (limI q)) (hget []) := by
  unfold capI capE limI;cases bigB q
  · refine pureC (n := 8) (rs := [.tmp 4]) (ts := [3]) Tryz.func257 rfl (by decide) [] (by (exact SD)) ?_;(repeat' (first|refine swp_seq [0,1,4,6] ?_|refine st2 ?_|refine fctI fun hf=>?_|(show CondG ..;first|refine cBG (fun hc=>?_) (fun hc=>?_)|refine cUG ?_ ?_)));exact DVR
  · refine pureC (n := 8) (rs := [.tmp 4]) (ts := [3]) Tryz.func257 rfl (by decide) [] (by (exact SD)) ?_;(repeat' (first|refine swp_seq [0,1,4,6] ?_|refine st2 ?_|refine fctI fun hf=>?_|(show CondG ..;first|refine cBG (fun hc=>?_) (fun hc=>?_)|refine cUG ?_ ?_)));exact DVR
theorem owithin_f (n lo hi : Int) (m : Nat) : DCalls Tryz.prog 252 [li n, li lo, li hi] (hget []) m (lb (btwB n lo hi)) (hget []) := by
  refine pureC (n := 15) (rs := [.tmp 6]) (ts := [4]) Tryz.func252 rfl (by decide) [] (by (exact SD)) ?_;(repeat' (first|refine swp_seq [0,1,2,6] ?_|refine st2 ?_|refine fctI fun hf=>?_|(show CondG ..;first|refine cBG (fun hc=>?_) (fun hc=>?_)|refine cUG ?_ ?_)));exact DVR
theorem olevel_f (n : Int) (m : Nat) : DCalls Tryz.prog 247 [li n] (hget []) m (lb (levB n)) (hget []) := by
  refine pureC (n := 5) (rs := [.tmp 2]) (ts := [4]) Tryz.func247 rfl (by decide) [] (by (exact SD)) ?_;(repeat' (first|refine swp_seq [0,2] ?_|refine st2 ?_|(show CallQ ..;first|refine cQ (fun hcc=>(owithin_f _ _ _ _)) ?_|(refine lP ?_;refine lQ (fun hcc m=>(owithin_f _ _ _ _)) ?_))|refine fctI fun hf=>?_|(show CondG ..;first|refine cBG (fun hc=>?_) (fun hc=>?_)|refine cUG ?_ ?_)));exact DVR
theorem rLevel32_f (n : Int) (m : Nat) : DCalls Tryz.prog 277 [li n] (hget []) m (lb (levB n)) (hget []) := by
  refine pureC (n := 9) (rs := [.tmp 2]) (ts := [4]) Tryz.func277 rfl (by decide) [] (by (exact SD)) ?_;(repeat' (first|refine swp_seq [0,2] ?_|refine st2 ?_|refine fctI fun hf=>?_|(show CondG ..;first|refine cBG (fun hc=>?_) (fun hc=>?_)|refine cUG ?_ ?_)));exact DVR
def weirB (x : Link) : Bool := decide (x.kind = 2) && levB x.up && btwB x.width 1 1048576
def gateB (x : Link) : Bool := decide (x.kind = 3) && levB x.up && btwB x.width 1 32768 && btwB x.height 1 32768
theorem isWeir_f (x : Link) (m : Nat) : DCalls Tryz.prog 246 [linkD x] (hget []) m (lb (weirB x)) (hget []) := by
  refine pureC (n := 16) (rs := [.tmp 2]) (ts := [4]) Tryz.func246 rfl (by decide) [] (by (exact SD)) ?_;(repeat' (first|refine swp_seq [0,1,2] ?_|refine st2 ?_|(show CallQ ..;first|refine cQ (fun hcc=>(by first | exact owithin_f _ _ _ _ | exact olevel_f _ _)) ?_|(refine lP ?_;refine lQ (fun hcc m=>(by first | exact owithin_f _ _ _ _ | exact olevel_f _ _)) ?_))|refine fctI fun hf=>?_|(show CondG ..;first|refine cBG (fun hc=>?_) (fun hc=>?_)|refine cUG ?_ ?_)));(refine DVQ ?_);refine lbC ?_;unfold weirB;rw [Bool.eq_iff_iff]; simp
theorem isGate_f (x : Link) (m : Nat) : DCalls Tryz.prog 251 [linkD x] (hget []) m (lb (gateB x)) (hget []) := by
  refine pureC (n := 21) (rs := [.tmp 2]) (ts := [4]) Tryz.func251 rfl (by decide) [] (by (exact SD)) ?_;(repeat' (first|refine swp_seq [0,1,2] ?_|refine st2 ?_|(show CallQ ..;first|refine cQ (fun hcc=>(by first | exact owithin_f _ _ _ _ | exact olevel_f _ _)) ?_|(refine lP ?_;refine lQ (fun hcc m=>(by first | exact owithin_f _ _ _ _ | exact olevel_f _ _)) ?_))|refine fctI fun hf=>?_|(show CondG ..;first|refine cBG (fun hc=>?_) (fun hc=>?_)|refine cUG ?_ ?_)));(refine DVQ ?_);refine lbC ?_;unfold gateB;rw [Bool.eq_iff_iff]; simp
theorem rIsWeir_f (x : Link) (m : Nat) : DCalls Tryz.prog 276 [linkD x] (hget []) m (lb (weirB x)) (hget []) := by
  refine pureC (n := 21) (rs := [.tmp 2]) (ts := [4]) Tryz.func276 rfl (by decide) [] (by (exact SD)) ?_;(repeat' (first|refine swp_seq [0,1,2] ?_|refine st2 ?_|(show CallQ ..;first|refine cQ (fun hcc=>(rLevel32_f _ _)) ?_|(refine lP ?_;refine lQ (fun hcc m=>(rLevel32_f _ _)) ?_))|refine fctI fun hf=>?_|(show CondG ..;first|refine cBG (fun hc=>?_) (fun hc=>?_)|refine cUG ?_ ?_)));(refine DVQ ?_);refine lbC ?_;unfold weirB btwB;rw [Bool.eq_iff_iff]; simp [and_assoc]
theorem rIsGate_f (x : Link) (m : Nat) : DCalls Tryz.prog 280 [linkD x] (hget []) m (lb (gateB x)) (hget []) := by
  refine pureC (n := 31) (rs := [.tmp 2]) (ts := [4]) Tryz.func280 rfl (by decide) [] (by (exact SD)) ?_;(repeat' (first|refine swp_seq [0,1,2] ?_|refine st2 ?_|(show CallQ ..;first|refine cQ (fun hcc=>(rLevel32_f _ _)) ?_|(refine lP ?_;refine lQ (fun hcc m=>(rLevel32_f _ _)) ?_))|refine fctI fun hf=>?_|(show CondG ..;first|refine cBG (fun hc=>?_) (fun hc=>?_)|refine cUG ?_ ?_)));(refine DVQ ?_);refine lbC ?_;unfold gateB btwB;rw [Bool.eq_iff_iff]; simp [and_assoc]
def headI (x : Link) (up down : Int) : Int := if 0 < up - (if down < x.up then x.up else down) then up - (if down < x.up then x.up else down) else 0
theorem lev_in {n : Int} (h : levB n = true) : -4194304 <= n /\ n <= 4194304 := by unfold levB at h; simpa using h
theorem btwB_in {n a b : Int} (h : btwB n a b = true) : a <= n /\ n <= b := by unfold btwB at h; simpa using h
theorem head_f (x : Link) (up down : Int) (m : Nat) (h1 : levB x.up = true) (h2 : levB up = true) (h3 : levB down = true) : DCalls Tryz.prog 248 [linkD x, li up, li down] (hget []) m (li (headI x up down)) (hget []) := by
  have a1 := lev_in h1;have a2 := lev_in h2;have a3 := lev_in h3;refine pureC (n := 14) (rs := [.tmp 6]) (ts := [3]) Tryz.func248 rfl (by decide) [] (by (exact SD)) ?_;(repeat' (first|refine swp_seq [0,1,2,3,6] ?_|refine st2 ?_|refine fctI fun hf=>?_|(show CondG ..;first|refine cBG (fun hc=>?_) (fun hc=>?_)|refine cUG ?_ ?_)));exact DVR
theorem headI_in {x : Link} {up down : Int} (h1 : levB x.up = true) (h2 : levB up = true) (h3 : levB down = true) : 0 <= headI x up down /\ headI x up down <= 8388608 := by
  have a1 := lev_in h1;have a2 := lev_in h2;have a3 := lev_in h3;unfold headI;split <;> split at * <;> omega
set_option maxHeartbeats 1000000 in
theorem rBetween32_f (x : Link) (up down : Int) (m : Nat) (h1 : levB x.up = true) (h2 : levB up = true) (h3 : levB down = true) : DCalls Tryz.prog 278 [linkD x, li up, li down] (hget []) m (li (headI x up down)) (hget []) := by
  have a1 := lev_in h1;have a2 := lev_in h2;have a3 := lev_in h3;clear h1 h2 h3;unfold headI;by_cases h : down < x.up
  · (have:=NeI h);rw [if_pos h];by_cases k : up <= x.up
    · (have:=NeI k);rw [if_neg (by omega)];refine pureC (n := 19) (rs := [.tmp 6]) (ts := [3]) Tryz.func278 rfl (by decide) [] (by (exact SD)) ?_;(repeat' (first|refine swp_seq [0,1,2,3,6,10,15] ?_|refine st2 ?_|refine fctI fun hf=>?_|(show CondG ..;first|refine cBG (fun hc=>?_) (fun hc=>?_)|refine cUG ?_ ?_)));exact DVR
    · (have:=NeI k);rw [if_pos (by omega)];refine pureC (n := 19) (rs := [.tmp 6]) (ts := [3]) Tryz.func278 rfl (by decide) [] (by (exact SD)) ?_;(repeat' (first|refine swp_seq [0,1,2,3,6,10,15] ?_|refine st2 ?_|refine fctI fun hf=>?_|(show CondG ..;first|refine cBG (fun hc=>?_) (fun hc=>?_)|refine cUG ?_ ?_)));exact DVR
  · (have:=NeI h);rw [if_neg h];by_cases k : up <= down
    · (have:=NeI k);rw [if_neg (by omega)];refine pureC (n := 19) (rs := [.tmp 6]) (ts := [3]) Tryz.func278 rfl (by decide) [] (by (exact SD)) ?_;(repeat' (first|refine swp_seq [0,1,2,3,6,10,15] ?_|refine st2 ?_|refine fctI fun hf=>?_|(show CondG ..;first|refine cBG (fun hc=>?_) (fun hc=>?_)|refine cUG ?_ ?_)));exact DVR
    · (have:=NeI k);rw [if_pos (by omega)];refine pureC (n := 19) (rs := [.tmp 6]) (ts := [3]) Tryz.func278 rfl (by decide) [] (by (exact SD)) ?_;(repeat' (first|refine swp_seq [0,1,2,3,6,10,15] ?_|refine st2 ?_|refine fctI fun hf=>?_|(show CondG ..;first|refine cBG (fun hc=>?_) (fun hc=>?_)|refine cUG ?_ ?_)));exact DVR
def weirN (b h : Nat) : Nat := rt (b * b * (h * h) * h * 289 / 100000)
def orifN (a h : Nat) : Nat := rt (a * a * h * 8829 / 1250000)
theorem weir_fits {b h : Nat} (hb : b <= 1048576) (hh : h <= 1048576) : b * b <= 1099511627776 /\ h * h <= 1099511627776 /\ b * b * (h * h) <= 1208925819614629174706176 /\ b * b * (h * h) * h <= 1267650600228229401496703205376 /\ b * b * (h * h) * h * 289 <= 366351023465958297032547226353664 := by
  have a1 := Nat.mul_le_mul hb hb;have a2 := Nat.mul_le_mul hh hh;have a3 := Nat.mul_le_mul a1 a2;have a4 := Nat.mul_le_mul a3 hh;exact ⟨a1, a2, a3, a4, Nat.mul_le_mul_right 289 a4⟩
theorem orif_fits {a h : Nat} (ha : a <= 1073741824) (hh : h <= 1048576) : a * a <= 1152921504606846976 /\ a * a * h <= 1208925819614629174706176 /\ a * a * h * 8829 <= 10673606061377560983480827904 /\ a * h <= 1125899906842624 := by
  have a1 := Nat.mul_le_mul ha ha;have a2 := Nat.mul_le_mul a1 hh;exact ⟨a1, a2, Nat.mul_le_mul_right 8829 a2, Nat.mul_le_mul ha hh⟩
set_option maxHeartbeats 1000000 in
theorem oweir_f (b h : Nat) (m : Nat) (hb : b <= 1048576) (hh : h <= 1048576) : DCalls Tryz.prog 250 [li b, li h] (hget []) m (li (weirN b h)) (hget []) := by
  have hf := weir_fits hb hh;have e1 : (b : Int) * (b : Int) = ((b * b : Nat) : Int) := (Int.natCast_mul _ _).symm;have e2 : (h : Int) * (h : Int) = ((h * h : Nat) : Int) := (Int.natCast_mul _ _).symm;have hle := Nat.div_le_self (b * b * (h * h) * h * 289) 100000;have c1 := fun m => oproduct_f (b * b) (h * h) m (by omega) (by omega)
  have c2 := fun m => otimes_f (b * b * (h * h)) h m (by omega) (by omega)
  have c3 := fun m => otimes_f (b * b * (h * h) * h) 289 m (by omega) (by omega)
  have c4 := fun m => oover_f (b * b * (h * h) * h * 289) 100000 m (by omega) (by omega) (by omega)
  have c5 := fun m => oroot_f (b * b * (h * h) * h * 289 / 100000) m (by omega)
  have b1 : 0 <= (b : Int) * (b : Int) /\ (b : Int) * (b : Int) <= 1099511627776 := by rw [e1]; omega
  have b2 : 0 <= (h : Int) * (h : Int) /\ (h : Int) * (h : Int) <= 1099511627776 := by rw [e2]; omega
  have c0 : ∀ m, DCalls Tryz.prog 268 [li ((b : Int) * (b : Int)), li ((h : Int) * (h : Int))] (hget []) m (wiD (b * b * (h * h))) (hget []) := by rw [e1, e2]; exact c1
  clear c1 e1 e2 hle hf;unfold weirN;generalize b * b * (h * h) * h * 289 / 100000 = z at *
  generalize b * b * (h * h) * h * 289 = z2 at *
  generalize b * b * (h * h) * h = z3 at *
  generalize b * b * (h * h) = z4 at *
  refine pureC (n := 17) (rs := [.tmp 4]) (ts := [3]) Tryz.func250 rfl (by decide) [] (by (exact SD)) ?_;(repeat' (first|refine swp_seq [0,1,4] ?_|refine st2 ?_|(show CallQ ..;first|refine cQ (fun hcc=>(by first | exact c0 _ | exact c2 _ | exact c3 _ | exact c4 _ | exact c5 _)) ?_|(refine lP ?_;refine lQ (fun hcc m=>(by first | exact c0 _ | exact c2 _ | exact c3 _ | exact c4 _ | exact c5 _)) ?_))|refine fctI fun hf=>?_|(show CondG ..;first|refine cBG (fun hc=>?_) (fun hc=>?_)|refine cUG ?_ ?_)));exact DVR
set_option maxHeartbeats 1000000 in
theorem oorif_f (a h : Nat) (m : Nat) (ha : a <= 1073741824) (hh : h <= 1048576) : DCalls Tryz.prog 272 [li a, li h] (hget []) m (li (orifN a h)) (hget []) := by
  have hf := orif_fits ha hh;have hle := Nat.div_le_self (a * a * h * 8829) 1250000;have c1 := fun m => oproduct_f a a m (by omega) (by omega)
  have c2 := fun m => otimes_f (a * a) h m (by omega) (by omega)
  have c3 := fun m => otimes_f (a * a * h) 8829 m (by omega) (by omega)
  have c4 := fun m => oover_f (a * a * h * 8829) 1250000 m (by omega) (by omega) (by omega)
  have c5 := fun m => oroot_f (a * a * h * 8829 / 1250000) m (by omega)
  clear hle hf;unfold orifN;generalize a * a * h * 8829 / 1250000 = z at *
  generalize a * a * h * 8829 = z2 at *
  generalize a * a * h = z3 at *
  generalize a * a = z4 at *
  refine pureC (n := 13) (rs := [.tmp 4]) (ts := [3]) Tryz.func272 rfl (by decide) [] (by (exact SD)) ?_;(repeat' (first|refine swp_seq [0,1,4] ?_|refine st2 ?_|(show CallQ ..;first|refine cQ (fun hcc=>(by first | exact c1 _ | exact c2 _ | exact c3 _ | exact c4 _ | exact c5 _)) ?_|(refine lP ?_;refine lQ (fun hcc m=>(by first | exact c1 _ | exact c2 _ | exact c3 _ | exact c4 _ | exact c5 _)) ?_))|refine fctI fun hf=>?_|(show CondG ..;first|refine cBG (fun hc=>?_) (fun hc=>?_)|refine cUG ?_ ?_)));exact DVR
theorem oflow_f (q : Nat) (m : Nat) : DCalls Tryz.prog 249 [li q] (hget []) m (.tup [li (capI q), li (capE q)]) (hget []) := by
  unfold capI capE bigB;by_cases hb : (1099511627776 : Int) < (q : Int)
  · (have:=NeI hb);rw [decide_eq_true (by omega)];refine pureC (n := 7) (rs := [.tmp 2, .tmp 3]) (ts := [3, 37]) Tryz.func249 rfl (by decide) [] (by (exact SD)) ?_;(repeat' (first|refine swp_seq [0,2,3,5] ?_|refine st2 ?_|refine fctI fun hf=>?_|(show CondG ..;first|refine cBG (fun hc=>?_) (fun hc=>?_)|refine cUG ?_ ?_)));exact DVR
  · (have:=NeI hb);rw [decide_eq_false (by omega)];refine pureC (n := 7) (rs := [.tmp 2, .tmp 3]) (ts := [3, 37]) Tryz.func249 rfl (by decide) [] (by (exact SD)) ?_;(repeat' (first|refine swp_seq [0,2,3,5] ?_|refine st2 ?_|refine fctI fun hf=>?_|(show CondG ..;first|refine cBG (fun hc=>?_) (fun hc=>?_)|refine cUG ?_ ?_)));exact DVR
set_option maxHeartbeats 1000000 in
theorem root32_f (a b n : Nat) (m : Nat) (ha : a < 9223372036854775808) (hb : b < 9223372036854775808) (hn : 0 < n /\ n < 9223372036854775808 / 2) (h : a * b < 85070591730234615865843651857942052864) : DCalls Tryz.prog 290 [li a, li b, li n] (hget []) m (.tup [li (capI (rt (a * b / n))), li (capE (rt (a * b / n)))]) (hget []) := by
  have c1 := fun m => rtimes_f a b (hiN (a * b)) (loN (a * b)) m ha hb (hl_eq _) (loN_lt _)
  have c2 := fun m => ofInt_f n m (by omega)
  have c3 := fun m => downN_f (a * b) n m (by omega) (by omega)
  have hle := Nat.div_le_self (a * b) n;have hz : a * b / n < 85070591730234615865843651857942052864 := by omega
  have c4 := fun m => rroot_f (a * b / n) m hz
  have hr := rt_lt hz;clear hle h hz;generalize a * b / n = z at *
  generalize a * b = z2 at *
  generalize rt z = r at *
  (have:=NeI hr);unfold capI capE bigB;by_cases hb : (1099511627776 : Int) < (r : Int)
  · (have:=NeI hb);rw [decide_eq_true (by omega)];refine pureC (n := 23) (rs := [.tmp 6, .tmp 7]) (ts := [3, 3]) Tryz.func290 rfl (by decide) [] (by (exact SD)) ?_;(repeat' (first|refine swp_seq [0,1,2,6,7,8,9,20] ?_|refine st2 ?_|(show CallQ ..;first|refine cQ (fun hcc=>(by first | exact c1 _ | exact c2 _ | exact c3 _ | exact c4 _)) ?_|(refine lP ?_;refine lQ (fun hcc m=>(by first | exact c1 _ | exact c2 _ | exact c3 _ | exact c4 _)) ?_))|refine fctI fun hf=>?_|(show CondG ..;first|refine cBG (fun hc=>?_) (fun hc=>?_)|refine cUG ?_ ?_)));exact DVR
  · (have:=NeI hb);rw [decide_eq_false (by omega)];refine pureC (n := 23) (rs := [.tmp 6, .tmp 7]) (ts := [3, 3]) Tryz.func290 rfl (by decide) [] (by (exact SD)) ?_;(repeat' (first|refine swp_seq [0,1,2,6,7,8,9,20] ?_|refine st2 ?_|(show CallQ ..;first|refine cQ (fun hcc=>(by first | exact c1 _ | exact c2 _ | exact c3 _ | exact c4 _)) ?_|(refine lP ?_;refine lQ (fun hcc m=>(by first | exact c1 _ | exact c2 _ | exact c3 _ | exact c4 _)) ?_))|refine fctI fun hf=>?_|(show CondG ..;first|refine cBG (fun hc=>?_) (fun hc=>?_)|refine cUG ?_ ?_)));exact DVR
theorem weir_re (b h : Nat) : b * b * 289 * (h * h * h) = b * b * (h * h) * h * 289 := by
  rw [Nat.mul_right_comm (b * b) 289, <- Nat.mul_assoc]
theorem orif_re (a h : Nat) : a * 8829 * (a * h) = a * a * h * 8829 := by
  rw [Nat.mul_right_comm a 8829, <- Nat.mul_assoc]
set_option maxHeartbeats 1000000 in
theorem rWeir_f (b h : Nat) (m : Nat) (h0 : 1 <= b) (hb : b <= 1048576) (hh : h <= 1048576) : DCalls Tryz.prog 279 [li b, li h] (hget []) m (.tup [li (capI (weirN b h)), li (capE (weirN b h))]) (hget []) := by
  have hf := weir_fits hb hh;have hh3 : h * h * h <= 1152921504606846976 := Nat.mul_le_mul hf.2.1 hh;have g1 : ¬ ((b : Int) < 1) := by omega
  have g2 : ¬ ((1048576 : Int) < (b : Int)) := by omega
  have g3 : ¬ ((h : Int) < 0) := by omega
  have g4 : ¬ ((1048576 : Int) < (h : Int)) := by omega
  (have:=NeI g1);(have:=NeI g2);(have:=NeI g3);(have:=NeI g4);have c1 := fun m => root32_f (b * b * 289) (h * h * h) 100000 m (by omega) (by omega) (by omega) (by rw [weir_re]; omega)
  rw [weir_re] at c1;have e1 : (b : Int) * (b : Int) * 289 = ((b * b * 289 : Nat) : Int) := by rw [Int.natCast_mul, Int.natCast_mul]; rfl
  have e2 : (h : Int) * (h : Int) * (h : Int) = ((h * h * h : Nat) : Int) := by rw [Int.natCast_mul, Int.natCast_mul]
  have e3 : (b : Int) * (b : Int) = ((b * b : Nat) : Int) := (Int.natCast_mul _ _).symm;have e4 : (h : Int) * (h : Int) = ((h * h : Nat) : Int) := (Int.natCast_mul _ _).symm;have b1 : 0 <= (b : Int) * (b : Int) * 289 /\ (b : Int) * (b : Int) * 289 <= 317758860427264 := by rw [e1]; omega
  have b2 : 0 <= (h : Int) * (h : Int) * (h : Int) /\ (h : Int) * (h : Int) * (h : Int) <= 1152921504606846976 := by rw [e2]; omega
  have b3 : 0 <= (b : Int) * (b : Int) /\ (b : Int) * (b : Int) <= 1099511627776 := by rw [e3]; omega
  have b4 : 0 <= (h : Int) * (h : Int) /\ (h : Int) * (h : Int) <= 1099511627776 := by rw [e4]; omega
  have c0 : ∀ m, DCalls Tryz.prog 290 [li ((b : Int) * (b : Int) * 289), li ((h : Int) * (h : Int) * (h : Int)), li 100000] (hget []) m (.tup [li (capI (weirN b h)), li (capE (weirN b h))]) (hget []) := by rw [e1, e2]; exact c1
  clear c1 e1 e2 e3 e4 hf hh3;generalize weirN b h = z at *
  generalize capI z = z1 at *
  generalize capE z = z2 at *
  refine pureC (n := 32) (rs := [.tmp 4, .tmp 5]) (ts := [3, 3]) Tryz.func279 rfl (by decide) [] (by (exact SD)) ?_;(repeat' (first|refine swp_seq [0,1,4,5,19] ?_|refine st2 ?_|(show CallQ ..;first|refine cQ (fun hcc=>(by first | exact c0 _)) ?_|(refine lP ?_;refine lQ (fun hcc m=>(by first | exact c0 _)) ?_))|refine fctI fun hf=>?_|(show CondG ..;first|refine cBG (fun hc=>?_) (fun hc=>?_)|refine cUG ?_ ?_)));exact DVR
set_option maxHeartbeats 1000000 in
theorem rOrif_f (a h : Nat) (m : Nat) (ha : a <= 1073741824) (hh : h <= 1048576) : DCalls Tryz.prog 281 [li a, li h] (hget []) m (.tup [li (capI (orifN a h)), li (capE (orifN a h))]) (hget []) := by
  have hf := orif_fits ha hh;have g1 : ¬ ((a : Int) < 0) := by omega
  have g2 : ¬ ((1073741824 : Int) < (a : Int)) := by omega
  have g3 : ¬ ((h : Int) < 0) := by omega
  have g4 : ¬ ((1048576 : Int) < (h : Int)) := by omega
  (have:=NeI g1);(have:=NeI g2);(have:=NeI g3);(have:=NeI g4);have c1 := fun m => root32_f (a * 8829) (a * h) 1250000 m (by omega) (by omega) (by omega) (by rw [orif_re]; omega)
  rw [orif_re] at c1;have e1 : (a : Int) * 8829 = ((a * 8829 : Nat) : Int) := by rw [Int.natCast_mul]; rfl
  have e2 : (a : Int) * (h : Int) = ((a * h : Nat) : Int) := (Int.natCast_mul _ _).symm;have b2 : 0 <= (a : Int) * (h : Int) /\ (a : Int) * (h : Int) <= 1125899906842624 := by rw [e2]; omega
  have c0 : ∀ m, DCalls Tryz.prog 290 [li ((a : Int) * 8829), li ((a : Int) * (h : Int)), li 1250000] (hget []) m (.tup [li (capI (orifN a h)), li (capE (orifN a h))]) (hget []) := by rw [e1, e2]; exact c1
  clear c1 e1 e2 hf;generalize orifN a h = z at *
  generalize capI z = z1 at *
  generalize capE z = z2 at *
  refine pureC (n := 28) (rs := [.tmp 4, .tmp 5]) (ts := [3, 3]) Tryz.func281 rfl (by decide) [] (by (exact SD)) ?_;(repeat' (first|refine swp_seq [0,1,4,5,19] ?_|refine st2 ?_|(show CallQ ..;first|refine cQ (fun hcc=>(by first | exact c0 _)) ?_|(refine lP ?_;refine lQ (fun hcc m=>(by first | exact c0 _)) ?_))|refine fctI fun hf=>?_|(show CondG ..;first|refine cBG (fun hc=>?_) (fun hc=>?_)|refine cUG ?_ ?_)));exact DVR

end Go.Proofs.YthacnhidipeckaaGreat
