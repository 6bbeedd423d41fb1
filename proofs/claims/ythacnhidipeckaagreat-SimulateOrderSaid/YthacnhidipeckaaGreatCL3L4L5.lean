/-
  Contracts of functions of the program, over the engine.
  No condition.
-/
import Derived.Test.YthacnhidipeckaaGreatCL1L2L2cL2o
import Derived.Test.YthacnhidipeckaaGreatCW4W5W6R1R2R3R4
namespace Go.Proofs.YthacnhidipeckaaGreat
open Go.Eng
set_option linter.all false
attribute [local irreducible] DCallsG SWp Fct CallQ XCallQ LCallQ XLCallQ drun xrun
structure DwI (A b i N q r : Nat) : Prop where
  hN : N < 340282366920938463463374607431768211456
  hr : r < b
  hb : b < 4611686018427387904
  hA : A < 340282366920938463463374607431768211456
  hq : q <= A
  ex : ∃ X, X = A * 2 ^ i /\ X = (b * q + r) * 340282366920938463463374607431768211456 + N
theorem DwI.init {A b : Nat} (hA : A < 340282366920938463463374607431768211456) (hb : 0 < b /\ b < 4611686018427387904) : DwI A b 0 A 0 0 :=
  ⟨hA, hb.1, hb.2, hA, Nat.zero_le _, A, by rw [Nat.pow_zero, Nat.mul_one], by rw [Nat.mul_zero]; omega⟩
theorem q_le {A b q r : Nat} (hb : 0 < b) (h : b * q + r <= A) : q <= A :=
  Nat.le_trans (Nat.le_mul_of_pos_left q hb) (Nat.le_trans (Nat.le_add_right _ _) h)
theorem dbl_N {N : Nat} (h : N < 340282366920938463463374607431768211456) : ∃ bit N2, hiN N / 9223372036854775808 = bit /\ bit <= 1 /\ N2 < 340282366920938463463374607431768211456 /\ 2 * N = bit * 340282366920938463463374607431768211456 + N2 /\
    2 * (hiN N * 18446744073709551616 + loN N) + 0 = bit * 340282366920938463463374607431768211456 + (hiN N2 * 18446744073709551616 + loN N2) := by
  have e := hl_eq N
  have h1 := hiN_lt h
  have h2 := loN_lt N
  refine ⟨_, 2 * N - hiN N / 9223372036854775808 * 340282366920938463463374607431768211456, rfl, ?_⟩
  have e2 := hl_eq (2 * N - hiN N / 9223372036854775808 * 340282366920938463463374607431768211456)
  rw [<- e2, <- e]
  clear e2
  generalize hiN N = a at *
  generalize loN N = c at *
  omega
theorem DwI.step {A b i N q r : Nat} (I : DwI A b i N q r) (hi : i < 128) : ∃ N2 bit r2 : Nat, (hiN N : Int).fdiv (2 ^ min 63 IntKind.u64.bits) = (bit : Int) /\ bit <= 1 /\ N2 < 340282366920938463463374607431768211456 /\
    2 * (hiN N * 18446744073709551616 + loN N) + 0 = bit * 340282366920938463463374607431768211456 + (hiN N2 * 18446744073709551616 + loN N2) /\ 2 * r + bit = r2 /\ r2 < 9223372036854775808 /\ 2 * q < 340282366920938463463374607431768211456 /\
    (r2 < b -> DwI A b (i + 1) N2 (2 * q) r2) /\ (¬ r2 < b -> DwI A b (i + 1) N2 (2 * q + 1) (r2 - b)) := by
  obtain ⟨hN, hr, hb, hA, hq, X, e1, e2⟩ := I
  obtain ⟨bit, N2, hbit, hb1, hN2, hs, hs2⟩ := dbl_N hN
  have hr3 : 2 * r + bit < 9223372036854775808 := by clear e1 e2 hs hs2 hbit; omega
  have hfd : (hiN N : Int).fdiv (2 ^ min 63 IntKind.u64.bits) = (bit : Int) := by rw [<- hbit]; exact shr64 (hiN N) 63 (by decide)
  have hstep := div_step (a2 := N2) e2 rfl hs
  have hX2 : 2 * X = A * 2 ^ (i + 1) := by rw [e1, Nat.pow_succ, <- Nat.mul_assoc A, Nat.mul_comm 2]
  have htop := top_le (i := i + 1) (by omega) hX2 hstep
  have hb0 : 0 < b := by omega
  have hq2 := q_le hb0 htop
  refine ⟨N2, bit, 2 * r + bit, hfd, hb1, hN2, hs2, rfl, hr3, Nat.lt_of_le_of_lt hq2 hA, fun hlt => ?_, fun hlt => ?_⟩
  · exact ⟨hN2, hlt, hb, hA, hq2, 2 * X, hX2, hstep⟩
  · have e3 : b * (2 * q + 1) + (2 * r + bit - b) = b * (2 * q) + (2 * r + bit) := sub_back (Nat.le_of_not_lt hlt)
    refine ⟨hN2, by clear e1 e2 hs hs2 hstep hX2 htop e3; omega, hb, hA, q_le hb0 (r := 2 * r + bit - b) (by rw [e3]; exact htop), 2 * X, hX2, by rw [e3]; exact hstep⟩
theorem DwI.fin {A b N q r : Nat} (I : DwI A b 128 N q r) : q = A / b /\ r = A % b := by
  obtain ⟨hN, hr, hb, hA, hq, X, e1, e2⟩ := I
  have h3 : (2 : Nat) ^ 128 = 340282366920938463463374607431768211456 := by decide
  rw [h3] at e1
  rw [e1] at e2
  have e : A = b * q + r := by
    generalize b * q + r = t at *
    omega
  rw [e, Nat.mul_add_div (by omega), Nat.div_eq_of_lt hr, Nat.mul_add_mod, Nat.mod_eq_of_lt hr]
  exact ⟨rfl, rfl⟩
def capaN (s : Sect) (y fall len : Nat) : Nat := rt ((floorT s.conv y).toNat * (floorT s.conv y).toNat * fall / len)
def bigB (q : Nat) : Bool := decide (1099511627776 < q)
def limI (q : Nat) : Int := if bigB q then 1099511627776 else q
theorem fitT_in {t : List Knot} {h most : Int} (k : fitT t h most = true) : tabB t = true /\ (t.getD 0 default).x = 0 /\ (t.getD 0 default).y = 0 /\ (t.getD (t.length - 1) default).x = h /\ (t.getD (t.length - 1) default).y <= most := by
  unfold fitT at k; simp only [Bool.and_eq_true, decide_eq_true_eq] at k
  exact ⟨k.1.1.1.1, k.1.1.1.2, k.1.1.2, k.1.2, k.2⟩
structure SecIn (s : Sect) : Prop where
  h1 : 1 <= s.height
  h2 : s.height <= 32768
  conv : fitT s.conv s.height 1099511627776 = true
theorem secB_in {s : Sect} (h : secB s = true) : SecIn s := by
  unfold secB at h; simp only [Bool.and_eq_true, decide_eq_true_eq] at h
  exact ⟨h.1.1.1.1.1.2, h.1.1.1.1.2, h.2⟩
theorem conv_in {s : Sect} (h : secB s = true) (y : Int) : 0 <= floorT s.conv y /\ floorT s.conv y <= 1099511627776 := by
  have k := fitT_in (secB_in h).conv
  have := floorT_in (x := y) k.1
  omega
theorem cap_fits {k fall : Nat} (h1 : k <= 1099511627776) (h2 : fall <= 4194304) : k * k <= 1208925819614629174706176 /\ k * k * fall <= 5070602400912917605986812821504 := by
  have a := Nat.mul_le_mul h1 h1
  exact ⟨a, Nat.mul_le_mul a h2⟩
theorem slope_f (a b : Int) (m : Nat) (h : (0 <= a /\ a <= 4194304) /\ 1 <= b /\ b <= 16777216) : DCalls Tryz.prog 266 [li a, li b] (hget []) m (lb true) (hget []) := by
  obtain ⟨⟨h1, h2⟩, h3, h4⟩ := h
  (have := Nonempty.intro h1)
  (have := Nonempty.intro h2)
  (have := Nonempty.intro h3)
  (have := Nonempty.intro h4)
  refine pureC (n := 19) (rs := [.tmp 4]) (ts := [4]) Tryz.func266 rfl (by decide) [] (by (exact SD)) ?_
  (repeat' (first|refine swp_seq [0,1,4] ?_|refine st2 ?_|refine fctI fun hf=>?_|(show CondG ..;first|refine cBG (fun hc=>?_) (fun hc=>?_)|refine cUG ?_ ?_)))
  exact DVR
set_option maxHeartbeats 1000000 in
theorem carried_f (s : Sect) (y fall len : Nat) (m : Nat) (h : secB s = true) (hy : y <= 32768) (hf : fall <= 4194304) (hl : 1 <= len /\ len <= 16777216) : DCalls Tryz.prog 267 [sectD s, li y, li fall, li len] (hget []) m (.tup [li (capaN s y fall len), li 0]) (hget []) := by
  have hc := conv_in h y
  have cf := fun m => floor_f s.conv y m (fitT_in (secB_in h).conv).1 (by unfold i64ok; omega)
  unfold capaN
  obtain ⟨k, hk⟩ : ∃ k : Nat, floorT s.conv y = (k : Int) := ⟨(floorT s.conv y).toNat, by omega⟩
  rw [hk] at cf hc ⊢
  rw [Int.toNat_natCast]
  have hk1 : k <= 1099511627776 := by omega
  have hb := cap_fits hk1 hf
  have c1 := fun m => cproduct_f k k m (by omega) (by omega)
  have c2 := fun m => ctimes_f (k * k) fall m (by omega) (by omega)
  have c3 := fun m => cover_f (k * k * fall) len m (by omega) (by omega) (by omega)
  have hle := Nat.div_le_self (k * k * fall) len
  have c4 := fun m => croot_f (k * k * fall / len) m (by omega)
  clear hle hb
  generalize k * k * fall / len = z at *
  generalize k * k * fall = z2 at *
  generalize k * k = z3 at *
  refine pureC (n := 30) (rs := [.tmp 8, .tmp 9]) (ts := [3, 37]) Tryz.func267 rfl (by decide) [] (by (exact SD)) ?_
  (repeat' (first|refine swp_seq [0,1,2,3,4,8,9,10,11,20] ?_|refine st2 ?_|(show CallQ ..;first|refine cQ (fun hcc=>(by first | exact cf _ | exact c1 _ | exact c2 _ | exact c3 _ | exact c4 _)) ?_|(refine lP ?_;refine lQ (fun hcc m=>(by first | exact cf _ | exact c1 _ | exact c2 _ | exact c3 _ | exact c4 _)) ?_))|refine fctI fun hf=>?_|(show CondG ..;first|refine cBG (fun hc=>?_) (fun hc=>?_)|refine cUG ?_ ?_)))
  exact DVR
def capI (q : Nat) : Int := if bigB q then 0 else q
def capE (q : Nat) : Int := if bigB q then 5 else 0
set_option maxHeartbeats 1000000 in
theorem capacity28_f (s : Sect) (y fall len : Nat) (m : Nat) (hs : sectOk s) (h : secB s = true) (hy : (y : Int) <= s.height) (hf : fall <= 4194304) (hl : 1 <= len /\ len <= 16777216) : DCalls Tryz.prog 245 [sectD s, li y, li fall, li len] (hget []) m (.tup [li (capI (capaN s y fall len)), li (capE (capaN s y fall len))]) (hget []) := by
  have hin := secB_in h
  have hh := hin.h2
  have cv := fun m => sect_f s m hs
  rw [h] at cv
  have c1 := fun m => slope_f fall len m (by omega)
  have c2 := fun m => carried_f s y fall len m h (by omega) hf hl
  generalize capaN s y fall len = q at *
  have y0 : ¬ ((y : Int) < 0) := by omega
  have y1 : ¬ (s.height < (y : Int)) := by omega
  (have := Nonempty.intro y0)
  (have := Nonempty.intro y1)
  clear hin hl hf h
  unfold capI capE bigB
  by_cases hb : (1099511627776 : Int) < (q : Int)
  · (have := Nonempty.intro hb)
    rw [decide_eq_true (by omega)]
    refine pureC (n := 47) (rs := [.tmp 8, .tmp 9]) (ts := [3, 37]) Tryz.func245 rfl (by decide) [] (by (exact SD)) ?_
    (repeat' (first|refine swp_seq [0,1,2,3,4,8,9,10,11,12,16,39,43] ?_|refine st2 ?_|(show CallQ ..;first|refine cQ (fun hcc=>(by first | exact cv _ | exact c1 _ | exact c2 _)) ?_|(refine lP ?_;refine lQ (fun hcc m=>(by first | exact cv _ | exact c1 _ | exact c2 _)) ?_))|refine fctI fun hf=>?_|(show CondG ..;first|refine cBG (fun hc=>?_) (fun hc=>?_)|refine cUG ?_ ?_)))
    exact DVR
  · (have := Nonempty.intro hb)
    rw [decide_eq_false (by omega)]
    refine pureC (n := 47) (rs := [.tmp 8, .tmp 9]) (ts := [3, 37]) Tryz.func245 rfl (by decide) [] (by (exact SD)) ?_
    (repeat' (first|refine swp_seq [0,1,2,3,4,8,9,10,11,12,16,39,43] ?_|refine st2 ?_|(show CallQ ..;first|refine cQ (fun hcc=>(by first | exact cv _ | exact c1 _ | exact c2 _)) ?_|(refine lP ?_;refine lQ (fun hcc m=>(by first | exact cv _ | exact c1 _ | exact c2 _)) ?_))|refine fctI fun hf=>?_|(show CondG ..;first|refine cBG (fun hc=>?_) (fun hc=>?_)|refine cUG ?_ ?_)))
    exact DVR
theorem limited_f (q : Nat) (m : Nat) : DCalls Tryz.prog 228 [li (capI q), li (capE q)] (hget []) m (.tup [li (limI q), li 0]) (hget []) := by
  unfold capI capE limI
  cases bigB q
  · refine pureC (n := 10) (rs := [.tmp 4, .tmp 5]) (ts := [3, 37]) Tryz.func228 rfl (by decide) [] (by (exact SD)) ?_
    (repeat' (first|refine swp_seq [0,1,4,5,7] ?_|refine st2 ?_|refine fctI fun hf=>?_|(show CondG ..;first|refine cBG (fun hc=>?_) (fun hc=>?_)|refine cUG ?_ ?_)))
    exact DVR
  · refine pureC (n := 10) (rs := [.tmp 4, .tmp 5]) (ts := [3, 37]) Tryz.func228 rfl (by decide) [] (by (exact SD)) ?_
    (repeat' (first|refine swp_seq [0,1,4,5,7] ?_|refine st2 ?_|refine fctI fun hf=>?_|(show CondG ..;first|refine cBG (fun hc=>?_) (fun hc=>?_)|refine cUG ?_ ?_)))
    exact DVR
theorem owithin_f (n lo hi : Int) (m : Nat) : DCalls Tryz.prog 252 [li n, li lo, li hi] (hget []) m (lb (btwB n lo hi)) (hget []) := by
  refine pureC (n := 15) (rs := [.tmp 6]) (ts := [4]) Tryz.func252 rfl (by decide) [] (by (exact SD)) ?_
  (repeat' (first|refine swp_seq [0,1,2,6] ?_|refine st2 ?_|refine fctI fun hf=>?_|(show CondG ..;first|refine cBG (fun hc=>?_) (fun hc=>?_)|refine cUG ?_ ?_)))
  exact DVR
theorem olevel_f (n : Int) (m : Nat) : DCalls Tryz.prog 247 [li n] (hget []) m (lb (levB n)) (hget []) := by
  refine pureC (n := 5) (rs := [.tmp 2]) (ts := [4]) Tryz.func247 rfl (by decide) [] (by (exact SD)) ?_
  (repeat' (first|refine swp_seq [0,2] ?_|refine st2 ?_|(show CallQ ..;first|refine cQ (fun hcc=>(owithin_f _ _ _ _)) ?_|(refine lP ?_;refine lQ (fun hcc m=>(owithin_f _ _ _ _)) ?_))|refine fctI fun hf=>?_|(show CondG ..;first|refine cBG (fun hc=>?_) (fun hc=>?_)|refine cUG ?_ ?_)))
  exact DVR
def weirB (x : Link) : Bool := decide (x.kind = 2) && levB x.up && btwB x.width 1 1048576
def gateB (x : Link) : Bool := decide (x.kind = 3) && levB x.up && btwB x.width 1 32768 && btwB x.height 1 32768
theorem isWeir_f (x : Link) (m : Nat) : DCalls Tryz.prog 246 [linkD x] (hget []) m (lb (weirB x)) (hget []) := by
  refine pureC (n := 16) (rs := [.tmp 2]) (ts := [4]) Tryz.func246 rfl (by decide) [] (by (exact SD)) ?_
  (repeat' (first|refine swp_seq [0,1,2] ?_|refine st2 ?_|(show CallQ ..;first|refine cQ (fun hcc=>(by first | exact owithin_f _ _ _ _ | exact olevel_f _ _)) ?_|(refine lP ?_;refine lQ (fun hcc m=>(by first | exact owithin_f _ _ _ _ | exact olevel_f _ _)) ?_))|refine fctI fun hf=>?_|(show CondG ..;first|refine cBG (fun hc=>?_) (fun hc=>?_)|refine cUG ?_ ?_)))
  (refine DVQ ?_)
  refine lbC ?_
  unfold weirB
  rw [Bool.eq_iff_iff]; simp
theorem isGate_f (x : Link) (m : Nat) : DCalls Tryz.prog 251 [linkD x] (hget []) m (lb (gateB x)) (hget []) := by
  refine pureC (n := 21) (rs := [.tmp 2]) (ts := [4]) Tryz.func251 rfl (by decide) [] (by (exact SD)) ?_
  (repeat' (first|refine swp_seq [0,1,2] ?_|refine st2 ?_|(show CallQ ..;first|refine cQ (fun hcc=>(by first | exact owithin_f _ _ _ _ | exact olevel_f _ _)) ?_|(refine lP ?_;refine lQ (fun hcc m=>(by first | exact owithin_f _ _ _ _ | exact olevel_f _ _)) ?_))|refine fctI fun hf=>?_|(show CondG ..;first|refine cBG (fun hc=>?_) (fun hc=>?_)|refine cUG ?_ ?_)))
  (refine DVQ ?_)
  refine lbC ?_
  unfold gateB
  rw [Bool.eq_iff_iff]; simp
def headI (x : Link) (up down : Int) : Int := if 0 < up - (if down < x.up then x.up else down) then up - (if down < x.up then x.up else down) else 0
theorem lev_in {n : Int} (h : levB n = true) : -4194304 <= n /\ n <= 4194304 := by unfold levB at h; simpa using h
theorem btwB_in {n a b : Int} (h : btwB n a b = true) : a <= n /\ n <= b := by unfold btwB at h; simpa using h
theorem head_f (x : Link) (up down : Int) (m : Nat) (h1 : levB x.up = true) (h2 : levB up = true) (h3 : levB down = true) : DCalls Tryz.prog 248 [linkD x, li up, li down] (hget []) m (li (headI x up down)) (hget []) := by
  have a1 := lev_in h1
  have a2 := lev_in h2
  have a3 := lev_in h3
  refine pureC (n := 14) (rs := [.tmp 6]) (ts := [3]) Tryz.func248 rfl (by decide) [] (by (exact SD)) ?_
  (repeat' (first|refine swp_seq [0,1,2,3,6] ?_|refine st2 ?_|refine fctI fun hf=>?_|(show CondG ..;first|refine cBG (fun hc=>?_) (fun hc=>?_)|refine cUG ?_ ?_)))
  exact DVR
theorem headI_in {x : Link} {up down : Int} (h1 : levB x.up = true) (h2 : levB up = true) (h3 : levB down = true) : 0 <= headI x up down /\ headI x up down <= 8388608 := by
  have a1 := lev_in h1
  have a2 := lev_in h2
  have a3 := lev_in h3
  unfold headI
  split <;> split at * <;> omega
def weirN (b h : Nat) : Nat := rt (b * b * (h * h) * h * 289 / 100000)
def orifN (a h : Nat) : Nat := rt (a * a * h * 8829 / 1250000)
theorem weir_fits {b h : Nat} (hb : b <= 1048576) (hh : h <= 1048576) : b * b <= 1099511627776 /\ h * h <= 1099511627776 /\ b * b * (h * h) <= 1208925819614629174706176 /\ b * b * (h * h) * h <= 1267650600228229401496703205376 /\ b * b * (h * h) * h * 289 <= 366351023465958297032547226353664 := by
  have a1 := Nat.mul_le_mul hb hb
  have a2 := Nat.mul_le_mul hh hh
  have a3 := Nat.mul_le_mul a1 a2
  have a4 := Nat.mul_le_mul a3 hh
  exact ⟨a1, a2, a3, a4, Nat.mul_le_mul_right 289 a4⟩
theorem orif_fits {a h : Nat} (ha : a <= 1073741824) (hh : h <= 1048576) : a * a <= 1152921504606846976 /\ a * a * h <= 1208925819614629174706176 /\ a * a * h * 8829 <= 10673606061377560983480827904 /\ a * h <= 1125899906842624 := by
  have a1 := Nat.mul_le_mul ha ha
  have a2 := Nat.mul_le_mul a1 hh
  exact ⟨a1, a2, Nat.mul_le_mul_right 8829 a2, Nat.mul_le_mul ha hh⟩
set_option maxHeartbeats 1000000 in
theorem oweir_f (b h : Nat) (m : Nat) (hb : b <= 1048576) (hh : h <= 1048576) : DCalls Tryz.prog 250 [li b, li h] (hget []) m (li (weirN b h)) (hget []) := by
  have hf := weir_fits hb hh
  have e1 : (b : Int) * (b : Int) = ((b * b : Nat) : Int) := (Int.natCast_mul _ _).symm
  have e2 : (h : Int) * (h : Int) = ((h * h : Nat) : Int) := (Int.natCast_mul _ _).symm
  have hle := Nat.div_le_self (b * b * (h * h) * h * 289) 100000
  have c1 := fun m => oproduct_f (b * b) (h * h) m (by omega) (by omega)
  have c2 := fun m => otimes_f (b * b * (h * h)) h m (by omega) (by omega)
  have c3 := fun m => otimes_f (b * b * (h * h) * h) 289 m (by omega) (by omega)
  have c4 := fun m => oover_f (b * b * (h * h) * h * 289) 100000 m (by omega) (by omega) (by omega)
  have c5 := fun m => oroot_f (b * b * (h * h) * h * 289 / 100000) m (by omega)
  have b1 : 0 <= (b : Int) * (b : Int) /\ (b : Int) * (b : Int) <= 1099511627776 := by rw [e1]; omega
  have b2 : 0 <= (h : Int) * (h : Int) /\ (h : Int) * (h : Int) <= 1099511627776 := by rw [e2]; omega
  have c0 : ∀ m, DCalls Tryz.prog 268 [li ((b : Int) * (b : Int)), li ((h : Int) * (h : Int))] (hget []) m (wiD (b * b * (h * h))) (hget []) := by rw [e1, e2]; exact c1
  clear c1 e1 e2 hle hf
  unfold weirN
  generalize b * b * (h * h) * h * 289 / 100000 = z at *
  generalize b * b * (h * h) * h * 289 = z2 at *
  generalize b * b * (h * h) * h = z3 at *
  generalize b * b * (h * h) = z4 at *
  refine pureC (n := 17) (rs := [.tmp 4]) (ts := [3]) Tryz.func250 rfl (by decide) [] (by (exact SD)) ?_
  (repeat' (first|refine swp_seq [0,1,4] ?_|refine st2 ?_|(show CallQ ..;first|refine cQ (fun hcc=>(by first | exact c0 _ | exact c2 _ | exact c3 _ | exact c4 _ | exact c5 _)) ?_|(refine lP ?_;refine lQ (fun hcc m=>(by first | exact c0 _ | exact c2 _ | exact c3 _ | exact c4 _ | exact c5 _)) ?_))|refine fctI fun hf=>?_|(show CondG ..;first|refine cBG (fun hc=>?_) (fun hc=>?_)|refine cUG ?_ ?_)))
  exact DVR
set_option maxHeartbeats 1000000 in
theorem oorif_f (a h : Nat) (m : Nat) (ha : a <= 1073741824) (hh : h <= 1048576) : DCalls Tryz.prog 272 [li a, li h] (hget []) m (li (orifN a h)) (hget []) := by
  have hf := orif_fits ha hh
  have hle := Nat.div_le_self (a * a * h * 8829) 1250000
  have c1 := fun m => oproduct_f a a m (by omega) (by omega)
  have c2 := fun m => otimes_f (a * a) h m (by omega) (by omega)
  have c3 := fun m => otimes_f (a * a * h) 8829 m (by omega) (by omega)
  have c4 := fun m => oover_f (a * a * h * 8829) 1250000 m (by omega) (by omega) (by omega)
  have c5 := fun m => oroot_f (a * a * h * 8829 / 1250000) m (by omega)
  clear hle hf
  unfold orifN
  generalize a * a * h * 8829 / 1250000 = z at *
  generalize a * a * h * 8829 = z2 at *
  generalize a * a * h = z3 at *
  generalize a * a = z4 at *
  refine pureC (n := 13) (rs := [.tmp 4]) (ts := [3]) Tryz.func272 rfl (by decide) [] (by (exact SD)) ?_
  (repeat' (first|refine swp_seq [0,1,4] ?_|refine st2 ?_|(show CallQ ..;first|refine cQ (fun hcc=>(by first | exact c1 _ | exact c2 _ | exact c3 _ | exact c4 _ | exact c5 _)) ?_|(refine lP ?_;refine lQ (fun hcc m=>(by first | exact c1 _ | exact c2 _ | exact c3 _ | exact c4 _ | exact c5 _)) ?_))|refine fctI fun hf=>?_|(show CondG ..;first|refine cBG (fun hc=>?_) (fun hc=>?_)|refine cUG ?_ ?_)))
  exact DVR
theorem oflow_f (q : Nat) (m : Nat) : DCalls Tryz.prog 249 [li q] (hget []) m (.tup [li (capI q), li (capE q)]) (hget []) := by
  unfold capI capE bigB
  by_cases hb : (1099511627776 : Int) < (q : Int)
  · (have := Nonempty.intro hb)
    rw [decide_eq_true (by omega)]
    refine pureC (n := 7) (rs := [.tmp 2, .tmp 3]) (ts := [3, 37]) Tryz.func249 rfl (by decide) [] (by (exact SD)) ?_
    (repeat' (first|refine swp_seq [0,2,3,5] ?_|refine st2 ?_|refine fctI fun hf=>?_|(show CondG ..;first|refine cBG (fun hc=>?_) (fun hc=>?_)|refine cUG ?_ ?_)))
    exact DVR
  · (have := Nonempty.intro hb)
    rw [decide_eq_false (by omega)]
    refine pureC (n := 7) (rs := [.tmp 2, .tmp 3]) (ts := [3, 37]) Tryz.func249 rfl (by decide) [] (by (exact SD)) ?_
    (repeat' (first|refine swp_seq [0,2,3,5] ?_|refine st2 ?_|refine fctI fun hf=>?_|(show CondG ..;first|refine cBG (fun hc=>?_) (fun hc=>?_)|refine cUG ?_ ?_)))
    exact DVR
end Go.Proofs.YthacnhidipeckaaGreat
