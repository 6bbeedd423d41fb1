/-
  Contracts of functions of the program, over the engine.
  No condition.
-/
import Derived.Test.YtgpllheklfbfhaaGreatCT5T6T6bT7T7bT7c
import Derived.Test.YtgpllheklfbfhaaGreatCN0N1NBNmT1T2T2eT3
import Derived.Test.YtgpllheklfbfhaaGreatCKSK1K2K3K5K4W0W1W2W3
import Derived.Test.YtgpllheklfbfhaaGreatCW4W5W6R1R2R3R4
namespace Go.Proofs.YtgpllheklfbfhaaGreat
open Go.Eng
set_option linter.all false
attribute [local irreducible] DCallsG SWp Fct CallQ XCallQ LCallQ XLCallQ drun xrun
set_option maxHeartbeats 64000000

def fitT (t : List Knot) (h most : Int) : Bool := tabB t && decide ((t.getD 0 default).x = 0) && decide ((t.getD 0 default).y = 0) && decide ((t.getD (t.length - 1) default).x = h) && decide ((t.getD (t.length - 1) default).y <= most)
theorem curve_f (t : List Knot) (h most : Int) (m : Nat) (hl : t.length <= 281474976710656) : Pu 141 [knotL t, li h, li most] m (lb (fitT t h most)) := by
  refine pcN 34 [.tmp 6] [4] Tryz.func141 rfl [] ?_;(repeat' first|refine stW [0,1,2,6,7,10] ?_|(show CallQ ..;first|refine cQ (fun hcc=>(tab_f _ _ SC)) ?_|(refine lP ?_;refine lQ (fun hcc m=>(tab_f _ _ SC)) ?_))|refine fctI fun hf=>?_|refine twI (fun hc=>?_) fun hc=>?_)
  · (refine DVQ ?_);refine lbC ?_;unfold fitT; rw [hc]; rfl
  · have h2 := tabB_len hc;(repeat' first|refine stW [0,1,2,6,7,10] ?_|refine fctI fun hf=>?_|refine twI (fun hc=>?_) fun hc=>?_);(refine DVQ ?_);refine lbC ?_;unfold fitT; rw [hc];grind
theorem fits28_f (t : List Knot) (h most : Int) (m : Nat) (hl : t.length <= 281474976710656) : Pu 123 [knotL t, li h, li most] m (lb (fitT t h most)) := by
  refine pcN 41 [.tmp 6] [4] Tryz.func123 rfl [] ?_;(repeat' first|refine stW [0,1,2,6,7,10] ?_|(show CallQ ..;first|refine cQ (fun hcc=>(rTab_f _ _ SC)) ?_|(refine lP ?_;refine lQ (fun hcc m=>(rTab_f _ _ SC)) ?_))|refine fctI fun hf=>?_|refine twI (fun hc=>?_) fun hc=>?_)
  · (refine DVQ ?_);refine lbC ?_;unfold fitT; rw [hc]; rfl
  · have h2 := tabB_len hc;(repeat' first|refine stW [0,1,2,6,7,10] ?_|refine fctI fun hf=>?_|refine twI (fun hc=>?_) fun hc=>?_);(refine DVQ ?_);refine lbC ?_;unfold fitT; rw [hc];grind
def secB (s : Sect) : Bool := nameB s.name && decide (1 <= s.height) && decide (s.height <= 32768) && decide (0 <= s.price) && decide (s.price <= 1073741824) && fitT s.area s.height 1073741824 && fitT s.conv s.height 1099511627776
theorem sect_f (s : Sect) (m : Nat) (hs : sectOk s) : Pu 90 [sectD s] m (lb (secB s)) := by
  obtain ⟨h1, h2, h3, ⟨h4, _⟩, h5, _⟩ := hs;refine pcN 40 [.tmp 2] [4] Tryz.func90 rfl [] ?_;(repeat' first|refine stW [0,1,2] ?_|(show CallQ ..;first|refine cQ (fun hcc=>(by first | exact name_f _ _ SC | exact curve_f _ _ _ _ SC)) ?_|(refine lP ?_;refine lQ (fun hcc m=>(by first | exact name_f _ _ SC | exact curve_f _ _ _ _ SC)) ?_))|refine fctI fun hf=>?_|refine twI (fun hc=>?_) fun hc=>?_);exact DVR
theorem rSect_f (s : Sect) (m : Nat) (hs : sectOk s) : Pu 74 [sectD s] m (lb (secB s)) := by
  obtain ⟨h1, h2, h3, ⟨h4, _⟩, h5, _⟩ := hs;refine pcN 39 [.tmp 2] [4] Tryz.func74 rfl [] ?_;(repeat' first|refine stW [0,1,2,26] ?_|(show CallQ ..;first|refine cQ (fun hcc=>(by first | exact rName_f _ _ SC | exact fits28_f _ _ _ _ SC)) ?_|(refine lP ?_;refine lQ (fun hcc m=>(by first | exact rName_f _ _ SC | exact fits28_f _ _ _ _ SC)) ?_))|refine fctI fun hf=>?_|refine twI (fun hc=>?_) fun hc=>?_)
  · (refine DVQ ?_);refine lbC ?_;unfold secB;grind
  · (refine DVQ ?_);refine lbC ?_;unfold secB;grind
def secIx (l : List Sect) (s : ByteArray) : Int := idxI (fun x => decide (x.name = s)) l
theorem rFind_f (l : List Sect) (s : ByteArray) (m : Nat) (hl : l.length <= 281474976710656) : Pu 75 [sectL l, ls s] m (li (secIx l s)) := by
  refine pcN 20 [.tmp 4] [3] Tryz.func75 rfl [] ?_;(repeat' first|refine stW [0,1,4,5,9,18] ?_|refine fctI fun hf=>?_|refine twI (fun hc=>?_) fun hc=>?_);refine loop_swp [0, 1, 5] [] 0 (fun q A H => ∃ i : Nat, i <= l.length /\ q = l.length - i /\ (l.take i).any (fun x => decide (x.name = s)) = false /\ A = [(0, sectL l), (1, ls s), (5, li i)] /\ H = []) (by omega) ?_ ?_ ?_
  · rintro q A H ⟨i, h1, h2, h3, rfl, rfl⟩;exact SDD
  · refine ⟨_, 0, by omega, rfl, by simp, ?_, ?_⟩
    · exact DVR
    · exact DVR
  · rintro q A H ⟨i, h1, h2, h3, rfl, rfl⟩;(repeat' first|refine stW [0,1,4,5,9,18] ?_|refine fctI fun hf=>?_|refine twI (fun hc=>?_) fun hc=>?_)
    · (refine DVQ ?_);unfold secIx;rw [idxI_hit h3 (by omega) (by simpa using hc)]
    · (refine lN [] ?_);exact ⟨_, by omega, i + 1, by omega, rfl, any_step h3 (by omega) (by simpa using hc), rfl, rfl⟩
    · (refine DVQ ?_);rw [List.take_of_length_le (by omega)] at h3;unfold secIx;rw [idxI_none h3]
def okS (l : List Sect) (i : Nat) : Bool := secB (l.getD i default) && decide (secIx l (l.getD i default).name = i)
def catB (l : List Sect) : Bool := decide (l.length <= 40) && (List.range l.length).all (okS l)
theorem catB_no {l : List Sect} {i : Nat} (hi : i < l.length) (h : okS l i = false) : catB l = false := by
  unfold catB; rw [rall_false hi h]; simp
theorem catB_yes {l : List Sect} (h1 : l.length <= 40) (h : ∀ i, i < l.length -> okS l i = true) : catB l = true := by
  unfold catB; rw [rall_true h, decide_eq_true h1]; rfl
def catOk (l : List Sect) : Prop := l.length <= 281474976710656 /\ ∀ s, s ∈ l -> sectOk s
theorem rCat_f (l : List Sect) (m : Nat) (h : catOk l) : Pu 41 [sectL l] m (lb (catB l)) := by
  obtain ⟨a1, a2⟩ := h;refine pcN 30 [.tmp 2] [4] Tryz.func41 rfl [] ?_;(repeat' first|refine stW [0,2,3,6,10,29] ?_|refine fctI fun hf=>?_|refine twI (fun hc=>?_) fun hc=>?_)
  · (refine DVQ ?_);refine lbC ?_;unfold catB;rw [decide_eq_false (p := l.length <= 40) (by omega)]; rfl
  refine loop_swp [0, 3] [] 0 (fun q A H => ∃ i : Nat, i <= l.length /\ q = l.length - i /\ (∀ j, j < i -> okS l j = true) /\ A = [(0, sectL l), (3, li i)] /\ H = []) (by omega) ?_ ?_ ?_
  · rintro q A H ⟨i, h1, h2, h3, rfl, rfl⟩;exact SDD
  · refine ⟨_, 0, by omega, rfl, by omega, ?_, ?_⟩
    · exact DVR
    · exact DVR
  rintro q A H ⟨i, h1, h2, h3, rfl, rfl⟩;by_cases hi : i < l.length
  · have cr := fun m => rSect_f (l.getD i default) m (a2 _ (getD_mem hi))
    have cn := fun m => rFind_f l (l.getD i default).name m a1
    (repeat' first|refine stW [0,2,3,6,10,29] ?_|refine fctI fun hf=>?_|refine twI (fun hc=>?_) fun hc=>?_)
    · (refine DVQ ?_);refine lbC ?_;rw [catB_no hi (by unfold okS; clear cr cn h3; grind)]
    · (refine lN [] ?_);exact ⟨_, by omega, i + 1, by omega, rfl, all_next h3 (by unfold okS; clear cr cn h3; grind), rfl, rfl⟩
    · omega
  have hi2 : i = l.length := by omega
  subst hi2;(repeat' first|refine stW [0,2,3,6,10,29] ?_|refine fctI fun hf=>?_|refine twI (fun hc=>?_) fun hc=>?_)
  · omega
  (refine DVQ ?_);refine lbC ?_;rw [catB_yes (by omega) h3]
def secE (s : Sect) : Value × DV := (.string s.name, lb true)
def seenS (l : List Sect) (i : Nat) (k : ByteArray) : Bool := (l.take i).any fun s => decide (s.name = k)
def namesM (l : List Sect) (i : Nat) : List (Value × DV) := (l.take i).map secE
theorem mfind_sec (k : ByteArray) : ∀ l : List Sect, (mfind (l.map secE) (.string k)).getD (lb false) = lb (l.any fun s => decide (s.name = k))
  | [] => rfl
  | s :: l => by
    have ih := mfind_sec k l;simp only [List.map_cons, secE, mfind, vkey, List.any_cons];by_cases h : s.name = k
    · simp [h]
    · simp [h, show ¬ k = s.name from fun q => h q.symm];exact ih
theorem mset_sec (k : ByteArray) (v : DV) : ∀ l : List Sect, (l.any fun s => decide (s.name = k)) = false -> mset (l.map secE) (.string k) v = l.map secE ++ [(.string k, v)]
  | [], _ => rfl
  | s :: l, h => by
    simp only [List.any_cons, Bool.or_eq_false_iff, decide_eq_false_iff_not] at h;simp [secE, mset, vkey, show ¬ k = s.name from fun q => h.1 q.symm];exact mset_sec k v l h.2
theorem names_find (l : List Sect) (i : Nat) (k : ByteArray) : (mfind (namesM l i) (.string k)).getD (.p (.lit (.bool false))) = lb (seenS l i k) := mfind_sec k _
theorem names_keys (l : List Sect) (i : Nat) : keysOk .str (namesM l i) = True := by
  refine propext ⟨fun _ => trivial, fun _ e he => ?_⟩;obtain ⟨s, _, rfl⟩ := List.mem_map.1 he;rfl
theorem names_set (l : List Sect) (i : Nat) [h : Nonempty (i < l.length)] [hs : Nonempty (seenS l i (l.getD i default).name = false)] : mset (namesM l i) (.string (l.getD i default).name) (.p (.lit (.bool true))) = namesM l (i + 1) := by
  obtain ⟨h⟩ := h;obtain ⟨hs⟩ := hs;unfold namesM;rw [mset_sec _ _ _ hs, List.take_add_one];have e : l[i]? = some (l.getD i default) := by rw [List.getD_eq_getElem?_getD, List.getElem?_eq_getElem h]; rfl
  rw [e];simp [secE];rfl
theorem seen_no (l : List Sect) (i : Nat) (k : ByteArray) [hs : Nonempty (seenS l i k = false)] : seenS l i k = false := hs.elim id
theorem seen_yes (l : List Sect) (i : Nat) (k : ByteArray) [hs : Nonempty (seenS l i k = true)] : seenS l i k = true := hs.elim id
theorem names_uses (U : Nat -> Prop) (l : List Sect) (i : Nat) : DV.usesL U ((namesM l i).map (·.2)) = True := by
  refine propext ⟨fun _ => trivial, fun _ => usesL_iff.2 fun d hd => ?_⟩;obtain ⟨e, he, rfl⟩ := List.mem_map.1 hd;obtain ⟨s, _, rfl⟩ := List.mem_map.1 he;trivial
attribute [push_cast] names_find names_keys names_set seen_no seen_yes names_uses
attribute [irreducible] namesM seenS
theorem seen_ix {l : List Sect} {i : Nat} (hi : i < l.length) : seenS l i (l.getD i default).name = !decide (secIx l (l.getD i default).name = i) := by
  cases h : seenS l i (l.getD i default).name
  · have : secIx l (l.getD i default).name = i := idxI_hit (by unfold seenS at h; exact h) hi (by simp);rw [decide_eq_true this]; rfl
  · have : ¬ secIx l (l.getD i default).name = i := fun q => by
      unfold seenS at h;rw [List.any_eq_true] at h;obtain ⟨s, hs, hn⟩ := h;obtain ⟨j, hj, rfl⟩ := List.getElem_of_mem hs;have hj2 : j < i := by simp at hj; omega
      have hn2 : (l.getD j default).name = (l.getD i default).name := by
        rw [List.getElem_take] at hn;have e : l.getD j default = l[j] := by rw [List.getD_eq_getElem?_getD, List.getElem?_eq_getElem (by omega)]; rfl
        rw [e]; simpa using hn
      have h2 : secIx l (l.getD i default).name <= j := by
        unfold secIx idxI;cases hf : l.findIdx? fun x => decide (x.name = (l.getD i default).name) with
        | none => simp
        | some p =>
          rw [List.findIdx?_eq_some_iff_getElem] at hf;obtain ⟨hp, _, hmin⟩ := hf;refine Int.ofNat_le.2 (Nat.le_of_not_lt fun hlt => ?_);have e : l.getD j default = l[j] := by rw [List.getD_eq_getElem?_getD, List.getElem?_eq_getElem (by omega)]; rfl
          have := hmin j hlt;rw [<- e, hn2] at this;simp at this
      omega
    rw [decide_eq_false this]; rfl
theorem seen_0 (l : List Sect) : namesM l 0 = [] := by unfold namesM; rfl
theorem cat_f (l : List Sect) (m : Nat) (h : catOk l) : Pu 47 [sectL l] m (lb (catB l)) := by
  obtain ⟨a1, a2⟩ := h;refine pcN 29 [.tmp 2] [4] Tryz.func47 rfl [] ?_;(repeat' first|refine stW [0,2,3,5,8,10,11,12,13,24] ?_|refine fctI fun hf=>?_|refine twI (fun hc=>?_) fun hc=>?_)
  · (refine DVQ ?_);refine lbC ?_;unfold catB;rw [decide_eq_false (p := l.length <= 40) (by omega)]; rfl
  refine loop_swp [3, 10, 11, 12] [32] 33 (fun q A H => ∃ i : Nat, i <= l.length /\ q = l.length - i /\ (∀ j, j < i -> okS l j = true) /\ A = [(3, .mref 32), (10, sectL l), (11, li l.length), (12, li i)] /\ H = [(32, .map (namesM l i))]) (by omega) ?_ ?_ ?_
  · rintro q A H ⟨i, h1, h2, h3, rfl, rfl⟩;exact SDD
  · refine ⟨_, 0, by omega, rfl, by omega, ?_, ?_⟩
    · exact DVR
    · rw [seen_0];exact DVR
  rintro q A H ⟨i, h1, h2, h3, rfl, rfl⟩;by_cases hi : i < l.length
  · (have:=NeI hi);have cr := fun m => sect_f (l.getD i default) m (a2 _ (getD_mem hi))
    have hx := seen_ix hi;cases hv : secB (l.getD i default) <;> simp only [hv] at cr
    · (repeat' first|refine stW [0,2,3,5,8,10,11,12,13,24] ?_|refine fctI fun hf=>?_|refine twI (fun hc=>?_) fun hc=>?_)
      · (refine DVQ ?_);refine lbC ?_;rw [catB_no hi (by unfold okS; rw [hv]; rfl)]
      · omega
    cases hs : seenS l i (l.getD i default).name
    · (have:=NeI hs);rw [hs] at hx;(repeat' first|refine stW [0,2,3,5,8,10,11,12,13,24] ?_|refine fctI fun hf=>?_|refine twI (fun hc=>?_) fun hc=>?_)
      · (refine lN [32] ?_);exact ⟨_, by omega, i + 1, by omega, rfl, all_next h3 (by unfold okS; rw [hv]; simpa using hx), rfl, rfl⟩
      · omega
    · (have:=NeI hs);rw [hs] at hx;(repeat' first|refine stW [0,2,3,5,8,10,11,12,13,24] ?_|refine fctI fun hf=>?_|refine twI (fun hc=>?_) fun hc=>?_)
      · (refine DVQ ?_);refine lbC ?_;rw [catB_no hi (by unfold okS; rw [hv]; simpa using hx)]
      · omega
  have hi2 : i = l.length := by omega
  subst hi2;(repeat' first|refine stW [0,2,3,5,8,10,11,12,13,24] ?_|refine fctI fun hf=>?_|refine twI (fun hc=>?_) fun hc=>?_)
  · omega
  (refine DVQ ?_);refine lbC ?_;rw [catB_yes (by omega) h3]
def hiN (N : Nat) : Nat := N / 18446744073709551616
def loN (N : Nat) : Nat := N % 18446744073709551616
theorem loN_lt (N : Nat) : loN N < 18446744073709551616 := Nat.mod_lt _ (by decide)
theorem hiN_lt {N : Nat} (h : N < 340282366920938463463374607431768211456) : hiN N < 18446744073709551616 := by unfold hiN; omega
theorem hl_eq (N : Nat) : N = hiN N * 18446744073709551616 + loN N := by unfold hiN loN; omega
theorem hiN_of {N h l : Nat} (e : N = h * 18446744073709551616 + l) (hl : l < 18446744073709551616) : hiN N = h := by unfold hiN; omega
theorem loN_of {N h l : Nat} (e : N = h * 18446744073709551616 + l) (hl : l < 18446744073709551616) : loN N = l := by unfold loN; omega
theorem times_nat {N H L n h1 l1 : Nat} (e : N = H * 18446744073709551616 + L) (e1 : L * n = h1 * 18446744073709551616 + l1) : N * n = (H * n + h1) * 18446744073709551616 + l1 := by
  rw [e, Nat.add_mul, Nat.add_mul, e1, Nat.mul_right_comm];omega
theorem add_wrap {p h t : Nat} (e : t = p + h) (ht : t < 18446744073709551616) : IntKind.u64.wrap ((h : Int) + IntKind.u64.wrap (p : Int)) = (t : Int) := by
  rw [u64w, u64w]; omega
theorem times_s {N n : Nat} (h : N * n < 340282366920938463463374607431768211456) : IntKind.u64.wrap ((hiN (loN N * n) : Int) + IntKind.u64.wrap ((hiN N : Int) * (n : Int))) = (hiN (N * n) : Int) /\ loN (loN N * n) = loN (N * n) := by
  have e := times_nat (hl_eq N) (hl_eq (loN N * n));have hl := loN_lt (loN N * n);have h1 := hiN_of e hl;have h2 := loN_of e hl;refine ⟨?_, h2.symm⟩;have h3 := hiN_lt h;rw [h1] at h3 ⊢;rw [show (hiN N : Int) * (n : Int) = ((hiN N * n : Nat) : Int) from (Int.natCast_mul _ _).symm];exact add_wrap rfl h3
theorem over_nat {N H L n : Nat} (hn : 0 < n) (hl : L < 18446744073709551616) (hm : n <= 18446744073709551616) (e : N = H * 18446744073709551616 + L) : N / n = H / n * 18446744073709551616 + (H % n * 18446744073709551616 + L) / n /\ (H % n * 18446744073709551616 + L) / n < 18446744073709551616 := by
  have h1 := Nat.mod_add_div H n;have h2 := Nat.mod_lt H hn;generalize H / n = q at *
  generalize H % n = r at *
  have e2 : N = (r * 18446744073709551616 + L) + n * (q * 18446744073709551616) := by
    rw [e, <- h1, Nat.add_mul, <- Nat.mul_assoc]; omega
  rw [e2, Nat.add_mul_div_left _ _ hn];refine ⟨Nat.add_comm _ _, ?_⟩;rw [Nat.div_lt_iff_lt_mul hn];have h3 : (r + 1) * 18446744073709551616 <= n * 18446744073709551616 := Nat.mul_le_mul_right _ h2;rw [Nat.add_mul, Nat.one_mul] at h3;rw [Nat.mul_comm 18446744073709551616 n];omega
theorem over_s {N n : Nat} (hn : 0 < n) (hm : n <= 18446744073709551616) : hiN N / n = hiN (N / n) /\ (hiN N % n * 18446744073709551616 + loN N) / n = loN (N / n) := by
  have h := over_nat hn (loN_lt N) hm (hl_eq N);exact ⟨(hiN_of h.1 h.2).symm, (loN_of h.1 h.2).symm⟩
theorem le_parts {M N : Nat} : M <= N ↔ hiN M < hiN N ∨ (hiN M = hiN N /\ loN M <= loN N) := by
  have h1 := hl_eq M;have h2 := hl_eq N;have h3 := loN_lt M;have h4 := loN_lt N;generalize hiN M = a at *
  generalize hiN N = b at *
  generalize loN M = c at *
  generalize loN N = d at *
  omega
def rtG (N : Nat) : Nat -> Nat -> Nat
  | 0, r => r
  | k + 1, r => rtG N k (if (r + 2 ^ k) * (r + 2 ^ k) <= N then r + 2 ^ k else r)
def rt (N : Nat) : Nat := rtG N 63 0
theorem rtG_spec {N : Nat} : ∀ (k r : Nat), r * r <= N -> N < (r + 2 ^ k) * (r + 2 ^ k) -> rtG N k r * rtG N k r <= N /\ N < (rtG N k r + 1) * (rtG N k r + 1)
  | 0, r, h1, h2 => ⟨h1, h2⟩
  | k + 1, r, h1, h2 => by
    unfold rtG;split
    · next h => exact rtG_spec k _ h (by rw [Nat.add_assoc, <- Nat.two_mul, <- Nat.pow_succ']; exact h2)
    · next h => exact rtG_spec k _ h1 (by omega)
theorem rt_spec {N : Nat} (h : N < 85070591730234615865843651857942052864) : rt N * rt N <= N /\ N < (rt N + 1) * (rt N + 1) :=
  rtG_spec 63 0 (Nat.zero_le _) (by rw [Nat.zero_add]; exact h)
theorem rt_lt {N : Nat} (h : N < 85070591730234615865843651857942052864) : rt N < 9223372036854775808 := by
  have h1 := rt_spec h;refine Nat.lt_of_not_le fun h3 => ?_
  have := Nat.mul_le_mul h3 h3;omega
structure RtI (N k r : Nat) : Prop where
  hk : k <= 63
  ex : ∃ x, r = x * 2 ^ k
  lt : r + 2 ^ k <= 2 ^ 63
  eq : rtG N k r = rt N
theorem RtI.init (N : Nat) : RtI N 63 0 := ⟨Nat.le_refl _, ⟨0, by rw [Nat.zero_mul]⟩, by rw [Nat.zero_add]; exact Nat.le_refl _, rfl⟩
theorem RtI.step {N k r : Nat} (I : RtI N (k + 1) r) : ∃ s, r + 2 ^ k = s /\ s < 9223372036854775808 /\ 2 ^ k < 9223372036854775808 /\ IntKind.u64.wrap ((BitVec.ofInt IntKind.u64.bits (r : Int) ||| BitVec.ofInt IntKind.u64.bits ((2 ^ k : Nat) : Int)).toNat : Int) = (s : Int) /\ (s * s <= N -> RtI N k s) /\ (¬ s * s <= N -> RtI N k r) := by
  obtain ⟨hk, ⟨x, hx⟩, lt, eq⟩ := I;have hp : 2 ^ (k + 1) = 2 ^ k + 2 ^ k := by rw [Nat.pow_succ]; omega
  have hkp : 0 < 2 ^ k := Nat.two_pow_pos k;have h63 : (2 : Nat) ^ 63 = 9223372036854775808 := rfl;refine ⟨_, rfl, by omega, by omega, ?_, fun h => ⟨by omega, ⟨x * 2 + 1, ?_⟩, by omega, ?_⟩, fun h => ⟨by omega, ⟨x * 2, ?_⟩, by omega, ?_⟩⟩
  · rw [hx]; exact or64 x (2 ^ k) (k + 1) (by omega) (by rw [<- hx]; omega)
  · rw [hx, Nat.add_mul, Nat.mul_assoc, Nat.one_mul, <- Nat.pow_succ']
  · rw [<- eq]; conv => rhs; unfold rtG;rw [if_pos h]
  · rw [hx, Nat.mul_assoc, <- Nat.pow_succ']
  · rw [<- eq]; conv => rhs; unfold rtG;rw [if_neg h]
theorem RtI.fin {N r : Nat} (I : RtI N 0 r) : r = rt N := I.eq
def half (k : Nat) : Nat := 2 ^ k / 2
theorem half_s (k : Nat) : half (k + 1) = 2 ^ k := by unfold half; rw [Nat.pow_succ]; omega
theorem half_0 : half 0 = 0 := rfl
theorem half_63 : lu (half 63) = lv (.int .u64 4611686018427387904) := rfl
theorem half_sh (k : Nat) : ((2 ^ k : Nat) : Int).fdiv (2 ^ min 1 IntKind.u64.bits) = (half k : Int) := shr64 (2 ^ k) 1 (by decide)
class OrOk (r b : Nat) (s : outParam Nat) : Prop where
  out : IntKind.u64.wrap ((BitVec.ofInt IntKind.u64.bits (r : Int) ||| BitVec.ofInt IntKind.u64.bits (b : Int)).toNat : Int) = (s : Int)
theorem or_ok {r b s : Nat} [h : OrOk r b s] : IntKind.u64.wrap ((BitVec.ofInt IntKind.u64.bits (r : Int) ||| BitVec.ofInt IntKind.u64.bits (b : Int)).toNat : Int) = (s : Int) := h.out
theorem u64_ok {n : Nat} [h : Nonempty (n < 18446744073709551616)] : IntKind.u64.wrap (n : Int) = (n : Int) := h.elim fun h => u64n n h
theorem i64_ok {n : Nat} [h : Nonempty (n < 9223372036854775808)] : IntKind.i64.wrap (n : Int) = (n : Int) := h.elim fun h => i64w (by omega)
attribute [push_cast] or_ok u64_ok i64_ok
attribute [irreducible] hiN loN rt half
abbrev wiD (N : Nat) : DV := .agg [lu (hiN N), lu (loN N)]
theorem cproduct_f (a b : Nat) (m : Nat) (ha : a < 9223372036854775808) (hb : b < 9223372036854775808) : Pu 221 [li a, li b] m (wiD (a * b)) := by
  have ha2 : a < 18446744073709551616 := by omega
  have hb2 : b < 18446744073709551616 := by omega
  have cm := fun m => mul64_f a b m ha2 hb2
  rw [show a * b / 18446744073709551616 = hiN (a * b) from (hiN_of (Nat.div_add_mod' _ _).symm (Nat.mod_lt _ (by decide))).symm, show a * b % 18446744073709551616 = loN (a * b) from (loN_of (Nat.div_add_mod' _ _).symm (Nat.mod_lt _ (by decide))).symm] at cm;generalize a * b = p at *
  (have:=NeI ha2);(have:=NeI hb2);refine pcN 18 [.cell 4 238] [238] Tryz.func221 rfl [] ?_;(repeat' first|refine stW [0,1,4,5,6] ?_|refine fctI fun hf=>?_|refine twI (fun hc=>?_) fun hc=>?_);exact DVR
theorem ctimes_f (N n : Nat) (m : Nat) (hn : n < 9223372036854775808) (h : N * n < 340282366920938463463374607431768211456) : Pu 222 [wiD N, li n] m (wiD (N * n)) := by
  have hn2 : n < 18446744073709551616 := by omega
  have hs := times_s h;have cm := fun m => mul64_f (loN N) n m (loN_lt N) hn2
  rw [show loN N * n / 18446744073709551616 = hiN (loN N * n) from (hiN_of (Nat.div_add_mod' _ _).symm (Nat.mod_lt _ (by decide))).symm, show loN N * n % 18446744073709551616 = loN (loN N * n) from (loN_of (Nat.div_add_mod' _ _).symm (Nat.mod_lt _ (by decide))).symm] at cm;rw [hs.2] at cm;generalize N * n = p at *
  generalize loN N * n = q at *
  (have:=NeI hn2);refine pcN 24 [.cell 4 238] [238] Tryz.func222 rfl [] ?_;(repeat' first|refine stW [0,1,2,4,5,6] ?_|refine fctI fun hf=>?_|refine twI (fun hc=>?_) fun hc=>?_);(refine DVQ ?_);rw [hs.1]; rfl
theorem cover_f (N n : Nat) (m : Nat) (hN : N < 340282366920938463463374607431768211456) (h0 : 0 < n) (hn : n < 9223372036854775808) : Pu 223 [wiD N, li n] m (wiD (N / n)) := by
  have hn2 : n < 18446744073709551616 := by omega
  have hs := over_s (N := N) h0 (by omega);have cd := fun m => div64g_f (hiN N % n) (loN N) n m (Nat.mod_lt _ h0) hn2 (loN_lt N)
  rw [hs.2] at cd;have hh := hiN_lt hN;have e1 : IntKind.u64.wrap ((hiN N : Int).tdiv (n : Int)) = (hiN (N / n) : Int) := by
    rw [u64w, Int.tdiv_eq_ediv_of_nonneg (by omega), <- Int.natCast_ediv, <- hs.1];have := Nat.div_le_self (hiN N) n;generalize hiN N / n = q at *
    omega
  have e2 : ((hiN N : Int).tmod (n : Int)) = ((hiN N % n : Nat) : Int) := by
    rw [Int.tmod_eq_emod_of_nonneg (by omega)]; rfl
  generalize (hiN N % n * 18446744073709551616 + loN N) % n = z at *
  generalize hiN N % n = y at *
  have n0 : ¬ ((n : Int) = 0) := by omega
  (have:=NeI n0);(have:=NeI hn2);clear hs;refine pcN 31 [.cell 4 238] [238] Tryz.func223 rfl [] ?_;(repeat' first|(show SWp _ _ _ (.seq (.region 2 _ _) _) _ _ _ _;refine (stop_in ?_))|(show SWp _ _ _ (.region _ _ true) _ _ _ _;refine xG mixed [0] ?_)|refine stW [0,1,2,4,5,6,7] ?_|refine fctI fun hf=>?_|refine twI (fun hc=>?_) fun hc=>?_);refine stop_out ?_;rw [e1, e2];generalize N / n = Q at *
  (repeat' first|(show SWp _ _ _ (.region _ _ true) _ _ _ _;refine xG mixed [0] ?_)|refine stW [0,1,2,4,5,6,7] ?_|refine fctI fun hf=>?_|refine twI (fun hc=>?_) fun hc=>?_);exact DVR
set_option maxRecDepth 20000 in
theorem croot_f (N : Nat) (m : Nat) (hN : N < 85070591730234615865843651857942052864) : Pu 224 [wiD N] m (li (rt N)) := by
  have hrt := rt_lt hN;refine pcN 42 [.tmp 2] [3] Tryz.func224 rfl [] ?_;(repeat' first|refine stW [0,1,2,3,4,5,6,8,36] ?_|refine fctI fun hf=>?_|refine twI (fun hc=>?_) fun hc=>?_);refine loop_swp [1, 3, 4] [0] 1 (fun q A H => ∃ k r : Nat, q = k /\ RtI N k r /\ A = [(1, .ptr 0 0), (3, lu r), (4, lu (half k))] /\ H = [(0, .blk 238 [lu (hiN N), lu (loN N)])]) (by omega) ?_ ?_ ?_
  · rintro q A H ⟨k, r, g1, g2, rfl, rfl⟩;exact SDD
  · refine ⟨_, 63, 0, rfl, RtI.init N, ?_, ?_⟩
    · rw [half_63];exact DVR
    · exact DVR
  rintro q A H ⟨k, r, g1, g2, rfl, rfl⟩;cases k with
  | zero =>
    rw [half_0];have hz : ¬ ((0 : Int) < 0) := by omega
    have er := g2.fin;subst er;(repeat' first|refine stW [0,1,2,3,4,5,6,8,36] ?_|refine fctI fun hf=>?_|refine twI (fun hc=>?_) fun hc=>?_);exact DVR
  | succ k =>
    obtain ⟨s, hs, hs1, hk1, ho, n1, n2⟩ := g2.step;have : OrOk r (2 ^ k) s := ⟨ho⟩;have hp : ((0 : Nat) : Int) < ((2 ^ k : Nat) : Int) := by have := Nat.two_pow_pos k; omega
    have hp2 : (0 : Int) < ((2 ^ k : Nat) : Int) := hp;have hsh := half_sh k;rw [half_s];have cm := fun m => mul64_f s s m (by omega) (by omega)
    rw [show s * s / 18446744073709551616 = hiN (s * s) from (hiN_of (Nat.div_add_mod' _ _).symm (Nat.mod_lt _ (by decide))).symm, show s * s % 18446744073709551616 = loN (s * s) from (loN_of (Nat.div_add_mod' _ _).symm (Nat.mod_lt _ (by decide))).symm] at cm;have hle := le_parts (M := s * s) (N := N);clear hs ho g2;generalize s * s = M at *
    generalize 2 ^ k = b at *
    (have:=NeI hp2);by_cases c1 : (hiN M : Int) < (hiN N : Int)
    · (have:=NeI c1);(repeat' first|refine stW [0,1,2,3,4,5,6,8,36] ?_|refine fctI fun hf=>?_|refine twI (fun hc=>?_) fun hc=>?_);(refine lN [0] ?_);rw [hsh];exact ⟨_, by omega, k, s, rfl, n1 (hle.2 (.inl (by omega))), rfl, rfl⟩
    · (have:=NeI c1);by_cases c2 : (hiN M : Int) = (hiN N : Int)
      · (have:=NeI c2);by_cases c3 : (loN M : Int) <= (loN N : Int)
        · (have:=NeI c3);(repeat' first|refine stW [0,1,2,3,4,5,6,8,36] ?_|refine fctI fun hf=>?_|refine twI (fun hc=>?_) fun hc=>?_);(refine lN [0] ?_);rw [hsh];exact ⟨_, by omega, k, s, rfl, n1 (hle.2 (.inr (by omega))), rfl, rfl⟩
        · (have:=NeI c3);(repeat' first|refine stW [0,1,2,3,4,5,6,8,36] ?_|refine fctI fun hf=>?_|refine twI (fun hc=>?_) fun hc=>?_);(refine lN [0] ?_);rw [hsh];exact ⟨_, by omega, k, r, rfl, n2 (fun q => by have := hle.1 q; omega), rfl, rfl⟩
      · (have:=NeI c2);(repeat' first|refine stW [0,1,2,3,4,5,6,8,36] ?_|refine fctI fun hf=>?_|refine twI (fun hc=>?_) fun hc=>?_);(refine lN [0] ?_);rw [hsh];exact ⟨_, by omega, k, r, rfl, n2 (fun q => by have := hle.1 q; omega), rfl, rfl⟩
theorem oproduct_f (a b : Nat) (m : Nat) (ha : a < 9223372036854775808) (hb : b < 9223372036854775808) : Pu 215 [li a, li b] m (wiD (a * b)) := by
  have ha2 : a < 18446744073709551616 := by omega
  have hb2 : b < 18446744073709551616 := by omega
  have cm := fun m => mul64_f a b m ha2 hb2
  rw [show a * b / 18446744073709551616 = hiN (a * b) from (hiN_of (Nat.div_add_mod' _ _).symm (Nat.mod_lt _ (by decide))).symm, show a * b % 18446744073709551616 = loN (a * b) from (loN_of (Nat.div_add_mod' _ _).symm (Nat.mod_lt _ (by decide))).symm] at cm;generalize a * b = p at *
  (have:=NeI ha2);(have:=NeI hb2);refine pcN 18 [.cell 4 233] [233] Tryz.func215 rfl [] ?_;(repeat' first|refine stW [0,1,4,5,6] ?_|refine fctI fun hf=>?_|refine twI (fun hc=>?_) fun hc=>?_);exact DVR
theorem otimes_f (N n : Nat) (m : Nat) (hn : n < 9223372036854775808) (h : N * n < 340282366920938463463374607431768211456) : Pu 216 [wiD N, li n] m (wiD (N * n)) := by
  have hn2 : n < 18446744073709551616 := by omega
  have hs := times_s h;have cm := fun m => mul64_f (loN N) n m (loN_lt N) hn2
  rw [show loN N * n / 18446744073709551616 = hiN (loN N * n) from (hiN_of (Nat.div_add_mod' _ _).symm (Nat.mod_lt _ (by decide))).symm, show loN N * n % 18446744073709551616 = loN (loN N * n) from (loN_of (Nat.div_add_mod' _ _).symm (Nat.mod_lt _ (by decide))).symm] at cm;rw [hs.2] at cm;generalize N * n = p at *
  generalize loN N * n = q at *
  (have:=NeI hn2);refine pcN 24 [.cell 4 233] [233] Tryz.func216 rfl [] ?_;(repeat' first|refine stW [0,1,2,4,5,6] ?_|refine fctI fun hf=>?_|refine twI (fun hc=>?_) fun hc=>?_);(refine DVQ ?_);rw [hs.1]; rfl
theorem oover_f (N n : Nat) (m : Nat) (hN : N < 340282366920938463463374607431768211456) (h0 : 0 < n) (hn : n < 9223372036854775808) : Pu 217 [wiD N, li n] m (wiD (N / n)) := by
  have hn2 : n < 18446744073709551616 := by omega
  have hs := over_s (N := N) h0 (by omega);have cd := fun m => div64g_f (hiN N % n) (loN N) n m (Nat.mod_lt _ h0) hn2 (loN_lt N)
  rw [hs.2] at cd;have hh := hiN_lt hN;have e1 : IntKind.u64.wrap ((hiN N : Int).tdiv (n : Int)) = (hiN (N / n) : Int) := by
    rw [u64w, Int.tdiv_eq_ediv_of_nonneg (by omega), <- Int.natCast_ediv, <- hs.1];have := Nat.div_le_self (hiN N) n;generalize hiN N / n = q at *
    omega
  have e2 : ((hiN N : Int).tmod (n : Int)) = ((hiN N % n : Nat) : Int) := by
    rw [Int.tmod_eq_emod_of_nonneg (by omega)]; rfl
  generalize (hiN N % n * 18446744073709551616 + loN N) % n = z at *
  generalize hiN N % n = y at *
  have n0 : ¬ ((n : Int) = 0) := by omega
  (have:=NeI n0);(have:=NeI hn2);clear hs;refine pcN 31 [.cell 4 233] [233] Tryz.func217 rfl [] ?_;(repeat' first|(show SWp _ _ _ (.seq (.region 2 _ _) _) _ _ _ _;refine (stop_in ?_))|(show SWp _ _ _ (.region _ _ true) _ _ _ _;refine xG mixed [0] ?_)|refine stW [0,1,2,4,5,6,7] ?_|refine fctI fun hf=>?_|refine twI (fun hc=>?_) fun hc=>?_);refine stop_out ?_;rw [e1, e2];generalize N / n = Q at *
  (repeat' first|(show SWp _ _ _ (.region _ _ true) _ _ _ _;refine xG mixed [0] ?_)|refine stW [0,1,2,4,5,6,7] ?_|refine fctI fun hf=>?_|refine twI (fun hc=>?_) fun hc=>?_);exact DVR
set_option maxRecDepth 20000 in
theorem oroot_f (N : Nat) (m : Nat) (hN : N < 85070591730234615865843651857942052864) : Pu 218 [wiD N] m (li (rt N)) := by
  have hrt := rt_lt hN;refine pcN 42 [.tmp 2] [3] Tryz.func218 rfl [] ?_;(repeat' first|refine stW [0,1,2,3,4,5,6,8,36] ?_|refine fctI fun hf=>?_|refine twI (fun hc=>?_) fun hc=>?_);refine loop_swp [1, 3, 4] [0] 1 (fun q A H => ∃ k r : Nat, q = k /\ RtI N k r /\ A = [(1, .ptr 0 0), (3, lu r), (4, lu (half k))] /\ H = [(0, .blk 233 [lu (hiN N), lu (loN N)])]) (by omega) ?_ ?_ ?_
  · rintro q A H ⟨k, r, g1, g2, rfl, rfl⟩;exact SDD
  · refine ⟨_, 63, 0, rfl, RtI.init N, ?_, ?_⟩
    · rw [half_63];exact DVR
    · exact DVR
  rintro q A H ⟨k, r, g1, g2, rfl, rfl⟩;cases k with
  | zero =>
    rw [half_0];have hz : ¬ ((0 : Int) < 0) := by omega
    have er := g2.fin;subst er;(repeat' first|refine stW [0,1,2,3,4,5,6,8,36] ?_|refine fctI fun hf=>?_|refine twI (fun hc=>?_) fun hc=>?_);exact DVR
  | succ k =>
    obtain ⟨s, hs, hs1, hk1, ho, n1, n2⟩ := g2.step;have : OrOk r (2 ^ k) s := ⟨ho⟩;have hp : ((0 : Nat) : Int) < ((2 ^ k : Nat) : Int) := by have := Nat.two_pow_pos k; omega
    have hp2 : (0 : Int) < ((2 ^ k : Nat) : Int) := hp;have hsh := half_sh k;rw [half_s];have cm := fun m => mul64_f s s m (by omega) (by omega)
    rw [show s * s / 18446744073709551616 = hiN (s * s) from (hiN_of (Nat.div_add_mod' _ _).symm (Nat.mod_lt _ (by decide))).symm, show s * s % 18446744073709551616 = loN (s * s) from (loN_of (Nat.div_add_mod' _ _).symm (Nat.mod_lt _ (by decide))).symm] at cm;have hle := le_parts (M := s * s) (N := N);clear hs ho g2;generalize s * s = M at *
    generalize 2 ^ k = b at *
    (have:=NeI hp2);by_cases c1 : (hiN M : Int) < (hiN N : Int)
    · (have:=NeI c1);(repeat' first|refine stW [0,1,2,3,4,5,6,8,36] ?_|refine fctI fun hf=>?_|refine twI (fun hc=>?_) fun hc=>?_);(refine lN [0] ?_);rw [hsh];exact ⟨_, by omega, k, s, rfl, n1 (hle.2 (.inl (by omega))), rfl, rfl⟩
    · (have:=NeI c1);by_cases c2 : (hiN M : Int) = (hiN N : Int)
      · (have:=NeI c2);by_cases c3 : (loN M : Int) <= (loN N : Int)
        · (have:=NeI c3);(repeat' first|refine stW [0,1,2,3,4,5,6,8,36] ?_|refine fctI fun hf=>?_|refine twI (fun hc=>?_) fun hc=>?_);(refine lN [0] ?_);rw [hsh];exact ⟨_, by omega, k, s, rfl, n1 (hle.2 (.inr (by omega))), rfl, rfl⟩
        · (have:=NeI c3);(repeat' first|refine stW [0,1,2,3,4,5,6,8,36] ?_|refine fctI fun hf=>?_|refine twI (fun hc=>?_) fun hc=>?_);(refine lN [0] ?_);rw [hsh];exact ⟨_, by omega, k, r, rfl, n2 (fun q => by have := hle.1 q; omega), rfl, rfl⟩
      · (have:=NeI c2);(repeat' first|refine stW [0,1,2,3,4,5,6,8,36] ?_|refine fctI fun hf=>?_|refine twI (fun hc=>?_) fun hc=>?_);(refine lN [0] ?_);rw [hsh];exact ⟨_, by omega, k, r, rfl, n2 (fun q => by have := hle.1 q; omega), rfl, rfl⟩
structure DwI (A b i N q r : Nat) : Prop where
  hN : N < 340282366920938463463374607431768211456
  hr : r < b
  hb : b < 4611686018427387904
  hA : A < 340282366920938463463374607431768211456
  hq : q <= A
  ex : ∃ X, X = A * 2 ^ i /\ X = (b * q + r) * 340282366920938463463374607431768211456 + N
theorem DwI.init {A b : Nat} (hA : A < 340282366920938463463374607431768211456) (hb : 0 < b /\ b < 4611686018427387904) : DwI A b 0 A 0 0 :=
  ⟨hA, hb.1, hb.2, hA, Nat.zero_le _, A, by rw [Nat.pow_zero, Nat.mul_one], by rw [Nat.mul_zero]; omega⟩
theorem q_le {A b q r : Nat} (hb : 0 < b) (h : b * q + r <= A) : q <= A :=
  Nat.le_trans (Nat.le_mul_of_pos_left q hb) (Nat.le_trans (Nat.le_add_right _ _) h)
theorem dbl_N {N : Nat} (h : N < 340282366920938463463374607431768211456) : ∃ bit N2, hiN N / 9223372036854775808 = bit /\ bit <= 1 /\ N2 < 340282366920938463463374607431768211456 /\ 2 * N = bit * 340282366920938463463374607431768211456 + N2 /\
    2 * (hiN N * 18446744073709551616 + loN N) + 0 = bit * 340282366920938463463374607431768211456 + (hiN N2 * 18446744073709551616 + loN N2) := by
  have e := hl_eq N;have h1 := hiN_lt h;have h2 := loN_lt N;refine ⟨_, 2 * N - hiN N / 9223372036854775808 * 340282366920938463463374607431768211456, rfl, ?_⟩;have e2 := hl_eq (2 * N - hiN N / 9223372036854775808 * 340282366920938463463374607431768211456);rw [<- e2, <- e];clear e2;generalize hiN N = a at *
  generalize loN N = c at *
  omega
theorem DwI.step {A b i N q r : Nat} (I : DwI A b i N q r) (hi : i < 128) : ∃ N2 bit r2 : Nat, (hiN N : Int).fdiv (2 ^ min 63 IntKind.u64.bits) = (bit : Int) /\ bit <= 1 /\ N2 < 340282366920938463463374607431768211456 /\
    2 * (hiN N * 18446744073709551616 + loN N) + 0 = bit * 340282366920938463463374607431768211456 + (hiN N2 * 18446744073709551616 + loN N2) /\ 2 * r + bit = r2 /\ r2 < 9223372036854775808 /\ 2 * q < 340282366920938463463374607431768211456 /\
    (r2 < b -> DwI A b (i + 1) N2 (2 * q) r2) /\ (¬ r2 < b -> DwI A b (i + 1) N2 (2 * q + 1) (r2 - b)) := by
  obtain ⟨hN, hr, hb, hA, hq, X, e1, e2⟩ := I;obtain ⟨bit, N2, hbit, hb1, hN2, hs, hs2⟩ := dbl_N hN;have hr3 : 2 * r + bit < 9223372036854775808 := by clear e1 e2 hs hs2 hbit; omega
  have hfd : (hiN N : Int).fdiv (2 ^ min 63 IntKind.u64.bits) = (bit : Int) := by rw [<- hbit]; exact shr64 (hiN N) 63 (by decide)
  have hstep := div_step (a2 := N2) e2 rfl hs;have hX2 : 2 * X = A * 2 ^ (i + 1) := by rw [e1, Nat.pow_succ, <- Nat.mul_assoc A, Nat.mul_comm 2]
  have htop := top_le (i := i + 1) (by omega) hX2 hstep;have hb0 : 0 < b := by omega
  have hq2 := q_le hb0 htop;refine ⟨N2, bit, 2 * r + bit, hfd, hb1, hN2, hs2, rfl, hr3, Nat.lt_of_le_of_lt hq2 hA, fun hlt => ?_, fun hlt => ?_⟩
  · exact ⟨hN2, hlt, hb, hA, hq2, 2 * X, hX2, hstep⟩
  · have e3 : b * (2 * q + 1) + (2 * r + bit - b) = b * (2 * q) + (2 * r + bit) := sub_back (Nat.le_of_not_lt hlt);refine ⟨hN2, by clear e1 e2 hs hs2 hstep hX2 htop e3; omega, hb, hA, q_le hb0 (r := 2 * r + bit - b) (by rw [e3]; exact htop), 2 * X, hX2, by rw [e3]; exact hstep⟩
theorem DwI.fin {A b N q r : Nat} (I : DwI A b 128 N q r) : q = A / b /\ r = A % b := by
  obtain ⟨hN, hr, hb, hA, hq, X, e1, e2⟩ := I;have h3 : (2 : Nat) ^ 128 = 340282366920938463463374607431768211456 := by decide
  rw [h3] at e1;rw [e1] at e2;have e : A = b * q + r := by
    generalize b * q + r = t at *
    omega
  rw [e, Nat.mul_add_div (by omega), Nat.div_eq_of_lt hr, Nat.mul_add_mod, Nat.mod_eq_of_lt hr];exact ⟨rfl, rfl⟩
def capaN (s : Sect) (y fall len : Nat) : Nat := rt ((floorT s.conv y).toNat * (floorT s.conv y).toNat * fall / len)
def bigB (q : Nat) : Bool := decide (1099511627776 < q)
def limI (q : Nat) : Int := if bigB q then 1099511627776 else q
theorem fitT_in {t : List Knot} {h most : Int} (k : fitT t h most = true) : tabB t = true /\ (t.getD 0 default).x = 0 /\ (t.getD 0 default).y = 0 /\ (t.getD (t.length - 1) default).x = h /\ (t.getD (t.length - 1) default).y <= most := by
  unfold fitT at k; simp only [Bool.and_eq_true, decide_eq_true_eq] at k;exact ⟨k.1.1.1.1, k.1.1.1.2, k.1.1.2, k.1.2, k.2⟩
structure SecIn (s : Sect) : Prop where
  h1 : 1 <= s.height
  h2 : s.height <= 32768
  conv : fitT s.conv s.height 1099511627776 = true
theorem secB_in {s : Sect} (h : secB s = true) : SecIn s := by
  unfold secB at h; simp only [Bool.and_eq_true, decide_eq_true_eq] at h;exact ⟨h.1.1.1.1.1.2, h.1.1.1.1.2, h.2⟩
theorem conv_in {s : Sect} (h : secB s = true) (y : Int) : 0 <= floorT s.conv y /\ floorT s.conv y <= 1099511627776 := by
  have k := fitT_in (secB_in h).conv;have := floorT_in (x := y) k.1;omega
theorem cap_fits {k fall : Nat} (h1 : k <= 1099511627776) (h2 : fall <= 4194304) : k * k <= 1208925819614629174706176 /\ k * k * fall <= 5070602400912917605986812821504 := by
  have a := Nat.mul_le_mul h1 h1;exact ⟨a, Nat.mul_le_mul a h2⟩
theorem slope_f (a b : Int) (m : Nat) (h : (0 <= a /\ a <= 4194304) /\ 1 <= b /\ b <= 16777216) : Pu 213 [li a, li b] m (lb true) := by
  obtain ⟨⟨h1, h2⟩, h3, h4⟩ := h;(have:=NeI h1);(have:=NeI h2);(have:=NeI h3);(have:=NeI h4);refine pcN 19 [.tmp 4] [4] Tryz.func213 rfl [] ?_;(repeat' first|refine stW [0,1,4] ?_|refine fctI fun hf=>?_|refine twI (fun hc=>?_) fun hc=>?_);exact DVR
theorem carried_f (s : Sect) (y fall len : Nat) (m : Nat) (h : secB s = true) (hy : y <= 32768) (hf : fall <= 4194304) (hl : 1 <= len /\ len <= 16777216) : Pu 214 [sectD s, li y, li fall, li len] m (.tup [li (capaN s y fall len), li 0]) := by
  have hc := conv_in h y;have cf := fun m => floor_f s.conv y m (fitT_in (secB_in h).conv).1 (by unfold i64ok; omega)
  unfold capaN;obtain ⟨k, hk⟩ : ∃ k : Nat, floorT s.conv y = (k : Int) := ⟨(floorT s.conv y).toNat, by omega⟩;rw [hk] at cf hc ⊢;rw [Int.toNat_natCast];have hk1 : k <= 1099511627776 := by omega
  have hb := cap_fits hk1 hf;have c1 := fun m => cproduct_f k k m (by omega) (by omega)
  have c2 := fun m => ctimes_f (k * k) fall m (by omega) (by omega)
  have c3 := fun m => cover_f (k * k * fall) len m (by omega) (by omega) (by omega)
  have hle := Nat.div_le_self (k * k * fall) len;have c4 := fun m => croot_f (k * k * fall / len) m (by omega)
  clear hle hb;generalize k * k * fall / len = z at *
  generalize k * k * fall = z2 at *
  generalize k * k = z3 at *
  refine pcN 30 [.tmp 8,.tmp 9] [3,45] Tryz.func214 rfl [] ?_;(repeat' first|refine stW [0,1,2,3,4,8,9,10,11,20] ?_|(show CallQ ..;first|refine cQ (fun hcc=>(by exact cf _)) ?_|(refine lP ?_;refine lQ (fun hcc m=>(by exact cf _)) ?_))|refine fctI fun hf=>?_|refine twI (fun hc=>?_) fun hc=>?_);exact DVR
def capI (q : Nat) : Int := if bigB q then 0 else q
def capE (q : Nat) : Int := if bigB q then 5 else 0
theorem capacity28_f (s : Sect) (y fall len : Nat) (m : Nat) (hs : sectOk s) (h : secB s = true) (hy : (y : Int) <= s.height) (hf : fall <= 4194304) (hl : 1 <= len /\ len <= 16777216) : Pu 203 [sectD s, li y, li fall, li len] m (.tup [li (capI (capaN s y fall len)), li (capE (capaN s y fall len))]) := by
  have hin := secB_in h;have hh := hin.h2;have cv := fun m => sect_f s m hs
  rw [h] at cv;have c1 := fun m => slope_f fall len m (by omega)
  have c2 := fun m => carried_f s y fall len m h (by omega) hf hl
  generalize capaN s y fall len = q at *
  have y0 : ¬ ((y : Int) < 0) := by omega
  have y1 : ¬ (s.height < (y : Int)) := by omega
  (have:=NeI y0);(have:=NeI y1);clear hin hl hf h;unfold capI capE bigB;by_cases hb : (1099511627776 : Int) < (q : Int)
  · (have:=NeI hb);rw [decide_eq_true (by omega)];refine pcN 47 [.tmp 8,.tmp 9] [3,45] Tryz.func203 rfl [] ?_;(repeat' first|refine stW [0,1,2,3,4,8,9,10,11,12,16,39,43] ?_|refine fctI fun hf=>?_|refine twI (fun hc=>?_) fun hc=>?_);exact DVR
  · (have:=NeI hb);rw [decide_eq_false (by omega)];refine pcN 47 [.tmp 8,.tmp 9] [3,45] Tryz.func203 rfl [] ?_;(repeat' first|refine stW [0,1,2,3,4,8,9,10,11,12,16,39,43] ?_|refine fctI fun hf=>?_|refine twI (fun hc=>?_) fun hc=>?_);exact DVR
theorem limited_f (q : Nat) (m : Nat) : Pu 198 [li (capI q), li (capE q)] m (.tup [li (limI q), li 0]) := by
  unfold capI capE limI;cases bigB q
  · refine pcN 10 [.tmp 4,.tmp 5] [3,45] Tryz.func198 rfl [] ?_;(repeat' first|refine stW [0,1,4,5,7] ?_|refine fctI fun hf=>?_|refine twI (fun hc=>?_) fun hc=>?_);exact DVR
  · refine pcN 10 [.tmp 4,.tmp 5] [3,45] Tryz.func198 rfl [] ?_;(repeat' first|refine stW [0,1,4,5,7] ?_|refine fctI fun hf=>?_|refine twI (fun hc=>?_) fun hc=>?_);exact DVR
theorem owithin_f (n lo hi : Int) (m : Nat) : Pu 210 [li n, li lo, li hi] m (lb (btwB n lo hi)) := by
  refine pcN 15 [.tmp 6] [4] Tryz.func210 rfl [] ?_;(repeat' first|refine stW [0,1,2,6] ?_|refine fctI fun hf=>?_|refine twI (fun hc=>?_) fun hc=>?_);exact DVR
theorem olevel_f (n : Int) (m : Nat) : Pu 205 [li n] m (lb (levB n)) := by
  refine pcN 5 [.tmp 2] [4] Tryz.func205 rfl [] ?_;(repeat' first|refine stW [0,2] ?_|(show CallQ ..;first|refine cQ (fun hcc=>(owithin_f _ _ _ _)) ?_|(refine lP ?_;refine lQ (fun hcc m=>(owithin_f _ _ _ _)) ?_))|refine fctI fun hf=>?_|refine twI (fun hc=>?_) fun hc=>?_);exact DVR
def weirB (x : Link) : Bool := decide (x.kind = 2) && levB x.up && btwB x.width 1 1048576
def gateB (x : Link) : Bool := decide (x.kind = 3) && levB x.up && btwB x.width 1 32768 && btwB x.height 1 32768
theorem isWeir_f (x : Link) (m : Nat) : Pu 204 [linkD x] m (lb (weirB x)) := by
  refine pcN 16 [.tmp 2] [4] Tryz.func204 rfl [] ?_;(repeat' first|refine stW [0,1,2] ?_|(show CallQ ..;first|refine cQ (fun hcc=>(by first | exact owithin_f _ _ _ _ | exact olevel_f _ _)) ?_|(refine lP ?_;refine lQ (fun hcc m=>(by first | exact owithin_f _ _ _ _ | exact olevel_f _ _)) ?_))|refine fctI fun hf=>?_|refine twI (fun hc=>?_) fun hc=>?_);(refine DVQ ?_);refine lbC ?_;unfold weirB;rw [Bool.eq_iff_iff]; simp
theorem isGate_f (x : Link) (m : Nat) : Pu 209 [linkD x] m (lb (gateB x)) := by
  refine pcN 21 [.tmp 2] [4] Tryz.func209 rfl [] ?_;(repeat' first|refine stW [0,1,2] ?_|(show CallQ ..;first|refine cQ (fun hcc=>(by first | exact owithin_f _ _ _ _ | exact olevel_f _ _)) ?_|(refine lP ?_;refine lQ (fun hcc m=>(by first | exact owithin_f _ _ _ _ | exact olevel_f _ _)) ?_))|refine fctI fun hf=>?_|refine twI (fun hc=>?_) fun hc=>?_);(refine DVQ ?_);refine lbC ?_;unfold gateB;rw [Bool.eq_iff_iff]; simp
def headI (x : Link) (up down : Int) : Int := if 0 < up - (if down < x.up then x.up else down) then up - (if down < x.up then x.up else down) else 0
theorem lev_in {n : Int} (h : levB n = true) : -4194304 <= n /\ n <= 4194304 := by unfold levB at h; simpa using h
theorem btwB_in {n a b : Int} (h : btwB n a b = true) : a <= n /\ n <= b := by unfold btwB at h; simpa using h
theorem head_f (x : Link) (up down : Int) (m : Nat) (h1 : levB x.up = true) (h2 : levB up = true) (h3 : levB down = true) : Pu 206 [linkD x, li up, li down] m (li (headI x up down)) := by
  have a1 := lev_in h1;have a2 := lev_in h2;have a3 := lev_in h3;refine pcN 14 [.tmp 6] [3] Tryz.func206 rfl [] ?_;(repeat' first|refine stW [0,1,2,3,6] ?_|refine fctI fun hf=>?_|refine twI (fun hc=>?_) fun hc=>?_);exact DVR
theorem headI_in {x : Link} {up down : Int} (h1 : levB x.up = true) (h2 : levB up = true) (h3 : levB down = true) : 0 <= headI x up down /\ headI x up down <= 8388608 := by
  have a1 := lev_in h1;have a2 := lev_in h2;have a3 := lev_in h3;unfold headI;split <;> split at * <;> omega
def weirN (b h : Nat) : Nat := rt (b * b * (h * h) * h * 289 / 100000)
def orifN (a h : Nat) : Nat := rt (a * a * h * 8829 / 1250000)
theorem weir_fits {b h : Nat} (hb : b <= 1048576) (hh : h <= 1048576) : b * b <= 1099511627776 /\ h * h <= 1099511627776 /\ b * b * (h * h) <= 1208925819614629174706176 /\ b * b * (h * h) * h <= 1267650600228229401496703205376 /\ b * b * (h * h) * h * 289 <= 366351023465958297032547226353664 := by
  have a1 := Nat.mul_le_mul hb hb;have a2 := Nat.mul_le_mul hh hh;have a3 := Nat.mul_le_mul a1 a2;have a4 := Nat.mul_le_mul a3 hh;exact ⟨a1, a2, a3, a4, Nat.mul_le_mul_right 289 a4⟩
theorem orif_fits {a h : Nat} (ha : a <= 1073741824) (hh : h <= 1048576) : a * a <= 1152921504606846976 /\ a * a * h <= 1208925819614629174706176 /\ a * a * h * 8829 <= 10673606061377560983480827904 /\ a * h <= 1125899906842624 := by
  have a1 := Nat.mul_le_mul ha ha;have a2 := Nat.mul_le_mul a1 hh;exact ⟨a1, a2, Nat.mul_le_mul_right 8829 a2, Nat.mul_le_mul ha hh⟩
theorem oweir_f (b h : Nat) (m : Nat) (hb : b <= 1048576) (hh : h <= 1048576) : Pu 208 [li b, li h] m (li (weirN b h)) := by
  have hf := weir_fits hb hh;have e1 : (b : Int) * (b : Int) = ((b * b : Nat) : Int) := (Int.natCast_mul _ _).symm;have e2 : (h : Int) * (h : Int) = ((h * h : Nat) : Int) := (Int.natCast_mul _ _).symm;have hle := Nat.div_le_self (b * b * (h * h) * h * 289) 100000;have c1 := fun m => oproduct_f (b * b) (h * h) m (by omega) (by omega)
  have c2 := fun m => otimes_f (b * b * (h * h)) h m (by omega) (by omega)
  have c3 := fun m => otimes_f (b * b * (h * h) * h) 289 m (by omega) (by omega)
  have c4 := fun m => oover_f (b * b * (h * h) * h * 289) 100000 m (by omega) (by omega) (by omega)
  have c5 := fun m => oroot_f (b * b * (h * h) * h * 289 / 100000) m (by omega)
  have b1 : 0 <= (b : Int) * (b : Int) /\ (b : Int) * (b : Int) <= 1099511627776 := by rw [e1]; omega
  have b2 : 0 <= (h : Int) * (h : Int) /\ (h : Int) * (h : Int) <= 1099511627776 := by rw [e2]; omega
  have c0 : ∀ m, Pu 215 [li ((b : Int) * (b : Int)), li ((h : Int) * (h : Int))] m (wiD (b * b * (h * h))) := by rw [e1, e2]; exact c1
  clear c1 e1 e2 hle hf;unfold weirN;generalize b * b * (h * h) * h * 289 / 100000 = z at *
  generalize b * b * (h * h) * h * 289 = z2 at *
  generalize b * b * (h * h) * h = z3 at *
  generalize b * b * (h * h) = z4 at *
  refine pcN 17 [.tmp 4] [3] Tryz.func208 rfl [] ?_;(repeat' first|refine stW [0,1,4] ?_|refine fctI fun hf=>?_|refine twI (fun hc=>?_) fun hc=>?_);exact DVR
theorem oorif_f (a h : Nat) (m : Nat) (ha : a <= 1073741824) (hh : h <= 1048576) : Pu 219 [li a, li h] m (li (orifN a h)) := by
  have hf := orif_fits ha hh;have hle := Nat.div_le_self (a * a * h * 8829) 1250000;have c1 := fun m => oproduct_f a a m (by omega) (by omega)
  have c2 := fun m => otimes_f (a * a) h m (by omega) (by omega)
  have c3 := fun m => otimes_f (a * a * h) 8829 m (by omega) (by omega)
  have c4 := fun m => oover_f (a * a * h * 8829) 1250000 m (by omega) (by omega) (by omega)
  have c5 := fun m => oroot_f (a * a * h * 8829 / 1250000) m (by omega)
  clear hle hf;unfold orifN;generalize a * a * h * 8829 / 1250000 = z at *
  generalize a * a * h * 8829 = z2 at *
  generalize a * a * h = z3 at *
  generalize a * a = z4 at *
  refine pcN 13 [.tmp 4] [3] Tryz.func219 rfl [] ?_;(repeat' first|refine stW [0,1,4] ?_|refine fctI fun hf=>?_|refine twI (fun hc=>?_) fun hc=>?_);exact DVR
theorem oflow_f (q : Nat) (m : Nat) : Pu 207 [li q] m (.tup [li (capI q), li (capE q)]) := by
  unfold capI capE bigB;by_cases hb : (1099511627776 : Int) < (q : Int)
  · (have:=NeI hb);rw [decide_eq_true (by omega)];refine pcN 7 [.tmp 2,.tmp 3] [3,45] Tryz.func207 rfl [] ?_;(repeat' first|refine stW [0,2,3,5] ?_|refine fctI fun hf=>?_|refine twI (fun hc=>?_) fun hc=>?_);exact DVR
  · (have:=NeI hb);rw [decide_eq_false (by omega)];refine pcN 7 [.tmp 2,.tmp 3] [3,45] Tryz.func207 rfl [] ?_;(repeat' first|refine stW [0,2,3,5] ?_|refine fctI fun hf=>?_|refine twI (fun hc=>?_) fun hc=>?_);exact DVR
end Go.Proofs.YtgpllheklfbfhaaGreat
