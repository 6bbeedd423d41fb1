/-
  Contracts of functions of the program, over the engine.
  No condition.
-/
import Derived.Test.YthacnhidipeckaaGreatCT5T6T6bT7T7bT7c
import Derived.Test.YthacnhidipeckaaGreatCN0N1NBNmT1T2T2eT3
import Derived.Test.YthacnhidipeckaaGreatCKSK1K2K3K5K4W0W1W2W3
namespace Go.Proofs.YthacnhidipeckaaGreat
open Go.Eng
set_option linter.all false
attribute [local irreducible] DCallsG SWp Fct CallQ XCallQ LCallQ XLCallQ drun xrun
def fitT (t : List Knot) (h most : Int) : Bool := tabB t && decide ((t.getD 0 default).x = 0) && decide ((t.getD 0 default).y = 0) && decide ((t.getD (t.length - 1) default).x = h) && decide ((t.getD (t.length - 1) default).y <= most)
theorem curve_f (t : List Knot) (h most : Int) (m : Nat) (hl : t.length <= 281474976710656) : DCalls Tryz.prog 193 [knotL t, li h, li most] (hget []) m (lb (fitT t h most)) (hget []) := by
  refine pureC (n := 34) (rs := [.tmp 6]) (ts := [4]) Tryz.func193 rfl (by decide) [] (by (exact SD)) ?_;(repeat' (first|refine swp_seq [0,1,2,6,7,10] ?_|refine st2 ?_|(show CallQ ..;first|refine cQ (fun hcc=>(tab_f _ _ SC)) ?_|(refine lP ?_;refine lQ (fun hcc m=>(tab_f _ _ SC)) ?_))|refine fctI fun hf=>?_|(show CondG ..;first|refine cBG (fun hc=>?_) (fun hc=>?_)|refine cUG ?_ ?_)))
  · (refine DVQ ?_);refine lbC ?_;unfold fitT; rw [hc]; rfl
  · have h2 := tabB_len hc;(repeat' (first|refine swp_seq [0,1,2,6,7,10] ?_|refine st2 ?_|refine fctI fun hf=>?_|(show CondG ..;first|refine cBG (fun hc=>?_) (fun hc=>?_)|refine cUG ?_ ?_)));(refine DVQ ?_);refine lbC ?_;unfold fitT; rw [hc];grind
theorem fits28_f (t : List Knot) (h most : Int) (m : Nat) (hl : t.length <= 281474976710656) : DCalls Tryz.prog 205 [knotL t, li h, li most] (hget []) m (lb (fitT t h most)) (hget []) := by
  refine pureC (n := 41) (rs := [.tmp 6]) (ts := [4]) Tryz.func205 rfl (by decide) [] (by (exact SD)) ?_;(repeat' (first|refine swp_seq [0,1,2,6,7,10] ?_|refine st2 ?_|(show CallQ ..;first|refine cQ (fun hcc=>(rTab_f _ _ SC)) ?_|(refine lP ?_;refine lQ (fun hcc m=>(rTab_f _ _ SC)) ?_))|refine fctI fun hf=>?_|(show CondG ..;first|refine cBG (fun hc=>?_) (fun hc=>?_)|refine cUG ?_ ?_)))
  · (refine DVQ ?_);refine lbC ?_;unfold fitT; rw [hc]; rfl
  · have h2 := tabB_len hc;(repeat' (first|refine swp_seq [0,1,2,6,7,10] ?_|refine st2 ?_|refine fctI fun hf=>?_|(show CondG ..;first|refine cBG (fun hc=>?_) (fun hc=>?_)|refine cUG ?_ ?_)));(refine DVQ ?_);refine lbC ?_;unfold fitT; rw [hc];grind
def secB (s : Sect) : Bool := nameB s.name && decide (1 <= s.height) && decide (s.height <= 32768) && decide (0 <= s.price) && decide (s.price <= 1073741824) && fitT s.area s.height 1073741824 && fitT s.conv s.height 1099511627776
theorem sect_f (s : Sect) (m : Nat) (hs : sectOk s) : DCalls Tryz.prog 157 [sectD s] (hget []) m (lb (secB s)) (hget []) := by
  obtain ⟨h1, h2, h3, ⟨h4, _⟩, h5, _⟩ := hs;refine pureC (n := 40) (rs := [.tmp 2]) (ts := [4]) Tryz.func157 rfl (by decide) [] (by (exact SD)) ?_;(repeat' (first|refine swp_seq [0,1,2] ?_|refine st2 ?_|(show CallQ ..;first|refine cQ (fun hcc=>(by first | exact name_f _ _ SC | exact curve_f _ _ _ _ SC)) ?_|(refine lP ?_;refine lQ (fun hcc m=>(by first | exact name_f _ _ SC | exact curve_f _ _ _ _ SC)) ?_))|refine fctI fun hf=>?_|(show CondG ..;first|refine cBG (fun hc=>?_) (fun hc=>?_)|refine cUG ?_ ?_)));exact DVR
theorem rSect_f (s : Sect) (m : Nat) (hs : sectOk s) : DCalls Tryz.prog 172 [sectD s] (hget []) m (lb (secB s)) (hget []) := by
  obtain ⟨h1, h2, h3, ⟨h4, _⟩, h5, _⟩ := hs;refine pureC (n := 39) (rs := [.tmp 2]) (ts := [4]) Tryz.func172 rfl (by decide) [] (by (exact SD)) ?_;(repeat' (first|refine swp_seq [0,1,2,26] ?_|refine st2 ?_|(show CallQ ..;first|refine cQ (fun hcc=>(by first | exact rName_f _ _ SC | exact fits28_f _ _ _ _ SC)) ?_|(refine lP ?_;refine lQ (fun hcc m=>(by first | exact rName_f _ _ SC | exact fits28_f _ _ _ _ SC)) ?_))|refine fctI fun hf=>?_|(show CondG ..;first|refine cBG (fun hc=>?_) (fun hc=>?_)|refine cUG ?_ ?_)))
  · (refine DVQ ?_);refine lbC ?_;unfold secB;grind
  · (refine DVQ ?_);refine lbC ?_;unfold secB;grind
def secIx (l : List Sect) (s : ByteArray) : Int := idxI (fun x => decide (x.name = s)) l
set_option maxHeartbeats 1000000 in
theorem rFind_f (l : List Sect) (s : ByteArray) (m : Nat) (hl : l.length <= 281474976710656) : DCalls Tryz.prog 173 [sectL l, ls s] (hget []) m (li (secIx l s)) (hget []) := by
  refine pureC (n := 20) (rs := [.tmp 4]) (ts := [3]) Tryz.func173 rfl (by decide) [] (by (exact SD)) ?_;(repeat' (first|refine swp_seq [0,1,4,5,9,18] ?_|refine st2 ?_|refine fctI fun hf=>?_|(show CondG ..;first|refine cBG (fun hc=>?_) (fun hc=>?_)|refine cUG ?_ ?_)));refine loop_swp [0, 1, 5] [] 0 (fun q A H => ∃ i : Nat, i <= l.length /\ q = l.length - i /\ (l.take i).any (fun x => decide (x.name = s)) = false /\ A = [(0, sectL l), (1, ls s), (5, li i)] /\ H = []) (by omega) ?_ ?_ ?_
  · rintro q A H ⟨i, h1, h2, h3, rfl, rfl⟩;exact SDD
  · refine ⟨_, 0, by omega, rfl, by simp, ?_, ?_⟩
    · exact DVR
    · exact DVR
  · rintro q A H ⟨i, h1, h2, h3, rfl, rfl⟩;(repeat' (first|refine swp_seq [0,1,4,5,9,18] ?_|refine st2 ?_|refine fctI fun hf=>?_|(show CondG ..;first|refine cBG (fun hc=>?_) (fun hc=>?_)|refine cUG ?_ ?_)))
    · (refine DVQ ?_);unfold secIx;rw [idxI_hit h3 (by omega) (by simpa using hc)]
    · (refine lN [] ?_);exact ⟨_, by omega, i + 1, by omega, rfl, any_step h3 (by omega) (by simpa using hc), rfl, rfl⟩
    · (refine DVQ ?_);rw [List.take_of_length_le (by omega)] at h3;unfold secIx;rw [idxI_none h3]
def okS (l : List Sect) (i : Nat) : Bool := secB (l.getD i default) && decide (secIx l (l.getD i default).name = i)
def catB (l : List Sect) : Bool := decide (l.length <= 40) && (List.range l.length).all (okS l)
theorem catB_no {l : List Sect} {i : Nat} (hi : i < l.length) (h : okS l i = false) : catB l = false := by
  unfold catB; rw [rall_false hi h]; simp
theorem catB_yes {l : List Sect} (h1 : l.length <= 40) (h : ∀ i, i < l.length -> okS l i = true) : catB l = true := by
  unfold catB; rw [rall_true h, decide_eq_true h1]; rfl
def catOk (l : List Sect) : Prop := l.length <= 281474976710656 /\ ∀ s, s ∈ l -> sectOk s
set_option maxHeartbeats 1000000 in
theorem rCat_f (l : List Sect) (m : Nat) (h : catOk l) : DCalls Tryz.prog 133 [sectL l] (hget []) m (lb (catB l)) (hget []) := by
  obtain ⟨a1, a2⟩ := h;refine pureC (n := 30) (rs := [.tmp 2]) (ts := [4]) Tryz.func133 rfl (by decide) [] (by (exact SD)) ?_;(repeat' (first|refine swp_seq [0,2,3,6,10,29] ?_|refine st2 ?_|refine fctI fun hf=>?_|(show CondG ..;first|refine cBG (fun hc=>?_) (fun hc=>?_)|refine cUG ?_ ?_)))
  · (refine DVQ ?_);refine lbC ?_;unfold catB;rw [decide_eq_false (p := l.length <= 40) (by omega)]; rfl
  refine loop_swp [0, 3] [] 0 (fun q A H => ∃ i : Nat, i <= l.length /\ q = l.length - i /\ (∀ j, j < i -> okS l j = true) /\ A = [(0, sectL l), (3, li i)] /\ H = []) (by omega) ?_ ?_ ?_
  · rintro q A H ⟨i, h1, h2, h3, rfl, rfl⟩;exact SDD
  · refine ⟨_, 0, by omega, rfl, by omega, ?_, ?_⟩
    · exact DVR
    · exact DVR
  rintro q A H ⟨i, h1, h2, h3, rfl, rfl⟩;by_cases hi : i < l.length
  · have cr := fun m => rSect_f (l.getD i default) m (a2 _ (getD_mem hi))
    have cn := fun m => rFind_f l (l.getD i default).name m a1
    (repeat' (first|refine swp_seq [0,2,3,6,10,29] ?_|refine st2 ?_|(show CallQ ..;first|refine cQ (fun hcc=>(by first | exact cr _ | exact cn _)) ?_|(refine lP ?_;refine lQ (fun hcc m=>(by first | exact cr _ | exact cn _)) ?_))|refine fctI fun hf=>?_|(show CondG ..;first|refine cBG (fun hc=>?_) (fun hc=>?_)|refine cUG ?_ ?_)))
    · (refine DVQ ?_);refine lbC ?_;rw [catB_no hi (by unfold okS; clear cr cn h3; grind)]
    · (refine lN [] ?_);exact ⟨_, by omega, i + 1, by omega, rfl, all_next h3 (by unfold okS; clear cr cn h3; grind), rfl, rfl⟩
    · omega
  have hi2 : i = l.length := by omega
  subst hi2;(repeat' (first|refine swp_seq [0,2,3,6,10,29] ?_|refine st2 ?_|refine fctI fun hf=>?_|(show CondG ..;first|refine cBG (fun hc=>?_) (fun hc=>?_)|refine cUG ?_ ?_)))
  · omega
  (refine DVQ ?_);refine lbC ?_;rw [catB_yes (by omega) h3]
def secE (s : Sect) : Value × DV := (.string s.name, lb true)
def seenS (l : List Sect) (i : Nat) (k : ByteArray) : Bool := (l.take i).any fun s => decide (s.name = k)
def namesM (l : List Sect) (i : Nat) : List (Value × DV) := (l.take i).map secE
theorem mfind_sec (k : ByteArray) : ∀ l : List Sect, (mfind (l.map secE) (.string k)).getD (lb false) = lb (l.any fun s => decide (s.name = k))
  | [] => rfl
  | s :: l => by
    have ih := mfind_sec k l;simp only [List.map_cons, secE, mfind, vkey, List.any_cons];by_cases h : s.name = k
    · simp [h]
    · simp [h, show ¬ k = s.name from fun q => h q.symm];exact ih
theorem mset_sec (k : ByteArray) (v : DV) : ∀ l : List Sect, (l.any fun s => decide (s.name = k)) = false -> mset (l.map secE) (.string k) v = l.map secE ++ [(.string k, v)]
  | [], _ => rfl
  | s :: l, h => by
    simp only [List.any_cons, Bool.or_eq_false_iff, decide_eq_false_iff_not] at h;simp [secE, mset, vkey, show ¬ k = s.name from fun q => h.1 q.symm];exact mset_sec k v l h.2
theorem names_find (l : List Sect) (i : Nat) (k : ByteArray) : (mfind (namesM l i) (.string k)).getD (.p (.lit (.bool false))) = lb (seenS l i k) := mfind_sec k _
theorem names_keys (l : List Sect) (i : Nat) : keysOk .str (namesM l i) = True := by
  refine propext ⟨fun _ => trivial, fun _ e he => ?_⟩;obtain ⟨s, _, rfl⟩ := List.mem_map.1 he;rfl
theorem names_set (l : List Sect) (i : Nat) [h : Nonempty (i < l.length)] [hs : Nonempty (seenS l i (l.getD i default).name = false)] : mset (namesM l i) (.string (l.getD i default).name) (.p (.lit (.bool true))) = namesM l (i + 1) := by
  obtain ⟨h⟩ := h;obtain ⟨hs⟩ := hs;unfold namesM;rw [mset_sec _ _ _ hs, List.take_add_one];have e : l[i]? = some (l.getD i default) := by rw [List.getD_eq_getElem?_getD, List.getElem?_eq_getElem h]; rfl
  rw [e];simp [secE];rfl
theorem seen_no (l : List Sect) (i : Nat) (k : ByteArray) [hs : Nonempty (seenS l i k = false)] : seenS l i k = false := hs.elim id
theorem seen_yes (l : List Sect) (i : Nat) (k : ByteArray) [hs : Nonempty (seenS l i k = true)] : seenS l i k = true := hs.elim id
theorem names_uses (U : Nat -> Prop) (l : List Sect) (i : Nat) : DV.usesL U ((namesM l i).map (·.2)) = True := by
  refine propext ⟨fun _ => trivial, fun _ => usesL_iff.2 fun d hd => ?_⟩;obtain ⟨e, he, rfl⟩ := List.mem_map.1 hd;obtain ⟨s, _, rfl⟩ := List.mem_map.1 he;trivial
attribute [push_cast] names_find names_keys names_set seen_no seen_yes names_uses
attribute [irreducible] namesM seenS
theorem seen_ix {l : List Sect} {i : Nat} (hi : i < l.length) : seenS l i (l.getD i default).name = !decide (secIx l (l.getD i default).name = i) := by
  cases h : seenS l i (l.getD i default).name
  · have : secIx l (l.getD i default).name = i := idxI_hit (by unfold seenS at h; exact h) hi (by simp);rw [decide_eq_true this]; rfl
  · have : ¬ secIx l (l.getD i default).name = i := fun q => by
      unfold seenS at h;rw [List.any_eq_true] at h;obtain ⟨s, hs, hn⟩ := h;obtain ⟨j, hj, rfl⟩ := List.getElem_of_mem hs;have hj2 : j < i := by simp at hj; omega
      have hn2 : (l.getD j default).name = (l.getD i default).name := by
        rw [List.getElem_take] at hn;have e : l.getD j default = l[j] := by rw [List.getD_eq_getElem?_getD, List.getElem?_eq_getElem (by omega)]; rfl
        rw [e]; simpa using hn
      have h2 : secIx l (l.getD i default).name <= j := by
        unfold secIx idxI;cases hf : l.findIdx? fun x => decide (x.name = (l.getD i default).name) with
        | none => simp
        | some p =>
          rw [List.findIdx?_eq_some_iff_getElem] at hf;obtain ⟨hp, _, hmin⟩ := hf;refine Int.ofNat_le.2 (Nat.le_of_not_lt fun hlt => ?_);have e : l.getD j default = l[j] := by rw [List.getD_eq_getElem?_getD, List.getElem?_eq_getElem (by omega)]; rfl
          have := hmin j hlt;rw [<- e, hn2] at this;simp at this
      omega
    rw [decide_eq_false this]; rfl
theorem seen_0 (l : List Sect) : namesM l 0 = [] := by unfold namesM; rfl
set_option maxHeartbeats 1000000 in
theorem cat_f (l : List Sect) (m : Nat) (h : catOk l) : DCalls Tryz.prog 114 [sectL l] (hget []) m (lb (catB l)) (hget []) := by
  obtain ⟨a1, a2⟩ := h;refine pureC (n := 29) (rs := [.tmp 2]) (ts := [4]) Tryz.func114 rfl (by decide) [] (by (exact SD)) ?_;(repeat' (first|refine swp_seq [0,2,3,5,8,10,11,12,13,24] ?_|refine st2 ?_|refine fctI fun hf=>?_|(show CondG ..;first|refine cBG (fun hc=>?_) (fun hc=>?_)|refine cUG ?_ ?_)))
  · (refine DVQ ?_);refine lbC ?_;unfold catB;rw [decide_eq_false (p := l.length <= 40) (by omega)]; rfl
  refine loop_swp [3, 10, 11, 12] [32] 33 (fun q A H => ∃ i : Nat, i <= l.length /\ q = l.length - i /\ (∀ j, j < i -> okS l j = true) /\ A = [(3, .mref 32), (10, sectL l), (11, li l.length), (12, li i)] /\ H = [(32, .map (namesM l i))]) (by omega) ?_ ?_ ?_
  · rintro q A H ⟨i, h1, h2, h3, rfl, rfl⟩;exact SDD
  · refine ⟨_, 0, by omega, rfl, by omega, ?_, ?_⟩
    · exact DVR
    · rw [seen_0];exact DVR
  rintro q A H ⟨i, h1, h2, h3, rfl, rfl⟩;by_cases hi : i < l.length
  · (have:=NeI hi);have cr := fun m => sect_f (l.getD i default) m (a2 _ (getD_mem hi))
    have hx := seen_ix hi;cases hv : secB (l.getD i default) <;> simp only [hv] at cr
    · (repeat' (first|refine swp_seq [0,2,3,5,8,10,11,12,13,24] ?_|refine st2 ?_|(show CallQ ..;first|refine cQ (fun hcc=>(by first | exact cr _)) ?_|(refine lP ?_;refine lQ (fun hcc m=>(by first | exact cr _)) ?_))|refine fctI fun hf=>?_|(show CondG ..;first|refine cBG (fun hc=>?_) (fun hc=>?_)|refine cUG ?_ ?_)))
      · (refine DVQ ?_);refine lbC ?_;rw [catB_no hi (by unfold okS; rw [hv]; rfl)]
      · omega
    cases hs : seenS l i (l.getD i default).name
    · (have:=NeI hs);rw [hs] at hx;(repeat' (first|refine swp_seq [0,2,3,5,8,10,11,12,13,24] ?_|refine st2 ?_|(show CallQ ..;first|refine cQ (fun hcc=>(by first | exact cr _)) ?_|(refine lP ?_;refine lQ (fun hcc m=>(by first | exact cr _)) ?_))|refine fctI fun hf=>?_|(show CondG ..;first|refine cBG (fun hc=>?_) (fun hc=>?_)|refine cUG ?_ ?_)))
      · (refine lN [32] ?_);exact ⟨_, by omega, i + 1, by omega, rfl, all_next h3 (by unfold okS; rw [hv]; simpa using hx), rfl, rfl⟩
      · omega
    · (have:=NeI hs);rw [hs] at hx;(repeat' (first|refine swp_seq [0,2,3,5,8,10,11,12,13,24] ?_|refine st2 ?_|(show CallQ ..;first|refine cQ (fun hcc=>(by first | exact cr _)) ?_|(refine lP ?_;refine lQ (fun hcc m=>(by first | exact cr _)) ?_))|refine fctI fun hf=>?_|(show CondG ..;first|refine cBG (fun hc=>?_) (fun hc=>?_)|refine cUG ?_ ?_)))
      · (refine DVQ ?_);refine lbC ?_;rw [catB_no hi (by unfold okS; rw [hv]; simpa using hx)]
      · omega
  have hi2 : i = l.length := by omega
  subst hi2;(repeat' (first|refine swp_seq [0,2,3,5,8,10,11,12,13,24] ?_|refine st2 ?_|refine fctI fun hf=>?_|(show CondG ..;first|refine cBG (fun hc=>?_) (fun hc=>?_)|refine cUG ?_ ?_)))
  · omega
  (refine DVQ ?_);refine lbC ?_;rw [catB_yes (by omega) h3]
def hiN (N : Nat) : Nat := N / 18446744073709551616
def loN (N : Nat) : Nat := N % 18446744073709551616
theorem loN_lt (N : Nat) : loN N < 18446744073709551616 := Nat.mod_lt _ (by decide)
theorem hiN_lt {N : Nat} (h : N < 340282366920938463463374607431768211456) : hiN N < 18446744073709551616 := by unfold hiN; omega
theorem hl_eq (N : Nat) : N = hiN N * 18446744073709551616 + loN N := by unfold hiN loN; omega
theorem hiN_of {N h l : Nat} (e : N = h * 18446744073709551616 + l) (hl : l < 18446744073709551616) : hiN N = h := by unfold hiN; omega
theorem loN_of {N h l : Nat} (e : N = h * 18446744073709551616 + l) (hl : l < 18446744073709551616) : loN N = l := by unfold loN; omega
theorem times_nat {N H L n h1 l1 : Nat} (e : N = H * 18446744073709551616 + L) (e1 : L * n = h1 * 18446744073709551616 + l1) : N * n = (H * n + h1) * 18446744073709551616 + l1 := by
  rw [e, Nat.add_mul, Nat.add_mul, e1, Nat.mul_right_comm];omega
theorem add_wrap {p h t : Nat} (e : t = p + h) (ht : t < 18446744073709551616) : IntKind.u64.wrap ((h : Int) + IntKind.u64.wrap (p : Int)) = (t : Int) := by
  rw [u64w, u64w]; omega
theorem times_s {N n : Nat} (h : N * n < 340282366920938463463374607431768211456) : IntKind.u64.wrap ((hiN (loN N * n) : Int) + IntKind.u64.wrap ((hiN N : Int) * (n : Int))) = (hiN (N * n) : Int) /\ loN (loN N * n) = loN (N * n) := by
  have e := times_nat (hl_eq N) (hl_eq (loN N * n));have hl := loN_lt (loN N * n);have h1 := hiN_of e hl;have h2 := loN_of e hl;refine ⟨?_, h2.symm⟩;have h3 := hiN_lt h;rw [h1] at h3 ⊢;rw [show (hiN N : Int) * (n : Int) = ((hiN N * n : Nat) : Int) from (Int.natCast_mul _ _).symm];exact add_wrap rfl h3
theorem over_nat {N H L n : Nat} (hn : 0 < n) (hl : L < 18446744073709551616) (hm : n <= 18446744073709551616) (e : N = H * 18446744073709551616 + L) : N / n = H / n * 18446744073709551616 + (H % n * 18446744073709551616 + L) / n /\ (H % n * 18446744073709551616 + L) / n < 18446744073709551616 := by
  have h1 := Nat.mod_add_div H n;have h2 := Nat.mod_lt H hn;generalize H / n = q at *
  generalize H % n = r at *
  have e2 : N = (r * 18446744073709551616 + L) + n * (q * 18446744073709551616) := by
    rw [e, <- h1, Nat.add_mul, <- Nat.mul_assoc]; omega
  rw [e2, Nat.add_mul_div_left _ _ hn];refine ⟨Nat.add_comm _ _, ?_⟩;rw [Nat.div_lt_iff_lt_mul hn];have h3 : (r + 1) * 18446744073709551616 <= n * 18446744073709551616 := Nat.mul_le_mul_right _ h2;rw [Nat.add_mul, Nat.one_mul] at h3;rw [Nat.mul_comm 18446744073709551616 n];omega
theorem over_s {N n : Nat} (hn : 0 < n) (hm : n <= 18446744073709551616) : hiN N / n = hiN (N / n) /\ (hiN N % n * 18446744073709551616 + loN N) / n = loN (N / n) := by
  have h := over_nat hn (loN_lt N) hm (hl_eq N);exact ⟨(hiN_of h.1 h.2).symm, (loN_of h.1 h.2).symm⟩
theorem le_parts {M N : Nat} : M <= N ↔ hiN M < hiN N ∨ (hiN M = hiN N /\ loN M <= loN N) := by
  have h1 := hl_eq M;have h2 := hl_eq N;have h3 := loN_lt M;have h4 := loN_lt N;generalize hiN M = a at *
  generalize hiN N = b at *
  generalize loN M = c at *
  generalize loN N = d at *
  omega
def rtG (N : Nat) : Nat -> Nat -> Nat
  | 0, r => r
  | k + 1, r => rtG N k (if (r + 2 ^ k) * (r + 2 ^ k) <= N then r + 2 ^ k else r)
def rt (N : Nat) : Nat := rtG N 63 0
theorem rtG_spec {N : Nat} : ∀ (k r : Nat), r * r <= N -> N < (r + 2 ^ k) * (r + 2 ^ k) -> rtG N k r * rtG N k r <= N /\ N < (rtG N k r + 1) * (rtG N k r + 1)
  | 0, r, h1, h2 => ⟨h1, h2⟩
  | k + 1, r, h1, h2 => by
    unfold rtG;split
    · next h => exact rtG_spec k _ h (by rw [Nat.add_assoc, <- Nat.two_mul, <- Nat.pow_succ']; exact h2)
    · next h => exact rtG_spec k _ h1 (by omega)
theorem rt_spec {N : Nat} (h : N < 85070591730234615865843651857942052864) : rt N * rt N <= N /\ N < (rt N + 1) * (rt N + 1) :=
  rtG_spec 63 0 (Nat.zero_le _) (by rw [Nat.zero_add]; exact h)
theorem rt_lt {N : Nat} (h : N < 85070591730234615865843651857942052864) : rt N < 9223372036854775808 := by
  have h1 := rt_spec h;refine Nat.lt_of_not_le fun h3 => ?_
  have := Nat.mul_le_mul h3 h3;omega
structure RtI (N k r : Nat) : Prop where
  hk : k <= 63
  ex : ∃ x, r = x * 2 ^ k
  lt : r + 2 ^ k <= 2 ^ 63
  eq : rtG N k r = rt N
theorem RtI.init (N : Nat) : RtI N 63 0 := ⟨Nat.le_refl _, ⟨0, by rw [Nat.zero_mul]⟩, by rw [Nat.zero_add]; exact Nat.le_refl _, rfl⟩
theorem RtI.step {N k r : Nat} (I : RtI N (k + 1) r) : ∃ s, r + 2 ^ k = s /\ s < 9223372036854775808 /\ 2 ^ k < 9223372036854775808 /\ IntKind.u64.wrap ((BitVec.ofInt IntKind.u64.bits (r : Int) ||| BitVec.ofInt IntKind.u64.bits ((2 ^ k : Nat) : Int)).toNat : Int) = (s : Int) /\ (s * s <= N -> RtI N k s) /\ (¬ s * s <= N -> RtI N k r) := by
  obtain ⟨hk, ⟨x, hx⟩, lt, eq⟩ := I;have hp : 2 ^ (k + 1) = 2 ^ k + 2 ^ k := by rw [Nat.pow_succ]; omega
  have hkp : 0 < 2 ^ k := Nat.two_pow_pos k;have h63 : (2 : Nat) ^ 63 = 9223372036854775808 := rfl;refine ⟨_, rfl, by omega, by omega, ?_, fun h => ⟨by omega, ⟨x * 2 + 1, ?_⟩, by omega, ?_⟩, fun h => ⟨by omega, ⟨x * 2, ?_⟩, by omega, ?_⟩⟩
  · rw [hx]; exact or64 x (2 ^ k) (k + 1) (by omega) (by rw [<- hx]; omega)
  · rw [hx, Nat.add_mul, Nat.mul_assoc, Nat.one_mul, <- Nat.pow_succ']
  · rw [<- eq]; conv => rhs; unfold rtG;rw [if_pos h]
  · rw [hx, Nat.mul_assoc, <- Nat.pow_succ']
  · rw [<- eq]; conv => rhs; unfold rtG;rw [if_neg h]
theorem RtI.fin {N r : Nat} (I : RtI N 0 r) : r = rt N := I.eq
def half (k : Nat) : Nat := 2 ^ k / 2
theorem half_s (k : Nat) : half (k + 1) = 2 ^ k := by unfold half; rw [Nat.pow_succ]; omega
theorem half_0 : half 0 = 0 := rfl
theorem half_63 : lu (half 63) = lv (.int .u64 4611686018427387904) := rfl
theorem half_sh (k : Nat) : ((2 ^ k : Nat) : Int).fdiv (2 ^ min 1 IntKind.u64.bits) = (half k : Int) := shr64 (2 ^ k) 1 (by decide)
class OrOk (r b : Nat) (s : outParam Nat) : Prop where
  out : IntKind.u64.wrap ((BitVec.ofInt IntKind.u64.bits (r : Int) ||| BitVec.ofInt IntKind.u64.bits (b : Int)).toNat : Int) = (s : Int)
theorem or_ok {r b s : Nat} [h : OrOk r b s] : IntKind.u64.wrap ((BitVec.ofInt IntKind.u64.bits (r : Int) ||| BitVec.ofInt IntKind.u64.bits (b : Int)).toNat : Int) = (s : Int) := h.out
theorem u64_ok {n : Nat} [h : Nonempty (n < 18446744073709551616)] : IntKind.u64.wrap (n : Int) = (n : Int) := h.elim fun h => u64n n h
theorem i64_ok {n : Nat} [h : Nonempty (n < 9223372036854775808)] : IntKind.i64.wrap (n : Int) = (n : Int) := h.elim fun h => i64w (by omega)
attribute [push_cast] or_ok u64_ok i64_ok
attribute [irreducible] hiN loN rt half
abbrev wiD (N : Nat) : DV := .agg [lu (hiN N), lu (loN N)]
theorem cproduct_f (a b : Nat) (m : Nat) (ha : a < 9223372036854775808) (hb : b < 9223372036854775808) : DCalls Tryz.prog 283 [li a, li b] (hget []) m (wiD (a * b)) (hget []) := by
  have ha2 : a < 18446744073709551616 := by omega
  have hb2 : b < 18446744073709551616 := by omega
  have cm := fun m => mul64_f a b m ha2 hb2
  rw [show a * b / 18446744073709551616 = hiN (a * b) from (hiN_of (Nat.div_add_mod' _ _).symm (Nat.mod_lt _ (by decide))).symm, show a * b % 18446744073709551616 = loN (a * b) from (loN_of (Nat.div_add_mod' _ _).symm (Nat.mod_lt _ (by decide))).symm] at cm;generalize a * b = p at *
  (have:=NeI ha2);(have:=NeI hb2);refine pureC (n := 18) (rs := [.cell 4 270]) (ts := [270]) Tryz.func283 rfl (by decide) [] (by (exact SD)) ?_;(repeat' (first|refine swp_seq [0,1,4,5,6] ?_|refine st2 ?_|(show CallQ ..;first|refine cQ (fun hcc=>(by first | exact cm _)) ?_|(refine lP ?_;refine lQ (fun hcc m=>(by first | exact cm _)) ?_))|refine fctI fun hf=>?_|(show CondG ..;first|refine cBG (fun hc=>?_) (fun hc=>?_)|refine cUG ?_ ?_)));exact DVR
theorem ctimes_f (N n : Nat) (m : Nat) (hn : n < 9223372036854775808) (h : N * n < 340282366920938463463374607431768211456) : DCalls Tryz.prog 284 [wiD N, li n] (hget []) m (wiD (N * n)) (hget []) := by
  have hn2 : n < 18446744073709551616 := by omega
  have hs := times_s h;have cm := fun m => mul64_f (loN N) n m (loN_lt N) hn2
  rw [show loN N * n / 18446744073709551616 = hiN (loN N * n) from (hiN_of (Nat.div_add_mod' _ _).symm (Nat.mod_lt _ (by decide))).symm, show loN N * n % 18446744073709551616 = loN (loN N * n) from (loN_of (Nat.div_add_mod' _ _).symm (Nat.mod_lt _ (by decide))).symm] at cm;rw [hs.2] at cm;generalize N * n = p at *
  generalize loN N * n = q at *
  (have:=NeI hn2);refine pureC (n := 24) (rs := [.cell 4 270]) (ts := [270]) Tryz.func284 rfl (by decide) [] (by (exact SD)) ?_;(repeat' (first|refine swp_seq [0,1,2,4,5,6] ?_|refine st2 ?_|(show CallQ ..;first|refine cQ (fun hcc=>(by first | exact cm _)) ?_|(refine lP ?_;refine lQ (fun hcc m=>(by first | exact cm _)) ?_))|refine fctI fun hf=>?_|(show CondG ..;first|refine cBG (fun hc=>?_) (fun hc=>?_)|refine cUG ?_ ?_)));(refine DVQ ?_);rw [hs.1]; rfl
theorem cover_f (N n : Nat) (m : Nat) (hN : N < 340282366920938463463374607431768211456) (h0 : 0 < n) (hn : n < 9223372036854775808) : DCalls Tryz.prog 285 [wiD N, li n] (hget []) m (wiD (N / n)) (hget []) := by
  have hn2 : n < 18446744073709551616 := by omega
  have hs := over_s (N := N) h0 (by omega);have cd := fun m => div64g_f (hiN N % n) (loN N) n m (Nat.mod_lt _ h0) hn2 (loN_lt N)
  rw [hs.2] at cd;have hh := hiN_lt hN;have e1 : IntKind.u64.wrap ((hiN N : Int).tdiv (n : Int)) = (hiN (N / n) : Int) := by
    rw [u64w, Int.tdiv_eq_ediv_of_nonneg (by omega), <- Int.natCast_ediv, <- hs.1];have := Nat.div_le_self (hiN N) n;generalize hiN N / n = q at *
    omega
  have e2 : ((hiN N : Int).tmod (n : Int)) = ((hiN N % n : Nat) : Int) := by
    rw [Int.tmod_eq_emod_of_nonneg (by omega)]; rfl
  generalize (hiN N % n * 18446744073709551616 + loN N) % n = z at *
  generalize hiN N % n = y at *
  have n0 : ¬ ((n : Int) = 0) := by omega
  (have:=NeI n0);(have:=NeI hn2);clear hs;refine pureC (n := 31) (rs := [.cell 4 270]) (ts := [270]) Tryz.func285 rfl (by decide) [] (by (exact SD)) ?_;(repeat' (first|(show SWp _ _ _ (.seq (.region 2 _ _) _) _ _ _ _;refine (stop_in ?_))|refine swp_seq [0,1,2,4,5,6,7] ?_|(show SWp _ _ _ (.region _ _ true) _ _ _ _;refine xG mixed [0] ?_)|refine st2 ?_|(show CallQ ..;first|refine cQ (fun hcc=>(by fail)) ?_|(refine lP ?_;refine lQ (fun hcc m=>(by fail)) ?_))|refine fctI fun hf=>?_|(show CondG ..;first|refine cBG (fun hc=>?_) (fun hc=>?_)|refine cUG ?_ ?_)));refine stop_out ?_;rw [e1, e2];generalize N / n = Q at *
  (repeat' (first|refine swp_seq [0,1,2,4,5,6,7] ?_|(show SWp _ _ _ (.region _ _ true) _ _ _ _;refine xG mixed [0] ?_)|refine st2 ?_|(show CallQ ..;first|refine cQ (fun hcc=>(by first | exact cd _)) ?_|(refine lP ?_;refine lQ (fun hcc m=>(by first | exact cd _)) ?_))|refine fctI fun hf=>?_|(show CondG ..;first|refine cBG (fun hc=>?_) (fun hc=>?_)|refine cUG ?_ ?_)));exact DVR
set_option maxRecDepth 20000 in
set_option maxHeartbeats 4000000 in
theorem croot_f (N : Nat) (m : Nat) (hN : N < 85070591730234615865843651857942052864) : DCalls Tryz.prog 286 [wiD N] (hget []) m (li (rt N)) (hget []) := by
  have hrt := rt_lt hN;refine pureC (n := 42) (rs := [.tmp 2]) (ts := [3]) Tryz.func286 rfl (by decide) [] (by (exact SD)) ?_;(repeat' (first|refine swp_seq [0,1,2,3,4,5,6,8,36] ?_|refine st2 ?_|refine fctI fun hf=>?_|(show CondG ..;first|refine cBG (fun hc=>?_) (fun hc=>?_)|refine cUG ?_ ?_)));refine loop_swp [1, 3, 4] [0] 1 (fun q A H => ∃ k r : Nat, q = k /\ RtI N k r /\ A = [(1, .ptr 0 0), (3, lu r), (4, lu (half k))] /\ H = [(0, .blk 270 [lu (hiN N), lu (loN N)])]) (by omega) ?_ ?_ ?_
  · rintro q A H ⟨k, r, g1, g2, rfl, rfl⟩;exact SDD
  · refine ⟨_, 63, 0, rfl, RtI.init N, ?_, ?_⟩
    · rw [half_63];exact DVR
    · exact DVR
  rintro q A H ⟨k, r, g1, g2, rfl, rfl⟩;cases k with
  | zero =>
    rw [half_0];have hz : ¬ ((0 : Int) < 0) := by omega
    have er := g2.fin;subst er;(repeat' (first|refine swp_seq [0,1,2,3,4,5,6,8,36] ?_|refine st2 ?_|refine fctI fun hf=>?_|(show CondG ..;first|refine cBG (fun hc=>?_) (fun hc=>?_)|refine cUG ?_ ?_)));exact DVR
  | succ k =>
    obtain ⟨s, hs, hs1, hk1, ho, n1, n2⟩ := g2.step;have : OrOk r (2 ^ k) s := ⟨ho⟩;have hp : ((0 : Nat) : Int) < ((2 ^ k : Nat) : Int) := by have := Nat.two_pow_pos k; omega
    have hp2 : (0 : Int) < ((2 ^ k : Nat) : Int) := hp;have hsh := half_sh k;rw [half_s];have cm := fun m => mul64_f s s m (by omega) (by omega)
    rw [show s * s / 18446744073709551616 = hiN (s * s) from (hiN_of (Nat.div_add_mod' _ _).symm (Nat.mod_lt _ (by decide))).symm, show s * s % 18446744073709551616 = loN (s * s) from (loN_of (Nat.div_add_mod' _ _).symm (Nat.mod_lt _ (by decide))).symm] at cm;have hle := le_parts (M := s * s) (N := N);clear hs ho g2;generalize s * s = M at *
    generalize 2 ^ k = b at *
    (have:=NeI hp2);by_cases c1 : (hiN M : Int) < (hiN N : Int)
    · (have:=NeI c1);(repeat' (first|refine swp_seq [0,1,2,3,4,5,6,8,36] ?_|refine st2 ?_|(show CallQ ..;first|refine cQ (fun hcc=>(by first | exact cm _)) ?_|(refine lP ?_;refine lQ (fun hcc m=>(by first | exact cm _)) ?_))|refine fctI fun hf=>?_|(show CondG ..;first|refine cBG (fun hc=>?_) (fun hc=>?_)|refine cUG ?_ ?_)));(refine lN [0] ?_);rw [hsh];exact ⟨_, by omega, k, s, rfl, n1 (hle.2 (.inl (by omega))), rfl, rfl⟩
    · (have:=NeI c1);by_cases c2 : (hiN M : Int) = (hiN N : Int)
      · (have:=NeI c2);by_cases c3 : (loN M : Int) <= (loN N : Int)
        · (have:=NeI c3);(repeat' (first|refine swp_seq [0,1,2,3,4,5,6,8,36] ?_|refine st2 ?_|(show CallQ ..;first|refine cQ (fun hcc=>(by first | exact cm _)) ?_|(refine lP ?_;refine lQ (fun hcc m=>(by first | exact cm _)) ?_))|refine fctI fun hf=>?_|(show CondG ..;first|refine cBG (fun hc=>?_) (fun hc=>?_)|refine cUG ?_ ?_)));(refine lN [0] ?_);rw [hsh];exact ⟨_, by omega, k, s, rfl, n1 (hle.2 (.inr (by omega))), rfl, rfl⟩
        · (have:=NeI c3);(repeat' (first|refine swp_seq [0,1,2,3,4,5,6,8,36] ?_|refine st2 ?_|(show CallQ ..;first|refine cQ (fun hcc=>(by first | exact cm _)) ?_|(refine lP ?_;refine lQ (fun hcc m=>(by first | exact cm _)) ?_))|refine fctI fun hf=>?_|(show CondG ..;first|refine cBG (fun hc=>?_) (fun hc=>?_)|refine cUG ?_ ?_)));(refine lN [0] ?_);rw [hsh];exact ⟨_, by omega, k, r, rfl, n2 (fun q => by have := hle.1 q; omega), rfl, rfl⟩
      · (have:=NeI c2);(repeat' (first|refine swp_seq [0,1,2,3,4,5,6,8,36] ?_|refine st2 ?_|(show CallQ ..;first|refine cQ (fun hcc=>(by first | exact cm _)) ?_|(refine lP ?_;refine lQ (fun hcc m=>(by first | exact cm _)) ?_))|refine fctI fun hf=>?_|(show CondG ..;first|refine cBG (fun hc=>?_) (fun hc=>?_)|refine cUG ?_ ?_)));(refine lN [0] ?_);rw [hsh];exact ⟨_, by omega, k, r, rfl, n2 (fun q => by have := hle.1 q; omega), rfl, rfl⟩
theorem oproduct_f (a b : Nat) (m : Nat) (ha : a < 9223372036854775808) (hb : b < 9223372036854775808) : DCalls Tryz.prog 268 [li a, li b] (hget []) m (wiD (a * b)) (hget []) := by
  have ha2 : a < 18446744073709551616 := by omega
  have hb2 : b < 18446744073709551616 := by omega
  have cm := fun m => mul64_f a b m ha2 hb2
  rw [show a * b / 18446744073709551616 = hiN (a * b) from (hiN_of (Nat.div_add_mod' _ _).symm (Nat.mod_lt _ (by decide))).symm, show a * b % 18446744073709551616 = loN (a * b) from (loN_of (Nat.div_add_mod' _ _).symm (Nat.mod_lt _ (by decide))).symm] at cm;generalize a * b = p at *
  (have:=NeI ha2);(have:=NeI hb2);refine pureC (n := 18) (rs := [.cell 4 263]) (ts := [263]) Tryz.func268 rfl (by decide) [] (by (exact SD)) ?_;(repeat' (first|refine swp_seq [0,1,4,5,6] ?_|refine st2 ?_|(show CallQ ..;first|refine cQ (fun hcc=>(by first | exact cm _)) ?_|(refine lP ?_;refine lQ (fun hcc m=>(by first | exact cm _)) ?_))|refine fctI fun hf=>?_|(show CondG ..;first|refine cBG (fun hc=>?_) (fun hc=>?_)|refine cUG ?_ ?_)));exact DVR
theorem otimes_f (N n : Nat) (m : Nat) (hn : n < 9223372036854775808) (h : N * n < 340282366920938463463374607431768211456) : DCalls Tryz.prog 269 [wiD N, li n] (hget []) m (wiD (N * n)) (hget []) := by
  have hn2 : n < 18446744073709551616 := by omega
  have hs := times_s h;have cm := fun m => mul64_f (loN N) n m (loN_lt N) hn2
  rw [show loN N * n / 18446744073709551616 = hiN (loN N * n) from (hiN_of (Nat.div_add_mod' _ _).symm (Nat.mod_lt _ (by decide))).symm, show loN N * n % 18446744073709551616 = loN (loN N * n) from (loN_of (Nat.div_add_mod' _ _).symm (Nat.mod_lt _ (by decide))).symm] at cm;rw [hs.2] at cm;generalize N * n = p at *
  generalize loN N * n = q at *
  (have:=NeI hn2);refine pureC (n := 24) (rs := [.cell 4 263]) (ts := [263]) Tryz.func269 rfl (by decide) [] (by (exact SD)) ?_;(repeat' (first|refine swp_seq [0,1,2,4,5,6] ?_|refine st2 ?_|(show CallQ ..;first|refine cQ (fun hcc=>(by first | exact cm _)) ?_|(refine lP ?_;refine lQ (fun hcc m=>(by first | exact cm _)) ?_))|refine fctI fun hf=>?_|(show CondG ..;first|refine cBG (fun hc=>?_) (fun hc=>?_)|refine cUG ?_ ?_)));(refine DVQ ?_);rw [hs.1]; rfl
theorem oover_f (N n : Nat) (m : Nat) (hN : N < 340282366920938463463374607431768211456) (h0 : 0 < n) (hn : n < 9223372036854775808) : DCalls Tryz.prog 270 [wiD N, li n] (hget []) m (wiD (N / n)) (hget []) := by
  have hn2 : n < 18446744073709551616 := by omega
  have hs := over_s (N := N) h0 (by omega);have cd := fun m => div64g_f (hiN N % n) (loN N) n m (Nat.mod_lt _ h0) hn2 (loN_lt N)
  rw [hs.2] at cd;have hh := hiN_lt hN;have e1 : IntKind.u64.wrap ((hiN N : Int).tdiv (n : Int)) = (hiN (N / n) : Int) := by
    rw [u64w, Int.tdiv_eq_ediv_of_nonneg (by omega), <- Int.natCast_ediv, <- hs.1];have := Nat.div_le_self (hiN N) n;generalize hiN N / n = q at *
    omega
  have e2 : ((hiN N : Int).tmod (n : Int)) = ((hiN N % n : Nat) : Int) := by
    rw [Int.tmod_eq_emod_of_nonneg (by omega)]; rfl
  generalize (hiN N % n * 18446744073709551616 + loN N) % n = z at *
  generalize hiN N % n = y at *
  have n0 : ¬ ((n : Int) = 0) := by omega
  (have:=NeI n0);(have:=NeI hn2);clear hs;refine pureC (n := 31) (rs := [.cell 4 263]) (ts := [263]) Tryz.func270 rfl (by decide) [] (by (exact SD)) ?_;(repeat' (first|(show SWp _ _ _ (.seq (.region 2 _ _) _) _ _ _ _;refine (stop_in ?_))|refine swp_seq [0,1,2,4,5,6,7] ?_|(show SWp _ _ _ (.region _ _ true) _ _ _ _;refine xG mixed [0] ?_)|refine st2 ?_|(show CallQ ..;first|refine cQ (fun hcc=>(by fail)) ?_|(refine lP ?_;refine lQ (fun hcc m=>(by fail)) ?_))|refine fctI fun hf=>?_|(show CondG ..;first|refine cBG (fun hc=>?_) (fun hc=>?_)|refine cUG ?_ ?_)));refine stop_out ?_;rw [e1, e2];generalize N / n = Q at *
  (repeat' (first|refine swp_seq [0,1,2,4,5,6,7] ?_|(show SWp _ _ _ (.region _ _ true) _ _ _ _;refine xG mixed [0] ?_)|refine st2 ?_|(show CallQ ..;first|refine cQ (fun hcc=>(by first | exact cd _)) ?_|(refine lP ?_;refine lQ (fun hcc m=>(by first | exact cd _)) ?_))|refine fctI fun hf=>?_|(show CondG ..;first|refine cBG (fun hc=>?_) (fun hc=>?_)|refine cUG ?_ ?_)));exact DVR
set_option maxRecDepth 20000 in
set_option maxHeartbeats 4000000 in
theorem oroot_f (N : Nat) (m : Nat) (hN : N < 85070591730234615865843651857942052864) : DCalls Tryz.prog 271 [wiD N] (hget []) m (li (rt N)) (hget []) := by
  have hrt := rt_lt hN;refine pureC (n := 42) (rs := [.tmp 2]) (ts := [3]) Tryz.func271 rfl (by decide) [] (by (exact SD)) ?_;(repeat' (first|refine swp_seq [0,1,2,3,4,5,6,8,36] ?_|refine st2 ?_|refine fctI fun hf=>?_|(show CondG ..;first|refine cBG (fun hc=>?_) (fun hc=>?_)|refine cUG ?_ ?_)));refine loop_swp [1, 3, 4] [0] 1 (fun q A H => ∃ k r : Nat, q = k /\ RtI N k r /\ A = [(1, .ptr 0 0), (3, lu r), (4, lu (half k))] /\ H = [(0, .blk 263 [lu (hiN N), lu (loN N)])]) (by omega) ?_ ?_ ?_
  · rintro q A H ⟨k, r, g1, g2, rfl, rfl⟩;exact SDD
  · refine ⟨_, 63, 0, rfl, RtI.init N, ?_, ?_⟩
    · rw [half_63];exact DVR
    · exact DVR
  rintro q A H ⟨k, r, g1, g2, rfl, rfl⟩;cases k with
  | zero =>
    rw [half_0];have hz : ¬ ((0 : Int) < 0) := by omega
    have er := g2.fin;subst er;(repeat' (first|refine swp_seq [0,1,2,3,4,5,6,8,36] ?_|refine st2 ?_|refine fctI fun hf=>?_|(show CondG ..;first|refine cBG (fun hc=>?_) (fun hc=>?_)|refine cUG ?_ ?_)));exact DVR
  | succ k =>
    obtain ⟨s, hs, hs1, hk1, ho, n1, n2⟩ := g2.step;have : OrOk r (2 ^ k) s := ⟨ho⟩;have hp : ((0 : Nat) : Int) < ((2 ^ k : Nat) : Int) := by have := Nat.two_pow_pos k; omega
    have hp2 : (0 : Int) < ((2 ^ k : Nat) : Int) := hp;have hsh := half_sh k;rw [half_s];have cm := fun m => mul64_f s s m (by omega) (by omega)
    rw [show s * s / 18446744073709551616 = hiN (s * s) from (hiN_of (Nat.div_add_mod' _ _).symm (Nat.mod_lt _ (by decide))).symm, show s * s % 18446744073709551616 = loN (s * s) from (loN_of (Nat.div_add_mod' _ _).symm (Nat.mod_lt _ (by decide))).symm] at cm;have hle := le_parts (M := s * s) (N := N);clear hs ho g2;generalize s * s = M at *
    generalize 2 ^ k = b at *
    (have:=NeI hp2);by_cases c1 : (hiN M : Int) < (hiN N : Int)
    · (have:=NeI c1);(repeat' (first|refine swp_seq [0,1,2,3,4,5,6,8,36] ?_|refine st2 ?_|(show CallQ ..;first|refine cQ (fun hcc=>(by first | exact cm _)) ?_|(refine lP ?_;refine lQ (fun hcc m=>(by first | exact cm _)) ?_))|refine fctI fun hf=>?_|(show CondG ..;first|refine cBG (fun hc=>?_) (fun hc=>?_)|refine cUG ?_ ?_)));(refine lN [0] ?_);rw [hsh];exact ⟨_, by omega, k, s, rfl, n1 (hle.2 (.inl (by omega))), rfl, rfl⟩
    · (have:=NeI c1);by_cases c2 : (hiN M : Int) = (hiN N : Int)
      · (have:=NeI c2);by_cases c3 : (loN M : Int) <= (loN N : Int)
        · (have:=NeI c3);(repeat' (first|refine swp_seq [0,1,2,3,4,5,6,8,36] ?_|refine st2 ?_|(show CallQ ..;first|refine cQ (fun hcc=>(by first | exact cm _)) ?_|(refine lP ?_;refine lQ (fun hcc m=>(by first | exact cm _)) ?_))|refine fctI fun hf=>?_|(show CondG ..;first|refine cBG (fun hc=>?_) (fun hc=>?_)|refine cUG ?_ ?_)));(refine lN [0] ?_);rw [hsh];exact ⟨_, by omega, k, s, rfl, n1 (hle.2 (.inr (by omega))), rfl, rfl⟩
        · (have:=NeI c3);(repeat' (first|refine swp_seq [0,1,2,3,4,5,6,8,36] ?_|refine st2 ?_|(show CallQ ..;first|refine cQ (fun hcc=>(by first | exact cm _)) ?_|(refine lP ?_;refine lQ (fun hcc m=>(by first | exact cm _)) ?_))|refine fctI fun hf=>?_|(show CondG ..;first|refine cBG (fun hc=>?_) (fun hc=>?_)|refine cUG ?_ ?_)));(refine lN [0] ?_);rw [hsh];exact ⟨_, by omega, k, r, rfl, n2 (fun q => by have := hle.1 q; omega), rfl, rfl⟩
      · (have:=NeI c2);(repeat' (first|refine swp_seq [0,1,2,3,4,5,6,8,36] ?_|refine st2 ?_|(show CallQ ..;first|refine cQ (fun hcc=>(by first | exact cm _)) ?_|(refine lP ?_;refine lQ (fun hcc m=>(by first | exact cm _)) ?_))|refine fctI fun hf=>?_|(show CondG ..;first|refine cBG (fun hc=>?_) (fun hc=>?_)|refine cUG ?_ ?_)));(refine lN [0] ?_);rw [hsh];exact ⟨_, by omega, k, r, rfl, n2 (fun q => by have := hle.1 q; omega), rfl, rfl⟩

end Go.Proofs.YthacnhidipeckaaGreat
