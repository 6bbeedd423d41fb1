/-
  Contracts of functions of the program, over the engine.
  No condition.
-/
import Derived.Test.YthacnhidipeckaaGreatCZCZD
import Derived.Test.YthacnhidipeckaaGreatCZEZFZ9
import Derived.Test.YthacnhidipeckaaGreatCY21Y23N2Z3Z4Z5Z6ZAZB
import Derived.Test.YthacnhidipeckaaGreatCY9Y10Y12Y8Y14
import Derived.Test.YthacnhidipeckaaGreatCT16T15T18T20Y0Y5Y1
namespace Go.Proofs.YthacnhidipeckaaGreat
open Go.Eng
set_option linter.all false
attribute [local irreducible] DCallsG SWp Fct CallQ XCallQ LCallQ XLCallQ drun xrun
def shortB (l : List Infl) : Bool := decide (l.length <= 12) && !(l.any fun x => decide (40 < x.vols.length) || decide (50 < x.nod.size))
theorem short1_f (x : Infl) (m : Nat) (hx : inflOk x) : DCalls Tryz.prog 89 [inflD x] (hget []) m (lb (decide (40 < x.vols.length) || decide (50 < x.nod.size))) (hget []) := by
  obtain ⟨h1, h2, _⟩ := hx
  refine pureC (n := 13) (rs := [.tmp 2]) (ts := [4]) Tryz.func89 rfl (by decide) [] (by (exact SD)) ?_
  (repeat' (first|refine swp_seq [0,1,2] ?_|refine st2 ?_|refine fctI fun hf=>?_|(show CondG ..;first|refine cBG (fun hc=>?_) (fun hc=>?_)|refine cUG ?_ ?_)))
  (refine DVQ ?_)
  refine lbC ?_
  grind
theorem short_f (l : List Infl) (m : Nat) (hl : l.length <= 281474976710656 /\ ∀ x, x ∈ l -> inflOk x) : DCalls Tryz.prog 27 [inflL l] (hget []) m (lb (shortB l)) (hget []) := by
  obtain ⟨h1, h2⟩ := hl
  have c1 := fun m => conInfl_f 89 (fun x => decide (40 < x.vols.length) || decide (50 < x.nod.size)) l m h1 (fun x hx m => short1_f x m (h2 x hx))
  unfold shortB
  generalize (l.any fun x => decide (40 < x.vols.length) || decide (50 < x.nod.size)) = B at *
  refine pureC (n := 11) (rs := [.tmp 2]) (ts := [4]) Tryz.func27 rfl (by decide) [] (by (exact SD)) ?_
  (repeat' (first|refine swp_seq [0,2] ?_|refine st2 ?_|(show CallQ ..;first|refine cQ (fun hcc=>(by first | exact c1 _)) ?_|(refine lP ?_;refine lQ (fun hcc m=>(by first | exact c1 _)) ?_))|refine fctI fun hf=>?_|(show CondG ..;first|refine cBG (fun hc=>?_) (fun hc=>?_)|refine cUG ?_ ?_)))
  (refine DVQ ?_)
  refine lbC ?_
  grind
set_option maxHeartbeats 1000000 in
theorem idxStr_f (g : FuncId) (p : ByteArray -> Bool) (l : List (ByteArray)) (m : Nat) (hl : l.length <= 281474976710656) (hg : ∀ x, x ∈ l -> ∀ m, DCalls Tryz.prog g [ls x] (hget []) m (lb (p x)) (hget [])) :
    DCalls Tryz.prog 90 [strs l, .clo g []] (hget []) m (li (idxI p l)) (hget []) := by
  refine pureC (n := 19) (rs := [.tmp 4]) (ts := [3]) Tryz.func90 rfl (by decide) [] (by (exact SD)) ?_
  (repeat' (first|refine swp_seq [0,1,4,5,7,8,9,16] ?_|refine st2 ?_|refine fctI fun hf=>?_|(show CondG ..;first|refine cBG (fun hc=>?_) (fun hc=>?_)|refine cUG ?_ ?_)))
  refine loop_swp [0, 1, 7, 8] [] 0 (fun q A H => ∃ i : Nat, i <= l.length /\ q = l.length - i /\ (l.take i).any p = false /\ A = [(0, strs l), (1, .clo g []), (7, li l.length), (8, li i)] /\ H = []) (by omega) ?_ ?_ ?_
  · rintro q A H ⟨i, h1, h2, h3, rfl, rfl⟩
    exact ⟨by (exact SD), by (exact SD)⟩
  · refine ⟨_, 0, by omega, rfl, rfl, ?_, ?_⟩
    · exact DVR
    · exact DVR
  · rintro q A H ⟨i, h1, h2, h3, rfl, rfl⟩
    (repeat' (first|refine swp_seq [0,1,4,5,7,8,9,16] ?_|refine st2 ?_|(show CallQ ..;first|refine cQ (fun hcc=>(hg _ (getD_mem SC) _)) ?_|(refine lP ?_;refine lQ (fun hcc m=>(hg _ (getD_mem SC) _)) ?_))|refine fctI fun hf=>?_|(show CondG ..;first|refine cBG (fun hc=>?_) (fun hc=>?_)|refine cUG ?_ ?_)))
    · (refine DVQ ?_)
      rw [idxI_hit h3 (by omega) (by assumption)]
    · (refine lN [] ?_)
      exact ⟨_, by omega, i + 1, by omega, rfl, any_step h3 (by omega) (by assumption), rfl, rfl⟩
    · (refine DVQ ?_)
      rw [List.take_of_length_le (by omega)] at h3
      rw [idxI_none h3]
theorem conStr_f (g : FuncId) (p : ByteArray -> Bool) (l : List (ByteArray)) (m : Nat) (hl : l.length <= 281474976710656) (hg : ∀ x, x ∈ l -> ∀ m, DCalls Tryz.prog g [ls x] (hget []) m (lb (p x)) (hget [])) :
    DCalls Tryz.prog 28 [strs l, .clo g []] (hget []) m (lb (l.any p)) (hget []) := by
  refine pureC (n := 9) (rs := [.tmp 4]) (ts := [4]) Tryz.func28 rfl (by decide) [] (by (exact SD)) ?_
  (repeat' (first|refine swp_seq [0,1,4] ?_|refine st2 ?_|(show CallQ ..;first|refine cQ (fun hcc=>(idxStr_f g p l _ hl hg)) ?_|(refine lP ?_;refine lQ (fun hcc m=>(idxStr_f g p l _ hl hg)) ?_))|refine fctI fun hf=>?_|(show CondG ..;first|refine cBG (fun hc=>?_) (fun hc=>?_)|refine cUG ?_ ?_)))
  (refine DVQ ?_)
  rw [idxI_any]
theorem at1_f (s : ByteArray) (m : Nat) : DCalls Tryz.prog 29 [ls s] (hget []) m (lb (decide (50 < s.size))) (hget []) := by
  refine pureC (n := 6) (rs := [.tmp 2]) (ts := [4]) Tryz.func29 rfl (by decide) [] (by (exact SD)) ?_
  (repeat' (first|refine swp_seq [0,2] ?_|refine st2 ?_|refine fctI fun hf=>?_|(show CondG ..;first|refine cBG (fun hc=>?_) (fun hc=>?_)|refine cUG ?_ ?_)))
  (refine DVQ ?_)
  refine lbC ?_
  grind
set_option maxHeartbeats 8000000 in
theorem rStep37_f (infl : List Infl) (names : List ByteArray) (k : Nat) (m : Nat) (hi1 : infl.length <= 1000) (hn : names.length <= 1000) (hr : ∀ x, x ∈ infl -> rightI x = true) (hkm : k <= 10000) :
    DCalls Tryz.prog 94 [inflL infl, strs names, li k] (hget []) m (.tup [ints (atL infl names k), lb (atB infl names k)]) (hget []) := by
  have hnn := fun (s : ByteArray) j => sumAt_nn (l := infl.take j) (fun x hx => hr x (List.mem_of_mem_take hx)) s k
  have hup : ∀ s j, j <= infl.length -> sumAt (infl.take j) s k <= j * 1125899906842624 := fun s j => by
    induction j with
    | zero => intro _; show (0 : Int) <= _; omega
    | succ j ih =>
      intro hj
      rw [sumAt_snoc _ _ _ (by omega)]
      have h1 := (volAt_in (hr _ (getD_mem (show j < infl.length by omega))) s k).2
      have h2 := ih (by omega)
      rw [show ((j + 1 : Nat) : Int) * 1125899906842624 = j * 1125899906842624 + 1125899906842624 by omega]
      omega
  have hatl := atL_len infl names k
  refine pureC (n := 66) (rs := [.tmp 6, .tmp 7]) (ts := [27, 4]) Tryz.func94 rfl (by decide) [40] (by (exact SD)) ?_
  (repeat' (first|refine swp_seq [0,1,2,6,7,8,9,10,11,12,16,22,44] ?_|refine st2 ?_|refine fctI fun hf=>?_|(show CondG ..;first|refine cBG (fun hc=>?_) (fun hc=>?_)|refine cUG ?_ ?_)))
  (refine sN 8 3 1 ?_)
  refine loop_swp [0, 1, 2, 8, 9, 10] [40] 48 (fun q A H => ∃ i : Nat, i <= names.length /\ q = names.length - i /\ A = [(0, inflL infl), (1, strs names), (2, li k), (8, .gl 40), (9, lb (((atL infl names k).take i).all fun v => decide (v <= 1125899906842624))), (10, li i)] /\ H = [(40, inLt ((atL infl names k).take i))]) (by omega) ?_ ?_ ?_
  · rintro q A H ⟨i, g1, g2, rfl, rfl⟩
    exact ⟨by (exact SD), by (exact SD)⟩
  · refine ⟨_, 0, by omega, rfl, ?_, ?_⟩
    · exact DVR
    · exact DVR
  rintro q A H ⟨i, g1, g2, rfl, rfl⟩
  by_cases hi : i < names.length
  · have hi3 : (i : Int) < (names.length : Int) := by omega
    have hi4 : i < (atL infl names k).length := by omega
    have ht : (atL infl names k).take (i + 1) = (atL infl names k).take i ++ [sumAt infl (names.getD i default) k] := by
      rw [List.take_succ_eq_append_getElem hi4, <- atL_at infl names k hi, List.getD_eq_getElem?_getD, List.getElem?_eq_getElem hi4]; rfl
    have hta : (((atL infl names k).take (i + 1)).all fun v => decide (v <= 1125899906842624)) = ((((atL infl names k).take i).all fun v => decide (v <= 1125899906842624)) && decide (sumAt infl (names.getD i default) k <= 1125899906842624)) := by
      rw [ht, List.all_append]; simp
    have htl : ((atL infl names k).take i).length = i := by rw [List.length_take]; omega
    generalize hOK : (((atL infl names k).take i).all fun v => decide (v <= 1125899906842624)) = OK at *
    generalize (atL infl names k).take i = X at *
    (have := Nonempty.intro hi)
    (have := Nonempty.intro hi3)
    (repeat' (first|refine swp_seq [0,1,2,6,7,8,9,10,11,12,16,22,44] ?_|refine st2 ?_|refine fctI fun hf=>?_|(show CondG ..;first|refine cBG (fun hc=>?_) (fun hc=>?_)|refine cUG ?_ ?_)))
    refine loop_swp [0, 1, 2, 8, 9, 10, 11, 12] [40] 48 (fun q A H => ∃ j : Nat, j <= infl.length /\ q = infl.length - j /\ A = [(0, inflL infl), (1, strs names), (2, li k), (8, .gl 40), (9, lb OK), (10, li i), (11, li (sumAt (infl.take j) (names.getD i default) k)), (12, li j)] /\ H = [(40, inLt X)]) (by omega) ?_ ?_ ?_
    · rintro q A H ⟨j, k1, k2, rfl, rfl⟩
      exact ⟨by (exact SD), by (exact SD)⟩
    · refine ⟨_, 0, by omega, rfl, ?_, ?_⟩
      · exact DVR
      · exact DVR
    rintro q A H ⟨j, k1, k2, rfl, rfl⟩
    by_cases hj : j < infl.length
    · have hj3 : (j : Int) < (infl.length : Int) := by omega
      have hs := sumAt_snoc infl (names.getD i default) k hj
      have b1 := hnn (names.getD i default) j
      have b2 := hup (names.getD i default) j k1
      have b3 := volAt_in (hr _ (getD_mem hj)) (names.getD i default) k
      have b4 : (j : Int) * 1125899906842624 <= 1000 * 1125899906842624 := Int.mul_le_mul_of_nonneg_right (by omega) (by decide)
      generalize sumAt (infl.take j) (names.getD i default) k = S0 at *
      clear hnn hup
      (have := Nonempty.intro hj)
      (have := Nonempty.intro hj3)
      by_cases e1 : (infl.getD j default).nod = names.getD i default
      · (have := Nonempty.intro e1)
        by_cases e2 : k < (infl.getD j default).vols.length
        · have e3 : (k : Int) < ((infl.getD j default).vols.length : Int) := by omega
          have ev : volAt (names.getD i default) k (infl.getD j default) = (infl.getD j default).vols.getD k default := by unfold volAt; rw [if_pos ⟨e1, e2⟩]
          rw [ev] at hs b3
          (have := Nonempty.intro e2)
          (have := Nonempty.intro e3)
          (repeat' (first|refine swp_seq [0,1,2,6,7,8,9,10,11,12,16,22,44] ?_|refine st2 ?_|refine fctI fun hf=>?_|(show CondG ..;first|refine cBG (fun hc=>?_) (fun hc=>?_)|refine cUG ?_ ?_)))
          (refine lN [40] ?_)
          exact ⟨_, by omega, j + 1, by omega, rfl, by rw [hs] <;> rfl, rfl⟩
        · have e3 : ¬ (k : Int) < ((infl.getD j default).vols.length : Int) := by omega
          have ev : volAt (names.getD i default) k (infl.getD j default) = 0 := by unfold volAt; rw [if_neg (fun c => e2 c.2)]
          rw [ev, Int.add_zero] at hs
          (have := Nonempty.intro e3)
          (repeat' (first|refine swp_seq [0,1,2,6,7,8,9,10,11,12,16,22,44] ?_|refine st2 ?_|refine fctI fun hf=>?_|(show CondG ..;first|refine cBG (fun hc=>?_) (fun hc=>?_)|refine cUG ?_ ?_)))
          (refine lN [40] ?_)
          exact ⟨_, by omega, j + 1, by omega, rfl, by rw [hs] <;> rfl, rfl⟩
      · have ev : volAt (names.getD i default) k (infl.getD j default) = 0 := by unfold volAt; rw [if_neg (fun c => e1 c.1)]
        rw [ev, Int.add_zero] at hs
        (have := Nonempty.intro e1)
        (repeat' (first|refine swp_seq [0,1,2,6,7,8,9,10,11,12,16,22,44] ?_|refine st2 ?_|refine fctI fun hf=>?_|(show CondG ..;first|refine cBG (fun hc=>?_) (fun hc=>?_)|refine cUG ?_ ?_)))
        (refine lN [40] ?_)
        exact ⟨_, by omega, j + 1, by omega, rfl, by rw [hs] <;> rfl, rfl⟩
    obtain rfl : j = infl.length := by omega
    have hj3 : ¬ ((infl.length : Int) < (infl.length : Int)) := by omega
    rw [List.take_length]
    generalize sumAt infl (names.getD i default) k = S0 at *
    clear hnn hup
    (have := Nonempty.intro hj3)
    cases OK
    · (repeat' (first|refine swp_seq [0,1,2,6,7,8,9,10,11,12,16,22,44] ?_|refine st2 ?_|refine fctI fun hf=>?_|(show CondG ..;first|refine cBG (fun hc=>?_) (fun hc=>?_)|refine cUG ?_ ?_)))
      (refine lN [40] ?_)
      exact ⟨_, by omega, i + 1, by omega, rfl, by rw [hta] <;> rfl, by rw [ht] <;> rfl⟩
    · by_cases hb : S0 <= 1125899906842624
      · rw [decide_eq_true hb] at hta
        (have := Nonempty.intro hb)
        (repeat' (first|refine swp_seq [0,1,2,6,7,8,9,10,11,12,16,22,44] ?_|refine st2 ?_|refine fctI fun hf=>?_|(show CondG ..;first|refine cBG (fun hc=>?_) (fun hc=>?_)|refine cUG ?_ ?_)))
        (refine lN [40] ?_)
        exact ⟨_, by omega, i + 1, by omega, rfl, by rw [hta] <;> rfl, by rw [ht] <;> rfl⟩
      · rw [decide_eq_false hb] at hta
        (have := Nonempty.intro hb)
        (repeat' (first|refine swp_seq [0,1,2,6,7,8,9,10,11,12,16,22,44] ?_|refine st2 ?_|refine fctI fun hf=>?_|(show CondG ..;first|refine cBG (fun hc=>?_) (fun hc=>?_)|refine cUG ?_ ?_)))
        (refine lN [40] ?_)
        exact ⟨_, by omega, i + 1, by omega, rfl, by rw [hta] <;> rfl, by rw [ht] <;> rfl⟩
  obtain rfl : i = names.length := by omega
  have hi3 : ¬ ((names.length : Int) < (names.length : Int)) := by omega
  rw [List.take_of_length_le (by omega)]
  unfold atB
  generalize atL infl names k = X at *
  clear hnn hup
  (have := Nonempty.intro hi3)
  (repeat' (first|refine swp_seq [0,1,2,6,7,8,9,10,11,12,16,22,44] ?_|refine st2 ?_|refine fctI fun hf=>?_|(show CondG ..;first|refine cBG (fun hc=>?_) (fun hc=>?_)|refine cUG ?_ ?_)))
  exact DVR
set_option maxHeartbeats 4000000 in
theorem rAt37_f (infl : List Infl) (names : List ByteArray) (k : Int) (m : Nat) (hi : infl.length <= 281474976710656 /\ ∀ x, x ∈ infl -> inflOk x) (hn : names.length <= 281474976710656) :
    DCalls Tryz.prog 31 [inflL infl, strs names, li k] (hget []) m (.tup [ints (AtR infl names k).1, li (AtR infl names k).2]) (hget []) := by
  have c1 := fun m => rGiven37_f infl names m hi hn
  by_cases h0 : givenN infl names = 0
  case neg =>
    rw [show AtR infl names k = ([], givenN infl names) from if_pos h0]
    generalize givenN infl names = e at *
    (have := Nonempty.intro h0)
    refine pureC (n := 33) (rs := [.tmp 6, .tmp 7]) (ts := [27, 3]) Tryz.func31 rfl (by decide) [] (by (exact SD)) ?_
    (repeat' (first|refine swp_seq [0,1,2,6,7,8,9,10,15,22,31] ?_|refine st2 ?_|(show CallQ ..;first|refine cQ (fun hcc=>(by first | exact c1 _)) ?_|(refine lP ?_;refine lQ (fun hcc m=>(by first | exact c1 _)) ?_))|refine fctI fun hf=>?_|(show CondG ..;first|refine cBG (fun hc=>?_) (fun hc=>?_)|refine cUG ?_ ?_)))
    exact DVR
  rw [h0] at c1
  obtain ⟨a1, a2, a3, a4, a5⟩ := givenN_0 h0
  by_cases k0 : k < 0
  · rw [show AtR infl names k = ([], 2) from by
      unfold AtR
      rw [if_neg (fun c => c h0), if_pos (by unfold btwB; rw [Bool.and_eq_false_iff, decide_eq_false_iff_not, decide_eq_false_iff_not]; omega)]]
    (have := Nonempty.intro k0)
    refine pureC (n := 33) (rs := [.tmp 6, .tmp 7]) (ts := [27, 3]) Tryz.func31 rfl (by decide) [] (by (exact SD)) ?_
    (repeat' (first|refine swp_seq [0,1,2,6,7,8,9,10,15,22,31] ?_|refine st2 ?_|(show CallQ ..;first|refine cQ (fun hcc=>(by first | exact c1 _)) ?_|(refine lP ?_;refine lQ (fun hcc m=>(by first | exact c1 _)) ?_))|refine fctI fun hf=>?_|(show CondG ..;first|refine cBG (fun hc=>?_) (fun hc=>?_)|refine cUG ?_ ?_)))
    exact DVR
  by_cases k1 : 10000 < k
  · rw [show AtR infl names k = ([], 2) from by
      unfold AtR
      rw [if_neg (fun c => c h0), if_pos (by unfold btwB; rw [Bool.and_eq_false_iff, decide_eq_false_iff_not, decide_eq_false_iff_not]; omega)]]
    (have := Nonempty.intro k0)
    (have := Nonempty.intro k1)
    refine pureC (n := 33) (rs := [.tmp 6, .tmp 7]) (ts := [27, 3]) Tryz.func31 rfl (by decide) [] (by (exact SD)) ?_
    (repeat' (first|refine swp_seq [0,1,2,6,7,8,9,10,15,22,31] ?_|refine st2 ?_|(show CallQ ..;first|refine cQ (fun hcc=>(by first | exact c1 _)) ?_|(refine lP ?_;refine lQ (fun hcc m=>(by first | exact c1 _)) ?_))|refine fctI fun hf=>?_|(show CondG ..;first|refine cBG (fun hc=>?_) (fun hc=>?_)|refine cUG ?_ ?_)))
    exact DVR
  obtain ⟨j, rfl⟩ : ∃ j : Nat, k = (j : Int) := ⟨k.toNat, by omega⟩
  have c3 := fun m => rStep37_f infl names j m a1 a2 a3 (by omega)
  rw [show AtR infl names (j : Int) = atR infl names j from by
      unfold AtR
      rw [if_neg (fun c => c h0), if_neg (by unfold btwB; simp only [Bool.and_eq_false_iff, decide_eq_false_iff_not]; omega), Int.toNat_natCast]]
  (have := Nonempty.intro k0)
  (have := Nonempty.intro k1)
  unfold atR
  cases hB : atB infl names j
  · rw [hB] at c3
    rw [if_neg (by decide)]
    generalize atL infl names j = X at *
    refine pureC (n := 33) (rs := [.tmp 6, .tmp 7]) (ts := [27, 3]) Tryz.func31 rfl (by decide) [] (by (exact SD)) ?_
    (repeat' (first|refine swp_seq [0,1,2,6,7,8,9,10,15,22,31] ?_|refine st2 ?_|(show CallQ ..;first|refine cQ (fun hcc=>(by first | exact c1 _ | exact c3 _)) ?_|(refine lP ?_;refine lQ (fun hcc m=>(by first | exact c1 _ | exact c3 _)) ?_))|refine fctI fun hf=>?_|(show CondG ..;first|refine cBG (fun hc=>?_) (fun hc=>?_)|refine cUG ?_ ?_)))
    exact DVR
  · rw [hB] at c3
    rw [if_pos rfl]
    generalize atL infl names j = X at *
    refine pureC (n := 33) (rs := [.tmp 6, .tmp 7]) (ts := [27, 3]) Tryz.func31 rfl (by decide) [] (by (exact SD)) ?_
    (repeat' (first|refine swp_seq [0,1,2,6,7,8,9,10,15,22,31] ?_|refine st2 ?_|(show CallQ ..;first|refine cQ (fun hcc=>(by first | exact c1 _ | exact c3 _)) ?_|(refine lP ?_;refine lQ (fun hcc m=>(by first | exact c1 _ | exact c3 _)) ?_))|refine fctI fun hf=>?_|(show CondG ..;first|refine cBG (fun hc=>?_) (fun hc=>?_)|refine cUG ?_ ?_)))
    exact DVR
set_option maxHeartbeats 1000000 in
theorem idxSta_f (g : FuncId) (p : Sta -> Bool) (l : List (Sta)) (m : Nat) (hl : l.length <= 281474976710656) (hg : ∀ x, x ∈ l -> ∀ m, DCalls Tryz.prog g [staD x] (hget []) m (lb (p x)) (hget [])) :
    DCalls Tryz.prog 131 [staL l, .clo g []] (hget []) m (li (idxI p l)) (hget []) := by
  refine pureC (n := 19) (rs := [.tmp 4]) (ts := [3]) Tryz.func131 rfl (by decide) [] (by (exact SD)) ?_
  (repeat' (first|refine swp_seq [0,1,4,5,7,8,9,16] ?_|refine st2 ?_|refine fctI fun hf=>?_|(show CondG ..;first|refine cBG (fun hc=>?_) (fun hc=>?_)|refine cUG ?_ ?_)))
  refine loop_swp [0, 1, 7, 8] [] 0 (fun q A H => ∃ i : Nat, i <= l.length /\ q = l.length - i /\ (l.take i).any p = false /\ A = [(0, staL l), (1, .clo g []), (7, li l.length), (8, li i)] /\ H = []) (by omega) ?_ ?_ ?_
  · rintro q A H ⟨i, h1, h2, h3, rfl, rfl⟩
    exact ⟨by (exact SD), by (exact SD)⟩
  · refine ⟨_, 0, by omega, rfl, rfl, ?_, ?_⟩
    · exact DVR
    · exact DVR
  · rintro q A H ⟨i, h1, h2, h3, rfl, rfl⟩
    (repeat' (first|refine swp_seq [0,1,4,5,7,8,9,16] ?_|refine st2 ?_|(show CallQ ..;first|refine cQ (fun hcc=>(hg _ (getD_mem SC) _)) ?_|(refine lP ?_;refine lQ (fun hcc m=>(hg _ (getD_mem SC) _)) ?_))|refine fctI fun hf=>?_|(show CondG ..;first|refine cBG (fun hc=>?_) (fun hc=>?_)|refine cUG ?_ ?_)))
    · (refine DVQ ?_)
      rw [idxI_hit h3 (by omega) (by assumption)]
    · (refine lN [] ?_)
      exact ⟨_, by omega, i + 1, by omega, rfl, any_step h3 (by omega) (by assumption), rfl, rfl⟩
    · (refine DVQ ?_)
      rw [List.take_of_length_le (by omega)] at h3
      rw [idxI_none h3]
theorem conSta_f (g : FuncId) (p : Sta -> Bool) (l : List (Sta)) (m : Nat) (hl : l.length <= 281474976710656) (hg : ∀ x, x ∈ l -> ∀ m, DCalls Tryz.prog g [staD x] (hget []) m (lb (p x)) (hget [])) :
    DCalls Tryz.prog 76 [staL l, .clo g []] (hget []) m (lb (l.any p)) (hget []) := by
  refine pureC (n := 9) (rs := [.tmp 4]) (ts := [4]) Tryz.func76 rfl (by decide) [] (by (exact SD)) ?_
  (repeat' (first|refine swp_seq [0,1,4] ?_|refine st2 ?_|(show CallQ ..;first|refine cQ (fun hcc=>(idxSta_f g p l _ hl hg)) ?_|(refine lP ?_;refine lQ (fun hcc m=>(idxSta_f g p l _ hl hg)) ?_))|refine fctI fun hf=>?_|(show CondG ..;first|refine cBG (fun hc=>?_) (fun hc=>?_)|refine cUG ?_ ?_)))
  (refine DVQ ?_)
  rw [idxI_any]
set_option maxHeartbeats 1000000 in
theorem idxStaC_f (g : FuncId) (t : TypeId) (cs : List PV) (p : Sta -> Bool) (l : List (Sta)) (hl : l.length <= 281474976710656) (hg : ∀ x, x ∈ l -> ∀ m, DCalls Tryz.prog g [staD x, .ptr 0 0] (hget [(0, .blk t (cs.map .p))]) m (lb (p x)) (hget [(0, .blk t (cs.map .p))])) :
    DCalls Tryz.prog 131 [staL l, .clo g [.ptr 0 0]] (hget [(0, .blk t (cs.map .p))]) 1 (li (idxI p l)) (hget [(0, .blk t (cs.map .p))]) := by
  refine contract (n := 19) (rs := [.tmp 4]) (ts := [3]) Tryz.func131 rfl (by decide) 1 1 [] [] [] (li (idxI p l)) [(0, .blk t (cs.map .p))] (by (exact SD)) (by (exact SD)) ?_
  (repeat' (first|refine swp_seq [0,1,4,5,7,8,9,16] ?_|refine st2 ?_|refine fctI fun hf=>?_|(show CondG ..;first|refine cBG (fun hc=>?_) (fun hc=>?_)|refine cUG ?_ ?_)))
  refine loop_swp [0, 1, 7, 8] [0] 1 (fun q A H => ∃ i : Nat, i <= l.length /\ q = l.length - i /\ (l.take i).any p = false /\ A = [(0, staL l), (1, .clo g [.ptr 0 0]), (7, li l.length), (8, li i)] /\ H = [(0, .blk t (cs.map .p))]) (by omega) ?_ ?_ ?_
  · rintro q A H ⟨i, h1, h2, h3, rfl, rfl⟩
    exact ⟨by (exact SD), by (exact SD)⟩
  · refine ⟨_, 0, by omega, rfl, rfl, ?_, ?_⟩
    · exact DVR
    · exact DVR
  · rintro q A H ⟨i, h1, h2, h3, rfl, rfl⟩
    (repeat' (first|refine swp_seq [0,1,4,5,7,8,9,16] ?_|refine st2 ?_|(show CallQ ..;first|refine cQ (fun hcc=>(hg _ (getD_mem SC) _)) ?_|(refine lP ?_;refine lQ (fun hcc m=>(hg _ (getD_mem SC) _)) ?_))|refine fctI fun hf=>?_|(show CondG ..;first|refine cBG (fun hc=>?_) (fun hc=>?_)|refine cUG ?_ ?_)))
    · (refine DVQ ?_)
      rw [idxI_hit h3 (by omega) (by assumption)]
    · (refine lN [0] ?_)
      exact ⟨_, by omega, i + 1, by omega, rfl, any_step h3 (by omega) (by assumption), rfl, rfl⟩
    · (refine DVQ ?_)
      rw [List.take_of_length_le (by omega)] at h3
      rw [idxI_none h3]
theorem conStaC_f (g : FuncId) (t : TypeId) (cs : List PV) (p : Sta -> Bool) (l : List Sta) (hl : l.length <= 281474976710656) (hg : ∀ x, x ∈ l -> ∀ m, DCalls Tryz.prog g [staD x, .ptr 0 0] (hget [(0, .blk t (cs.map .p))]) m (lb (p x)) (hget [(0, .blk t (cs.map .p))])) :
    DCalls Tryz.prog 76 [staL l, .clo g [.ptr 0 0]] (hget [(0, .blk t (cs.map .p))]) 1 (lb (l.any p)) (hget [(0, .blk t (cs.map .p))]) := by
  have ci := idxStaC_f g t cs p l hl hg
  refine contract (n := 9) (rs := [.tmp 4]) (ts := [4]) Tryz.func76 rfl (by decide) 1 1 [] [] [] (lb (l.any p)) [(0, .blk t (cs.map .p))] (by (exact SD)) (by (exact SD)) ?_
  (repeat' (first|refine swp_seq [0,1,4] ?_|refine st2 ?_|refine fctI fun hf=>?_|(show CondG ..;first|refine cBG (fun hc=>?_) (fun hc=>?_)|refine cUG ?_ ?_)))
  (refine cQT [0] (fun hcc => ci) ?_)
  (repeat' (first|refine swp_seq [0,1,4] ?_|refine st2 ?_|refine fctI fun hf=>?_|(show CondG ..;first|refine cBG (fun hc=>?_) (fun hc=>?_)|refine cUG ?_ ?_)))
  (refine DVQ ?_)
  rw [idxI_any]
theorem slevels1_f (n : Net) (s : Sta) (m : Nat) (no : netOk n) (so : staOk s) : DCalls Tryz.prog 99 [staD s, .ptr 0 0] (hget [(0, .blk 25 ((netP n).map .p))]) m (lb (!(netB n && staB n s))) (hget [(0, .blk 25 ((netP n).map .p))]) := by
  have c1 := fun m => staValid_f n s m no so
  rw [netP_map]
  generalize (netB n && staB n s) = b at *
  refine contract (n := 8) (rs := [.tmp 3]) (ts := [4]) Tryz.func99 rfl (by decide) 1 1 [] [] [] (lb (!b)) [(0, .blk 25 (netC n))] (by (exact SD)) (by (exact SD)) ?_
  (repeat' (first|refine swp_seq [0,1,2,3] ?_|refine st2 ?_|(show CallQ ..;first|refine cQ (fun hcc=>(by first | exact c1 _)) ?_|(refine lP ?_;refine lQ (fun hcc m=>(by first | exact c1 _)) ?_))|refine fctI fun hf=>?_|(show CondG ..;first|refine cBG (fun hc=>?_) (fun hc=>?_)|refine cUG ?_ ?_)))
  exact DVR
abbrev ilLt (l : List (List Int)) : HV := .lst 27 1 (rows ilRow l)
def LevsR (n : Net) (ss : List Sta) : List (List Int) × Int :=
  if netB n = false ∨ (ss.any fun s => !(netB n && staB n s)) = true then ([], 1) else if 10000 < ss.length then ([], 4) else (levsL n ss, 0)
theorem any_all {ss : List Sta} {n : Net} (nb : netB n = true) (h : (ss.any fun s => !(netB n && staB n s)) = false) : ∀ s, s ∈ ss -> staB n s = true := fun s hs => by
  rw [List.any_eq_false] at h
  have := h s hs
  rw [nb] at this
  simpa using this
theorem sta_vol {n : Net} {s : Sta} (nb : netB n = true) (sb : staB n s = true) : s.vol.length = n.nodes.length /\ ∀ i, i < n.nodes.length -> 0 <= s.vol.getD i default /\ s.vol.getD i default <= 1125899906842624 := by
  obtain ⟨h1, h2, _⟩ := staB_in nb sb
  refine ⟨(lensB_of h1).1, fun i hi => ?_⟩
  have h := h2 i hi
  have hc := capN_in nb hi
  unfold okSN at h
  simp only [Bool.and_eq_true] at h
  have := btwB_in h.1.1
  omega
set_option maxRecDepth 20000 in
set_option maxHeartbeats 16000000 in
theorem sLevels_f (n : Net) (ss : List Sta) (m : Nat) (no : netOk n) (hs : ss.length <= 281474976710656 /\ ∀ x, x ∈ ss -> staOk x) : DCalls Tryz.prog 36 [netD n, staL ss] (hget []) m (.tup [intss (LevsR n ss).1, li (LevsR n ss).2]) (hget []) := by
  obtain ⟨hs1, hs2⟩ := hs
  have ce := fun m => empty_f n m no
  cases nb : netB n
  · rw [nb, if_neg (by decide)] at ce
    rw [show LevsR n ss = ([], 1) from if_pos (.inl nb)]
    refine pureC (n := 48) (rs := [.tmp 4, .tmp 5]) (ts := [83, 37]) Tryz.func36 rfl (by decide) [] (by (exact SD)) ?_
    (repeat' (first|refine swp_seq [0,1,2,4,5,7,8,10,11,12,19,22,25,26,27,28,29,40] ?_|refine st2 ?_|(show CallQ ..;first|refine cQ (fun hcc=>(by first | exact ce _)) ?_|(refine lP ?_;refine lQ (fun hcc m=>(by first | exact ce _)) ?_))|refine fctI fun hf=>?_|(show CondG ..;first|refine cBG (fun hc=>?_) (fun hc=>?_)|refine cUG ?_ ?_)))
    exact DVR
  rw [nb, if_pos rfl] at ce
  have c1 := conStaC_f 99 25 (netP n) (fun s => !(netB n && staB n s)) ss hs1 (fun s hx m => slevels1_f n s m no (hs2 s hx))
  rw [netP_map] at c1
  cases hv : (ss.any fun s => !(netB n && staB n s)) <;> simp only [hv] at c1
  case true =>
    rw [show LevsR n ss = ([], 1) from if_pos (.inr hv)]
    refine pureC (n := 48) (rs := [.tmp 4, .tmp 5]) (ts := [83, 37]) Tryz.func36 rfl (by decide) [] (by (exact SD)) ?_
    (repeat' (first|refine swp_seq [0,1,2,4,5,7,8,10,11,12,19,22,25,26,27,28,29,40] ?_|refine st2 ?_|(show CallQ ..;first|refine cQ (fun hcc=>(by first | exact ce _)) ?_|(refine lP ?_;refine lQ (fun hcc m=>(by first | exact ce _)) ?_))|refine fctI fun hf=>?_|(show CondG ..;first|refine cBG (fun hc=>?_) (fun hc=>?_)|refine cUG ?_ ?_)))
    (refine cQT [0] (fun hcc => c1) ?_)
    (repeat' (first|refine swp_seq [0,1,2,4,5,7,8,10,11,12,19,22,25,26,27,28,29,40] ?_|refine st2 ?_|refine fctI fun hf=>?_|(show CondG ..;first|refine cBG (fun hc=>?_) (fun hc=>?_)|refine cUG ?_ ?_)))
    exact DVR
  have e0 : LevsR n ss = if 10000 < ss.length then ([], 4) else (levsL n ss, 0) := if_neg (fun c => by
    rcases c with c | c
    · rw [nb] at c; cases c
    · rw [hv] at c; cases c)
  rw [e0]
  have hall := any_all nb hv
  by_cases hl : 10000 < ss.length
  · rw [if_pos hl]
    have hl3 : (10000 : Int) < (ss.length : Int) := by omega
    (have := Nonempty.intro hl3)
    clear hall
    refine pureC (n := 48) (rs := [.tmp 4, .tmp 5]) (ts := [83, 37]) Tryz.func36 rfl (by decide) [] (by (exact SD)) ?_
    (repeat' (first|refine swp_seq [0,1,2,4,5,7,8,10,11,12,19,22,25,26,27,28,29,40] ?_|refine st2 ?_|(show CallQ ..;first|refine cQ (fun hcc=>(by first | exact ce _)) ?_|(refine lP ?_;refine lQ (fun hcc m=>(by first | exact ce _)) ?_))|refine fctI fun hf=>?_|(show CondG ..;first|refine cBG (fun hc=>?_) (fun hc=>?_)|refine cUG ?_ ?_)))
    (refine cQT [0] (fun hcc => c1) ?_)
    (repeat' (first|refine swp_seq [0,1,2,4,5,7,8,10,11,12,19,22,25,26,27,28,29,40] ?_|refine st2 ?_|refine fctI fun hf=>?_|(show CondG ..;first|refine cBG (fun hc=>?_) (fun hc=>?_)|refine cUG ?_ ?_)))
    exact DVR
  rw [if_neg hl]
  have hl3 : ¬ (10000 : Int) < (ss.length : Int) := by omega
  have hLl : (levsL n ss).length = ss.length := List.length_map ..
  have hLs : ∀ i, i < ss.length -> (levsL n ss).take (i + 1) = (levsL n ss).take i ++ [levelsL n (ss.getD i default).vol] := fun i hi => by
    rw [List.take_succ_eq_append_getElem (by omega)]
    unfold levsL
    rw [List.getElem_map, List.getD_eq_getElem?_getD, List.getElem?_eq_getElem hi]; rfl
  (have := Nonempty.intro hl3)
  refine pureC (n := 48) (rs := [.tmp 4, .tmp 5]) (ts := [83, 37]) Tryz.func36 rfl (by decide) [184] (by (exact SD)) ?_
  (repeat' (first|refine swp_seq [0,1,2,4,5,7,8,10,11,12,19,22,25,26,27,28,29,40] ?_|refine st2 ?_|(show CallQ ..;first|refine cQ (fun hcc=>(by first | exact ce _)) ?_|(refine lP ?_;refine lQ (fun hcc m=>(by first | exact ce _)) ?_))|refine fctI fun hf=>?_|(show CondG ..;first|refine cBG (fun hc=>?_) (fun hc=>?_)|refine cUG ?_ ?_)))
  (refine cQT [0] (fun hcc => c1) ?_)
  (repeat' (first|refine swp_seq [0,1,2,4,5,7,8,10,11,12,19,22,25,26,27,28,29,40] ?_|refine st2 ?_|refine fctI fun hf=>?_|(show CondG ..;first|refine cBG (fun hc=>?_) (fun hc=>?_)|refine cUG ?_ ?_)))
  (refine sN 8 27 1 ?_)
  refine loop_swp [2, 8, 26, 27, 28] [0, 184] 192 (fun q A H => ∃ i : Nat, i <= ss.length /\ q = ss.length - i /\ A = [(2, .ptr 0 0), (8, .gl 184), (26, staL ss), (27, li ss.length), (28, li i)] /\ H = [(0, .blk 25 (netC n)), (184, ilLt ((levsL n ss).take i))]) (by omega) ?_ ?_ ?_
  · rintro q A H ⟨i, g1, g2, rfl, rfl⟩
    exact ⟨by (exact SD), by (exact SD)⟩
  · refine ⟨_, 0, by omega, rfl, ?_, ?_⟩
    · exact DVR
    · exact DVR
  rintro q A H ⟨i, g1, g2, rfl, rfl⟩
  by_cases hi : i < ss.length
  · have hi3 : (i : Int) < (ss.length : Int) := by omega
    obtain ⟨v1, v2⟩ := sta_vol nb (hall _ (getD_mem hi))
    have cl := fun m => Levels_f n (ss.getD i default).vol m no nb v1 v2
    have hnx := hLs i hi
    have hti : ((levsL n ss).take i).length = i := by rw [List.length_take]; omega
    generalize (levsL n ss).take i = X at *
    generalize levelsL n (ss.getD i default).vol = LV at *
    (have := Nonempty.intro hi)
    (have := Nonempty.intro hi3)
    clear hall hLs
    (repeat' (first|refine swp_seq [0,1,2,4,5,7,8,10,11,12,19,22,25,26,27,28,29,40] ?_|refine st2 ?_|(show CallQ ..;first|refine cQ (fun hcc=>(by first | exact cl _)) ?_|(refine lP ?_;refine lQ (fun hcc m=>(by first | exact cl _)) ?_))|refine fctI fun hf=>?_|(show CondG ..;first|refine cBG (fun hc=>?_) (fun hc=>?_)|refine cUG ?_ ?_)))
    rw [show rows ilRow X ++ [[ints LV]] = rows ilRow (X ++ [LV]) from rows_app ilRow X [LV], <- hnx]
    (refine lN [0, 184] ?_)
    exact ⟨_, by omega, i + 1, by omega, rfl, rfl, rfl⟩
  obtain rfl : i = ss.length := by omega
  have hi3 : ¬ ((ss.length : Int) < (ss.length : Int)) := by omega
  rw [show (levsL n ss).take ss.length = levsL n ss by rw [<- hLl, List.take_length]]
  generalize levsL n ss = X at *
  (have := Nonempty.intro hi3)
  clear hall hLs
  (repeat' (first|refine swp_seq [0,1,2,4,5,7,8,10,11,12,19,22,25,26,27,28,29,40] ?_|refine st2 ?_|refine fctI fun hf=>?_|(show CondG ..;first|refine cBG (fun hc=>?_) (fun hc=>?_)|refine cUG ?_ ?_)))
  exact DVR
def PeaksR (n : Net) (ss : List Sta) : List Int × Int :=
  if ¬ (LevsR n ss).2 = 0 then ([], (LevsR n ss).2) else if ss.length = 0 then ([], 14) else (peaksL n ss ss.length, 0)
theorem LevsR_0 {n : Net} {ss : List Sta} (h : (LevsR n ss).2 = 0) : netB n = true /\ (∀ s, s ∈ ss -> staB n s = true) /\ ss.length <= 10000 /\ (LevsR n ss).1 = levsL n ss := by
  unfold LevsR at h ⊢
  split at h
  · cases h
  next h1 =>
  split at h
  · cases h
  next h2 =>
  rw [if_neg h1, if_neg h2]
  have nb : netB n = true := by
    cases nb : netB n
    · exact absurd (.inl nb) h1
    · rfl
  refine ⟨nb, any_all nb ?_, by omega, rfl⟩
  cases hv : (ss.any fun s => !(netB n && staB n s))
  · rfl
  · exact absurd (.inr hv) h1
theorem levsL_at (n : Net) (ss : List Sta) {j : Nat} (hj : j < ss.length) : (levsL n ss).getD j default = levelsL n (ss.getD j default).vol := by
  unfold levsL
  rw [List.getD_eq_getElem?_getD, List.getElem?_map, List.getElem?_eq_getElem hj, List.getD_eq_getElem?_getD, List.getElem?_eq_getElem hj]; rfl
set_option maxRecDepth 20000 in
set_option maxHeartbeats 16000000 in
theorem sPeaks_f (n : Net) (ss : List Sta) (m : Nat) (no : netOk n) (hs : ss.length <= 281474976710656 /\ ∀ x, x ∈ ss -> staOk x) : DCalls Tryz.prog 37 [netD n, staL ss] (hget []) m (.tup [ints (PeaksR n ss).1, li (PeaksR n ss).2]) (hget []) := by
  have cl := fun m => sLevels_f n ss m no hs
  by_cases h0 : (LevsR n ss).2 = 0
  case neg =>
    rw [show PeaksR n ss = ([], (LevsR n ss).2) from if_pos h0]
    generalize (LevsR n ss).2 = e at *
    generalize (LevsR n ss).1 = L at *
    (have := Nonempty.intro h0)
    refine pureC (n := 56) (rs := [.tmp 4, .tmp 5]) (ts := [27, 37]) Tryz.func37 rfl (by decide) [] (by (exact SD)) ?_
    (repeat' (first|refine swp_seq [0,1,2,4,5,6,7,8,10,11,18,22,30,31,32,33,37,38,39] ?_|refine st2 ?_|(show CallQ ..;first|refine cQ (fun hcc=>(by first | exact cl _)) ?_|(refine lP ?_;refine lQ (fun hcc m=>(by first | exact cl _)) ?_))|refine fctI fun hf=>?_|(show CondG ..;first|refine cBG (fun hc=>?_) (fun hc=>?_)|refine cUG ?_ ?_)))
    exact DVR
  obtain ⟨nb, hall, h10, eL⟩ := LevsR_0 h0
  rw [show PeaksR n ss = if ss.length = 0 then ([], 14) else (peaksL n ss ss.length, 0) from if_neg (fun c => c h0)]
  rw [h0, eL] at cl
  have hLl : (levsL n ss).length = ss.length := List.length_map ..
  have h300 := (netB_len nb).1
  by_cases hz : ss.length = 0
  · rw [if_pos hz]
    have hz3 : ((levsL n ss).length : Int) = 0 := by omega
    generalize levsL n ss = L at *
    (have := Nonempty.intro hz3)
    refine pureC (n := 56) (rs := [.tmp 4, .tmp 5]) (ts := [27, 37]) Tryz.func37 rfl (by decide) [] (by (exact SD)) ?_
    (repeat' (first|refine swp_seq [0,1,2,4,5,6,7,8,10,11,18,22,30,31,32,33,37,38,39] ?_|refine st2 ?_|(show CallQ ..;first|refine cQ (fun hcc=>(by first | exact cl _)) ?_|(refine lP ?_;refine lQ (fun hcc m=>(by first | exact cl _)) ?_))|refine fctI fun hf=>?_|(show CondG ..;first|refine cBG (fun hc=>?_) (fun hc=>?_)|refine cUG ?_ ?_)))
    exact DVR
  rw [if_neg hz]
  have hz3 : ¬ ((levsL n ss).length : Int) = 0 := by omega
  have hz0 : 0 < (levsL n ss).length := by omega
  have hLat := fun j hj => levsL_at n ss (j := j) hj
  have hlv : ∀ s, (levelsL n s).length = n.nodes.length := fun s => rng_len _ _
  have hp0 : (levsL n ss).getD 0 default = peaksL n ss 0 := by
    rw [hLat 0 (by omega)]
    refine list_ext (by rw [hlv, peaks_len]) fun i hi => ?_
    rw [hlv] at hi
    rw [peaks_at hi]; rfl
  have cc := fun m => cloneI_f ((levsL n ss).getD 0 default) m (by rw [hp0, peaks_len]; omega)
  have hrow : ∀ j i, j < ss.length -> i < n.nodes.length -> (peaksL n ss (j + 1)).getD i default = max ((peaksL n ss j).getD i default) (((levsL n ss).getD j default).getD i default) := fun j i hj hi => by
    rw [peaks_at hi, peaks_at hi, hLat j hj]; rfl
  have hpl := fun j => peaks_len (n := n) (ss := ss) (j := j)
  have hLrow : ∀ j, j < ss.length -> ((levsL n ss).getD j default).length = n.nodes.length := fun j hj => by rw [hLat j hj, hlv]
  clear hLat hlv
  generalize levsL n ss = L at *
  (have := Nonempty.intro hz3)
  (have := Nonempty.intro hz0)
  refine pureC (n := 56) (rs := [.tmp 4, .tmp 5]) (ts := [27, 37]) Tryz.func37 rfl (by decide) [168] (by (exact SD)) ?_
  (repeat' (first|refine swp_seq [0,1,2,4,5,6,7,8,10,11,18,22,30,31,32,33,37,38,39] ?_|refine st2 ?_|(show CallQ ..;first|refine cQ (fun hcc=>(by first | exact cl _ | exact cc _)) ?_|(refine lP ?_;refine lQ (fun hcc m=>(by first | exact cl _ | exact cc _)) ?_))|refine fctI fun hf=>?_|(show CondG ..;first|refine cBG (fun hc=>?_) (fun hc=>?_)|refine cUG ?_ ?_)))
  rw [hp0]
  generalize peaksL n ss = PK at *
  refine loop_swp [8, 30, 31, 32] [168] 200 (fun q A H => ∃ j : Nat, j <= ss.length /\ q = ss.length - j /\ A = [(8, .gl 168), (30, intss L), (31, li L.length), (32, li j)] /\ H = [(168, inLt (PK j))]) (by omega) ?_ ?_ ?_
  · rintro q A H ⟨j, g1, g2, rfl, rfl⟩
    exact ⟨by (exact SD), by (exact SD)⟩
  · refine ⟨_, 0, by omega, rfl, ?_, ?_⟩
    · exact DVR
    · exact DVR
  rintro q A H ⟨j, g1, g2, rfl, rfl⟩
  by_cases hj : j < ss.length
  · have hj3 : (j : Int) < (L.length : Int) := by omega
    have hjL : j < L.length := by omega
    have hpj := hpl j
    have hpj1 := hpl (j + 1)
    have hr := fun i hi => hrow j i hj hi
    have hLr := hLrow j hj
    clear hrow hLrow
    (have := Nonempty.intro hj3)
    (have := Nonempty.intro hjL)
    (repeat' (first|refine swp_seq [0,1,2,4,5,6,7,8,10,11,18,22,30,31,32,33,37,38,39] ?_|refine st2 ?_|refine fctI fun hf=>?_|(show CondG ..;first|refine cBG (fun hc=>?_) (fun hc=>?_)|refine cUG ?_ ?_)))
    generalize hV : L.getD j default = V at *
    have hNl : ((PK j).length : Int) = (n.nodes.length : Int) := by omega
    refine loop_swp [8, 10, 30, 31, 32, 37, 38] [168] 200 (fun q A H => ∃ i : Nat, i <= n.nodes.length /\ q = n.nodes.length - i /\ A = [(8, .gl 168), (10, ints V), (30, intss L), (31, li L.length), (32, li j), (37, li n.nodes.length), (38, li i)] /\ H = [(168, inLt ((PK (j + 1)).take i ++ (PK j).drop i))]) (by omega) ?_ ?_ ?_
    · rintro q A H ⟨i, k1, k2, rfl, rfl⟩
      exact ⟨by (exact SD), by (exact SD)⟩
    · refine ⟨_, 0, by omega, rfl, ?_, ?_⟩
      · rw [<- hNl]; exact DVR
      · exact DVR
    rintro q A H ⟨i, k1, k2, rfl, rfl⟩
    by_cases hi : i < n.nodes.length
    · have hi3 : (i : Int) < (n.nodes.length : Int) := by omega
      have hUl := upd_len (h := PK (j + 1)) (v := PK j) (i := i) (by omega) (by omega)
      have hUg := upd_get (h := PK (j + 1)) (v := PK j) (i := i) (default : Int) (by omega) (by omega)
      have hUs := fun x hx => upd_step (h := PK (j + 1)) (v := PK j) (i := i) (x := x) (by omega) (by omega) hx
      have hri := hr i hi
      rw [<- hUg] at hri
      generalize (PK (j + 1)).take i ++ (PK j).drop i = X at *
      have hiX : i < X.length := by omega
      have hiX3 : (i : Int) < (X.length : Int) := by omega
      have hiV : i < V.length := by omega
      have hiV3 : (i : Int) < (V.length : Int) := by omega
      (have := Nonempty.intro hi3)
      (have := Nonempty.intro hiX)
      (have := Nonempty.intro hiX3)
      (have := Nonempty.intro hiV)
      (have := Nonempty.intro hiV3)
      clear hr
      (repeat' (first|refine swp_seq [0,1,2,4,5,6,7,8,10,11,18,22,30,31,32,33,37,38,39] ?_|(show SWp _ _ _ (.region _ _ true) _ _ _ _;refine xG mixed [168] ?_)|refine st2 ?_|refine fctI fun hf=>?_|(show CondG ..;first|refine cBG (fun hc=>?_) (fun hc=>?_)|refine cUG ?_ ?_)))
      rw [hUs _ hri.symm]
      (refine lN [168] ?_)
      exact ⟨_, by omega, i + 1, by omega, rfl, rfl, rfl⟩
    obtain rfl : i = n.nodes.length := by omega
    have hi3 : ¬ ((n.nodes.length : Int) < (n.nodes.length : Int)) := by omega
    have hend := upd_end (h := PK (j + 1)) (v := PK j) (by omega)
    rw [hpj] at hend
    rw [hend]
    (have := Nonempty.intro hi3)
    clear hr
    (repeat' (first|refine swp_seq [0,1,2,4,5,6,7,8,10,11,18,22,30,31,32,33,37,38,39] ?_|refine st2 ?_|refine fctI fun hf=>?_|(show CondG ..;first|refine cBG (fun hc=>?_) (fun hc=>?_)|refine cUG ?_ ?_)))
    (refine lN [168] ?_)
    exact ⟨_, by omega, j + 1, by omega, rfl, rfl, rfl⟩
  obtain rfl : j = ss.length := by omega
  have hj3 : ¬ ((ss.length : Int) < (L.length : Int)) := by omega
  (have := Nonempty.intro hj3)
  clear hrow hLrow
  (repeat' (first|refine swp_seq [0,1,2,4,5,6,7,8,10,11,18,22,30,31,32,33,37,38,39] ?_|refine st2 ?_|refine fctI fun hf=>?_|(show CondG ..;first|refine cBG (fun hc=>?_) (fun hc=>?_)|refine cUG ?_ ?_)))
  exact DVR
set_option maxHeartbeats 4000000 in
theorem eqfSta_f (g : FuncId) (a b : List Sta) (m : Nat) (ha : a.length <= 281474976710656) (hb : b.length <= 281474976710656) (hg : ∀ x, x ∈ a -> ∀ y, y ∈ b -> ∀ m, DCalls Tryz.prog g [staD x, staD y] (hget []) m (lb (decide (x = y))) (hget [])) :
    DCalls Tryz.prog 95 [staL a, staL b, .clo g []] (hget []) m (lb (decide (a = b))) (hget []) := by
  by_cases hn : (a.length : Int) = (b.length : Int)
  case neg =>
    have hne : ¬ a = b := fun e => hn (by rw [e])
    rw [decide_eq_false hne]
    (have := Nonempty.intro hn)
    refine pureC (n := 32) (rs := [.tmp 6]) (ts := [4]) Tryz.func95 rfl (by decide) [] (by (exact SD)) ?_
    (repeat' (first|refine swp_seq [0,1,2,6,7,8,9,14,15,16,17,18,30] ?_|refine st2 ?_|refine fctI fun hf=>?_|(show CondG ..;first|refine cBG (fun hc=>?_) (fun hc=>?_)|refine cUG ?_ ?_)))
    exact DVR
  (have := Nonempty.intro hn)
  refine pureC (n := 32) (rs := [.tmp 6]) (ts := [4]) Tryz.func95 rfl (by decide) [] (by (exact SD)) ?_
  (repeat' (first|refine swp_seq [0,1,2,6,7,8,9,14,15,16,17,18,30] ?_|refine st2 ?_|refine fctI fun hf=>?_|(show CondG ..;first|refine cBG (fun hc=>?_) (fun hc=>?_)|refine cUG ?_ ?_)))
  refine loop_swp [1, 2, 15, 16, 17] [] 0 (fun q A H => ∃ i : Nat, i <= a.length /\ q = a.length - i /\ a.take i = b.take i /\ A = [(1, staL b), (2, .clo g []), (15, staL a), (16, li a.length), (17, li i)] /\ H = []) (by omega) ?_ ?_ ?_
  · rintro q A H ⟨i, g1, g2, g3, rfl, rfl⟩
    exact ⟨by (exact SD), by (exact SD)⟩
  · refine ⟨_, 0, by omega, rfl, rfl, ?_, ?_⟩
    · exact DVR
    · exact DVR
  rintro q A H ⟨i, g1, g2, g3, rfl, rfl⟩
  by_cases hi : i < a.length
  · have hi3 : (i : Int) < (a.length : Int) := by omega
    have hi4 : i < b.length := by omega
    have hi5 : (i : Int) < (b.length : Int) := by omega
    have cg := fun m => hg _ (getD_mem hi) _ (getD_mem hi4) m
    (have := Nonempty.intro hi)
    (have := Nonempty.intro hi3)
    (have := Nonempty.intro hi4)
    (have := Nonempty.intro hi5)
    clear hg
    by_cases he : a.getD i default = b.getD i default
    · rw [decide_eq_true he] at cg
      (repeat' (first|refine swp_seq [0,1,2,6,7,8,9,14,15,16,17,18,30] ?_|refine st2 ?_|(show CallQ ..;first|refine cQ (fun hcc=>(by first | exact cg _)) ?_|(refine lP ?_;refine lQ (fun hcc m=>(by first | exact cg _)) ?_))|refine fctI fun hf=>?_|(show CondG ..;first|refine cBG (fun hc=>?_) (fun hc=>?_)|refine cUG ?_ ?_)))
      (refine lN [] ?_)
      exact ⟨_, by omega, i + 1, by omega, rfl, take_next g3 (by omega) (by omega) he, rfl, rfl⟩
    · rw [decide_eq_false he] at cg
      rw [decide_eq_false (fun e => he (by rw [e]))]
      clear he
      (repeat' (first|refine swp_seq [0,1,2,6,7,8,9,14,15,16,17,18,30] ?_|refine st2 ?_|(show CallQ ..;first|refine cQ (fun hcc=>(by first | exact cg _)) ?_|(refine lP ?_;refine lQ (fun hcc m=>(by first | exact cg _)) ?_))|refine fctI fun hf=>?_|(show CondG ..;first|refine cBG (fun hc=>?_) (fun hc=>?_)|refine cUG ?_ ?_)))
      exact DVR
  obtain rfl : i = a.length := by omega
  have hi3 : ¬ ((a.length : Int) < (a.length : Int)) := by omega
  have hab : a = b := by
    have h4 := g3
    rw [List.take_length, List.take_of_length_le (by omega)] at h4
    exact h4
  rw [decide_eq_true hab]
  (have := Nonempty.intro hi3)
  clear hg g3 hab
  (repeat' (first|refine swp_seq [0,1,2,6,7,8,9,14,15,16,17,18,30] ?_|refine st2 ?_|refine fctI fun hf=>?_|(show CondG ..;first|refine cBG (fun hc=>?_) (fun hc=>?_)|refine cUG ?_ ?_)))
  exact DVR
set_option maxHeartbeats 4000000 in
theorem eqfLedg_f (g : FuncId) (a b : List Ledg) (m : Nat) (ha : a.length <= 281474976710656) (hb : b.length <= 281474976710656) (hg : ∀ x, x ∈ a -> ∀ y, y ∈ b -> ∀ m, DCalls Tryz.prog g [ledgD x, ledgD y] (hget []) m (lb (decide (x = y))) (hget [])) :
    DCalls Tryz.prog 96 [ledgL a, ledgL b, .clo g []] (hget []) m (lb (decide (a = b))) (hget []) := by
  by_cases hn : (a.length : Int) = (b.length : Int)
  case neg =>
    have hne : ¬ a = b := fun e => hn (by rw [e])
    rw [decide_eq_false hne]
    (have := Nonempty.intro hn)
    refine pureC (n := 32) (rs := [.tmp 6]) (ts := [4]) Tryz.func96 rfl (by decide) [] (by (exact SD)) ?_
    (repeat' (first|refine swp_seq [0,1,2,6,7,8,9,14,15,16,17,18,30] ?_|refine st2 ?_|refine fctI fun hf=>?_|(show CondG ..;first|refine cBG (fun hc=>?_) (fun hc=>?_)|refine cUG ?_ ?_)))
    exact DVR
  (have := Nonempty.intro hn)
  refine pureC (n := 32) (rs := [.tmp 6]) (ts := [4]) Tryz.func96 rfl (by decide) [] (by (exact SD)) ?_
  (repeat' (first|refine swp_seq [0,1,2,6,7,8,9,14,15,16,17,18,30] ?_|refine st2 ?_|refine fctI fun hf=>?_|(show CondG ..;first|refine cBG (fun hc=>?_) (fun hc=>?_)|refine cUG ?_ ?_)))
  refine loop_swp [1, 2, 15, 16, 17] [] 0 (fun q A H => ∃ i : Nat, i <= a.length /\ q = a.length - i /\ a.take i = b.take i /\ A = [(1, ledgL b), (2, .clo g []), (15, ledgL a), (16, li a.length), (17, li i)] /\ H = []) (by omega) ?_ ?_ ?_
  · rintro q A H ⟨i, g1, g2, g3, rfl, rfl⟩
    exact ⟨by (exact SD), by (exact SD)⟩
  · refine ⟨_, 0, by omega, rfl, rfl, ?_, ?_⟩
    · exact DVR
    · exact DVR
  rintro q A H ⟨i, g1, g2, g3, rfl, rfl⟩
  by_cases hi : i < a.length
  · have hi3 : (i : Int) < (a.length : Int) := by omega
    have hi4 : i < b.length := by omega
    have hi5 : (i : Int) < (b.length : Int) := by omega
    have cg := fun m => hg _ (getD_mem hi) _ (getD_mem hi4) m
    (have := Nonempty.intro hi)
    (have := Nonempty.intro hi3)
    (have := Nonempty.intro hi4)
    (have := Nonempty.intro hi5)
    clear hg
    by_cases he : a.getD i default = b.getD i default
    · rw [decide_eq_true he] at cg
      (repeat' (first|refine swp_seq [0,1,2,6,7,8,9,14,15,16,17,18,30] ?_|refine st2 ?_|(show CallQ ..;first|refine cQ (fun hcc=>(by first | exact cg _)) ?_|(refine lP ?_;refine lQ (fun hcc m=>(by first | exact cg _)) ?_))|refine fctI fun hf=>?_|(show CondG ..;first|refine cBG (fun hc=>?_) (fun hc=>?_)|refine cUG ?_ ?_)))
      (refine lN [] ?_)
      exact ⟨_, by omega, i + 1, by omega, rfl, take_next g3 (by omega) (by omega) he, rfl, rfl⟩
    · rw [decide_eq_false he] at cg
      rw [decide_eq_false (fun e => he (by rw [e]))]
      clear he
      (repeat' (first|refine swp_seq [0,1,2,6,7,8,9,14,15,16,17,18,30] ?_|refine st2 ?_|(show CallQ ..;first|refine cQ (fun hcc=>(by first | exact cg _)) ?_|(refine lP ?_;refine lQ (fun hcc m=>(by first | exact cg _)) ?_))|refine fctI fun hf=>?_|(show CondG ..;first|refine cBG (fun hc=>?_) (fun hc=>?_)|refine cUG ?_ ?_)))
      exact DVR
  obtain rfl : i = a.length := by omega
  have hi3 : ¬ ((a.length : Int) < (a.length : Int)) := by omega
  have hab : a = b := by
    have h4 := g3
    rw [List.take_length, List.take_of_length_le (by omega)] at h4
    exact h4
  rw [decide_eq_true hab]
  (have := Nonempty.intro hi3)
  clear hg g3 hab
  (repeat' (first|refine swp_seq [0,1,2,6,7,8,9,14,15,16,17,18,30] ?_|refine st2 ?_|refine fctI fun hf=>?_|(show CondG ..;first|refine cBG (fun hc=>?_) (fun hc=>?_)|refine cUG ?_ ?_)))
  exact DVR
set_option maxHeartbeats 4000000 in
theorem same37_f (a b : List Sta) (g h : List Ledg) (m : Nat) (ha : a.length <= 281474976710656 /\ ∀ x, x ∈ a -> staOk x) (hb : b.length <= 281474976710656 /\ ∀ x, x ∈ b -> staOk x) (hg : g.length <= 281474976710656 /\ ∀ x, x ∈ g -> x.passed.length <= 281474976710656) (hh : h.length <= 281474976710656 /\ ∀ x, x ∈ h -> x.passed.length <= 281474976710656) :
    DCalls Tryz.prog 33 [staL a, staL b, ledgL g, ledgL h] (hget []) m (lb (decide (a = b) && decide (g = h))) (hget []) := by
  have c1 := fun m => eqfSta_f 21 a b m ha.1 hb.1 (fun x hx y hy m => same_f x y m (ha.2 x hx) (hb.2 y hy))
  have c2 := fun m => eqfLedg_f 97 g h m hg.1 hh.1 (fun x hx y hy m => sameLed_f x y m (hg.2 x hx) (hh.2 y hy))
  generalize decide (a = b) = x at *
  generalize decide (g = h) = y at *
  refine pureC (n := 17) (rs := [.tmp 8]) (ts := [4]) Tryz.func33 rfl (by decide) [] (by (exact SD)) ?_
  (repeat' (first|refine swp_seq [0,1,2,3,8] ?_|refine st2 ?_|(show CallQ ..;first|refine cQ (fun hcc=>(by first | exact c1 _ | exact c2 _)) ?_|(refine lP ?_;refine lQ (fun hcc m=>(by first | exact c1 _ | exact c2 _)) ?_))|refine fctI fun hf=>?_|(show CondG ..;first|refine cBG (fun hc=>?_) (fun hc=>?_)|refine cUG ?_ ?_)))
  exact DVR
section
variable {n : Net} {l : List Sect} {infl : List Infl} {names : List ByteArray} {sec : Int} {s : Sta}
theorem stpI_pas {k : Nat} {t : Sta} : (stpI n l infl names sec k t).2.1.passed.length = n.links.length ∨ (stpI n l infl names sec k t).2.1.passed.length = 0 := by
  unfold stpI
  split
  · exact stepR_pas
  · exact .inr rfl
theorem runI_all (no : netOk n) (co : catOk l) (nb : netB n = true) (sb : staB n s = true) : ∀ k, (∀ x, x ∈ (runI n l infl names sec s k).ss -> staB n x = true) /\ ∀ g, g ∈ (runI n l infl names sec s k).gs -> g.passed.length <= 400
  | 0 => ⟨fun x hx => (by cases hx), fun x hx => by cases hx⟩
  | k + 1 => by
    obtain ⟨h1, h2⟩ := runI_all no co nb sb k
    have h4 := (netB_len nb).2
    by_cases e1 : (runI n l infl names sec s k).e = 0
    · by_cases e2 : (stpI n l infl names sec k (runI n l infl names sec s k).now).2.2 = 0
      · rw [runI_good e1 e2]
        refine ⟨fun x hx => ?_, fun g hg => ?_⟩
        · rcases List.mem_append.1 hx with hx | hx
          · exact h1 x hx
          · rw [List.mem_singleton.1 hx]; exact stpI_good no co e2
        · rcases List.mem_append.1 hg with hg | hg
          · exact h2 g hg
          · rw [List.mem_singleton.1 hg]
            have := @stpI_pas n l infl names sec k (runI n l infl names sec s k).now
            omega
      · rw [runI_bad e1 e2]
        exact ⟨fun x hx => (by cases hx), fun x hx => by cases hx⟩
    · rw [runI_err e1]
      exact ⟨fun x hx => (by cases hx), fun x hx => by cases hx⟩
theorem runR_ok (no : netOk n) (co : catOk l) (steps : Int) : (∀ x, x ∈ (runR n l s infl sec steps).1 -> staOk x) /\ (∀ g, g ∈ (runR n l s infl sec steps).2.1 -> g.passed.length <= 281474976710656) /\ (runR n l s infl sec steps).1.length <= 10000 /\ (runR n l s infl sec steps).2.1.length <= 10000 := by
  have nil : (∀ x : Sta, x ∈ ([] : List Sta) -> staOk x) /\ (∀ g : Ledg, g ∈ ([] : List Ledg) -> g.passed.length <= 281474976710656) /\ ([] : List Sta).length <= 10000 /\ ([] : List Ledg).length <= 10000 := ⟨fun x hx => (by cases hx), fun x hx => (by cases hx), by simp, by simp⟩
  unfold runR
  split
  · exact nil
  next hv =>
  split
  · exact nil
  split
  · exact nil
  next hr =>
  have hv : (netB n && staB n s && catB l) = true := by simpa only [Bool.not_eq_false] using hv
  simp only [Bool.and_eq_true] at hv
  obtain ⟨⟨nb, sb⟩, cb⟩ := hv
  obtain ⟨h1, h2⟩ := runI_all (infl := infl) (names := namesL n) (sec := sec) no co nb sb steps.toNat
  refine ⟨fun x hx => staOk_of nb (h1 x hx), fun g hg => by have := h2 g hg; omega, ?_⟩
  by_cases e : (runI n l infl (namesL n) sec s steps.toNat).e = 0
  · obtain ⟨a, b⟩ := runI_len e
    exact ⟨by show (runI n l infl (namesL n) sec s steps.toNat).ss.length <= _; omega, by show (runI n l infl (namesL n) sec s steps.toNat).gs.length <= _; omega⟩
  · obtain ⟨a, b⟩ := runI_nil e
    show (runI n l infl (namesL n) sec s steps.toNat).ss.length <= _ /\ (runI n l infl (namesL n) sec s steps.toNat).gs.length <= _
    rw [a, b]; exact ⟨by simp, by simp⟩
theorem runR_err {steps : Int} (h : ¬ (runR n l s infl sec steps).2.2 = 0) : (runR n l s infl sec steps).1 = [] /\ (runR n l s infl sec steps).2.1 = [] := by
  unfold runR at h ⊢
  split
  · exact ⟨rfl, rfl⟩
  next h1 =>
  rw [if_neg h1] at h
  split
  · exact ⟨rfl, rfl⟩
  next h2 =>
  rw [if_neg h2] at h
  split
  · exact ⟨rfl, rfl⟩
  next h3 =>
  rw [if_neg h3] at h
  exact runI_nil h
theorem runR_good {steps : Int} (h : (runR n l s infl sec steps).2.2 = 0) : netB n = true /\ staB n s = true /\ catB l = true /\ givenN infl (namesL n) = 0 /\ (0 <= steps /\ steps <= 10000 /\ 1 <= sec /\ sec <= 86400) /\ (runI n l infl (namesL n) sec s steps.toNat).e = 0 := by
  unfold runR at h
  split at h
  · cases h
  next hv =>
  split at h
  next hg => exact absurd h hg
  next hg =>
  split at h
  · cases h
  next hr =>
  have hv : (netB n && staB n s && catB l) = true := by simpa only [Bool.not_eq_false] using hv
  simp only [Bool.and_eq_true] at hv
  exact ⟨hv.1.1, hv.1.2, hv.2, by simpa using hg, by omega, h⟩
theorem runR_of {k : Nat} (nb : netB n = true) (sb : staB n s = true) (cb : catB l = true) (hg : givenN infl (namesL n) = 0) (hs : k <= 10000 /\ 1 <= sec /\ sec <= 86400) : runR n l s infl sec (k : Int) = ((runI n l infl (namesL n) sec s k).ss, (runI n l infl (namesL n) sec s k).gs, (runI n l infl (namesL n) sec s k).e) := by
  unfold runR
  rw [if_neg (by rw [nb, sb, cb]; decide), if_neg (fun c => c hg), if_neg (by omega), Int.toNat_natCast]
theorem runR_early {k : Nat} {j : Nat} (hj : k <= 10000) (hk : j <= 10000) (h : ¬ ((netB n = true /\ staB n s = true /\ catB l = true) /\ givenN infl (namesL n) = 0 /\ 1 <= sec /\ sec <= 86400)) : runR n l s infl sec (k : Int) = runR n l s infl sec (j : Int) := by
  unfold runR
  by_cases hv : (netB n && staB n s && catB l) = false
  · rw [if_pos hv, if_pos hv]
  rw [if_neg hv, if_neg hv]
  have hv : (netB n && staB n s && catB l) = true := by simpa only [Bool.not_eq_false] using hv
  simp only [Bool.and_eq_true] at hv
  by_cases hg : ¬ givenN infl (namesL n) = 0
  · rw [if_pos hg, if_pos hg]
  rw [if_neg hg, if_neg hg]
  have hg : givenN infl (namesL n) = 0 := by simpa using hg
  by_cases hs : 1 <= sec /\ sec <= 86400
  · exact absurd ⟨⟨hv.1.1, hv.1.2, hv.2⟩, hg, hs⟩ h
  · rw [if_pos (by omega), if_pos (by omega)]
structure TwoRuns (n : Net) (l : List Sect) (s : Sta) (infl : List Infl) (sec : Int) (i k : Nat) (A B : List Sta × List Ledg × Int) : Prop where
  bad : ¬ A.2.2 = 0 -> A.1 = [] /\ (B.2.2 = 0 ∨ B.2.2 = A.2.2)
  e : A.2.2 = 0 -> B.2.2 = 0
  la : A.2.2 = 0 -> A.1.length = i + k /\ A.2.1.length = i + k /\ B.1.length = i /\ B.2.1.length = i
  t1 : A.2.2 = 0 -> A.1.take i = B.1 /\ A.2.1.take i = B.2.1
  mid : A.2.2 = 0 -> ∀ mid, mid = (if 0 < i then B.1.getD (i - 1) default else s) -> staOk mid /\ runR n l mid (infl.map (cutI i)) sec (k : Int) = (A.1.drop i, A.2.1.drop i, 0)
theorem two_runs (no : netOk n) (co : catOk l) {i k : Nat} (hi : i <= 6) (hk : k <= 6) : TwoRuns n l s infl sec i k (runR n l s infl sec ((i + k : Nat) : Int)) (runR n l s infl sec (i : Int)) := by
  by_cases hg : (netB n = true /\ staB n s = true /\ catB l = true) /\ givenN infl (namesL n) = 0 /\ 1 <= sec /\ sec <= 86400
  case neg =>
    have e := runR_early (n := n) (l := l) (s := s) (infl := infl) (sec := sec) (k := i + k) (j := i) (by omega) (by omega) hg
    have hne : ¬ (runR n l s infl sec (i : Int)).2.2 = 0 := fun h => by
      obtain ⟨h1, h2, h3, h4, h5, _⟩ := runR_good h
      exact hg ⟨⟨h1, h2, h3⟩, h4, h5.2.2⟩
    rw [e]
    exact ⟨fun h => ⟨(runR_err h).1, .inr rfl⟩, fun h => absurd h hne, fun h => absurd h hne, fun h => absurd h hne, fun h => absurd h hne⟩
  obtain ⟨⟨nb, sb, cb⟩, hgv, hs⟩ := hg
  have hA := runR_of (k := i + k) nb sb cb hgv ⟨by omega, hs⟩
  have hB := runR_of (k := i) nb sb cb hgv ⟨by omega, hs⟩
  rw [hA, hB]
  refine ⟨fun h => ⟨(runI_nil h).1, ?_⟩, fun h => runI_down h, fun h => ?_, fun h => ?_, fun h mid hm => ?_⟩
  · by_cases e : (runI n l infl (namesL n) sec s i).e = 0
    · exact .inl e
    · exact .inr (runI_stay e k).symm
  · obtain ⟨a1, a2⟩ := runI_len (k := i + k) h
    obtain ⟨b1, b2⟩ := runI_len (k := i) (runI_down h)
    exact ⟨a1, a2, b1, b2⟩
  · have h0 := runI_down (k := i) (j := k) h
    obtain ⟨_, _, h3⟩ := run_parts h0 k
    obtain ⟨h4, h5⟩ := h3 h
    obtain ⟨b1, b2⟩ := runI_len h0
    show (runI n l infl (namesL n) sec s (i + k)).ss.take i = _ /\ (runI n l infl (namesL n) sec s (i + k)).gs.take i = _
    rw [h4, h5, List.take_append_of_le_length (by omega), List.take_append_of_le_length (by omega), List.take_of_length_le (by omega), List.take_of_length_le (by omega)]
    exact ⟨rfl, rfl⟩
  · have h0 := runI_down (k := i) (j := k) h
    obtain ⟨_, h2, h3⟩ := run_parts h0 k
    obtain ⟨h4, h5⟩ := h3 h
    obtain ⟨b1, b2⟩ := runI_len h0
    have hmid : mid = (runI n l infl (namesL n) sec s i).now := by
      rw [hm]
      split
      next hi0 => exact runI_last h0 hi0
      next hi0 =>
        obtain rfl : i = 0 := by omega
        rfl
    have sbm := runI_sta (infl := infl) (names := namesL n) (sec := sec) no co sb i
    rw [<- hmid] at sbm h2 h4 h5
    refine ⟨staOk_of nb sbm, ?_⟩
    rw [runR_of (k := k) nb sbm cb (given_cut hgv) ⟨by omega, hs⟩]
    show (_, _, _) = ((runI n l infl (namesL n) sec s (i + k)).ss.drop i, (runI n l infl (namesL n) sec s (i + k)).gs.drop i, 0)
    rw [h4, h5, List.drop_append_of_le_length (by omega), List.drop_append_of_le_length (by omega), List.drop_of_length_le (by omega), List.drop_of_length_le (by omega), h2, show (runI n l infl (namesL n) sec s (i + k)).e = 0 from h]
    rfl
end
def few3 (s : Sect) : Bool := decide (30 < s.area.length) || decide (30 < s.conv.length) || decide (50 < s.name.size)
def few30 (s : Sta) : Bool := decide (30 < s.vol.length) || decide (30 < s.pon.length) || decide (30 < s.set.length) || decide (30 < s.on.length)
def few37 (n : Net) (l : List Sect) (ss : List Sta) : Bool :=
  if 12 < n.nodes.length ∨ 16 < n.links.length ∨ 12 < l.length ∨ l.any few3 = true then false else !(ss.any few30)
theorem few1_f (s : Sect) (m : Nat) (hs : sectOk s) : DCalls Tryz.prog 75 [sectD s] (hget []) m (lb (few3 s)) (hget []) := by
  obtain ⟨h1, h2, h3, ⟨h4, _⟩, h5, _⟩ := hs
  refine pureC (n := 19) (rs := [.tmp 2]) (ts := [4]) Tryz.func75 rfl (by decide) [] (by (exact SD)) ?_
  (repeat' (first|refine swp_seq [0,1,2] ?_|refine st2 ?_|refine fctI fun hf=>?_|(show CondG ..;first|refine cBG (fun hc=>?_) (fun hc=>?_)|refine cUG ?_ ?_)))
  (refine DVQ ?_)
  refine lbC ?_
  unfold few3; grind
theorem few2_f (s : Sta) (m : Nat) (hs : staOk s) : DCalls Tryz.prog 77 [staD s] (hget []) m (lb (few30 s)) (hget []) := by
  obtain ⟨⟨h1, _⟩, ⟨h2, _⟩, ⟨h3, _⟩, h4⟩ := hs
  refine pureC (n := 25) (rs := [.tmp 2]) (ts := [4]) Tryz.func77 rfl (by decide) [] (by (exact SD)) ?_
  (repeat' (first|refine swp_seq [0,1,2] ?_|refine st2 ?_|refine fctI fun hf=>?_|(show CondG ..;first|refine cBG (fun hc=>?_) (fun hc=>?_)|refine cUG ?_ ?_)))
  (refine DVQ ?_)
  refine lbC ?_
  unfold few30; grind
set_option maxHeartbeats 4000000 in
theorem few_f (n : Net) (l : List Sect) (ss : List Sta) (m : Nat) (no : netOk n) (co : catOk l) (hs : ss.length <= 281474976710656 /\ ∀ x, x ∈ ss -> staOk x) : DCalls Tryz.prog 24 [netD n, sectL l, staL ss] (hget []) m (lb (few37 n l ss)) (hget []) := by
  obtain ⟨hs1, hs2⟩ := hs
  have c1 := fun m => conSect_f 75 few3 l m co.1 (fun x hx m => few1_f x m (co.2 x hx))
  have c2 := fun m => conSta_f 77 few30 ss m hs1 (fun x hx m => few2_f x m (hs2 x hx))
  have h1 := no.1.1
  have h2 := no.2.1
  have h3 := co.1
  unfold few37
  generalize l.any few3 = A at *
  generalize ss.any few30 = B at *
  by_cases n1 : (12 : Int) < (n.nodes.length : Int)
  · rw [if_pos (.inl (by omega))]
    (have := Nonempty.intro n1)
    refine pureC (n := 29) (rs := [.tmp 6]) (ts := [4]) Tryz.func24 rfl (by decide) [] (by (exact SD)) ?_
    (repeat' (first|refine swp_seq [0,1,2,3,6,25] ?_|refine st2 ?_|refine fctI fun hf=>?_|(show CondG ..;first|refine cBG (fun hc=>?_) (fun hc=>?_)|refine cUG ?_ ?_)))
    exact DVR
  by_cases n2 : (16 : Int) < (n.links.length : Int)
  · rw [if_pos (.inr (.inl (by omega)))]
    (have := Nonempty.intro n1)
    (have := Nonempty.intro n2)
    refine pureC (n := 29) (rs := [.tmp 6]) (ts := [4]) Tryz.func24 rfl (by decide) [] (by (exact SD)) ?_
    (repeat' (first|refine swp_seq [0,1,2,3,6,25] ?_|refine st2 ?_|refine fctI fun hf=>?_|(show CondG ..;first|refine cBG (fun hc=>?_) (fun hc=>?_)|refine cUG ?_ ?_)))
    exact DVR
  by_cases n3 : (12 : Int) < (l.length : Int)
  · rw [if_pos (.inr (.inr (.inl (by omega))))]
    (have := Nonempty.intro n1)
    (have := Nonempty.intro n2)
    (have := Nonempty.intro n3)
    refine pureC (n := 29) (rs := [.tmp 6]) (ts := [4]) Tryz.func24 rfl (by decide) [] (by (exact SD)) ?_
    (repeat' (first|refine swp_seq [0,1,2,3,6,25] ?_|refine st2 ?_|refine fctI fun hf=>?_|(show CondG ..;first|refine cBG (fun hc=>?_) (fun hc=>?_)|refine cUG ?_ ?_)))
    exact DVR
  (have := Nonempty.intro n1)
  (have := Nonempty.intro n2)
  (have := Nonempty.intro n3)
  cases A
  · rw [if_neg (by simp; omega)]
    refine pureC (n := 29) (rs := [.tmp 6]) (ts := [4]) Tryz.func24 rfl (by decide) [] (by (exact SD)) ?_
    (repeat' (first|refine swp_seq [0,1,2,3,6,25] ?_|refine st2 ?_|(show CallQ ..;first|refine cQ (fun hcc=>(by first | exact c1 _ | exact c2 _)) ?_|(refine lP ?_;refine lQ (fun hcc m=>(by first | exact c1 _ | exact c2 _)) ?_))|refine fctI fun hf=>?_|(show CondG ..;first|refine cBG (fun hc=>?_) (fun hc=>?_)|refine cUG ?_ ?_)))
    exact DVR
  · rw [if_pos (.inr (.inr (.inr rfl)))]
    refine pureC (n := 29) (rs := [.tmp 6]) (ts := [4]) Tryz.func24 rfl (by decide) [] (by (exact SD)) ?_
    (repeat' (first|refine swp_seq [0,1,2,3,6,25] ?_|refine st2 ?_|(show CallQ ..;first|refine cQ (fun hcc=>(by first | exact c1 _)) ?_|(refine lP ?_;refine lQ (fun hcc m=>(by first | exact c1 _)) ?_))|refine fctI fun hf=>?_|(show CondG ..;first|refine cBG (fun hc=>?_) (fun hc=>?_)|refine cUG ?_ ?_)))
    exact DVR
theorem few37_t {n : Net} {l : List Sect} {ss : List Sta} (h : few37 n l ss = true) : n.nodes.length <= 12 /\ n.links.length <= 16 /\ l.length <= 12 /\ ss.any few30 = false := by
  unfold few37 at h
  split at h
  · cases h
  next h2 =>
  refine ⟨by omega, by omega, by omega, ?_⟩
  simpa using h

end Go.Proofs.YthacnhidipeckaaGreat
