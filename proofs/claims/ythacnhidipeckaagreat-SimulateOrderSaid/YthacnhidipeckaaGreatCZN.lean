/-
  Contracts of functions of the program, over the engine.
  No condition.
-/
import Derived.Test.YthacnhidipeckaaGreatCZM
import Derived.Test.YthacnhidipeckaaGreatCY21Y23N2Z3Z4Z5Z6ZAZB
namespace Go.Proofs.YthacnhidipeckaaGreat
open Go.Eng
set_option linter.all false
attribute [local irreducible] DCallsG SWp Fct CallQ XCallQ LCallQ XLCallQ drun xrun
theorem inflC_d2 (x : Infl) : (inflC x).drop 2 = [] := rfl
theorem set_infl (l : List Infl) (i : Nat) (v : Infl) : (rows inflP l).set i (inflC v) = rows inflP (l.set i v) := rows_set inflP l i v
theorem cells_infl (x : Infl) (r : List DV) : CellsB (inflC x ++ r) = CellsB r :=
  propext ⟨fun h d hd => h d (List.mem_append.2 (.inr hd)), fun h d hd => by
    rcases List.mem_append.1 hd with hd | hd
    · exact List.all_eq_true.1 (inflC_all x) d hd
    · exact h d hd⟩
theorem infl_cells (x : Infl) : CellsB (inflC x) = True :=
  propext ⟨fun _ => trivial, fun _ d hd => List.all_eq_true.1 (inflC_all x) d hd⟩
attribute [push_cast] inflC_d2 set_infl cells_infl infl_cells List.append_nil
set_option maxRecDepth 20000 in
set_option maxHeartbeats 4000000 in
theorem revInfl_f (l : List Infl) (hl : l.length <= 1048576) : DCallsG Tryz.prog 35 [] [.gl 0] (hget [(0, inflLt l)]) 1 (.tup []) (hget [(0, inflLt l.reverse)]) := by
  refine contract (n := 28) (rs := []) (ts := []) Tryz.func35 rfl (by decide) 1 1 [] [] [] (.tup []) [(0, inflLt l.reverse)] (by (exact SD)) (by (exact SD)) ?_
  (repeat' (first|refine swp_seq [0,2,3,9] ?_|refine st2 ?_|refine fctI fun hf=>?_|(show CondG ..;first|refine cBG (fun hc=>?_) (fun hc=>?_)|refine cUG ?_ ?_)))
  refine loop_swp [0, 2, 3] [0] 1 (fun q A H => ∃ i : Nat, 2 * i <= l.length + 1 /\ q = l.length + 1 - i /\ A = [(0, .gl 0), (2, li i), (3, li ((l.length : Int) - 1 - i))] /\ H = [(0, inflLt (rvL l i))]) (by omega) ?_ ?_ ?_
  · rintro q A H ⟨i, h1, h2, rfl, rfl⟩
    exact ⟨by (exact SD), by (exact SD)⟩
  · refine ⟨_, 0, by omega, rfl, ?_, ?_⟩
    · rw [show (l.length : Int) - 1 - ((0 : Nat) : Int) = (l.length : Int) - 1 by omega]
      exact DVR
    · rw [rvL_zero]
      exact DVR
  rintro q A H ⟨i, h1, h2, rfl, rfl⟩
  by_cases hi : 2 * i + 1 < l.length
  · have hnx := rvL_next hi
    have hln := rvL_len l i
    have hj : (l.length : Int) - 1 - i = ((l.length - 1 - i : Nat) : Int) := by omega
    rw [hj]
    have hjl : l.length - 1 - i < l.length := by omega
    have hij : (i : Int) < ((l.length - 1 - i : Nat) : Int) := by omega
    generalize hJ : l.length - 1 - i = J at *
    generalize rvL l i = X at *
    have hiX : i < X.length := by omega
    have hjX : J < X.length := by omega
    (have := Nonempty.intro hij)
    (have := Nonempty.intro hiX)
    have hjY : J < (X.set i (X.getD J default)).length := by rw [List.length_set]; exact hjX
    (have := Nonempty.intro hjX)
    (have := Nonempty.intro hjY)
    (repeat' (first|refine swp_seq [0,2,3,9] ?_|(show SWp _ _ _ (.region _ _ true) _ _ _ _;refine xG mixed [0] ?_)|refine st2 ?_|refine fctI fun hf=>?_|(show CondG ..;first|refine cBG (fun hc=>?_) (fun hc=>?_)|refine cUG ?_ ?_)))
    rw [hnx]
    (refine lN [0] ?_)
    exact ⟨_, by omega, i + 1, by omega, rfl, by rw [show (l.length : Int) - 1 - ((i + 1 : Nat) : Int) = (J : Int) - 1 by omega]; rfl, rfl⟩
  · have hij : ¬ (i : Int) < (l.length : Int) - 1 - i := by omega
    (have := Nonempty.intro hij)
    rw [rvL_end (by omega)]
    (repeat' (first|refine swp_seq [0,2,3,9] ?_|refine st2 ?_|refine fctI fun hf=>?_|(show CondG ..;first|refine cBG (fun hc=>?_) (fun hc=>?_)|refine cUG ?_ ?_)))
    exact DVR
set_option maxHeartbeats 1000000 in
theorem cloneInfl_f (l : List Infl) (m : Nat) (hl : l.length <= 1048576) : DCallsG Tryz.prog 34 [] [inflL l] (hget []) m (.gl m) (hget [(m, inflLt l)]) := by
  refine contract (n := 8) (rs := [.tmp 2]) (ts := [62]) Tryz.func34 rfl (by decide) 0 0 [] [] [24] (.gl 24) [(24, inflLt l)] (by (exact SD)) (by (exact SD)) ?_
  cases l with
  | nil =>
    (repeat' (first | refine swp_seq [0, 2, 4] ?_ | (first | refine rF (fun hf => ?_) | refine tN ?_ | refine swp_skip ?_ | refine swp_block ?_ | refine swp_scope ?_ | refine blockK_normal ?_ | refine scopeK_normal ?_ | (refine cB (fun hc => ?_) (fun hc => ?_) <;> first | exact False.elim hc | exact absurd hc Bool.false_ne_true | exact absurd hc.symm Bool.false_ne_true | skip) | refine cU ?_ ?_)))
    · (refine sN 2 78 2 ?_)
      (refine sR 32 24 ?_)
      (repeat' (first | refine swp_seq [0, 2, 4] ?_ | (first | refine rF (fun hf => ?_) | refine tN ?_ | refine swp_skip ?_ | refine swp_ret ?_ | refine swp_exit ?_ | refine swp_block ?_ | refine swp_scope ?_ | refine thenK_ret ?_ | refine thenK_exit ?_ | refine blockK_normal ?_ | refine blockK_ret ?_ | refine blockK_here ?_ | refine bX ?_ | refine scopeK_normal ?_ | refine scopeK_ret ?_ | refine scopeK_exit ?_ | refine loopK_ret ?_ | refine loopK_exit ?_ | refine dF mixed ?_ | (refine cB (fun hc => ?_) (fun hc => ?_) <;> first | exact False.elim hc | exact absurd hc Bool.false_ne_true | exact absurd hc.symm Bool.false_ne_true | skip) | refine cU ?_ ?_)))
      exact DVS
    · (repeat' (first | refine swp_seq [0, 2, 4] ?_ | (first | refine rF (fun hf => ?_) | refine tN ?_ | refine swp_skip ?_ | refine swp_ret ?_ | refine swp_exit ?_ | refine swp_block ?_ | refine swp_scope ?_ | refine thenK_ret ?_ | refine thenK_exit ?_ | refine blockK_normal ?_ | refine blockK_ret ?_ | refine blockK_here ?_ | refine bX ?_ | refine scopeK_normal ?_ | refine scopeK_ret ?_ | refine scopeK_exit ?_ | refine loopK_ret ?_ | refine loopK_exit ?_ | refine dF mixed ?_ | (refine cB (fun hc => ?_) (fun hc => ?_) <;> first | exact False.elim hc | exact absurd hc Bool.false_ne_true | exact absurd hc.symm Bool.false_ne_true | skip) | refine cU ?_ ?_)))
      exact DVS
  | cons b l =>
    (repeat' (first | refine swp_seq [0,2,4] ?_ | (first | refine rF (fun hf => ?_) | refine tN ?_ | refine swp_skip ?_ | refine swp_ret ?_ | refine swp_exit ?_ | refine swp_block ?_ | refine swp_scope ?_ | refine thenK_ret ?_ | refine thenK_exit ?_ | refine blockK_normal ?_ | refine blockK_ret ?_ | refine blockK_here ?_ | refine bX ?_ | refine scopeK_normal ?_ | refine scopeK_ret ?_ | refine scopeK_exit ?_ | refine loopK_ret ?_ | refine loopK_exit ?_ | refine dF mixed ?_ | (refine cB (fun hc => ?_) (fun hc => ?_) <;> first | exact False.elim hc | exact absurd hc Bool.false_ne_true | exact absurd hc.symm Bool.false_ne_true | skip) | refine cU ?_ ?_)))
    exact DVS
theorem short_vol {infl : List Infl} (h : shortB infl = true) {x : Infl} (hx : x ∈ infl) : x.vols.length <= 40 := by
  unfold shortB at h
  simp only [Bool.and_eq_true, Bool.not_eq_true', List.any_eq_false] at h
  have := h.2 x hx
  simp at this; omega
theorem turn_ok {infl : List Infl} {b : Int} {x : Infl} {t : List Infl} (hb : 1 <= b) (h10 : infl.length <= 10) (hi : ∀ y, y ∈ infl -> inflOk y) (hr : infl.reverse = x :: t) (hv : x.vols.all (fun v => btwB v 0 1125899906842624) = true) : (lowI b x :: t ++ [hiI b x]).length <= 281474976710656 /\ ∀ y, y ∈ lowI b x :: t ++ [hiI b x] -> inflOk y := by
  have hl : (x :: t).length <= 10 := by rw [<- hr, List.length_reverse]; exact h10
  have hm : ∀ y, y ∈ x :: t -> inflOk y := fun y hy => hi y (by rw [<- hr] at hy; exact List.mem_reverse.1 hy)
  obtain ⟨h1, h2, h3⟩ := hm x (List.mem_cons_self ..)
  rw [List.all_eq_true] at hv
  have hd : ∀ v, v ∈ x.vols -> (0 <= v /\ v <= 1125899906842624) /\ 0 <= v / b /\ v / b <= v := fun v hv2 => by
    have := btwB_in (hv v hv2)
    exact ⟨this, Int.ediv_nonneg this.1 (by omega), Int.ediv_le_self _ this.1⟩
  refine ⟨by simp at hl ⊢; omega, fun y hy => ?_⟩
  rcases List.mem_append.1 hy with hy | hy
  · rcases List.mem_cons.1 hy with rfl | hy
    · refine ⟨h1, by show (x.vols.map _).length <= _; rw [List.length_map]; exact h2, fun z hz => ?_⟩
      obtain ⟨v, hv2, rfl⟩ := List.mem_map.1 hz
      have := hd v hv2
      unfold i64ok; omega
    · exact hm y (List.mem_cons_of_mem _ hy)
  · rw [List.mem_singleton.1 hy]
    refine ⟨h1, by show (x.vols.map _).length <= _; rw [List.length_map]; exact h2, fun z hz => ?_⟩
    obtain ⟨v, hv2, rfl⟩ := List.mem_map.1 hz
    have := hd v hv2
    unfold i64ok; omega
theorem turn_run {n : Net} {l : List Sect} {s : Sta} {infl : List Infl} {sec b : Int} (hb : 1 <= b) (h10 : infl.length <= 10) (hv : ∀ x t, infl.reverse = x :: t -> x.vols.all (fun v => btwB v 0 1125899906842624) = true) : runR n l s (turnI b infl) sec 8 = runR n l s infl sec 8 := by
  unfold runR
  rw [given_turn hb h10 hv, runI_turn]
theorem run_bad {n : Net} {l : List Sect} {s : Sta} {infl : List Infl} {sec : Int} {x : Infl} {j : Nat} (hx : x ∈ infl) (hj : j < x.vols.length) (hv : x.vols.getD j default < 0 ∨ 1125899906842624 < x.vols.getD j default) : ¬ (runR n l s infl sec 8).2.2 = 0 := fun h => by
  obtain ⟨_, _, _, h4, _⟩ := runR_good (steps := 8) h
  have := rightI_vol ((givenN_0 h4).2.2.1 x hx) hj
  omega
set_option maxRecDepth 20000 in
set_option maxHeartbeats 64000000 in
theorem simorder_f (n : Net) (l : List Sect) (s : Sta) (infl : List Infl) (sec x5 : Int) (m : Nat) (no : netOk n) (co : catOk l) (so : staOk s) (hi : infl.length <= 281474976710656 /\ ∀ x, x ∈ infl -> inflOk x) (h5 : 0 <= x5 /\ x5 <= 255) :
    DCalls Tryz.prog 7 [netD n, sectL l, staD s, inflL infl, li sec, lv (.int .u8 x5)] (hget []) m (lb true) (hget []) := by
  have cf := fun m => few_f n l [s] m no co ⟨by simp, fun x hx => by rw [List.mem_singleton.1 hx]; exact so⟩
  have cs := fun m => short_f infl m hi
  cases hf : few37 n l [s] <;> simp only [hf] at cf
  · refine pureC (n := 146) (rs := [.tmp 12]) (ts := [4]) Tryz.func7 rfl (by decide) [] (by (exact SD)) ?_
    (repeat' (first|refine swp_seq [0,1,2,3,4,5,6,8,12,13,14,15,16,17,18,19,21,22,23,24,25,27,43,60,71,72,73,74,82,127] ?_|refine st2 ?_|(show CallQ ..;first|refine cQ (fun hcc=>(by first | exact awake37_f _ | exact cf _)) ?_|(refine lP ?_;refine lQ (fun hcc m=>(by first | exact awake37_f _ | exact cf _)) ?_))|refine fctI fun hf=>?_|(show CondG ..;first|refine cBG (fun hc=>?_) (fun hc=>?_)|refine cUG ?_ ?_)))
    exact DVR
  cases hs : shortB infl <;> simp only [hs] at cs
  · refine pureC (n := 146) (rs := [.tmp 12]) (ts := [4]) Tryz.func7 rfl (by decide) [] (by (exact SD)) ?_
    (repeat' (first|refine swp_seq [0,1,2,3,4,5,6,8,12,13,14,15,16,17,18,19,21,22,23,24,25,27,43,60,71,72,73,74,82,127] ?_|refine st2 ?_|(show CallQ ..;first|refine cQ (fun hcc=>(by first | exact awake37_f _ | exact cf _ | exact cs _)) ?_|(refine lP ?_;refine lQ (fun hcc m=>(by first | exact awake37_f _ | exact cf _ | exact cs _)) ?_))|refine fctI fun hf=>?_|(show CondG ..;first|refine cBG (fun hc=>?_) (fun hc=>?_)|refine cUG ?_ ?_)))
    exact DVR
  obtain ⟨f1, f2, _, f4⟩ := few37_t hf
  have hsl := short_len hs
  by_cases h10 : (10 : Int) < (infl.length : Int)
  · (have := Nonempty.intro h10)
    refine pureC (n := 146) (rs := [.tmp 12]) (ts := [4]) Tryz.func7 rfl (by decide) [] (by (exact SD)) ?_
    (repeat' (first|refine swp_seq [0,1,2,3,4,5,6,8,12,13,14,15,16,17,18,19,21,22,23,24,25,27,43,60,71,72,73,74,82,127] ?_|refine st2 ?_|(show CallQ ..;first|refine cQ (fun hcc=>(by first | exact awake37_f _ | exact cf _ | exact cs _)) ?_|(refine lP ?_;refine lQ (fun hcc m=>(by first | exact awake37_f _ | exact cf _ | exact cs _)) ?_))|refine fctI fun hf=>?_|(show CondG ..;first|refine cBG (fun hc=>?_) (fun hc=>?_)|refine cUG ?_ ?_)))
    exact DVR
  (have := Nonempty.intro h10)
  have kA := fun m => Run_f n l s infl sec 8 m no co so hi (by omega)
  have oA := runR_ok (s := s) (infl := infl) (sec := sec) no co 8
  have cc := fun m => cloneInfl_f infl m (by omega)
  have cr := revInfl_f infl (by omega)
  have kS := fun m => same37_f (runR n l s infl sec 8).1 (runR n l s infl sec 8).1 (runR n l s infl sec 8).2.1 (runR n l s infl sec 8).2.1 m ⟨by omega, oA.1⟩ ⟨by omega, oA.1⟩ ⟨by omega, oA.2.1⟩ ⟨by omega, oA.2.1⟩
  rw [decide_eq_true rfl, decide_eq_true rfl] at kS
  have hnil := fun h => runR_err (n := n) (l := l) (s := s) (infl := infl) (sec := sec) (steps := 8) h
  cases hr : infl.reverse with
  | nil =>
    have hinf : infl = [] := by simpa using hr
    subst hinf
    generalize runR n l s [] sec 8 = RA at *
    obtain ⟨AS, AG, AE⟩ := RA
    rw [hr] at cr
    by_cases e0 : AE = 0
    · (have := Nonempty.intro e0)
      refine pureC (n := 146) (rs := [.tmp 12]) (ts := [4]) Tryz.func7 rfl (by decide) [] (by (exact SD)) ?_
      (repeat' (first|refine swp_seq [0,1,2,3,4,5,6,8,12,13,14,15,16,17,18,19,21,22,23,24,25,27,43,60,71,72,73,74,82,127] ?_|refine st2 ?_|(show CallQ ..;first|refine cQ (fun hcc=>(by first | exact awake37_f _ | exact cf _ | exact cs _ | exact kA _ | exact cc _)) ?_|(refine lP ?_;refine lQ (fun hcc m=>(by first | exact awake37_f _ | exact cf _ | exact cs _ | exact kA _ | exact cc _)) ?_))|refine fctI fun hf=>?_|(show CondG ..;first|refine cBG (fun hc=>?_) (fun hc=>?_)|refine cUG ?_ ?_)))
      (refine cQT [280] (fun hcc => cr) ?_)
      (repeat' (first|(show SWp _ _ _ (.seq (.region 22 _ _) _) _ _ _ _;refine (stop_in ?_))|refine swp_seq [0,1,2,3,4,5,6,8,12,13,14,15,16,17,18,19,21,22,23,24,25,27,43,60,71,72,73,74,82,127] ?_|(show SWp _ _ _ (.region _ _ true) _ _ _ _;refine xG mixed [] ?_)|refine st2 ?_|(show CallQ ..;first|refine cQ (fun hcc=>(by fail)) ?_|(refine lP ?_;refine lQ (fun hcc m=>(by fail)) ?_))|refine fctI fun hf=>?_|(show CondG ..;first|refine cBG (fun hc=>?_) (fun hc=>?_)|refine cUG ?_ ?_)))
      refine stop_out ?_
      (refine sF 280 ?_)
      (repeat' (first|refine swp_seq [0,1,2,3,4,5,6,8,12,13,14,15,16,17,18,19,21,22,23,24,25,27,43,60,71,72,73,74,82,127] ?_|refine st2 ?_|(show CallQ ..;first|refine cQ (fun hcc=>(by first | exact kA _ | exact kS _)) ?_|(refine lP ?_;refine lQ (fun hcc m=>(by first | exact kA _ | exact kS _)) ?_))|refine fctI fun hf=>?_|(show CondG ..;first|refine cBG (fun hc=>?_) (fun hc=>?_)|refine cUG ?_ ?_)))
      exact DVR
    · obtain ⟨b1, b2⟩ := hnil e0
      have b1 : AS = [] := b1
      subst b1
      have e1 : AE = AE := rfl
      (have := Nonempty.intro e0)
      (have := Nonempty.intro e1)
      refine pureC (n := 146) (rs := [.tmp 12]) (ts := [4]) Tryz.func7 rfl (by decide) [] (by (exact SD)) ?_
      (repeat' (first|refine swp_seq [0,1,2,3,4,5,6,8,12,13,14,15,16,17,18,19,21,22,23,24,25,27,43,60,71,72,73,74,82,127] ?_|refine st2 ?_|(show CallQ ..;first|refine cQ (fun hcc=>(by first | exact awake37_f _ | exact cf _ | exact cs _ | exact kA _ | exact cc _)) ?_|(refine lP ?_;refine lQ (fun hcc m=>(by first | exact awake37_f _ | exact cf _ | exact cs _ | exact kA _ | exact cc _)) ?_))|refine fctI fun hf=>?_|(show CondG ..;first|refine cBG (fun hc=>?_) (fun hc=>?_)|refine cUG ?_ ?_)))
      (refine cQT [280] (fun hcc => cr) ?_)
      (repeat' (first|(show SWp _ _ _ (.seq (.region 22 _ _) _) _ _ _ _;refine (stop_in ?_))|refine swp_seq [0,1,2,3,4,5,6,8,12,13,14,15,16,17,18,19,21,22,23,24,25,27,43,60,71,72,73,74,82,127] ?_|(show SWp _ _ _ (.region _ _ true) _ _ _ _;refine xG mixed [] ?_)|refine st2 ?_|(show CallQ ..;first|refine cQ (fun hcc=>(by fail)) ?_|(refine lP ?_;refine lQ (fun hcc m=>(by fail)) ?_))|refine fctI fun hf=>?_|(show CondG ..;first|refine cBG (fun hc=>?_) (fun hc=>?_)|refine cUG ?_ ?_)))
      refine stop_out ?_
      (refine sF 280 ?_)
      (repeat' (first|refine swp_seq [0,1,2,3,4,5,6,8,12,13,14,15,16,17,18,19,21,22,23,24,25,27,43,60,71,72,73,74,82,127] ?_|refine st2 ?_|(show CallQ ..;first|refine cQ (fun hcc=>(by first | exact kA _)) ?_|(refine lP ?_;refine lQ (fun hcc m=>(by first | exact kA _)) ?_))|refine fctI fun hf=>?_|(show CondG ..;first|refine cBG (fun hc=>?_) (fun hc=>?_)|refine cUG ?_ ?_)))
      exact DVR
  | cons x t =>
    have hxm : x ∈ infl := List.mem_reverse.1 (by rw [hr]; exact List.mem_cons_self ..)
    have hlen : infl.length = t.length + 1 := by rw [<- List.length_reverse, hr]; rfl
    rw [hr] at cr
    have hox := hi.2 x hxm
    obtain ⟨o1, o2, _⟩ := hox
    have hbad := fun j hj hv => run_bad (n := n) (l := l) (s := s) (infl := infl) (sec := sec) (x := x) (j := j) hxm hj hv
    have hturn := fun hv => turn_run (n := n) (l := l) (s := s) (infl := infl) (sec := sec) (b := 1 + x5) (by omega) (by omega) hv
    have htI : turnI (1 + x5) infl = (lowI (1 + x5) x :: t) ++ [hiI (1 + x5) x] := by unfold turnI; rw [hr]
    have kB := fun m ok => Run_f n l s (lowI (1 + x5) x :: t ++ [hiI (1 + x5) x]) sec 8 m no co so ok (by omega)
    have tok := fun hv => turn_ok (b := 1 + x5) (by omega) (by omega) hi.2 hr hv
    have hxl := short_vol hs hxm
    rw [htI] at hturn
    generalize runR n l s infl sec 8 = RA at *
    obtain ⟨AS, AG, AE⟩ := RA
    have h0 : (0 : Int) < (t.length : Int) + 1 := by omega
    have hb0 : ¬ (1 + x5 = 0) := by omega
    have ht10 : t.length <= 10 := by omega
    have h01 : (0 : Int) < ((x :: t).length : Int) := by simp
    have h02 : 0 < (x :: t).length := by simp
    (have := Nonempty.intro h0)
    (have := Nonempty.intro h01)
    (have := Nonempty.intro h02)
    (have := Nonempty.intro hb0)
    refine pureC (n := 146) (rs := [.tmp 12]) (ts := [4]) Tryz.func7 rfl (by decide) [] (by (exact SD)) ?_
    (repeat' (first|refine swp_seq [0,1,2,3,4,5,6,8,12,13,14,15,16,17,18,19,21,22,23,24,25,27,43,60,71,72,73,74,82,127] ?_|refine st2 ?_|(show CallQ ..;first|refine cQ (fun hcc=>(by first | exact awake37_f _ | exact cf _ | exact cs _ | exact kA _ | exact cc _)) ?_|(refine lP ?_;refine lQ (fun hcc m=>(by first | exact awake37_f _ | exact cf _ | exact cs _ | exact kA _ | exact cc _)) ?_))|refine fctI fun hf=>?_|(show CondG ..;first|refine cBG (fun hc=>?_) (fun hc=>?_)|refine cUG ?_ ?_)))
    (refine cQT [280] (fun hcc => cr) ?_)
    (repeat' (first|refine swp_seq [0,1,2,3,4,5,6,8,12,13,14,15,16,17,18,19,21,22,23,24,25,27,43,60,71,72,73,74,82,127] ?_|refine st2 ?_|refine fctI fun hf=>?_|(show CondG ..;first|refine cBG (fun hc=>?_) (fun hc=>?_)|refine cUG ?_ ?_)))
    refine swp_hkeep [440, 400, 280, 8, 0] rfl ?_
    change SWp _ _ _ _ _ _ ((440, .blk 78 ([DV.p (.lit (.string x.nod))] ++ .p (.lit (.slice none 0 0)) :: [])) :: _) _
    refine swp_nilC 440 78 3 1 [DV.p (.lit (.string x.nod))] [] rfl ?_
    refine swp_hkeep [400, 440, 488, 280, 8, 0] rfl ?_
    change SWp _ _ _ _ _ _ ((400, .blk 78 ([DV.p (.lit (.string x.nod))] ++ .p (.lit (.slice none 0 0)) :: [])) :: _) _
    refine swp_nilC 400 78 3 1 [DV.p (.lit (.string x.nod))] [] rfl ?_
    obtain ⟨XT, hXT⟩ : ∃ XT, x :: t = XT := ⟨_, rfl⟩
    rw [hXT]
    have h03 : 0 < XT.length := by rw [<- hXT]; exact h02
    have h04 : (0 : Int) < (XT.length : Int) := by omega
    have h05 : XT.length <= 11 := by rw [<- hXT]; simp; omega
    (have := Nonempty.intro h03)
    (have := Nonempty.intro h04)
    obtain ⟨LV, hLV⟩ : ∃ LV, (x.vols.map fun v => v / (1 + x5)) = LV := ⟨_, rfl⟩
    obtain ⟨HV2, hHV⟩ : ∃ HV2, (x.vols.map fun v => v - v / (1 + x5)) = HV2 := ⟨_, rfl⟩
    have lLV : LV.length = x.vols.length := by rw [<- hLV, List.length_map]
    have lHV : HV2.length = x.vols.length := by rw [<- hHV, List.length_map]
    have aLV : ∀ i, i < x.vols.length -> LV.take (i + 1) = LV.take i ++ [x.vols.getD i default / (1 + x5)] := fun i hi => by
      rw [List.take_succ_eq_append_getElem (by omega)]
      subst hLV
      rw [List.getElem_map, List.getD_eq_getElem?_getD, List.getElem?_eq_getElem hi]; rfl
    have aHV : ∀ i, i < x.vols.length -> HV2.take (i + 1) = HV2.take i ++ [x.vols.getD i default - x.vols.getD i default / (1 + x5)] := fun i hi => by
      rw [List.take_succ_eq_append_getElem (by omega)]
      subst hHV
      rw [List.getElem_map, List.getD_eq_getElem?_getD, List.getElem?_eq_getElem hi]; rfl
    refine loop_swp [1, 4, 5, 6, 8, 13, 14, 15, 16, 18, 19, 71, 72, 73] [0, 8, 280, 400, 440, 488, 496] 504 (fun q A H => ∃ i : Nat, i <= x.vols.length /\ q = x.vols.length - i /\ (∀ j, j < i -> btwB (x.vols.getD j default) 0 1125899906842624 = true) /\ A = [(1, sectL l), (4, li sec), (5, lv (.int .u8 x5)), (6, .ptr 0 0), (8, .ptr 8 0), (13, staL AS), (14, ledgL AG), (15, li AE), (16, .gl 280), (18, .ptr 400 0), (19, .ptr 440 0), (71, ints x.vols), (72, li x.vols.length), (73, li i)] /\ H = [(0, .blk 25 (netC n)), (8, .blk 30 (staC s)), (280, inflLt XT), (400, .blk 78 [.p (.lit (.string x.nod)), .gl 496]), (440, .blk 78 [.p (.lit (.string x.nod)), .gl 488]), (488, inLt (HV2.take i)), (496, inLt (LV.take i))]) (by omega) ?_ ?_ ?_
    · rintro q A H ⟨i, g1, g2, g3, rfl, rfl⟩
      exact ⟨by (exact SD), by (exact SD)⟩
    · refine ⟨_, 0, by omega, rfl, by omega, ?_, ?_⟩
      · exact DVR
      · exact DVR
    rintro q A H ⟨i, g1, g2, g3, rfl, rfl⟩
    by_cases hin : i < x.vols.length
    · have hi3 : (i : Int) < (x.vols.length : Int) := by omega
      have hbd := hbad i hin
      have n1 := aLV i hin
      have n2 := aHV i hin
      have t1 : (LV.take i).length = i := by rw [List.length_take]; omega
      have t2 : (HV2.take i).length = i := by rw [List.length_take]; omega
      generalize LV.take i = X1 at *
      generalize HV2.take i = X2 at *
      clear hbad hturn tok kB aLV aHV
      (have := Nonempty.intro hin)
      (have := Nonempty.intro hi3)
      by_cases v1 : x.vols.getD i default < 0
      · have hAE : ¬ AE = 0 := hbd (.inl v1)
        (have := Nonempty.intro v1)
        (have := Nonempty.intro hAE)
        clear g3 hbd
        (repeat' (first|refine swp_seq [0,1,2,3,4,5,6,8,12,13,14,15,16,17,18,19,21,22,23,24,25,27,43,60,71,72,73,74,82,127] ?_|refine st2 ?_|refine fctI fun hf=>?_|(show CondG ..;first|refine cBG (fun hc=>?_) (fun hc=>?_)|refine cUG ?_ ?_)))
        exact DVR
      by_cases v2 : 1125899906842624 < x.vols.getD i default
      · have hAE : ¬ AE = 0 := hbd (.inr v2)
        (have := Nonempty.intro v1)
        (have := Nonempty.intro v2)
        (have := Nonempty.intro hAE)
        clear g3 hbd
        (repeat' (first|refine swp_seq [0,1,2,3,4,5,6,8,12,13,14,15,16,17,18,19,21,22,23,24,25,27,43,60,71,72,73,74,82,127] ?_|refine st2 ?_|refine fctI fun hf=>?_|(show CondG ..;first|refine cBG (fun hc=>?_) (fun hc=>?_)|refine cUG ?_ ?_)))
        exact DVR
      have g4 : ∀ j, j < i + 1 -> btwB (x.vols.getD j default) 0 1125899906842624 = true := fun j hj => by
        by_cases e : j = i
        · subst e
          unfold btwB
          simp only [Bool.and_eq_true, decide_eq_true_eq]; omega
        · exact g3 j (by omega)
      have d1 : 0 <= x.vols.getD i default / (1 + x5) := Int.ediv_nonneg (by omega) (by omega)
      have d2 : x.vols.getD i default / (1 + x5) <= x.vols.getD i default := Int.ediv_le_self _ (by omega)
      haveI : DivOk (x.vols.getD i default) (1 + x5) (x.vols.getD i default / (1 + x5)) := ⟨by rw [Int.tdiv_eq_ediv_of_nonneg (by omega), i64w (by omega)]⟩
      generalize x.vols.getD i default / (1 + x5) = D at *
      (have := Nonempty.intro v1)
      (have := Nonempty.intro v2)
      clear g3 hbd
      (repeat' (first|refine swp_seq [0,1,2,3,4,5,6,8,12,13,14,15,16,17,18,19,21,22,23,24,25,27,43,60,71,72,73,74,82,127] ?_|(show SWp _ _ _ (.region _ _ true) _ _ _ _;refine xG mixed [400, 440, 488, 496, 6000488, 6000400, 6000440, 13000496, 13000400, 13000440, 15000440, 15000488, 15000496, 17000400, 17000488, 17000496] ?_)|refine st2 ?_|refine fctI fun hf=>?_|(show CondG ..;first|refine cBG (fun hc=>?_) (fun hc=>?_)|refine cUG ?_ ?_)))
      (refine lR2 664 496 720 488 [0, 8, 280, 400, 440, 720, 664] ?_)
      exact ⟨_, by omega, i + 1, by omega, rfl, g4, rfl, by rw [n1, n2] <;> rfl⟩
    obtain rfl : i = x.vols.length := by omega
    have hi3 : ¬ ((x.vols.length : Int) < (x.vols.length : Int)) := by omega
    have hv : x.vols.all (fun v => btwB v 0 1125899906842624) = true := by
      rw [List.all_eq_true]
      intro v hv
      obtain ⟨j, hj, rfl⟩ := List.mem_iff_getElem.1 hv
      have := g3 j hj
      rw [List.getD_eq_getElem?_getD, List.getElem?_eq_getElem hj] at this
      exact this
    have htu := hturn (fun x' t' h => by rw [hr] at h; cases h; exact hv)
    have kB := fun m => kB m (tok hv)
    rw [htu] at kB
    rw [show LV.take x.vols.length = LV by rw [<- lLV, List.take_length], show HV2.take x.vols.length = HV2 by rw [<- lHV, List.take_length]]
    have eLO : lowI (1 + x5) x = ⟨x.nod, LV⟩ := by unfold lowI; rw [hLV]
    have eHI : hiI (1 + x5) x = ⟨x.nod, HV2⟩ := by unfold hiI; rw [hHV]
    rw [eLO, eHI] at kB
    (have := Nonempty.intro hi3)
    clear g3 hbad hturn tok aLV aHV htu
    (repeat' (first|(show SWp _ _ _ (.seq (.region 20 _ _) _) _ _ _ _;refine (stop_in ?_))|refine swp_seq [0,1,2,3,4,5,6,8,12,13,14,15,16,17,18,19,21,22,23,24,25,27,43,60,71,72,73,74,82,127] ?_|(show SWp _ _ _ (.region _ _ true) _ _ _ _;refine xG mixed [] ?_)|refine st2 ?_|(show CallQ ..;first|refine cQ (fun hcc=>(by fail)) ?_|(refine lP ?_;refine lQ (fun hcc m=>(by fail)) ?_))|refine fctI fun hf=>?_|(show CondG ..;first|refine cBG (fun hc=>?_) (fun hc=>?_)|refine cUG ?_ ?_)))
    refine stop_out ?_
    (refine sF 488 ?_)
    (refine sF 496 ?_)
    obtain ⟨LO, hLO⟩ : ∃ LO : Infl, (⟨x.nod, LV⟩ : Infl) = LO := ⟨_, rfl⟩
    obtain ⟨HI, hHI⟩ : ∃ HI : Infl, (⟨x.nod, HV2⟩ : Infl) = HI := ⟨_, rfl⟩
    rw [hLO, hHI] at kB
    rw [show [DV.p (.lit (.string x.nod)), DV.p (.dat 1 (List.map inRow LV))] = inflC LO by rw [<- hLO]; rfl, show [DV.p (.lit (.string x.nod)), DV.p (.dat 1 (List.map inRow HV2))] = inflC HI by rw [<- hHI]; rfl]
    (repeat' (first|(show SWp _ _ _ (.region 21 _ _) _ _ _ _;refine (stop_in ?_))|refine swp_seq [0,1,2,3,4,5,6,8,12,13,14,15,16,17,18,19,21,22,23,24,25,27,43,60,71,72,73,74,82,127] ?_|(show SWp _ _ _ (.region _ _ true) _ _ _ _;refine xG mixed [] ?_)|refine st2 ?_|(show CallQ ..;first|refine cQ (fun hcc=>(by fail)) ?_|(refine lP ?_;refine lQ (fun hcc m=>(by fail)) ?_))|refine fctI fun hf=>?_|(show CondG ..;first|refine cBG (fun hc=>?_) (fun hc=>?_)|refine cUG ?_ ?_)))
    refine stop_out ?_
    obtain ⟨XS, hXS⟩ : ∃ XS, XT.set 0 LO = XS := ⟨_, rfl⟩
    have h06 : XS.length <= 11 := by rw [<- hXS, List.length_set]; exact h05
    rw [hXS]
    (repeat' (first|(show SWp _ _ _ (.seq (.region 22 _ _) _) _ _ _ _;refine (stop_in ?_))|refine swp_seq [0,1,2,3,4,5,6,8,12,13,14,15,16,17,18,19,21,22,23,24,25,27,43,60,71,72,73,74,82,127] ?_|(show SWp _ _ _ (.region _ _ true) _ _ _ _;refine xG mixed [] ?_)|refine st2 ?_|(show CallQ ..;first|refine cQ (fun hcc=>(by fail)) ?_|(refine lP ?_;refine lQ (fun hcc m=>(by fail)) ?_))|refine fctI fun hf=>?_|(show CondG ..;first|refine cBG (fun hc=>?_) (fun hc=>?_)|refine cUG ?_ ?_)))
    refine stop_out ?_
    rw [show rows inflP (XS) ++ [inflC HI] = rows inflP (XS ++ [HI]) from rows_app inflP (XS) [HI], show XS ++ [HI] = LO :: t ++ [HI] by rw [<- hXS, <- hXT]; rfl]
    generalize LO :: t ++ [HI] = TU at *
    (refine sF 280 ?_)
    by_cases e0 : AE = 0
    · (have := Nonempty.intro e0)
      (repeat' (first|refine swp_seq [0,1,2,3,4,5,6,8,12,13,14,15,16,17,18,19,21,22,23,24,25,27,43,60,71,72,73,74,82,127] ?_|refine st2 ?_|(show CallQ ..;first|refine cQ (fun hcc=>(by first | exact kB _ | exact kS _)) ?_|(refine lP ?_;refine lQ (fun hcc m=>(by first | exact kB _ | exact kS _)) ?_))|refine fctI fun hf=>?_|(show CondG ..;first|refine cBG (fun hc=>?_) (fun hc=>?_)|refine cUG ?_ ?_)))
      exact DVR
    · obtain ⟨b1, b2⟩ := hnil e0
      have b1 : AS = [] := b1
      subst b1
      have e1 : AE = AE := rfl
      (have := Nonempty.intro e0)
      (have := Nonempty.intro e1)
      (repeat' (first|refine swp_seq [0,1,2,3,4,5,6,8,12,13,14,15,16,17,18,19,21,22,23,24,25,27,43,60,71,72,73,74,82,127] ?_|refine st2 ?_|(show CallQ ..;first|refine cQ (fun hcc=>(by first | exact kB _)) ?_|(refine lP ?_;refine lQ (fun hcc m=>(by first | exact kB _)) ?_))|refine fctI fun hf=>?_|(show CondG ..;first|refine cBG (fun hc=>?_) (fun hc=>?_)|refine cUG ?_ ?_)))
      exact DVR

end Go.Proofs.YthacnhidipeckaaGreat
