/-
  Contracts of functions of the program, over the engine.
  No condition.
-/
import Derived.Test.YthacnhidipeckaaGreatCZCZD
import Derived.Test.YthacnhidipeckaaGreatCL12L16L20RL25L27
import Derived.Test.YthacnhidipeckaaGreatCW4W5W6R1R2R3R4
import Derived.Test.YthacnhidipeckaaGreatCT16T15T18T20Y0Y5Y1
import Derived.Test.YthacnhidipeckaaGreatCL9L10L11
import Derived.Test.YthacnhidipeckaaGreatCZGZIZKZJ0
namespace Go.Proofs.YthacnhidipeckaaGreat
open Go.Eng
set_option linter.all false
attribute [local irreducible] DCallsG SWp Fct CallQ XCallQ LCallQ XLCallQ drun xrun
theorem most_cnt {t : List Knot} {y : Int} (h : tabB t = true) (h0 : (t.getD 0 default).y <= y) : ∃ I : Nat, 1 <= I /\ I <= t.length /\ (∀ j, j < I -> (t.getD j default).y <= y) /\ (∀ j, I <= j -> j < t.length -> y < (t.getD j default).y) /\
    ((I = t.length /\ mostIx t y = -1) ∨ (I < t.length /\ mostIx t y = (I : Int))) := by
  have hl := (tab_in h).1
  have hm := tab_mono2 h
  rcases idxI_spec (fun a : Knot => decide (y < a.y)) t with ⟨e, hn⟩ | ⟨k, e, hk, hp, hn⟩
  · refine ⟨t.length, hl, Nat.le_refl _, fun j hj => ?_, fun j h1 h2 => by omega, .inl ⟨rfl, e⟩⟩
    have := of_decide_eq_false (hn j hj)
    omega
  · have hp := of_decide_eq_true hp
    have hk0 : k ≠ 0 := fun z => by subst z; omega
    refine ⟨k, by omega, by omega, fun j hj => ?_, fun j h1 h2 => ?_, .inr ⟨hk, e⟩⟩
    · have := of_decide_eq_false (hn j hj)
      omega
    · have := (hm j k h1 h2).2
      omega
set_option maxRecDepth 20000 in
set_option maxHeartbeats 8000000 in
theorem rMost_f (t : List Knot) (y : Int) (m : Nat) (h : tabB t = true) (h0 : (t.getD 0 default).y <= y) (hy : 0 <= y /\ y <= 1125899906842624) : DCalls Tryz.prog 182 [knotL t, li y] (hget []) m (.tup [li (mostT t y), lb true]) (hget []) := by
  have hin := tab_in h
  obtain ⟨I, i1, i2, i3, i4, i5⟩ := most_cnt h h0
  have hmT : mostT t y = if mostIx t y = -1 then (t.getD (t.length - 1) default).x
    else (t.getD ((mostIx t y).toNat - 1) default).x + (y - (t.getD ((mostIx t y).toNat - 1) default).y) * ((t.getD (mostIx t y).toNat default).x - (t.getD ((mostIx t y).toNat - 1) default).x) / ((t.getD (mostIx t y).toNat default).y - (t.getD ((mostIx t y).toNat - 1) default).y) := rfl
  have f0 : ¬ y < (t.getD 0 default).y := by omega
  have f1 : 0 < t.length := by omega
  (have := Nonempty.intro f0)
  (have := Nonempty.intro f1)
  generalize mostT t y = MT at *
  refine pureC (n := 78) (rs := [.tmp 4, .tmp 5]) (ts := [3, 4]) Tryz.func182 rfl (by decide) [] (by (exact SD)) ?_
  (repeat' (first|refine swp_seq [0,1,4,5,6,7,8,14,18,27,33] ?_|refine st2 ?_|refine fctI fun hf=>?_|(show CondG ..;first|refine cBG (fun hc=>?_) (fun hc=>?_)|refine cUG ?_ ?_)))
  refine loop_swp [0, 1, 6, 7] [] 0 (fun q A H => ∃ i : Nat, i <= t.length /\ q = t.length - i /\ A = [(0, knotL t), (1, li y), (6, li ((min i I - 1 : Nat) : Int)), (7, li i)] /\ H = []) (by omega) ?_ ?_ ?_
  · rintro q A H ⟨i, g1, g2, rfl, rfl⟩
    exact ⟨by (exact SD), by (exact SD)⟩
  · refine ⟨_, 0, by omega, rfl, ?_, ?_⟩
    · rw [show min 0 I - 1 = 0 by omega]
      exact DVR
    · exact DVR
  rintro q A H ⟨i, g1, g2, rfl, rfl⟩
  by_cases hi : i < t.length
  · have hi3 : (i : Int) < (t.length : Int) := by omega
    (have := Nonempty.intro hi)
    (have := Nonempty.intro hi3)
    by_cases hI : i < I
    · have hle := i3 i hI
      have e1 : min (i + 1) I - 1 = i := by omega
      (have := Nonempty.intro hle)
      clear i3 i4 hmT
      (repeat' (first|refine swp_seq [0,1,4,5,6,7,8,14,18,27,33] ?_|refine st2 ?_|refine fctI fun hf=>?_|(show CondG ..;first|refine cBG (fun hc=>?_) (fun hc=>?_)|refine cUG ?_ ?_)))
      (refine lN [] ?_)
      exact ⟨_, by omega, i + 1, by omega, rfl, by rw [e1] <;> rfl, rfl⟩
    · have hle : ¬ (t.getD i default).y <= y := by have := i4 i (by omega) hi; omega
      have e1 : min (i + 1) I - 1 = min i I - 1 := by omega
      (have := Nonempty.intro hle)
      clear i3 i4 hmT
      (repeat' (first|refine swp_seq [0,1,4,5,6,7,8,14,18,27,33] ?_|refine st2 ?_|refine fctI fun hf=>?_|(show CondG ..;first|refine cBG (fun hc=>?_) (fun hc=>?_)|refine cUG ?_ ?_)))
      (refine lN [] ?_)
      exact ⟨_, by omega, i + 1, by omega, rfl, by rw [e1] <;> rfl, rfl⟩
  obtain rfl : i = t.length := by omega
  have hi3 : ¬ ((t.length : Int) < (t.length : Int)) := by omega
  (have := Nonempty.intro hi3)
  rw [show min t.length I - 1 = I - 1 by omega]
  obtain ⟨K, rfl⟩ : ∃ K, I = K + 1 := ⟨I - 1, by omega⟩
  rw [Nat.add_sub_cancel]
  have hKl : K < t.length := by omega
  (have := Nonempty.intro hKl)
  rcases i5 with ⟨e, hx⟩ | ⟨e, hx⟩
  · rw [if_pos hx, <- e, Nat.add_sub_cancel] at hmT
    rw [hmT]
    have hk3 : (K : Int) = (t.length : Int) - 1 := by omega
    (have := Nonempty.intro hk3)
    clear i3 i4
    (repeat' (first|refine swp_seq [0,1,4,5,6,7,8,14,18,27,33] ?_|refine st2 ?_|refine fctI fun hf=>?_|(show CondG ..;first|refine cBG (fun hc=>?_) (fun hc=>?_)|refine cUG ?_ ?_)))
    exact DVR
  · rw [if_neg (by omega), hx, Int.toNat_natCast, Nat.add_sub_cancel] at hmT
    have hk3 : ¬ (K : Int) = (t.length : Int) - 1 := by omega
    have b1 := hin.2.2.1 K hKl
    have b2 := hin.2.2.1 (K + 1) e
    have a1 := hin.2.2.2 K e
    have a2 := i3 K (by omega)
    have a3 := i4 (K + 1) (Nat.le_refl _) e
    obtain ⟨N, hN⟩ : ∃ N : Nat, y - (t.getD K default).y = (N : Int) := ⟨(y - (t.getD K default).y).toNat, by omega⟩
    obtain ⟨X, hX⟩ : ∃ X : Nat, (t.getD (K + 1) default).x - (t.getD K default).x = (X : Int) := ⟨((t.getD (K + 1) default).x - (t.getD K default).x).toNat, by omega⟩
    obtain ⟨D, hD⟩ : ∃ D : Nat, (t.getD (K + 1) default).y - (t.getD K default).y = (D : Int) := ⟨((t.getD (K + 1) default).y - (t.getD K default).y).toNat, by omega⟩
    have hQ : N * X / D <= X := by
      have := Nat.div_le_div_right (c := D) (Nat.mul_le_mul_right X (show N <= D by omega))
      rw [Nat.mul_div_cancel_left _ (show 0 < D by omega)] at this
      exact this
    have kF := fun m => floorOf_f N X D (N * X / D) (N * X % D) m (by omega) (by omega) (by omega) (Nat.div_add_mod (N * X) D).symm (Nat.mod_lt _ (by omega)) (by omega)
    rw [hN, hX, hD, <- Int.natCast_mul, <- Int.natCast_ediv] at hmT
    rw [hmT]
    rw [<- hN, <- hX, <- hD] at kF
    generalize N * X / D = Q at *
    clear hmT i3 i4 hD
    have e3 : K + 1 < t.length := e
    (have := Nonempty.intro e3)
    (have := Nonempty.intro hk3)
    (repeat' (first|refine swp_seq [0,1,4,5,6,7,8,14,18,27,33] ?_|refine st2 ?_|(show XCallQ ..;first|refine xQ (fun hcc=>(by first | exact kF _)) ?_|(refine xlP ?_;refine xlQ (fun hcc m=>(by first | exact kF _)) ?_))|refine fctI fun hf=>?_|(show CondG ..;first|refine cBG (fun hc=>?_) (fun hc=>?_)|refine cUG ?_ ?_)))
    exact DVR
set_option maxHeartbeats 4000000 in
theorem rLevel29_f (x : Node) (v : Int) (m : Nat) (h : nodeR x = true) (hv : 0 <= v /\ v <= 1125899906842624) : DCalls Tryz.prog 152 [nodeD x, li v] (hget []) m (li (levelI x v)) (hget []) := by
  have hl := levelI_in h hv.1
  have a1 := lev_in (node_lev h).1
  have a2 := lev_in (node_lev h).2.1
  unfold levelI at hl ⊢
  by_cases k : x.kind = 3
  · rw [if_pos k]
    (have := Nonempty.intro k)
    refine pureC (n := 23) (rs := [.tmp 4]) (ts := [3]) Tryz.func152 rfl (by decide) [] (by (exact SD)) ?_
    (repeat' (first|refine swp_seq [0,1,2,4,5,9] ?_|refine st2 ?_|refine fctI fun hf=>?_|(show CondG ..;first|refine cBG (fun hc=>?_) (fun hc=>?_)|refine cUG ?_ ?_)))
    exact DVR
  · rw [if_neg k] at hl ⊢
    (have := Nonempty.intro k)
    have ht := nodeR_tab h k
    have ct := fun m => rMost_f x.shape v m ht.1 (by omega) hv
    generalize mostT x.shape v = q at *
    refine pureC (n := 23) (rs := [.tmp 4]) (ts := [3]) Tryz.func152 rfl (by decide) [] (by (exact SD)) ?_
    (repeat' (first|refine swp_seq [0,1,2,4,5,9] ?_|refine st2 ?_|(show CallQ ..;first|refine cQ (fun hcc=>(by first | exact ct _)) ?_|(refine lP ?_;refine lQ (fun hcc m=>(by first | exact ct _)) ?_))|refine fctI fun hf=>?_|(show CondG ..;first|refine cBG (fun hc=>?_) (fun hc=>?_)|refine cUG ?_ ?_)))
    exact DVR
set_option maxRecDepth 20000 in
set_option maxHeartbeats 8000000 in
theorem rLevels29_f (n : Net) (vol : List Int) (m : Nat) (no : netOk n) (nb : netB n = true) (hl : vol.length = n.nodes.length) (hv : ∀ i, i < n.nodes.length -> 0 <= vol.getD i default /\ vol.getD i default <= 1125899906842624) : DCalls Tryz.prog 106 [netD n, ints vol] (hget []) m (ints (levelsL n vol)) (hget []) := by
  have hLl : (levelsL n vol).length = n.nodes.length := rng_len _ _
  have hLs : ∀ i, i < n.nodes.length -> (levelsL n vol).take (i + 1) = (levelsL n vol).take i ++ [levelI (n.nodes.getD i default) (vol.getD i default)] := fun i hi => by
    rw [List.take_succ_eq_append_getElem (by omega)]
    unfold levelsL
    rw [List.getElem_map, List.getElem_range]
  have hnl := no.1.1
  have h300 := (netB_len nb).1
  refine pureC (n := 28) (rs := [.tmp 4]) (ts := [27]) Tryz.func106 rfl (by decide) [32] (by (exact SD)) ?_
  (repeat' (first|refine swp_seq [0,1,2,4,5,6,11] ?_|refine st2 ?_|refine fctI fun hf=>?_|(show CondG ..;first|refine cBG (fun hc=>?_) (fun hc=>?_)|refine cUG ?_ ?_)))
  (refine sN 5 3 1 ?_)
  refine loop_swp [1, 2, 5, 6] [0, 32] 40 (fun q A H => ∃ i : Nat, i <= n.nodes.length /\ q = n.nodes.length - i /\ A = [(1, ints vol), (2, .ptr 0 0), (5, .gl 32), (6, li i)] /\ H = [(0, .blk 25 (netC n)), (32, inLt ((levelsL n vol).take i))]) (by omega) ?_ ?_ ?_
  · rintro q A H ⟨i, g1, g2, rfl, rfl⟩
    exact ⟨by (exact SD), by (exact SD)⟩
  · refine ⟨_, 0, by omega, rfl, ?_, ?_⟩
    · exact DVR
    · exact DVR
  rintro q A H ⟨i, g1, g2, rfl, rfl⟩
  by_cases hi : i < n.nodes.length
  · have hi3 : (i : Int) < (n.nodes.length : Int) := by omega
    have hiv : i < vol.length := by omega
    have hiv3 : (i : Int) < (vol.length : Int) := by omega
    have cl := fun m => rLevel29_f (n.nodes.getD i default) (vol.getD i default) m (netB_node nb hi) (hv i hi)
    have hnx := hLs i hi
    have hti : ((levelsL n vol).take i).length = i := by rw [List.length_take]; omega
    generalize (levelsL n vol).take i = X at *
    generalize levelI (n.nodes.getD i default) (vol.getD i default) = LV at *
    (have := Nonempty.intro hi)
    (have := Nonempty.intro hi3)
    (have := Nonempty.intro hiv)
    (have := Nonempty.intro hiv3)
    clear hLs hv
    (repeat' (first|refine swp_seq [0,1,2,4,5,6,11] ?_|(show SWp _ _ _ (.region _ _ true) _ _ _ _;refine xG mixed [32, 1000010] ?_)|refine st2 ?_|(show XCallQ ..;first|refine xQ (fun hcc=>(by first | exact cl _)) ?_|(refine xlP ?_;refine xlQ (fun hcc m=>(by first | exact cl _)) ?_))|refine fctI fun hf=>?_|(show CondG ..;first|refine cBG (fun hc=>?_) (fun hc=>?_)|refine cUG ?_ ?_)))
    rw [<- hnx]
    (refine lR 176 32 [0, 176] ?_)
    exact ⟨_, by omega, i + 1, by omega, rfl, rfl, rfl⟩
  obtain rfl : i = n.nodes.length := by omega
  have hi3 : ¬ ((n.nodes.length : Int) < (n.nodes.length : Int)) := by omega
  rw [show (levelsL n vol).take n.nodes.length = levelsL n vol by rw [<- hLl, List.take_length]]
  generalize levelsL n vol = X at *
  (have := Nonempty.intro hi3)
  clear hLs hv
  (repeat' (first|refine swp_seq [0,1,2,4,5,6,11] ?_|refine st2 ?_|refine fctI fun hf=>?_|(show CondG ..;first|refine cBG (fun hc=>?_) (fun hc=>?_)|refine cUG ?_ ?_)))
  exact DVR
set_option maxHeartbeats 4000000 in
theorem eqfIl_f (g : FuncId) (a b : List (List Int)) (m : Nat) (ha : a.length <= 281474976710656) (hb : b.length <= 281474976710656) (hg : ∀ x, x ∈ a -> ∀ y, y ∈ b -> ∀ m, DCalls Tryz.prog g [ints x, ints y] (hget []) m (lb (decide (x = y))) (hget [])) :
    DCalls Tryz.prog 42 [intss a, intss b, .clo g []] (hget []) m (lb (decide (a = b))) (hget []) := by
  by_cases hn : (a.length : Int) = (b.length : Int)
  case neg =>
    have hne : ¬ a = b := fun e => hn (by rw [e])
    rw [decide_eq_false hne]
    (have := Nonempty.intro hn)
    refine pureC (n := 32) (rs := [.tmp 6]) (ts := [4]) Tryz.func42 rfl (by decide) [] (by (exact SD)) ?_
    (repeat' (first|refine swp_seq [0,1,2,6,7,8,9,14,15,16,17,18,30] ?_|refine st2 ?_|refine fctI fun hf=>?_|(show CondG ..;first|refine cBG (fun hc=>?_) (fun hc=>?_)|refine cUG ?_ ?_)))
    exact DVR
  (have := Nonempty.intro hn)
  refine pureC (n := 32) (rs := [.tmp 6]) (ts := [4]) Tryz.func42 rfl (by decide) [] (by (exact SD)) ?_
  (repeat' (first|refine swp_seq [0,1,2,6,7,8,9,14,15,16,17,18,30] ?_|refine st2 ?_|refine fctI fun hf=>?_|(show CondG ..;first|refine cBG (fun hc=>?_) (fun hc=>?_)|refine cUG ?_ ?_)))
  refine loop_swp [1, 2, 15, 16, 17] [] 0 (fun q A H => ∃ i : Nat, i <= a.length /\ q = a.length - i /\ a.take i = b.take i /\ A = [(1, intss b), (2, .clo g []), (15, intss a), (16, li a.length), (17, li i)] /\ H = []) (by omega) ?_ ?_ ?_
  · rintro q A H ⟨i, g1, g2, g3, rfl, rfl⟩
    exact ⟨by (exact SD), by (exact SD)⟩
  · refine ⟨_, 0, by omega, rfl, rfl, ?_, ?_⟩
    · exact DVR
    · exact DVR
  rintro q A H ⟨i, g1, g2, g3, rfl, rfl⟩
  by_cases hi : i < a.length
  · have hi3 : (i : Int) < (a.length : Int) := by omega
    have hi4 : i < b.length := by omega
    have hi5 : (i : Int) < (b.length : Int) := by omega
    have cg := fun m => hg _ (getD_mem hi) _ (getD_mem hi4) m
    (have := Nonempty.intro hi)
    (have := Nonempty.intro hi3)
    (have := Nonempty.intro hi4)
    (have := Nonempty.intro hi5)
    clear hg
    by_cases he : a.getD i default = b.getD i default
    · rw [decide_eq_true he] at cg
      (repeat' (first|refine swp_seq [0,1,2,6,7,8,9,14,15,16,17,18,30] ?_|refine st2 ?_|(show CallQ ..;first|refine cQ (fun hcc=>(by first | exact cg _)) ?_|(refine lP ?_;refine lQ (fun hcc m=>(by first | exact cg _)) ?_))|refine fctI fun hf=>?_|(show CondG ..;first|refine cBG (fun hc=>?_) (fun hc=>?_)|refine cUG ?_ ?_)))
      (refine lN [] ?_)
      exact ⟨_, by omega, i + 1, by omega, rfl, take_next g3 (by omega) (by omega) he, rfl, rfl⟩
    · rw [decide_eq_false he] at cg
      rw [decide_eq_false (fun e => he (by rw [e]))]
      clear he
      (repeat' (first|refine swp_seq [0,1,2,6,7,8,9,14,15,16,17,18,30] ?_|refine st2 ?_|(show CallQ ..;first|refine cQ (fun hcc=>(by first | exact cg _)) ?_|(refine lP ?_;refine lQ (fun hcc m=>(by first | exact cg _)) ?_))|refine fctI fun hf=>?_|(show CondG ..;first|refine cBG (fun hc=>?_) (fun hc=>?_)|refine cUG ?_ ?_)))
      exact DVR
  obtain rfl : i = a.length := by omega
  have hi3 : ¬ ((a.length : Int) < (a.length : Int)) := by omega
  have hab : a = b := by
    have h4 := g3
    rw [List.take_length, List.take_of_length_le (by omega)] at h4
    exact h4
  rw [decide_eq_true hab]
  (have := Nonempty.intro hi3)
  clear hg g3 hab
  (repeat' (first|refine swp_seq [0,1,2,6,7,8,9,14,15,16,17,18,30] ?_|refine st2 ?_|refine fctI fun hf=>?_|(show CondG ..;first|refine cBG (fun hc=>?_) (fun hc=>?_)|refine cUG ?_ ?_)))
  exact DVR
set_option maxHeartbeats 4000000 in
theorem rHeld29_f (s : Sta) (m : Nat) (hh : holdOk s) (h300 : s.vol.length <= 300) : DCalls Tryz.prog 39 [staD s] (hget []) m (li (sumI (heldL s) s.vol.length)) (hget []) := by
  have hle := heldL_le hh
  have hsum := sumI_le (l := heldL s) (b := 2251799813685248) (fun i hi => hle i (by rw [heldL_len] at hi; exact hi))
  have hnx := fun i hi => @sumI_next (heldL s) i hi
  have hat := fun i hi => heldL_at s (i := i) hi
  have hlen := heldL_len s
  have hvp := hh.2.2
  have hpl := hh.2.1
  generalize heldL s = HL at *
  refine pureC (n := 26) (rs := [.tmp 2]) (ts := [3]) Tryz.func39 rfl (by decide) [] (by (exact SD)) ?_
  (repeat' (first|refine swp_seq [0,1,2,3,4,9] ?_|refine st2 ?_|refine fctI fun hf=>?_|(show CondG ..;first|refine cBG (fun hc=>?_) (fun hc=>?_)|refine cUG ?_ ?_)))
  refine loop_swp [1, 3, 4] [0] 9 (fun q A H => ∃ i : Nat, i <= s.vol.length /\ q = s.vol.length - i /\ A = [(1, .ptr 0 0), (3, li (sumI HL i)), (4, li i)] /\ H = [(0, .blk 30 (staC s))]) (by omega) ?_ ?_ ?_
  · rintro q A H ⟨i, g1, g2, rfl, rfl⟩
    exact ⟨by (exact SD), by (exact SD)⟩
  · refine ⟨_, 0, by omega, rfl, ?_, ?_⟩
    · exact DVR
    · exact DVR
  rintro q A H ⟨i, g1, g2, rfl, rfl⟩
  by_cases hi : i < s.vol.length
  · have hi3 : (i : Int) < (s.vol.length : Int) := by omega
    have hip : i < s.pon.length := by omega
    have hip3 : (i : Int) < (s.pon.length : Int) := by omega
    have e1 := hnx i (by omega)
    rw [hat i hi] at e1
    have e2 := hsum i (by omega)
    have e3 := hvp i hi
    have e4 : (i : Int) * 2251799813685248 <= 300 * 2251799813685248 := Int.mul_le_mul_of_nonneg_right (by omega) (by decide)
    generalize sumI HL i = T at *
    (have := Nonempty.intro hi)
    (have := Nonempty.intro hi3)
    (have := Nonempty.intro hip)
    (have := Nonempty.intro hip3)
    clear hnx hat hvp hle hsum
    (repeat' (first|refine swp_seq [0,1,2,3,4,9] ?_|refine st2 ?_|refine fctI fun hf=>?_|(show CondG ..;first|refine cBG (fun hc=>?_) (fun hc=>?_)|refine cUG ?_ ?_)))
    (refine lN [0] ?_)
    exact ⟨_, by omega, i + 1, by omega, rfl, by rw [e1, <- Int.add_assoc] <;> rfl, rfl⟩
  obtain rfl : i = s.vol.length := by omega
  have hi3 : ¬ ((s.vol.length : Int) < (s.vol.length : Int)) := by omega
  generalize sumI HL s.vol.length = T at *
  (have := Nonempty.intro hi3)
  clear hnx hat hvp hle hsum
  (repeat' (first|refine swp_seq [0,1,2,3,4,9] ?_|refine st2 ?_|refine fctI fun hf=>?_|(show CondG ..;first|refine cBG (fun hc=>?_) (fun hc=>?_)|refine cUG ?_ ?_)))
  exact DVR
def emptB37 (n : Net) (s : Sta) : Bool := netB n && staB n s && decide (sumI (heldL s) s.vol.length = 0)
theorem sEmpty_f (n : Net) (s : Sta) (m : Nat) (no : netOk n) (so : staOk s) : DCalls Tryz.prog 40 [netD n, staD s] (hget []) m (lb (emptB37 n s)) (hget []) := by
  unfold emptB37
  cases hv : (netB n && staB n s)
  · have ch : ∀ m, DCalls Tryz.prog 105 [netD n, staD s] (hget []) m (.tup [li 0, li 1]) (hget []) := fun m => by
      have := held_f n s m no so
      rw [hv, if_neg (by decide)] at this
      exact this
    refine pureC (n := 19) (rs := [.tmp 4]) (ts := [4]) Tryz.func40 rfl (by decide) [] (by (exact SD)) ?_
    (repeat' (first|refine swp_seq [0,1,2,3,4,5,6] ?_|refine st2 ?_|(show CallQ ..;first|refine cQ (fun hcc=>(by first | exact ch _)) ?_|(refine lP ?_;refine lQ (fun hcc m=>(by first | exact ch _)) ?_))|refine fctI fun hf=>?_|(show CondG ..;first|refine cBG (fun hc=>?_) (fun hc=>?_)|refine cUG ?_ ?_)))
    exact DVR
  · have ch : ∀ m, DCalls Tryz.prog 105 [netD n, staD s] (hget []) m (.tup [li (sumI (heldL s) s.vol.length), li 0]) (hget []) := fun m => by
      have := held_f n s m no so
      rw [hv, if_pos rfl] at this
      exact this
    generalize sumI (heldL s) s.vol.length = T at *
    by_cases hT : T = 0
    · (have := Nonempty.intro hT)
      refine pureC (n := 19) (rs := [.tmp 4]) (ts := [4]) Tryz.func40 rfl (by decide) [] (by (exact SD)) ?_
      (repeat' (first|refine swp_seq [0,1,2,3,4,5,6] ?_|refine st2 ?_|(show CallQ ..;first|refine cQ (fun hcc=>(by first | exact ch _)) ?_|(refine lP ?_;refine lQ (fun hcc m=>(by first | exact ch _)) ?_))|refine fctI fun hf=>?_|(show CondG ..;first|refine cBG (fun hc=>?_) (fun hc=>?_)|refine cUG ?_ ?_)))
      exact DVR
    · (have := Nonempty.intro hT)
      refine pureC (n := 19) (rs := [.tmp 4]) (ts := [4]) Tryz.func40 rfl (by decide) [] (by (exact SD)) ?_
      (repeat' (first|refine swp_seq [0,1,2,3,4,5,6] ?_|refine st2 ?_|(show CallQ ..;first|refine cQ (fun hcc=>(by first | exact ch _)) ?_|(refine lP ?_;refine lQ (fun hcc m=>(by first | exact ch _)) ?_))|refine fctI fun hf=>?_|(show CondG ..;first|refine cBG (fun hc=>?_) (fun hc=>?_)|refine cUG ?_ ?_)))
      exact DVR
set_option maxHeartbeats 4000000 in
theorem rRight37_f (n : Net) (ss : List Sta) (m : Nat) (nb : netB n = true) (hs : ss.length <= 281474976710656 /\ ∀ x, x ∈ ss -> staOk x) : DCalls Tryz.prog 41 [netD n, staL ss] (hget []) m (lb (!(ss.any fun s => !staB n s))) (hget []) := by
  obtain ⟨hs1, hs2⟩ := hs
  refine pureC (n := 19) (rs := [.tmp 4]) (ts := [4]) Tryz.func41 rfl (by decide) [] (by (exact SD)) ?_
  (repeat' (first|refine swp_seq [0,1,2,4,5,9,18] ?_|refine st2 ?_|refine fctI fun hf=>?_|(show CondG ..;first|refine cBG (fun hc=>?_) (fun hc=>?_)|refine cUG ?_ ?_)))
  refine loop_swp [1, 2, 5] [0] 9 (fun q A H => ∃ i : Nat, i <= ss.length /\ q = ss.length - i /\ (∀ j, j < i -> (!staB n (ss.getD j default)) = false) /\ A = [(1, staL ss), (2, .ptr 0 0), (5, li i)] /\ H = [(0, .blk 25 (netC n))]) (by omega) ?_ ?_ ?_
  · rintro q A H ⟨i, g1, g2, g3, rfl, rfl⟩
    exact ⟨by (exact SD), by (exact SD)⟩
  · refine ⟨_, 0, by omega, rfl, by omega, ?_, ?_⟩
    · exact DVR
    · exact DVR
  rintro q A H ⟨i, g1, g2, g3, rfl, rfl⟩
  by_cases hi : i < ss.length
  · have hi3 : (i : Int) < (ss.length : Int) := by omega
    have cv := fun m => rStaValid_f n (ss.getD i default) m nb (hs2 _ (getD_mem hi))
    have hy := any_yes (p := fun s => !staB n s) hi
    have hnx : (!staB n (ss.getD i default)) = false -> ∀ j, j < i + 1 -> (!staB n (ss.getD j default)) = false := fun h j hj => by
      by_cases e : j = i
      · subst e; exact h
      · exact g3 j (by omega)
    clear g3 hs2
    (have := Nonempty.intro hi)
    (have := Nonempty.intro hi3)
    cases hb : staB n (ss.getD i default) <;> simp only [hb] at cv
    · rw [hy (by show (!staB n (ss.getD i default)) = true; rw [hb]; rfl)]
      clear hnx hy
      (repeat' (first|refine swp_seq [0,1,2,4,5,9,18] ?_|refine st2 ?_|(show XCallQ ..;first|refine xQ (fun hcc=>(by first | exact cv _)) ?_|(refine xlP ?_;refine xlQ (fun hcc m=>(by first | exact cv _)) ?_))|refine fctI fun hf=>?_|(show CondG ..;first|refine cBG (fun hc=>?_) (fun hc=>?_)|refine cUG ?_ ?_)))
      exact DVR
    · have hnx := hnx (by rw [hb]; rfl)
      clear hy
      (repeat' (first|refine swp_seq [0,1,2,4,5,9,18] ?_|refine st2 ?_|(show XCallQ ..;first|refine xQ (fun hcc=>(by first | exact cv _)) ?_|(refine xlP ?_;refine xlQ (fun hcc m=>(by first | exact cv _)) ?_))|refine fctI fun hf=>?_|(show CondG ..;first|refine cBG (fun hc=>?_) (fun hc=>?_)|refine cUG ?_ ?_)))
      (refine lN [0] ?_)
      exact ⟨_, by omega, i + 1, by omega, rfl, hnx, rfl, rfl⟩
  obtain rfl : i = ss.length := by omega
  have hi3 : ¬ ((ss.length : Int) < (ss.length : Int)) := by omega
  rw [any_no g3]
  (have := Nonempty.intro hi3)
  clear g3
  (repeat' (first|refine swp_seq [0,1,2,4,5,9,18] ?_|refine st2 ?_|refine fctI fun hf=>?_|(show CondG ..;first|refine cBG (fun hc=>?_) (fun hc=>?_)|refine cUG ?_ ?_)))
  exact DVR
set_option maxRecDepth 20000 in
set_option maxHeartbeats 8000000 in
theorem rLevels37_f (n : Net) (ss : List Sta) (m : Nat) (no : netOk n) (nb : netB n = true) (hs : ss.length <= 10000) (hall : ∀ s, s ∈ ss -> staB n s = true) : DCalls Tryz.prog 43 [netD n, staL ss] (hget []) m (intss (levsL n ss)) (hget []) := by
  have hLl : (levsL n ss).length = ss.length := List.length_map ..
  have hLs : ∀ i, i < ss.length -> (levsL n ss).take (i + 1) = (levsL n ss).take i ++ [levelsL n (ss.getD i default).vol] := fun i hi => by
    rw [List.take_succ_eq_append_getElem (by omega)]
    unfold levsL
    rw [List.getElem_map, List.getD_eq_getElem?_getD, List.getElem?_eq_getElem hi]; rfl
  refine pureC (n := 24) (rs := [.tmp 4]) (ts := [83]) Tryz.func43 rfl (by decide) [32] (by (exact SD)) ?_
  (repeat' (first|refine swp_seq [0,1,2,4,5,6,10] ?_|refine st2 ?_|refine fctI fun hf=>?_|(show CondG ..;first|refine cBG (fun hc=>?_) (fun hc=>?_)|refine cUG ?_ ?_)))
  (refine sN 5 27 1 ?_)
  refine loop_swp [1, 2, 5, 6] [0, 32] 40 (fun q A H => ∃ i : Nat, i <= ss.length /\ q = ss.length - i /\ A = [(1, staL ss), (2, .ptr 0 0), (5, .gl 32), (6, li i)] /\ H = [(0, .blk 25 (netC n)), (32, ilLt ((levsL n ss).take i))]) (by omega) ?_ ?_ ?_
  · rintro q A H ⟨i, g1, g2, rfl, rfl⟩
    exact ⟨by (exact SD), by (exact SD)⟩
  · refine ⟨_, 0, by omega, rfl, ?_, ?_⟩
    · exact DVR
    · exact DVR
  rintro q A H ⟨i, g1, g2, rfl, rfl⟩
  by_cases hi : i < ss.length
  · have hi3 : (i : Int) < (ss.length : Int) := by omega
    obtain ⟨v1, v2⟩ := sta_vol nb (hall _ (getD_mem hi))
    have cl := fun m => rLevels29_f n (ss.getD i default).vol m no nb v1 v2
    have hnx := hLs i hi
    have hti : ((levsL n ss).take i).length = i := by rw [List.length_take]; omega
    generalize (levsL n ss).take i = X at *
    generalize levelsL n (ss.getD i default).vol = LV at *
    (have := Nonempty.intro hi)
    (have := Nonempty.intro hi3)
    clear hall hLs
    (repeat' (first|refine swp_seq [0,1,2,4,5,6,10] ?_|(show SWp _ _ _ (.region _ _ true) _ _ _ _;refine xG mixed [32, 1000007] ?_)|refine st2 ?_|(show XCallQ ..;first|refine xQ (fun hcc=>(by first | exact cl _)) ?_|(refine xlP ?_;refine xlQ (fun hcc m=>(by first | exact cl _)) ?_))|refine fctI fun hf=>?_|(show CondG ..;first|refine cBG (fun hc=>?_) (fun hc=>?_)|refine cUG ?_ ?_)))
    rw [show rows ilRow X ++ [[ints LV]] = rows ilRow (X ++ [LV]) from rows_app ilRow X [LV], <- hnx]
    (refine lR 144 32 [0, 144] ?_)
    exact ⟨_, by omega, i + 1, by omega, rfl, rfl, rfl⟩
  obtain rfl : i = ss.length := by omega
  have hi3 : ¬ ((ss.length : Int) < (ss.length : Int)) := by omega
  rw [show (levsL n ss).take ss.length = levsL n ss by rw [<- hLl, List.take_length]]
  generalize levsL n ss = X at *
  (have := Nonempty.intro hi3)
  clear hall hLs
  (repeat' (first|refine swp_seq [0,1,2,4,5,6,10] ?_|refine st2 ?_|refine fctI fun hf=>?_|(show CondG ..;first|refine cBG (fun hc=>?_) (fun hc=>?_)|refine cUG ?_ ?_)))
  exact DVR
set_option maxRecDepth 20000 in
set_option maxHeartbeats 16000000 in
theorem rPeaks37_f (n : Net) (ss : List Sta) (m : Nat) (no : netOk n) (nb : netB n = true) (hs : ss.length <= 10000) (hall : ∀ s, s ∈ ss -> staB n s = true) (hz : ¬ ss.length = 0) : DCalls Tryz.prog 44 [netD n, staL ss] (hget []) m (ints (peaksL n ss ss.length)) (hget []) := by
  have cl := fun m => rLevels37_f n ss m no nb hs hall
  have hLl : (levsL n ss).length = ss.length := List.length_map ..
  have h300 := (netB_len nb).1
  have hz0 : 0 < (levsL n ss).length := by omega
  have hLat := fun j hj => levsL_at n ss (j := j) hj
  have hlv : ∀ s, (levelsL n s).length = n.nodes.length := fun s => rng_len _ _
  have hp0 : (levsL n ss).getD 0 default = peaksL n ss 0 := by
    rw [hLat 0 (by omega)]
    refine list_ext (by rw [hlv, peaks_len]) fun i hi => ?_
    rw [hlv] at hi
    rw [peaks_at hi]; rfl
  have hrow : ∀ j i, j < ss.length -> i < n.nodes.length -> (peaksL n ss (j + 1)).getD i default = max ((peaksL n ss j).getD i default) (((levsL n ss).getD j default).getD i default) := fun j i hj hi => by
    rw [peaks_at hi, peaks_at hi, hLat j hj]; rfl
  have hpl := fun j => peaks_len (n := n) (ss := ss) (j := j)
  have hLrow : ∀ j, j < ss.length -> ((levsL n ss).getD j default).length = n.nodes.length := fun j hj => by rw [hLat j hj, hlv]
  clear hLat hlv hall
  generalize levsL n ss = L at *
  have hp00 := hpl 0
  (have := Nonempty.intro hz0)
  refine pureC (n := 45) (rs := [.tmp 4]) (ts := [27]) Tryz.func44 rfl (by decide) [48] (by (exact SD)) ?_
  (repeat' (first|refine swp_seq [0,1,2,4,5,6,7,8,20,26] ?_|refine st2 ?_|(show CallQ ..;first|refine cQ (fun hcc=>(by first | exact cl _)) ?_|(refine lP ?_;refine lQ (fun hcc m=>(by first | exact cl _)) ?_))|refine fctI fun hf=>?_|(show CondG ..;first|refine cBG (fun hc=>?_) (fun hc=>?_)|refine cUG ?_ ?_)))
  rw [hp0]
  generalize peaksL n ss = PK at *
  trace_state
  refine loop_swp [5, 6, 7] [48] 96 (fun q A H => ∃ j : Nat, j <= ss.length /\ q = ss.length - j /\ A = [(5, intss L), (6, .gl 48), (7, li j)] /\ H = [(48, inLt (PK j))]) (by omega) ?_ ?_ ?_
  · rintro q A H ⟨j, g1, g2, rfl, rfl⟩
    exact ⟨by (exact SD), by (exact SD)⟩
  · refine ⟨_, 0, by omega, rfl, ?_, ?_⟩
    · exact DVR
    · exact DVR
  rintro q A H ⟨j, g1, g2, rfl, rfl⟩
  by_cases hj : j < ss.length
  · have hj3 : (j : Int) < (L.length : Int) := by omega
    have hjL : j < L.length := by omega
    have hpj := hpl j
    have hpj1 := hpl (j + 1)
    have hr := fun i hi => hrow j i hj hi
    have hLr := hLrow j hj
    clear hrow hLrow
    (have := Nonempty.intro hj3)
    (have := Nonempty.intro hjL)
    (repeat' (first|refine swp_seq [0,1,2,4,5,6,7,8,20,26] ?_|refine st2 ?_|refine fctI fun hf=>?_|(show CondG ..;first|refine cBG (fun hc=>?_) (fun hc=>?_)|refine cUG ?_ ?_)))
    refine loop_swp [5, 6, 7, 8] [48] 96 (fun q A H => ∃ i : Nat, i <= n.nodes.length /\ q = n.nodes.length - i /\ A = [(5, intss L), (6, .gl 48), (7, li j), (8, li i)] /\ H = [(48, inLt ((PK (j + 1)).take i ++ (PK j).drop i))]) (by omega) ?_ ?_ ?_
    · rintro q A H ⟨i, k1, k2, rfl, rfl⟩
      exact ⟨by (exact SD), by (exact SD)⟩
    · refine ⟨_, 0, by omega, rfl, ?_, ?_⟩
      · exact DVR
      · exact DVR
    rintro q A H ⟨i, k1, k2, rfl, rfl⟩
    by_cases hi : i < n.nodes.length
    · have hUl := upd_len (h := PK (j + 1)) (v := PK j) (i := i) (by omega) (by omega)
      have hUg := upd_get (h := PK (j + 1)) (v := PK j) (i := i) (default : Int) (by omega) (by omega)
      have hUs := fun x hx => upd_step (h := PK (j + 1)) (v := PK j) (i := i) (x := x) (by omega) (by omega) hx
      have hri := hr i hi
      rw [<- hUg] at hri
      generalize (PK (j + 1)).take i ++ (PK j).drop i = X at *
      have hiX : i < X.length := by omega
      have hiX3 : (i : Int) < (X.length : Int) := by omega
      have hiV : i < (L.getD j default).length := by omega
      have hiV3 : (i : Int) < ((L.getD j default).length : Int) := by omega
      (have := Nonempty.intro hiX)
      (have := Nonempty.intro hiX3)
      (have := Nonempty.intro hiV)
      (have := Nonempty.intro hiV3)
      clear hr
      (repeat' (first|refine swp_seq [0,1,2,4,5,6,7,8,20,26] ?_|(show SWp _ _ _ (.region _ _ true) _ _ _ _;refine xG mixed [48] ?_)|refine st2 ?_|refine fctI fun hf=>?_|(show CondG ..;first|refine cBG (fun hc=>?_) (fun hc=>?_)|refine cUG ?_ ?_)))
      rw [hUs _ hri.symm]
      (refine lN [48] ?_)
      exact ⟨_, by omega, i + 1, by omega, rfl, rfl, rfl⟩
    obtain rfl : i = n.nodes.length := by omega
    have hUl := upd_len (h := PK (j + 1)) (v := PK j) (i := n.nodes.length) (by omega) (by omega)
    have hend := upd_end (h := PK (j + 1)) (v := PK j) (by omega)
    rw [hpj] at hend
    rw [hend]
    have hi3 : ¬ ((n.nodes.length : Int) < ((PK (j + 1)).length : Int)) := by omega
    (have := Nonempty.intro hi3)
    clear hr
    (repeat' (first|refine swp_seq [0,1,2,4,5,6,7,8,20,26] ?_|refine st2 ?_|refine fctI fun hf=>?_|(show CondG ..;first|refine cBG (fun hc=>?_) (fun hc=>?_)|refine cUG ?_ ?_)))
    (refine lN [48] ?_)
    exact ⟨_, by omega, j + 1, by omega, rfl, rfl, rfl⟩
  obtain rfl : j = ss.length := by omega
  have hj3 : ¬ ((ss.length : Int) < (L.length : Int)) := by omega
  (have := Nonempty.intro hj3)
  clear hrow hLrow
  (repeat' (first|refine swp_seq [0,1,2,4,5,6,7,8,20,26] ?_|refine st2 ?_|refine fctI fun hf=>?_|(show CondG ..;first|refine cBG (fun hc=>?_) (fun hc=>?_)|refine cUG ?_ ?_)))
  exact DVR
set_option maxRecDepth 20000 in
set_option maxHeartbeats 32000000 in
theorem simlevels_f (n : Net) (ss : List Sta) (m : Nat) (no : netOk n) (hs : ss.length <= 281474976710656 /\ ∀ x, x ∈ ss -> staOk x) : DCalls Tryz.prog 9 [netD n, staL ss] (hget []) m (lb true) (hget []) := by
  have cf := fun m => few_f n [] ss m no ⟨by simp, fun x hx => by cases hx⟩ hs
  cases hf : few37 n [] ss <;> simp only [hf] at cf
  · refine pureC (n := 114) (rs := [.tmp 4]) (ts := [4]) Tryz.func9 rfl (by decide) [] (by (exact SD)) ?_
    (repeat' (first|refine swp_seq [0,1,2,4,5,6,7,8,9,11,12,14,23,38,39,40,41,59,68,94,97] ?_|refine st2 ?_|(show CallQ ..;first|refine cQ (fun hcc=>(by first | exact awake37_f _ | exact cf _)) ?_|(refine lP ?_;refine lQ (fun hcc m=>(by first | exact awake37_f _ | exact cf _)) ?_))|refine fctI fun hf=>?_|(show CondG ..;first|refine cBG (fun hc=>?_) (fun hc=>?_)|refine cUG ?_ ?_)))
    exact DVR
  obtain ⟨f1, f2, _, f4⟩ := few37_t hf
  by_cases n20 : (20 : Int) < (ss.length : Int)
  · (have := Nonempty.intro n20)
    refine pureC (n := 114) (rs := [.tmp 4]) (ts := [4]) Tryz.func9 rfl (by decide) [] (by (exact SD)) ?_
    (repeat' (first|refine swp_seq [0,1,2,4,5,6,7,8,9,11,12,14,23,38,39,40,41,59,68,94,97] ?_|refine st2 ?_|(show CallQ ..;first|refine cQ (fun hcc=>(by first | exact awake37_f _ | exact cf _)) ?_|(refine lP ?_;refine lQ (fun hcc m=>(by first | exact awake37_f _ | exact cf _)) ?_))|refine fctI fun hf=>?_|(show CondG ..;first|refine cBG (fun hc=>?_) (fun hc=>?_)|refine cUG ?_ ?_)))
    exact DVR
  have cl := fun m => sLevels_f n ss m no hs
  have cp := fun m => sPeaks_f n ss m no hs
  have cv := fun m => rNetValid_f n m no
  have cE := fun i hi m => sEmpty_f n (ss.getD i default) m no (hs.2 _ (getD_mem hi))
  (have := Nonempty.intro n20)
  cases nb : netB n <;> simp only [nb] at cv
  · rw [show LevsR n ss = ([], 1) from if_pos (.inl nb)] at cl
    rw [show PeaksR n ss = ([], 1) by unfold PeaksR; rw [show LevsR n ss = ([], 1) from if_pos (.inl nb), if_pos (by decide)]] at cp
    refine pureC (n := 114) (rs := [.tmp 4]) (ts := [4]) Tryz.func9 rfl (by decide) [] (by (exact SD)) ?_
    (repeat' (first|refine swp_seq [0,1,2,4,5,6,7,8,9,11,12,14,23,38,39,40,41,59,68,94,97] ?_|refine st2 ?_|(show CallQ ..;first|refine cQ (fun hcc=>(by first | exact awake37_f _ | exact cf _ | exact cl _ | exact cp _ | exact cv _)) ?_|(refine lP ?_;refine lQ (fun hcc m=>(by first | exact awake37_f _ | exact cf _ | exact cl _ | exact cp _ | exact cv _)) ?_))|refine fctI fun hf=>?_|(show CondG ..;first|refine cBG (fun hc=>?_) (fun hc=>?_)|refine cUG ?_ ?_)))
    refine loop_swp [1, 2, 5, 6, 7, 8, 9, 38, 39, 40] [0] 1 (fun q A H => ∃ i : Nat, i <= ss.length /\ q = ss.length - i /\ A = [(1, staL ss), (2, .ptr 0 0), (5, intss []), (6, li 1), (7, ints []), (8, li 1), (9, lb false), (38, staL ss), (39, li ss.length), (40, li i)] /\ H = [(0, .blk 25 (netC n))]) (by omega) ?_ ?_ ?_
    · rintro q A H ⟨i, g1, g2, rfl, rfl⟩
      exact ⟨by (exact SD), by (exact SD)⟩
    · refine ⟨_, 0, by omega, rfl, ?_, ?_⟩
      · exact DVR
      · exact DVR
    rintro q A H ⟨i, g1, g2, rfl, rfl⟩
    by_cases hi : i < ss.length
    · have hi3 : (i : Int) < (ss.length : Int) := by omega
      have ce := cE i hi
      rw [show emptB37 n (ss.getD i default) = false by unfold emptB37; rw [nb]; rfl] at ce
      (have := Nonempty.intro hi)
      (have := Nonempty.intro hi3)
      clear cE
      (repeat' (first|refine swp_seq [0,1,2,4,5,6,7,8,9,11,12,14,23,38,39,40,41,59,68,94,97] ?_|refine st2 ?_|(show CallQ ..;first|refine cQ (fun hcc=>(by first | exact ce _)) ?_|(refine lP ?_;refine lQ (fun hcc m=>(by first | exact ce _)) ?_))|refine fctI fun hf=>?_|(show CondG ..;first|refine cBG (fun hc=>?_) (fun hc=>?_)|refine cUG ?_ ?_)))
      (refine lN [0] ?_)
      exact ⟨_, by omega, i + 1, by omega, rfl, rfl, rfl⟩
    obtain rfl : i = ss.length := by omega
    have hi3 : ¬ ((ss.length : Int) < (ss.length : Int)) := by omega
    (have := Nonempty.intro hi3)
    clear cE
    (repeat' (first|refine swp_seq [0,1,2,4,5,6,7,8,9,11,12,14,23,38,39,40,41,59,68,94,97] ?_|refine st2 ?_|refine fctI fun hf=>?_|(show CondG ..;first|refine cBG (fun hc=>?_) (fun hc=>?_)|refine cUG ?_ ?_)))
    exact DVR
  have hLe : LevsR n ss = if (ss.any fun s => !staB n s) = true then ([], 1) else (levsL n ss, 0) := by
    have e : (ss.any fun s => !(netB n && staB n s)) = ss.any fun s => !staB n s := by simp only [nb, Bool.true_and]
    unfold LevsR
    rw [e]
    cases ss.any fun s => !staB n s
    · rw [if_neg (by rw [nb]; simp), if_neg (by omega), if_neg (by decide)]
    · rw [if_pos (.inr rfl), if_pos rfl]
  have cR := fun m => rRight37_f n ss m nb hs
  have cW : ∀ i (hi : i < ss.length) m, DCalls Tryz.prog 38 [netD n, staD (ss.getD i default)] (hget []) m (lb (staB n (ss.getD i default))) (hget []) := fun i hi m => rStaValid_f n _ m nb (hs.2 _ (getD_mem hi))
  have cH : ∀ i (hi : i < ss.length), staB n (ss.getD i default) = true -> ∀ m, DCalls Tryz.prog 39 [staD (ss.getD i default)] (hget []) m (li (sumI (heldL (ss.getD i default)) (ss.getD i default).vol.length)) (hget []) := fun i hi sb m => by
    obtain ⟨hh, _, l1, _⟩ := sta_hold nb sb
    exact rHeld29_f _ m hh (by have := (netB_len nb).1; omega)
  have hall := fun h => any_all (n := n) (ss := ss) nb (by simp only [nb, Bool.true_and]; exact h)
  cases hv : (ss.any fun s => !staB n s) <;> simp only [hv] at cR
  case true =>
    rw [hv, if_pos rfl] at hLe
    rw [hLe] at cl
    rw [show PeaksR n ss = ([], 1) by unfold PeaksR; rw [hLe, if_pos (by decide)]] at cp
    clear hall
    refine pureC (n := 114) (rs := [.tmp 4]) (ts := [4]) Tryz.func9 rfl (by decide) [] (by (exact SD)) ?_
    (repeat' (first|refine swp_seq [0,1,2,4,5,6,7,8,9,11,12,14,23,38,39,40,41,59,68,94,97] ?_|refine st2 ?_|(show CallQ ..;first|refine cQ (fun hcc=>(by first | exact awake37_f _ | exact cf _ | exact cl _ | exact cp _ | exact cv _)) ?_|(refine lP ?_;refine lQ (fun hcc m=>(by first | exact awake37_f _ | exact cf _ | exact cl _ | exact cp _ | exact cv _)) ?_))|refine fctI fun hf=>?_|(show CondG ..;first|refine cBG (fun hc=>?_) (fun hc=>?_)|refine cUG ?_ ?_)))
    refine loop_swp [1, 2, 5, 6, 7, 8, 9, 38, 39, 40] [0] 1 (fun q A H => ∃ i : Nat, i <= ss.length /\ q = ss.length - i /\ A = [(1, staL ss), (2, .ptr 0 0), (5, intss []), (6, li 1), (7, ints []), (8, li 1), (9, lb true), (38, staL ss), (39, li ss.length), (40, li i)] /\ H = [(0, .blk 25 (netC n))]) (by omega) ?_ ?_ ?_
    · rintro q A H ⟨i, g1, g2, rfl, rfl⟩
      exact ⟨by (exact SD), by (exact SD)⟩
    · refine ⟨_, 0, by omega, rfl, ?_, ?_⟩
      · exact DVR
      · exact DVR
    rintro q A H ⟨i, g1, g2, rfl, rfl⟩
    by_cases hi : i < ss.length
    · have hi3 : (i : Int) < (ss.length : Int) := by omega
      have ce := cE i hi
      have cw := cW i hi
      have ch := cH i hi
      unfold emptB37 at ce
      simp only [nb, Bool.true_and] at ce
      (have := Nonempty.intro hi)
      (have := Nonempty.intro hi3)
      clear cE cW cH
      cases hb : staB n (ss.getD i default) <;> simp only [hb, Bool.false_and, Bool.true_and] at cw ce
      · (repeat' (first|refine swp_seq [0,1,2,4,5,6,7,8,9,11,12,14,23,38,39,40,41,59,68,94,97] ?_|refine st2 ?_|(show CallQ ..;first|refine cQ (fun hcc=>(by first | exact cw _ | exact ce _)) ?_|(refine lP ?_;refine lQ (fun hcc m=>(by first | exact cw _ | exact ce _)) ?_))|refine fctI fun hf=>?_|(show CondG ..;first|refine cBG (fun hc=>?_) (fun hc=>?_)|refine cUG ?_ ?_)))
        (refine lN [0] ?_)
        exact ⟨_, by omega, i + 1, by omega, rfl, rfl, rfl⟩
      · have ch := ch hb
        generalize sumI (heldL (ss.getD i default)) (ss.getD i default).vol.length = S at *
        by_cases hS : S = 0
        · rw [decide_eq_true hS] at ce
          (have := Nonempty.intro hS)
          (repeat' (first|refine swp_seq [0,1,2,4,5,6,7,8,9,11,12,14,23,38,39,40,41,59,68,94,97] ?_|refine st2 ?_|(show CallQ ..;first|refine cQ (fun hcc=>(by first | exact cw _ | exact ce _ | exact ch _)) ?_|(refine lP ?_;refine lQ (fun hcc m=>(by first | exact cw _ | exact ce _ | exact ch _)) ?_))|refine fctI fun hf=>?_|(show CondG ..;first|refine cBG (fun hc=>?_) (fun hc=>?_)|refine cUG ?_ ?_)))
          (refine lN [0] ?_)
          exact ⟨_, by omega, i + 1, by omega, rfl, rfl, rfl⟩
        · rw [decide_eq_false hS] at ce
          (have := Nonempty.intro hS)
          (repeat' (first|refine swp_seq [0,1,2,4,5,6,7,8,9,11,12,14,23,38,39,40,41,59,68,94,97] ?_|refine st2 ?_|(show CallQ ..;first|refine cQ (fun hcc=>(by first | exact cw _ | exact ce _ | exact ch _)) ?_|(refine lP ?_;refine lQ (fun hcc m=>(by first | exact cw _ | exact ce _ | exact ch _)) ?_))|refine fctI fun hf=>?_|(show CondG ..;first|refine cBG (fun hc=>?_) (fun hc=>?_)|refine cUG ?_ ?_)))
          (refine lN [0] ?_)
          exact ⟨_, by omega, i + 1, by omega, rfl, rfl, rfl⟩
    obtain rfl : i = ss.length := by omega
    have hi3 : ¬ ((ss.length : Int) < (ss.length : Int)) := by omega
    (have := Nonempty.intro hi3)
    clear cE cW cH
    (repeat' (first|refine swp_seq [0,1,2,4,5,6,7,8,9,11,12,14,23,38,39,40,41,59,68,94,97] ?_|refine st2 ?_|(show CallQ ..;first|refine cQ (fun hcc=>(by first | exact cR _)) ?_|(refine lP ?_;refine lQ (fun hcc m=>(by first | exact cR _)) ?_))|refine fctI fun hf=>?_|(show CondG ..;first|refine cBG (fun hc=>?_) (fun hc=>?_)|refine cUG ?_ ?_)))
    exact DVR
  case false =>
    rw [hv, if_neg (by decide)] at hLe
    have hall := hall hv
    have hPe : PeaksR n ss = if ss.length = 0 then ([], 14) else (peaksL n ss ss.length, 0) := by
      unfold PeaksR; rw [hLe, if_neg (fun c => c rfl)]
    rw [hLe] at cl
    have cL2 := fun m => rLevels37_f n ss m no nb (by omega) hall
    have hLl : (levsL n ss).length = ss.length := List.length_map ..
    have hLr : ∀ x, x ∈ levsL n ss -> x.length <= 281474976710656 := fun x hx => by
      obtain ⟨s, _, rfl⟩ := List.mem_map.1 hx
      rw [show (levelsL n s.vol).length = n.nodes.length from rng_len _ _]; omega
    have cQ2 := fun m => eqfIl_f 22 (levsL n ss) (levsL n ss) m (by omega) (by omega) (fun x hx y hy m => eqlInt_f x y m (hLr x hx) (hLr y hy))
    rw [decide_eq_true rfl] at cQ2
    by_cases hz : ss.length = 0
    · rw [hPe, if_pos hz] at cp
      have hz3 : (ss.length : Int) = 0 := by omega
      (have := Nonempty.intro hz3)
      clear hall hPe hLe hLr
      generalize levsL n ss = L at *
      refine pureC (n := 114) (rs := [.tmp 4]) (ts := [4]) Tryz.func9 rfl (by decide) [] (by (exact SD)) ?_
      (repeat' (first|refine swp_seq [0,1,2,4,5,6,7,8,9,11,12,14,23,38,39,40,41,59,68,94,97] ?_|refine st2 ?_|(show CallQ ..;first|refine cQ (fun hcc=>(by first | exact awake37_f _ | exact cf _ | exact cl _ | exact cp _ | exact cv _)) ?_|(refine lP ?_;refine lQ (fun hcc m=>(by first | exact awake37_f _ | exact cf _ | exact cl _ | exact cp _ | exact cv _)) ?_))|refine fctI fun hf=>?_|(show CondG ..;first|refine cBG (fun hc=>?_) (fun hc=>?_)|refine cUG ?_ ?_)))
      refine loop_swp [1, 2, 5, 6, 7, 8, 9, 38, 39, 40] [0] 1 (fun q A H => ∃ i : Nat, i <= ss.length /\ q = ss.length - i /\ A = [(1, staL ss), (2, .ptr 0 0), (5, intss L), (6, li 0), (7, ints []), (8, li 14), (9, lb true), (38, staL ss), (39, li ss.length), (40, li i)] /\ H = [(0, .blk 25 (netC n))]) (by omega) ?_ ?_ ?_
      · rintro q A H ⟨i, g1, g2, rfl, rfl⟩
        exact ⟨by (exact SD), by (exact SD)⟩
      · refine ⟨_, 0, by omega, rfl, ?_, ?_⟩
        · exact DVR
        · exact DVR
      rintro q A H ⟨i, g1, g2, rfl, rfl⟩
      obtain rfl : i = ss.length := by omega
      have hi3 : ¬ ((ss.length : Int) < (ss.length : Int)) := by omega
      (have := Nonempty.intro hi3)
      clear cE cW cH
      (repeat' (first|refine swp_seq [0,1,2,4,5,6,7,8,9,11,12,14,23,38,39,40,41,59,68,94,97] ?_|refine st2 ?_|(show CallQ ..;first|refine cQ (fun hcc=>(by first | exact cR _ | exact cL2 _ | exact cQ2 _)) ?_|(refine lP ?_;refine lQ (fun hcc m=>(by first | exact cR _ | exact cL2 _ | exact cQ2 _)) ?_))|refine fctI fun hf=>?_|(show CondG ..;first|refine cBG (fun hc=>?_) (fun hc=>?_)|refine cUG ?_ ?_)))
      exact DVR
    · rw [hPe, if_neg hz] at cp
      have hz3 : ¬ (ss.length : Int) = 0 := by omega
      have cP2 := fun m => rPeaks37_f n ss m no nb (by omega) hall hz
      have hpl : (peaksL n ss ss.length).length = n.nodes.length := peaks_len
      have cS2 := fun m => eqlInt_f (peaksL n ss ss.length) (peaksL n ss ss.length) m (by omega) (by omega)
      rw [decide_eq_true rfl] at cS2
      (have := Nonempty.intro hz3)
      clear hall hPe hLe hLr
      generalize levsL n ss = L at *
      generalize peaksL n ss ss.length = P at *
      refine pureC (n := 114) (rs := [.tmp 4]) (ts := [4]) Tryz.func9 rfl (by decide) [] (by (exact SD)) ?_
      (repeat' (first|refine swp_seq [0,1,2,4,5,6,7,8,9,11,12,14,23,38,39,40,41,59,68,94,97] ?_|refine st2 ?_|(show CallQ ..;first|refine cQ (fun hcc=>(by first | exact awake37_f _ | exact cf _ | exact cl _ | exact cp _ | exact cv _)) ?_|(refine lP ?_;refine lQ (fun hcc m=>(by first | exact awake37_f _ | exact cf _ | exact cl _ | exact cp _ | exact cv _)) ?_))|refine fctI fun hf=>?_|(show CondG ..;first|refine cBG (fun hc=>?_) (fun hc=>?_)|refine cUG ?_ ?_)))
      refine loop_swp [1, 2, 5, 6, 7, 8, 9, 38, 39, 40] [0] 1 (fun q A H => ∃ i : Nat, i <= ss.length /\ q = ss.length - i /\ A = [(1, staL ss), (2, .ptr 0 0), (5, intss L), (6, li 0), (7, ints P), (8, li 0), (9, lb true), (38, staL ss), (39, li ss.length), (40, li i)] /\ H = [(0, .blk 25 (netC n))]) (by omega) ?_ ?_ ?_
      · rintro q A H ⟨i, g1, g2, rfl, rfl⟩
        exact ⟨by (exact SD), by (exact SD)⟩
      · refine ⟨_, 0, by omega, rfl, ?_, ?_⟩
        · exact DVR
        · exact DVR
      rintro q A H ⟨i, g1, g2, rfl, rfl⟩
      by_cases hi : i < ss.length
      · have hi3 : (i : Int) < (ss.length : Int) := by omega
        have ce := cE i hi
        have cw := cW i hi
        have ch := cH i hi
        unfold emptB37 at ce
        simp only [nb, Bool.true_and] at ce
        (have := Nonempty.intro hi)
        (have := Nonempty.intro hi3)
        clear cE cW cH
        cases hb : staB n (ss.getD i default) <;> simp only [hb, Bool.false_and, Bool.true_and] at cw ce
        · (repeat' (first|refine swp_seq [0,1,2,4,5,6,7,8,9,11,12,14,23,38,39,40,41,59,68,94,97] ?_|refine st2 ?_|(show CallQ ..;first|refine cQ (fun hcc=>(by first | exact cw _ | exact ce _)) ?_|(refine lP ?_;refine lQ (fun hcc m=>(by first | exact cw _ | exact ce _)) ?_))|refine fctI fun hf=>?_|(show CondG ..;first|refine cBG (fun hc=>?_) (fun hc=>?_)|refine cUG ?_ ?_)))
          (refine lN [0] ?_)
          exact ⟨_, by omega, i + 1, by omega, rfl, rfl, rfl⟩
        · have ch := ch hb
          generalize sumI (heldL (ss.getD i default)) (ss.getD i default).vol.length = S at *
          by_cases hS : S = 0
          · rw [decide_eq_true hS] at ce
            (have := Nonempty.intro hS)
            (repeat' (first|refine swp_seq [0,1,2,4,5,6,7,8,9,11,12,14,23,38,39,40,41,59,68,94,97] ?_|refine st2 ?_|(show CallQ ..;first|refine cQ (fun hcc=>(by first | exact cw _ | exact ce _ | exact ch _)) ?_|(refine lP ?_;refine lQ (fun hcc m=>(by first | exact cw _ | exact ce _ | exact ch _)) ?_))|refine fctI fun hf=>?_|(show CondG ..;first|refine cBG (fun hc=>?_) (fun hc=>?_)|refine cUG ?_ ?_)))
            (refine lN [0] ?_)
            exact ⟨_, by omega, i + 1, by omega, rfl, rfl, rfl⟩
          · rw [decide_eq_false hS] at ce
            (have := Nonempty.intro hS)
            (repeat' (first|refine swp_seq [0,1,2,4,5,6,7,8,9,11,12,14,23,38,39,40,41,59,68,94,97] ?_|refine st2 ?_|(show CallQ ..;first|refine cQ (fun hcc=>(by first | exact cw _ | exact ce _ | exact ch _)) ?_|(refine lP ?_;refine lQ (fun hcc m=>(by first | exact cw _ | exact ce _ | exact ch _)) ?_))|refine fctI fun hf=>?_|(show CondG ..;first|refine cBG (fun hc=>?_) (fun hc=>?_)|refine cUG ?_ ?_)))
            (refine lN [0] ?_)
            exact ⟨_, by omega, i + 1, by omega, rfl, rfl, rfl⟩
      obtain rfl : i = ss.length := by omega
      have hi3 : ¬ ((ss.length : Int) < (ss.length : Int)) := by omega
      (have := Nonempty.intro hi3)
      clear cE cW cH
      (repeat' (first|refine swp_seq [0,1,2,4,5,6,7,8,9,11,12,14,23,38,39,40,41,59,68,94,97] ?_|refine st2 ?_|(show CallQ ..;first|refine cQ (fun hcc=>(by first | exact cR _ | exact cL2 _ | exact cQ2 _ | exact cP2 _ | exact cS2 _)) ?_|(refine lP ?_;refine lQ (fun hcc m=>(by first | exact cR _ | exact cL2 _ | exact cQ2 _ | exact cP2 _ | exact cS2 _)) ?_))|refine fctI fun hf=>?_|(show CondG ..;first|refine cBG (fun hc=>?_) (fun hc=>?_)|refine cUG ?_ ?_)))
      exact DVR

end Go.Proofs.YthacnhidipeckaaGreat
