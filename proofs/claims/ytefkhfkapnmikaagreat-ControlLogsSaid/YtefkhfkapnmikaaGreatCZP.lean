/-
  Contracts of functions of the program, over the engine.
  No condition.
-/
import Derived.Test.YtefkhfkapnmikaaGreatCX0
import Derived.Test.YtefkhfkapnmikaaGreatCL9L10L11L12L16L20RL25L27
import Derived.Test.YtefkhfkapnmikaaGreatCW4W5W6R1R2R3R4
import Derived.Test.YtefkhfkapnmikaaGreatCT12T13T14T2IT16T15T18T20Y0Y5Y1
namespace Go.Proofs.YtefkhfkapnmikaaGreat
open Go.Eng
set_option linter.all false
attribute [local irreducible] DCallsG SWp Fct CallQ XCallQ LCallQ XLCallQ drun xrun
set_option maxHeartbeats 64000000

theorem most_cnt {t : List Knot} {y : Int} (h : tabB t = true) (h0 : (t.getD 0 default).y <= y) : ∃ I : Nat, 1 <= I /\ I <= t.length /\ (∀ j, j < I -> (t.getD j default).y <= y) /\ (∀ j, I <= j -> j < t.length -> y < (t.getD j default).y) /\
    ((I = t.length /\ mostIx t y = -1) ∨ (I < t.length /\ mostIx t y = (I : Int))) := by
  have hl := (tab_in h).1;have hm := tab_mono2 h;rcases idxI_spec (fun a : Knot => decide (y < a.y)) t with ⟨e, hn⟩ | ⟨k, e, hk, hp, hn⟩
  · refine ⟨t.length, hl, Nat.le_refl _, fun j hj => ?_, fun j h1 h2 => by omega, .inl ⟨rfl, e⟩⟩;have := of_decide_eq_false (hn j hj);omega
  · have hp := of_decide_eq_true hp;have hk0 : k ≠ 0 := fun z => by subst z; omega
    refine ⟨k, by omega, by omega, fun j hj => ?_, fun j h1 h2 => ?_, .inr ⟨hk, e⟩⟩
    · have := of_decide_eq_false (hn j hj);omega
    · have := (hm j k h1 h2).2;omega
set_option maxRecDepth 20000 in
theorem rMost_f (t : List Knot) (y : Int) (m : Nat) (h : tabB t = true) (h0 : (t.getD 0 default).y <= y) (hy : 0 <= y /\ y <= 1125899906842624) : Pu 130 [knotL t, li y] m (.tup [li (mostT t y), lb true]) := by
  have hin := tab_in h;obtain ⟨I, i1, i2, i3, i4, i5⟩ := most_cnt h h0;have hmT : mostT t y = if mostIx t y = -1 then (t.getD (t.length - 1) default).x
    else (t.getD ((mostIx t y).toNat - 1) default).x + (y - (t.getD ((mostIx t y).toNat - 1) default).y) * ((t.getD (mostIx t y).toNat default).x - (t.getD ((mostIx t y).toNat - 1) default).x) / ((t.getD (mostIx t y).toNat default).y - (t.getD ((mostIx t y).toNat - 1) default).y) := rfl
  have f0 : ¬ y < (t.getD 0 default).y := by omega
  have f1 : 0 < t.length := by omega
  (have:=NeI f0);(have:=NeI f1);generalize mostT t y = MT at *
  refine pcN 78 [.tmp 4,.tmp 5] [3,4] Tryz.func130 rfl [] ?_;(repeat' first|refine stW [0,1,4,5,6,7,8,14,18,27,33] ?_|refine fctI fun hf=>?_|refine twI (fun hc=>?_) fun hc=>?_);refine loop_swp [0, 1, 6, 7] [] 0 (fun q A H => ∃ i : Nat, i <= t.length /\ q = t.length - i /\ A = [(0, knotL t), (1, li y), (6, li ((min i I - 1 : Nat) : Int)), (7, li i)] /\ H = []) (by omega) ?_ ?_ ?_
  · rintro q A H ⟨i, g1, g2, rfl, rfl⟩;exact SDD
  · refine ⟨_, 0, by omega, rfl, ?_, ?_⟩
    · rw [show min 0 I - 1 = 0 by omega];exact DVR
    · exact DVR
  rintro q A H ⟨i, g1, g2, rfl, rfl⟩;by_cases hi : i < t.length
  · have hi3 : (i : Int) < (t.length : Int) := by omega
    (have:=NeI hi);(have:=NeI hi3);by_cases hI : i < I
    · have hle := i3 i hI;have e1 : min (i + 1) I - 1 = i := by omega
      (have:=NeI hle);clear i3 i4 hmT;(repeat' first|refine stW [0,1,4,5,6,7,8,14,18,27,33] ?_|refine fctI fun hf=>?_|refine twI (fun hc=>?_) fun hc=>?_);(refine lN [] ?_);exact ⟨_, by omega, i + 1, by omega, rfl, by rw [e1] <;> rfl, rfl⟩
    · have hle : ¬ (t.getD i default).y <= y := by have := i4 i (by omega) hi; omega
      have e1 : min (i + 1) I - 1 = min i I - 1 := by omega
      (have:=NeI hle);clear i3 i4 hmT;(repeat' first|refine stW [0,1,4,5,6,7,8,14,18,27,33] ?_|refine fctI fun hf=>?_|refine twI (fun hc=>?_) fun hc=>?_);(refine lN [] ?_);exact ⟨_, by omega, i + 1, by omega, rfl, by rw [e1] <;> rfl, rfl⟩
  obtain rfl : i = t.length := by omega
  have hi3 : ¬ ((t.length : Int) < (t.length : Int)) := by omega
  (have:=NeI hi3);rw [show min t.length I - 1 = I - 1 by omega];obtain ⟨K, rfl⟩ : ∃ K, I = K + 1 := ⟨I - 1, by omega⟩;rw [Nat.add_sub_cancel];have hKl : K < t.length := by omega
  (have:=NeI hKl);rcases i5 with ⟨e, hx⟩ | ⟨e, hx⟩
  · rw [if_pos hx, <- e, Nat.add_sub_cancel] at hmT;rw [hmT];have hk3 : (K : Int) = (t.length : Int) - 1 := by omega
    (have:=NeI hk3);clear i3 i4;(repeat' first|refine stW [0,1,4,5,6,7,8,14,18,27,33] ?_|refine fctI fun hf=>?_|refine twI (fun hc=>?_) fun hc=>?_);exact DVR
  · rw [if_neg (by omega), hx, Int.toNat_natCast, Nat.add_sub_cancel] at hmT;have hk3 : ¬ (K : Int) = (t.length : Int) - 1 := by omega
    have b1 := hin.2.2.1 K hKl;have b2 := hin.2.2.1 (K + 1) e;have a1 := hin.2.2.2 K e;have a2 := i3 K (by omega);have a3 := i4 (K + 1) (Nat.le_refl _) e;obtain ⟨N, hN⟩ : ∃ N : Nat, y - (t.getD K default).y = (N : Int) := ⟨(y - (t.getD K default).y).toNat, by omega⟩;obtain ⟨X, hX⟩ : ∃ X : Nat, (t.getD (K + 1) default).x - (t.getD K default).x = (X : Int) := ⟨((t.getD (K + 1) default).x - (t.getD K default).x).toNat, by omega⟩;obtain ⟨D, hD⟩ : ∃ D : Nat, (t.getD (K + 1) default).y - (t.getD K default).y = (D : Int) := ⟨((t.getD (K + 1) default).y - (t.getD K default).y).toNat, by omega⟩;have hQ : N * X / D <= X := by
      have := Nat.div_le_div_right (c := D) (Nat.mul_le_mul_right X (show N <= D by omega));rw [Nat.mul_div_cancel_left _ (show 0 < D by omega)] at this;exact this
    have kF := fun m => floorOf_f N X D (N * X / D) (N * X % D) m (by omega) (by omega) (by omega) (Nat.div_add_mod (N * X) D).symm (Nat.mod_lt _ (by omega)) (by omega)
    rw [hN, hX, hD, <- Int.natCast_mul, <- Int.natCast_ediv] at hmT;rw [hmT];rw [<- hN, <- hX, <- hD] at kF;generalize N * X / D = Q at *
    clear hmT i3 i4 hD;have e3 : K + 1 < t.length := e;(have:=NeI e3);(have:=NeI hk3);(repeat' first|refine stW [0,1,4,5,6,7,8,14,18,27,33] ?_|refine fctI fun hf=>?_|refine twI (fun hc=>?_) fun hc=>?_);exact DVR
theorem rLevel29_f (x : Node) (v : Int) (m : Nat) (h : nodeR x = true) (hv : 0 <= v /\ v <= 1125899906842624) : Pu 70 [nodeD x, li v] m (li (levelI x v)) := by
  have hl := levelI_in h hv.1;have a1 := lev_in (node_lev h).1;have a2 := lev_in (node_lev h).2.1;unfold levelI at hl ⊢;by_cases k : x.kind = 3
  · rw [if_pos k];(have:=NeI k);refine pcN 23 [.tmp 4] [3] Tryz.func70 rfl [] ?_;(repeat' first|refine stW [0,1,2,4,5,9] ?_|refine fctI fun hf=>?_|refine twI (fun hc=>?_) fun hc=>?_);exact DVR
  · rw [if_neg k] at hl ⊢;(have:=NeI k);have ht := nodeR_tab h k;have ct := fun m => rMost_f x.shape v m ht.1 (by omega) hv
    generalize mostT x.shape v = q at *
    refine pcN 23 [.tmp 4] [3] Tryz.func70 rfl [] ?_;(repeat' first|refine stW [0,1,2,4,5,9] ?_|refine fctI fun hf=>?_|refine twI (fun hc=>?_) fun hc=>?_);exact DVR
set_option maxRecDepth 20000 in
theorem rLevels29_f (n : Net) (vol : List Int) (m : Nat) (no : netOk n) (nb : netB n = true) (hl : vol.length = n.nodes.length) (hv : ∀ i, i < n.nodes.length -> 0 <= vol.getD i default /\ vol.getD i default <= 1125899906842624) : Pu 14 [netD n, ints vol] m (ints (levelsL n vol)) := by
  have hLl : (levelsL n vol).length = n.nodes.length := rng_len _ _;have hLs : ∀ i, i < n.nodes.length -> (levelsL n vol).take (i + 1) = (levelsL n vol).take i ++ [levelI (n.nodes.getD i default) (vol.getD i default)] := fun i hi => by
    rw [List.take_succ_eq_append_getElem (by omega)];unfold levelsL;rw [List.getElem_map, List.getElem_range]
  have hnl := no.1.1;have h300 := (netB_len nb).1;refine pcN 28 [.tmp 4] [28] Tryz.func14 rfl [32] ?_;(repeat' first|refine stW [0,1,2,4,5,6,11] ?_|refine fctI fun hf=>?_|refine twI (fun hc=>?_) fun hc=>?_);(refine sN 5 3 1 ?_);refine loop_swp [1, 2, 5, 6] [0, 32] 40 (fun q A H => ∃ i : Nat, i <= n.nodes.length /\ q = n.nodes.length - i /\ A = [(1, ints vol), (2, .ptr 0 0), (5, .gl 32), (6, li i)] /\ H = [(0, .blk 25 (netC n)), (32, inLt ((levelsL n vol).take i))]) (by omega) ?_ ?_ ?_
  · rintro q A H ⟨i, g1, g2, rfl, rfl⟩;exact SDD
  · refine ⟨_, 0, by omega, rfl, ?_, ?_⟩
    · exact DVR
    · exact DVR
  rintro q A H ⟨i, g1, g2, rfl, rfl⟩;by_cases hi : i < n.nodes.length
  · have hi3 : (i : Int) < (n.nodes.length : Int) := by omega
    have hiv : i < vol.length := by omega
    have hiv3 : (i : Int) < (vol.length : Int) := by omega
    have cl := fun m => rLevel29_f (n.nodes.getD i default) (vol.getD i default) m (netB_node nb hi) (hv i hi)
    have hnx := hLs i hi;have hti : ((levelsL n vol).take i).length = i := by rw [List.length_take]; omega
    generalize (levelsL n vol).take i = X at *
    generalize levelI (n.nodes.getD i default) (vol.getD i default) = LV at *
    (have:=NeI hi);(have:=NeI hi3);(have:=NeI hiv);(have:=NeI hiv3);clear hLs hv;(repeat' first|(show SWp _ _ _ (.region _ _ true) _ _ _ _;refine xG mixed [32, 1000010] ?_)|refine stW [0,1,2,4,5,6,11] ?_|refine fctI fun hf=>?_|refine twI (fun hc=>?_) fun hc=>?_);rw [<- hnx];(refine lR 176 32 [0, 176] ?_);exact ⟨_, by omega, i + 1, by omega, rfl, rfl, rfl⟩
  obtain rfl : i = n.nodes.length := by omega
  have hi3 : ¬ ((n.nodes.length : Int) < (n.nodes.length : Int)) := by omega
  rw [show (levelsL n vol).take n.nodes.length = levelsL n vol by rw [<- hLl, List.take_length]];generalize levelsL n vol = X at *
  (have:=NeI hi3);clear hLs hv;(repeat' first|refine stW [0,1,2,4,5,6,11] ?_|refine fctI fun hf=>?_|refine twI (fun hc=>?_) fun hc=>?_);exact DVR
theorem rnamed35_f (n : Net) (l : List Sect) (m : Nat) (no : netOk n) (co : catOk l) : Pu 174 [netD n, sectL l] m (lb (!(n.links.any fun x => !knownB l x))) := by
  have hll := no.2.1;refine pcN 31 [.tmp 4] [4] Tryz.func174 rfl [] ?_;(repeat' first|refine stW [0,1,2,4,5,10,30] ?_|refine fctI fun hf=>?_|refine twI (fun hc=>?_) fun hc=>?_);refine loop_swp [1, 2, 5] [0] 1 (fun q A H => ∃ i : Nat, i <= n.links.length /\ q = n.links.length - i /\ (∀ j, j < i -> (!knownB l (n.links.getD j default)) = false) /\ A = [(1, sectL l), (2, .ptr 0 0), (5, li i)] /\ H = [(0, .blk 25 (netC n))]) (by omega) ?_ ?_ ?_
  · rintro q A H ⟨i, g1, g2, g3, rfl, rfl⟩;exact SDD
  · refine ⟨_, 0, by omega, rfl, by omega, ?_, ?_⟩
    · exact DVR
    · exact DVR
  rintro q A H ⟨i, g1, g2, g3, rfl, rfl⟩;by_cases hi : i < n.links.length
  · have hi3 : (i : Int) < (n.links.length : Int) := by omega
    have ek : knownB l (n.links.getD i default) = (!decide ((n.links.getD i default).kind = 1) || decide (0 <= secIx l (n.links.getD i default).sect)) := rfl;have cf := fun m => rFind_f l (n.links.getD i default).sect m co.1
    have hy := any_yes (p := fun x => !knownB l x) hi;have hnx : (!knownB l (n.links.getD i default)) = false -> ∀ j, j < i + 1 -> (!knownB l (n.links.getD j default)) = false := fun h j hj => by
      by_cases e : j = i
      · subst e; exact h
      · exact g3 j (by omega)
    clear g3;generalize secIx l (n.links.getD i default).sect = z at *
    (have:=NeI hi);(have:=NeI hi3);by_cases hk : (n.links.getD i default).kind = 1
    · (have:=NeI hk);rw [decide_eq_true hk] at ek;by_cases hz : z < 0
      · (have:=NeI hz);rw [hy (by show (!knownB l (n.links.getD i default)) = true; rw [ek, decide_eq_false (by omega)]; rfl)];clear hnx ek;(repeat' first|refine stW [0,1,2,4,5,10,30] ?_|refine fctI fun hf=>?_|refine twI (fun hc=>?_) fun hc=>?_);exact DVR
      · (have:=NeI hz);have hnx := hnx (by rw [ek, decide_eq_true (by omega)]; rfl);clear hy ek;(repeat' first|refine stW [0,1,2,4,5,10,30] ?_|refine fctI fun hf=>?_|refine twI (fun hc=>?_) fun hc=>?_);(refine lN [0] ?_);exact ⟨_, by omega, i + 1, by omega, rfl, hnx, rfl, rfl⟩
    · (have:=NeI hk);have hnx := hnx (by rw [ek, decide_eq_false hk]; rfl);clear hy ek;(repeat' first|refine stW [0,1,2,4,5,10,30] ?_|refine fctI fun hf=>?_|refine twI (fun hc=>?_) fun hc=>?_);(refine lN [0] ?_);exact ⟨_, by omega, i + 1, by omega, rfl, hnx, rfl, rfl⟩
  obtain rfl : i = n.links.length := by omega
  have hi3 : ¬ ((n.links.length : Int) < (n.links.length : Int)) := by omega
  rw [any_no g3];(have:=NeI hi3);clear g3;(repeat' first|refine stW [0,1,2,4,5,10,30] ?_|refine fctI fun hf=>?_|refine twI (fun hc=>?_) fun hc=>?_);exact DVR

end Go.Proofs.YtefkhfkapnmikaaGreat
