/-
  Contracts of functions of the program, over the engine.
  No condition.
-/
import Derived.Test.YtefkhfkapnmikaaGreatCX5
import Derived.Test.YtefkhfkapnmikaaGreatCX6
import Derived.Test.YtefkhfkapnmikaaGreatCX3
import Derived.Test.YtefkhfkapnmikaaGreatCX0
import Derived.Test.YtefkhfkapnmikaaGreatCZS
import Derived.Test.YtefkhfkapnmikaaGreatCZP
import Derived.Test.YtefkhfkapnmikaaGreatCX4
namespace Go.Proofs.YtefkhfkapnmikaaGreat
open Go.Eng
set_option linter.all false
attribute [local irreducible] DCallsG SWp Fct CallQ XCallQ LCallQ XLCallQ drun xrun
set_option maxHeartbeats 64000000
set_option maxRecDepth 20000

theorem rCStep_f (n : Net) (s : List Sect) (l : List Rule) (x : Sta) (inf : List Int) (sec : Int) (m : Nat) (no : netOk n) (co : catOk s) (lo : rulOk l) (so : staOk x) (hil : inf.length <= 281474976710656) :
    Pu 77 [netD n, sectL s, ruleL l, staD x, ints inf, li sec] m (.tup [staD (stepC n s l x inf sec).1, ledgD (stepC n s l x inf sec).2.1, li (stepC n s l x inf sec).2.2]) := by
  have k1 := fun m => r44V_f n s l x m no co lo so
  cases hv : (netB n && staB n x && catB s && rulesB l) <;> simp only [hv] at k1
  · rw [show stepC n s l x inf sec = (zeroS, zeroL, 1) from if_pos hv];refine pcN 58 [.cell 12 31,.cell 13 38,.tmp 14] [31,38,3] Tryz.func77 rfl [] ?_;(repeat' first|(show SWp _ _ _ (.region _ _ true) _ _ _ _;refine xG mixed [16, 24] ?_)|refine stW [0,1,2,3,4,5,6,9,12,13,14,15,16,17,23,39] ?_|refine fctI fun hf=>?_|refine twI (fun hc=>?_) fun hc=>?_);exact DVR
  rw [stepC_eq hv];obtain ⟨nb, sb, cb, rb⟩ := hv_of hv;have hsv := sta_vol nb sb;obtain ⟨l1, l2, l3, l4⟩ := lensB_of (staB_in nb sb).1;have hnn := netB_len nb;have hok := lenOk_of nb sb;have k4 := fun m => rLevels29_f n x.vol m no nb hsv.1 hsv.2
  have k5 := fun m => rSett_f l n (levelsL n x.vol) x.set m lo no nb (levelsL_len n x.vol) l3 (sta_rang nb sb)
  have hs' := fun h => setR_sta (l := l) nb sb rb h
  have k7 := fun m => rcopyD_f x m hok
  have hSl := fun h => (setK_len l3 (setR_ok (n := n) (l := l) (lv := levelsL n x.vol) (before := x.set) h).2.2.2.2.choose_spec).1
  generalize levelsL n x.vol = LV at *
  generalize setR n l LV x.set = R at *
  obtain ⟨S, e⟩ := R;by_cases h0 : e = 0
  case neg =>
    rw [if_pos h0];(have:=NeI h0);clear hs' hSl;refine pcN 58 [.cell 12 31,.cell 13 38,.tmp 14] [31,38,3] Tryz.func77 rfl [] ?_;(repeat' first|(show SWp _ _ _ (.region _ _ true) _ _ _ _;refine xG mixed [16, 24] ?_)|refine stW [0,1,2,3,4,5,6,9,12,13,14,15,16,17,23,39] ?_|refine fctI fun hf=>?_|refine twI (fun hc=>?_) fun hc=>?_);exact DVR
  rw [if_neg (fun c => c h0)];have sb2 := hs' h0;have hSn : S.length = n.links.length := hSl h0;have k6 := fun m => rStep35_f n s ⟨x.vol, x.pon, S, x.on⟩ inf sec m no co (staOk_of nb sb2) hil
  subst h0;clear hs' hSl;generalize stepR n s ⟨x.vol, x.pon, S, x.on⟩ inf sec = R at *
  obtain ⟨r1, r2, r3⟩ := R;refine pcN 58 [.cell 12 31,.cell 13 38,.tmp 14] [31,38,3] Tryz.func77 rfl [] ?_;(repeat' first|(show SWp _ _ _ (.seq (.region 8 _ _) _) _ _ _ _;refine (stop_in ?_))|(show SWp _ _ _ (.region _ _ true) _ _ _ _;refine xG mixed [16, 24] ?_)|refine stW [0,1,2,3,4,5,6,9,12,13,14,15,16,17,23,39] ?_|refine fctI fun hf=>?_|refine twI (fun hc=>?_) fun hc=>?_);refine stop_out ?_;(refine sF 248 ?_);rw [show DV.frzL 248 (FV.elems 1 (List.map inRow S)) (List.take 2 (staC x) ++ [DV.gl 248] ++ List.drop 3 (staC x)) = staC ⟨x.vol, x.pon, S, x.on⟩ from rfl];(repeat' first|(show SWp _ _ _ (.region _ _ true) _ _ _ _;refine xG mixed [16, 24] ?_)|refine stW [0,1,2,3,4,5,6,9,12,13,14,15,16,17,23,39] ?_|refine fctI fun hf=>?_|refine twI (fun hc=>?_) fun hc=>?_);exact DVR
theorem rInfl44_f (n : Net) (infl : List Infl) (k : Nat) (m : Nat) (no : netOk n) (nb : netB n = true) (hi : inflsOk infl) (hk : k <= 10000) (h9 : ∀ x, x ∈ infl -> 0 <= nodeIx n.nodes x.nod) : Pu 78 [netD n, inflL infl, li k] m (ints (inK n infl k infl.length)) := by
  obtain ⟨hi1, hi2⟩ := hi;have hnn := netB_len nb;refine pcN 45 [.tmp 6] [28] Tryz.func78 rfl [40] ?_;(repeat' first|refine stW [0,1,2,3,6,7,8,16,26] ?_|refine fctI fun hf=>?_|refine twI (fun hc=>?_) fun hc=>?_);refine loop_swp [1, 2, 3, 7, 8] [0, 40] 64 (fun q A H => ∃ i : Nat, i <= infl.length /\ q = infl.length - i /\ A = [(1, inflL infl), (2, li k), (3, .ptr 0 0), (7, .gl 40), (8, li i)] /\ H = [(0, .blk 25 (netC n)), (40, inLt (inK n infl k i))]) (by omega) ?_ ?_ ?_
  · rintro q A H ⟨i, g1, g2, rfl, rfl⟩;exact SDD
  · refine ⟨_, 0, by omega, rfl, ?_, ?_⟩
    · exact DVR
    · rw [show inLt (inK n infl k 0) = .lst 3 1 (List.replicate n.nodes.length [DV.p (.lit (.int .i64 0))]) from by show HV.lst 3 1 (rows inRow (List.replicate n.nodes.length 0)) = _; unfold rows; rw [List.map_replicate]; rfl];exact DVR
  rintro q A H ⟨i, g1, g2, rfl, rfl⟩;by_cases hi : i < infl.length
  · have hi3 : (i : Int) < (infl.length : Int) := by omega
    have hol := (hi2 _ (getD_mem hi)).2.1;have h0 := h9 _ (getD_mem hi);have c1 := fun m => rFindNode_f n (infl.getD i default).nod m no.1.1
    have hat := @inK_at n infl k i;have hsk := @inK_skip n infl k i;have hXl := inK_len (n := n) (infl := infl) k i;have hlt := nix_lt n.nodes (infl.getD i default).nod;generalize inK n infl k i = X at *
    (have:=NeI hi);(have:=NeI hi3);clear hi2 h9;obtain ⟨p, hp⟩ : ∃ p : Nat, nodeIx n.nodes (infl.getD i default).nod = (p : Int) := ⟨_, (Int.toNat_of_nonneg h0).symm⟩;rw [hp] at c1 hlt;rw [hp, Int.toNat_natCast] at hat
    have hpX : p < X.length := by omega
    have hpX3 : (p : Int) < (X.length : Int) := by omega
    (have:=NeI hpX);(have:=NeI hpX3);by_cases hkl : (k : Int) < ((infl.getD i default).vols.length : Int)
    · have hkl2 : k < (infl.getD i default).vols.length := by omega
      replace hat := hat hkl2 (by omega)
      (have:=NeI hkl);(have:=NeI hkl2);clear hsk;(repeat' first|(show SWp _ _ _ (.region _ _ true) _ _ _ _;refine xG mixed [40, 1000007] ?_)|refine stW [0,1,2,3,6,7,8,16,26] ?_|refine fctI fun hf=>?_|refine twI (fun hc=>?_) fun hc=>?_);(refine lN [0, 40] ?_);exact ⟨_, by omega, i + 1, by omega, rfl, rfl, by rw [hat] <;> rfl⟩
    · replace hsk := hsk (fun c => hkl (by omega))
      (have:=NeI hkl);clear hat
      (repeat' first|refine stW [0,1,2,3,6,7,8,16,26] ?_|refine fctI fun hf=>?_|refine twI (fun hc=>?_) fun hc=>?_);(refine lN [0, 40] ?_);exact ⟨_, by omega, i + 1, by omega, rfl, rfl, by rw [hsk] <;> rfl⟩
  obtain rfl : i = infl.length := by omega
  have hi3 : ¬ ((infl.length : Int) < (infl.length : Int)) := by omega
  (have:=NeI hi3);generalize inK n infl k infl.length = X at *
  (repeat' first|refine stW [0,1,2,3,6,7,8,16,26] ?_|refine fctI fun hf=>?_|refine twI (fun hc=>?_) fun hc=>?_);exact DVR
theorem nodsL_len (l : List Infl) : (nodsL l).length = l.length := List.length_map ..
theorem nodsL_at (l : List Infl) {i : Nat} (h : i < l.length) : (nodsL l).getD i default = (l.getD i default).nod := by
  unfold nodsL;rw [List.getD_eq_getElem?_getD, List.getElem?_map, List.getElem?_eq_getElem h, List.getD_eq_getElem?_getD, List.getElem?_eq_getElem h]; rfl
theorem rNamed44_f (n : Net) (infl : List Infl) (m : Nat) (no : netOk n) (hi : inflsOk infl) : Pu 76 [netD n, inflL infl] m (li (wrongC n infl)) := by
  obtain ⟨hi1, hi2⟩ := hi;have e0 : wrongC n infl = if infl.any (nodU n) = true then 9 else if dupB (nodsL infl) = true then 10 else if infl.any volU = true then 4 else 0 := rfl
  rw [e0];clear e0;refine pcN 58 [.tmp 4] [3] Tryz.func76 rfl [] ?_;(repeat' first|refine stW [0,1,2,4,5,6,7,8,12,22,26,31,44,48,57] ?_|refine fctI fun hf=>?_|refine twI (fun hc=>?_) fun hc=>?_);refine loop_swp [1, 2, 5] [0] 24 (fun q A H => ∃ i : Nat, i <= infl.length /\ q = infl.length - i /\ (∀ j, j < i -> nodU n (infl.getD j default) = false) /\ A = [(1, inflL infl), (2, .ptr 0 0), (5, li i)] /\ H = [(0, .blk 25 (netC n))]) (by omega) ?_ ?_ ?_
  · rintro q A H ⟨i, g1, g2, g3, rfl, rfl⟩;exact SDD
  · refine ⟨_, 0, by omega, rfl, by omega, ?_, ?_⟩
    · exact DVR
    · exact DVR
  rintro q A H ⟨i, g1, g2, g3, rfl, rfl⟩;by_cases hi : i < infl.length
  · have hi3 : (i : Int) < (infl.length : Int) := by omega
    have c1 := fun m => rFindNode_f n (infl.getD i default).nod m no.1.1
    have eu : nodU n (infl.getD i default) = decide (nodeIx n.nodes (infl.getD i default).nod < 0) := rfl;have hy := any_yes (p := nodU n) hi;have hnx : nodU n (infl.getD i default) = false -> ∀ j, j < i + 1 -> nodU n (infl.getD j default) = false := fun h j hj => by
      by_cases e : j = i
      · subst e; exact h
      · exact g3 j (by omega)
    rw [eu] at hy hnx;generalize nodeIx n.nodes (infl.getD i default).nod = K at *
    (have:=NeI hi);(have:=NeI hi3);clear g3 eu;by_cases h0 : K < 0
    · rw [hy (decide_eq_true h0), if_pos rfl];(have:=NeI h0);clear hnx hy;(repeat' first|refine stW [0,1,2,4,5,6,7,8,12,22,26,31,44,48,57] ?_|refine fctI fun hf=>?_|refine twI (fun hc=>?_) fun hc=>?_);exact DVR
    · replace hnx := hnx (decide_eq_false h0)
      (have:=NeI h0);clear hy;(repeat' first|refine stW [0,1,2,4,5,6,7,8,12,22,26,31,44,48,57] ?_|refine fctI fun hf=>?_|refine twI (fun hc=>?_) fun hc=>?_);(refine lN [0] ?_);exact ⟨_, by omega, i + 1, by omega, rfl, hnx, rfl, rfl⟩
  obtain rfl : i = infl.length := by omega
  have hi3 : ¬ ((infl.length : Int) < (infl.length : Int)) := by omega
  rw [any_no g3, if_neg (by decide)];(have:=NeI hi3);clear g3 hi3;(repeat' first|refine stW [0,1,2,4,5,6,7,8,12,22,26,31,44,48,57] ?_|refine fctI fun hf=>?_|refine twI (fun hc=>?_) fun hc=>?_);refine loop_swp [1, 6] [] 64 (fun q A H => ∃ i : Nat, i <= infl.length /\ q = infl.length - i /\ (∀ j, j < i -> hasB ((nodsL infl).take j) ((nodsL infl).getD j default) = false) /\ A = [(1, inflL infl), (6, li i)] /\ H = []) (by omega) ?_ ?_ ?_
  · rintro q A H ⟨i, g1, g2, g3, rfl, rfl⟩;exact SDD
  · refine ⟨_, 0, by omega, rfl, by omega, ?_, ?_⟩
    · exact DVR
    · exact DVR
  rintro q A H ⟨i, g1, g2, g3, rfl, rfl⟩;by_cases hi : i < infl.length
  · have hi3 : (i : Int) < (infl.length : Int) := by omega
    (have:=NeI hi);(have:=NeI hi3);(repeat' first|refine stW [0,1,2,4,5,6,7,8,12,22,26,31,44,48,57] ?_|refine fctI fun hf=>?_|refine twI (fun hc=>?_) fun hc=>?_);refine loop_swp [1, 6, 7] [] 104 (fun q A H => ∃ j : Nat, j <= i /\ q = i - j /\ hasB ((nodsL infl).take j) ((nodsL infl).getD i default) = false /\ A = [(1, inflL infl), (6, li i), (7, li j)] /\ H = []) (by omega) ?_ ?_ ?_
    · rintro q A H ⟨j, k1, k2, k3, rfl, rfl⟩;exact SDD
    · refine ⟨_, 0, by omega, rfl, rfl, ?_, ?_⟩
      · exact DVR
      · exact DVR
    rintro q A H ⟨j, k1, k2, k3, rfl, rfl⟩;by_cases hj : j < i
    · have hj3 : (j : Int) < (i : Int) := by omega
      have hj2 : j < infl.length := by omega
      have hj4 : (j : Int) < (infl.length : Int) := by omega
      have hs := hasB_suc (l := nodsL infl) (s := (nodsL infl).getD i default) (i := j) (by rw [nodsL_len]; exact hj2);rw [k3, Bool.false_or, nodsL_at infl hj2, nodsL_at infl hi] at hs;rw [nodsL_at infl hi] at k3;(have:=NeI hj3);(have:=NeI hj2);(have:=NeI hj4);by_cases e : (infl.getD j default).nod = (infl.getD i default).nod
      · have hd : dupB (nodsL infl) = true := by
          refine List.any_eq_true.2 ⟨i, List.mem_range.2 (by rw [nodsL_len]; exact hi), hasB_mem.2 ?_⟩;rw [nodsL_at infl hi, <- e, <- nodsL_at infl hj2];exact List.mem_iff_getElem.2 ⟨j, by rw [List.length_take, nodsL_len]; omega, by rw [List.getElem_take, List.getD_eq_getElem?_getD, List.getElem?_eq_getElem (by rw [nodsL_len]; exact hj2)]; rfl⟩
        rw [hd, if_pos rfl];have e' := e.symm;(have:=NeI e');clear g3 hs k3 hd e e';(repeat' first|refine stW [0,1,2,4,5,6,7,8,12,22,26,31,44,48,57] ?_|refine fctI fun hf=>?_|refine twI (fun hc=>?_) fun hc=>?_);exact DVR
      · have e' : ¬ (infl.getD i default).nod = (infl.getD j default).nod := fun c => e c.symm
        (have:=NeI e');rw [decide_eq_false e] at hs;clear g3 k3 e e';(repeat' first|refine stW [0,1,2,4,5,6,7,8,12,22,26,31,44,48,57] ?_|refine fctI fun hf=>?_|refine twI (fun hc=>?_) fun hc=>?_);(refine lN [] ?_);exact ⟨_, by omega, j + 1, by omega, rfl, by rw [nodsL_at infl hi]; exact hs, rfl, rfl⟩
    obtain rfl : j = i := by omega
    have hj3 : ¬ ((j : Int) < (j : Int)) := by omega
    have hnx : ∀ q, q < j + 1 -> hasB ((nodsL infl).take q) ((nodsL infl).getD q default) = false := fun q hq => by
      by_cases e : q = j
      · subst e; exact k3
      · exact g3 q (by omega)
    (have:=NeI hj3);clear g3 k3;(repeat' first|refine stW [0,1,2,4,5,6,7,8,12,22,26,31,44,48,57] ?_|refine fctI fun hf=>?_|refine twI (fun hc=>?_) fun hc=>?_);(refine lN [] ?_);exact ⟨_, by omega, j + 1, by omega, rfl, hnx, rfl, rfl⟩
  obtain rfl : i = infl.length := by omega
  have hi3 : ¬ ((infl.length : Int) < (infl.length : Int)) := by omega
  have hd : dupB (nodsL infl) = false := by
    unfold dupB;rw [List.any_eq_false];intro j hj;have hj := List.mem_range.1 hj;rw [nodsL_len] at hj;rw [g3 j hj]; decide
  rw [hd, if_neg (by decide)];(have:=NeI hi3);clear g3 hi3 hd;(repeat' first|refine stW [0,1,2,4,5,6,7,8,12,22,26,31,44,48,57] ?_|refine fctI fun hf=>?_|refine twI (fun hc=>?_) fun hc=>?_);refine loop_swp [1, 8] [] 104 (fun q A H => ∃ i : Nat, i <= infl.length /\ q = infl.length - i /\ (∀ j, j < i -> volU (infl.getD j default) = false) /\ A = [(1, inflL infl), (8, li i)] /\ H = []) (by omega) ?_ ?_ ?_
  · rintro q A H ⟨i, g1, g2, g3, rfl, rfl⟩;exact SDD
  · refine ⟨_, 0, by omega, rfl, by omega, ?_, ?_⟩
    · exact DVR
    · exact DVR
  rintro q A H ⟨i, g1, g2, g3, rfl, rfl⟩;by_cases hi : i < infl.length
  · have hi3 : (i : Int) < (infl.length : Int) := by omega
    have hol := (hi2 _ (getD_mem hi)).2.1;have eu : volU (infl.getD i default) = decide (10000 < (infl.getD i default).vols.length) := rfl;have hy := any_yes (p := volU) hi;(have:=NeI hi);(have:=NeI hi3);by_cases h0 : (10000 : Int) < ((infl.getD i default).vols.length : Int)
    · rw [hy (by show volU (infl.getD i default) = true; rw [eu]; exact decide_eq_true (by omega)), if_pos rfl];(have:=NeI h0);clear g3 eu hy;(repeat' first|refine stW [0,1,2,4,5,6,7,8,12,22,26,31,44,48,57] ?_|refine fctI fun hf=>?_|refine twI (fun hc=>?_) fun hc=>?_);exact DVR
    · have hnx : ∀ j, j < i + 1 -> volU (infl.getD j default) = false := fun j hj => by
        by_cases e : j = i
        · subst e; rw [eu]; exact decide_eq_false (by omega)
        · exact g3 j (by omega)
      (have:=NeI h0);clear g3 eu hy;(repeat' first|refine stW [0,1,2,4,5,6,7,8,12,22,26,31,44,48,57] ?_|refine fctI fun hf=>?_|refine twI (fun hc=>?_) fun hc=>?_);(refine lN [] ?_);exact ⟨_, by omega, i + 1, by omega, rfl, hnx, rfl, rfl⟩
  obtain rfl : i = infl.length := by omega
  have hi3 : ¬ ((infl.length : Int) < (infl.length : Int)) := by omega
  rw [any_no g3, if_neg (by decide)];(have:=NeI hi3);clear g3;(repeat' first|refine stW [0,1,2,4,5,6,7,8,12,22,26,31,44,48,57] ?_|refine fctI fun hf=>?_|refine twI (fun hc=>?_) fun hc=>?_);exact DVR
theorem rCRun_f (n : Net) (s : List Sect) (l : List Rule) (x : Sta) (infl : List Infl) (sec steps : Int) (m : Nat) (no : netOk n) (co : catOk s) (lo : rulOk l) (so : staOk x) (hi : inflsOk infl) :
    Pu 21 [netD n, sectL s, ruleL l, staD x, inflL infl, li sec, li steps] m (.tup [staL (runC n s l x infl sec steps).1, ledgL (runC n s l x infl sec steps).2.1, li (runC n s l x infl sec steps).2.2]) := by
  have k1 := fun m => r44V_f n s l x m no co lo so
  cases hv : (netB n && staB n x && catB s && rulesB l) <;> simp only [hv] at k1
  · rw [show runC n s l x infl sec steps = ([], [], 1) from if_pos hv];refine pcN 76 [.tmp 14,.tmp 15,.tmp 16] [61,62,3] Tryz.func21 rfl [] ?_;(repeat' first|refine stW [0,1,2,3,4,5,6,7,10,14,15,16,17,18,19,20,21,22,23,29,35,40,44,62] ?_|refine fctI fun hf=>?_|refine twI (fun hc=>?_) fun hc=>?_);exact DVR
  obtain ⟨nb, sb, cb, rb⟩ := hv_of hv;have hrun : runC n s l x infl sec steps = if steps < 0 ∨ 10000 < steps then ([], [], 2) else if ¬ wrongC n infl = 0 then ([], [], wrongC n infl) else ((runG (goC n s l infl sec) x steps.toNat).ss, (runG (goC n s l infl sec) x steps.toNat).gs, (runG (goC n s l infl sec) x steps.toNat).e) := if_neg (by rw [hv]; decide)
  rw [hrun];clear hrun;by_cases hb1 : steps < 0
  · rw [if_pos (.inl hb1)];(have:=NeI hb1);refine pcN 76 [.tmp 14,.tmp 15,.tmp 16] [61,62,3] Tryz.func21 rfl [] ?_;(repeat' first|refine stW [0,1,2,3,4,5,6,7,10,14,15,16,17,18,19,20,21,22,23,29,35,40,44,62] ?_|refine fctI fun hf=>?_|refine twI (fun hc=>?_) fun hc=>?_);exact DVR
  by_cases hb2 : 10000 < steps
  · rw [if_pos (.inr hb2)];(have:=NeI hb1);(have:=NeI hb2);refine pcN 76 [.tmp 14,.tmp 15,.tmp 16] [61,62,3] Tryz.func21 rfl [] ?_;(repeat' first|refine stW [0,1,2,3,4,5,6,7,10,14,15,16,17,18,19,20,21,22,23,29,35,40,44,62] ?_|refine fctI fun hf=>?_|refine twI (fun hc=>?_) fun hc=>?_);exact DVR
  rw [if_neg (by omega)];have k4 := fun m => rNamed44_f n infl m no hi
  (have:=NeI hb1);(have:=NeI hb2);by_cases h0 : wrongC n infl = 0
  case neg =>
    rw [if_pos h0];generalize wrongC n infl = e at *
    (have:=NeI h0);refine pcN 76 [.tmp 14,.tmp 15,.tmp 16] [61,62,3] Tryz.func21 rfl [] ?_;(repeat' first|refine stW [0,1,2,3,4,5,6,7,10,14,15,16,17,18,19,20,21,22,23,29,35,40,44,62] ?_|refine fctI fun hf=>?_|refine twI (fun hc=>?_) fun hc=>?_);exact DVR
  rw [if_neg (fun c => c h0)];rw [h0] at k4;have h9 := (wrong_0 h0).1;obtain ⟨K, rfl⟩ : ∃ K : Nat, steps = (K : Int) := ⟨steps.toNat, by omega⟩;rw [Int.toNat_natCast];have hinv := runG_inv (F := goC n s l infl sec) (s := x) (Q := fun t => staB n t = true) (fun k t _ h => stepC_sta no co h) sb;refine pcN 76 [.tmp 14,.tmp 15,.tmp 16] [61,62,3] Tryz.func21 rfl [208, 216] ?_;(repeat' first|refine stW [0,1,2,3,4,5,6,7,10,14,15,16,17,18,19,20,21,22,23,29,35,40,44,62] ?_|refine fctI fun hf=>?_|refine twI (fun hc=>?_) fun hc=>?_);(refine sN 18 31 4 ?_);(refine sN 19 38 3 ?_);refine loop_swp [1, 2, 4, 5, 6, 7, 10, 18, 19, 20] [0, 8, 208, 216] 224 (fun q A H => ∃ k : Nat, k <= K /\ q = K - k /\ (runG (goC n s l infl sec) x k).e = 0 /\ A = [(1, sectL s), (2, ruleL l), (4, inflL infl), (5, li sec), (6, li K), (7, .ptr 0 0), (10, .ptr 8 0), (18, .gl 208), (19, .gl 216), (20, li k)] /\ H = [(0, .blk 25 (netC n)), (8, .blk 31 (staC (runG (goC n s l infl sec) x k).now)), (208, staLt (runG (goC n s l infl sec) x k).ss), (216, ledgLt (runG (goC n s l infl sec) x k).gs)]) (by omega) ?_ ?_ ?_
  · rintro q A H ⟨k, g1, g2, g3, rfl, rfl⟩;exact SDD
  · refine ⟨_, 0, by omega, rfl, rfl, ?_, ?_⟩
    · exact DVR
    · exact DVR
  rintro q A H ⟨k, g1, g2, g3, rfl, rfl⟩;by_cases hk : k < K
  · have hk3 : (k : Int) < (K : Int) := by omega
    have k5 := fun m => rInfl44_f n infl k m no nb hi (by omega) h9
    have sbn := (hinv k).1;have hkl := inK_len (n := n) (infl := infl) k infl.length;have hnn := (netB_len nb).1;have k6 := fun m => rCStep_f n s l (runG (goC n s l infl sec) x k).now (inK n infl k infl.length) sec m no co lo (staOk_of nb sbn) (by omega)
    obtain ⟨ln1, ln2⟩ := runG_len g3;have hgo := runG_good (F := goC n s l infl sec) (s := x) (k := k) g3;have hbd := runG_bad (F := goC n s l infl sec) (s := x) (k := k) g3;have hstay := fun h j => runG_stay (F := goC n s l infl sec) (s := x) (k := k + 1) h j
    have hnil := fun h => runG_nil (F := goC n s l infl sec) (s := x) (k := K) h
    have hend : ∀ e : Int, ¬ e = 0 -> (runG (goC n s l infl sec) x (k + 1)).e = e -> (runG (goC n s l infl sec) x K).ss = [] /\ (runG (goC n s l infl sec) x K).gs = [] /\ (runG (goC n s l infl sec) x K).e = e := fun e he h => by
      have h2 := hstay (by rw [h]; exact he) (K - (k + 1));rw [show k + 1 + (K - (k + 1)) = K by omega, h] at h2;obtain ⟨b1, b2⟩ := hnil (by rw [h2]; exact he);exact ⟨b1, b2, h2⟩
    have e0 : goC n s l infl sec k (runG (goC n s l infl sec) x k).now = stepC n s l (runG (goC n s l infl sec) x k).now (inK n infl k infl.length) sec := rfl;rw [e0] at hgo hbd;have hpl := @stepC_pas n s l sec (runG (goC n s l infl sec) x k).now (inK n infl k infl.length);have hst0 := fun h => @stepC_sta n s l sec (runG (goC n s l infl sec) x k).now (inK n infl k infl.length) no co h
    (have:=NeI hk3);clear hstay hnil hinv e0;generalize hRN : runG (goC n s l infl sec) x (k + 1) = RN at *
    generalize runG (goC n s l infl sec) x K = RK at *
    generalize runG (goC n s l infl sec) x k = R at *
    generalize stepC n s l R.now (inK n infl k infl.length) sec = SR at *
    generalize inK n infl k infl.length = AL at *
    by_cases hs : SR.2.2 = 0
    · have hg := hgo hs;have hl400 := (netB_len nb).2;have k7 := fun m => rcopyD_f SR.1 m (lenOk_of nb (hst0 hs))
      rw [hs] at k6;clear hgo hbd hend hst0;obtain ⟨now, ss, gs, ee⟩ := R;obtain ⟨s1, s2, s3⟩ := SR;(repeat' first|(show SWp _ _ _ (.region 17 _ _) _ _ _ _;refine (stop_in ?_))|(show SWp _ _ _ (.region _ _ true) _ _ _ _;refine xG mixed [360, 368, 1000007, 1000009] ?_)|refine stW [0,1,2,3,4,5,6,7,10,14,15,16,17,18,19,20,21,22,23,29,35,40,44,62] ?_|refine fctI fun hf=>?_|refine twI (fun hc=>?_) fun hc=>?_);refine stop_out ?_;(repeat' first|(show SWp _ _ _ (.region _ _ true) _ _ _ _;refine xG mixed [208, 216, 1000002] ?_)|refine stW [0,1,2,3,4,5,6,7,10,14,15,16,17,18,19,20,21,22,23,29,35,40,44,62] ?_|refine fctI fun hf=>?_|refine twI (fun hc=>?_) fun hc=>?_);(refine lR2 464 208 496 216 [0, 8, 464, 496] ?_);exact ⟨_, by omega, k + 1, by omega, rfl, by rw [hRN, hg], rfl, by rw [hRN, hg]⟩
    · have hb2 := hbd hs;obtain ⟨b1, b2, b3⟩ := hend SR.2.2 hs (by rw [hb2]);rw [b1, b2, b3];clear hgo hbd hend hb2 hst0;obtain ⟨s1, s2, s3⟩ := SR;(have:=NeI hs);(repeat' first|(show SWp _ _ _ (.region _ _ true) _ _ _ _;refine xG mixed [360, 368, 1000007, 1000009] ?_)|refine stW [0,1,2,3,4,5,6,7,10,14,15,16,17,18,19,20,21,22,23,29,35,40,44,62] ?_|refine fctI fun hf=>?_|refine twI (fun hc=>?_) fun hc=>?_);exact DVR
  obtain rfl : k = K := by omega
  have hk3 : ¬ ((k : Int) < (k : Int)) := by omega
  (have:=NeI hk3);rw [g3];clear hinv;generalize runG (goC n s l infl sec) x k = R at *
  (repeat' first|refine stW [0,1,2,3,4,5,6,7,10,14,15,16,17,18,19,20,21,22,23,29,35,40,44,62] ?_|refine fctI fun hf=>?_|refine twI (fun hc=>?_) fun hc=>?_);exact DVR
theorem cruns_f (c : Cas) (infl : List Infl) (steps : Int) (m : Nat) (hc' : casOk c) (hi : inflsOk infl) :
    Pu 4 [casD c, inflL infl, li steps] m (lb true) := by
  have k1 := fun m => lrg_f c m hc'
  have k2 := fun m => many44_f infl m hi
  cases hL : lrgB c <;> simp only [hL] at k1
  case true =>
    refine pcN 76 [.tmp 6] [4] Tryz.func4 rfl [] ?_;(repeat' first|refine stW [0,1,2,3,6,7,8,9,10,11,12,14,28] ?_|(show CallQ ..;first|refine cQ (fun hcc=>(by exact awake44_f _)) ?_|(refine lP ?_;refine lQ (fun hcc m=>(by exact awake44_f _)) ?_))|refine fctI fun hf=>?_|refine twI (fun hc=>?_) fun hc=>?_);exact DVR
  cases hM : many44 infl <;> simp only [hM] at k2
  case true =>
    refine pcN 76 [.tmp 6] [4] Tryz.func4 rfl [] ?_;(repeat' first|refine stW [0,1,2,3,6,7,8,9,10,11,12,14,28] ?_|(show CallQ ..;first|refine cQ (fun hcc=>(by exact awake44_f _)) ?_|(refine lP ?_;refine lQ (fun hcc m=>(by exact awake44_f _)) ?_))|refine fctI fun hf=>?_|refine twI (fun hc=>?_) fun hc=>?_);exact DVR
  obtain ⟨no, co, lo, so, _⟩ := hc';obtain ⟨f1, _, _⟩ := large_f0 hL;have k3 := fun m => CRun_f c.net c.cat c.rul c.sta infl c.sec steps m no co lo so hi (by omega)
  have k4 := fun m => rCRun_f c.net c.cat c.rul c.sta infl c.sec steps m no co lo so hi
  obtain ⟨o1, o2, o3, o4⟩ := @runC_ok c.net c.cat c.rul c.sta infl c.sec no co steps;generalize runC c.net c.cat c.rul c.sta infl c.sec steps = R at *
  obtain ⟨SS, GS, e⟩ := R;have k5 := fun m => eqfSta_f 12 SS SS m (by dsimp only at o1; omega) (by dsimp only at o1; omega) (fun x hx y hy m => same_f x y m (o3 x hx).2 (o3 y hy).2)
  have k6 := fun m => eqfLedg_f 13 GS GS m (by dsimp only at o2; omega) (by dsimp only at o2; omega) (fun x hx y hy m => sameLed_f x y m (o4 x hx) (o4 y hy))
  rw [decide_eq_true rfl] at k5 k6;have he : e = e := rfl;(have:=NeI he);clear o1 o2 o3 o4;by_cases h1 : 10 < steps
  · by_cases h2 : steps <= 10000
    · (have:=NeI h1);(have:=NeI h2);refine pcN 76 [.tmp 6] [4] Tryz.func4 rfl [] ?_;(repeat' first|refine stW [0,1,2,3,6,7,8,9,10,11,12,14,28] ?_|(show CallQ ..;first|refine cQ (fun hcc=>(by exact awake44_f _)) ?_|(refine lP ?_;refine lQ (fun hcc m=>(by exact awake44_f _)) ?_))|refine fctI fun hf=>?_|refine twI (fun hc=>?_) fun hc=>?_);exact DVR
    · (have:=NeI h1);(have:=NeI h2);refine pcN 76 [.tmp 6] [4] Tryz.func4 rfl [] ?_;(repeat' first|refine stW [0,1,2,3,6,7,8,9,10,11,12,14,28] ?_|(show CallQ ..;first|refine cQ (fun hcc=>(by exact awake44_f _)) ?_|(refine lP ?_;refine lQ (fun hcc m=>(by exact awake44_f _)) ?_))|refine fctI fun hf=>?_|refine twI (fun hc=>?_) fun hc=>?_);exact DVR
  · (have:=NeI h1);refine pcN 76 [.tmp 6] [4] Tryz.func4 rfl [] ?_;(repeat' first|refine stW [0,1,2,3,6,7,8,9,10,11,12,14,28] ?_|(show CallQ ..;first|refine cQ (fun hcc=>(by exact awake44_f _)) ?_|(refine lP ?_;refine lQ (fun hcc m=>(by exact awake44_f _)) ?_))|refine fctI fun hf=>?_|refine twI (fun hc=>?_) fun hc=>?_);exact DVR

end Go.Proofs.YtefkhfkapnmikaaGreat
