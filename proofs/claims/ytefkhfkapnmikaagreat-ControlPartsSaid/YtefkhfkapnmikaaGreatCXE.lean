/-
  Contracts of functions of the program, over the engine.
  No condition.
-/
import Derived.Test.YtefkhfkapnmikaaGreatCX0
import Derived.Test.YtefkhfkapnmikaaGreatCX4
import Derived.Test.YtefkhfkapnmikaaGreatCX5
import Derived.Test.YtefkhfkapnmikaaGreatCXD
import Derived.Test.YtefkhfkapnmikaaGreatCX9
import Derived.Test.YtefkhfkapnmikaaGreatCX8
namespace Go.Proofs.YtefkhfkapnmikaaGreat
open Go.Eng
set_option linter.all false
attribute [local irreducible] DCallsG SWp Fct CallQ XCallQ LCallQ XLCallQ drun xrun
set_option maxHeartbeats 64000000
set_option maxRecDepth 20000

theorem take_dropL4 {α : Type} (l : List α) (M : Nat) : List.take (l.length - M) (List.drop M l) = List.drop M l := List.take_of_length_le (by rw [List.length_drop]; exact Nat.le_refl _)
attribute [local push_cast] take_dropL4
abbrev inflLt4 (l : List Infl) : HV := .lst 71 2 (rows inflP l)
theorem many44_0 {l : List Infl} (h : many44 l = false) : l.length <= 6 /\ ∀ x, x ∈ l -> x.vols.length <= 30 := by
  unfold many44 at h;rw [Bool.or_eq_false_iff, decide_eq_false_iff_not, List.any_eq_false] at h;refine ⟨by omega, fun x hx => ?_⟩;have := h.2 x hx;unfold manI at this;simp only [Bool.or_eq_true, decide_eq_true_eq] at this;omega
theorem cut_ok44 {infl : List Infl} {i : Nat} (h : inflsOk infl) : (infl.map (cutI i)).length <= 281474976710656 /\ ∀ x, x ∈ infl.map (cutI i) -> inflOk x := by
  refine ⟨by rw [List.length_map]; exact h.1, fun x hx => ?_⟩;obtain ⟨y, hy, rfl⟩ := List.mem_map.1 hx;obtain ⟨h1, h2, h3⟩ := h.2 y hy;refine ⟨h1, ?_, fun z hz => h3 z (List.mem_of_mem_drop hz)⟩;show (y.vols.drop _).length <= _;rw [List.length_drop]; omega
theorem leastR_eq {n : Net} {ss : List Sta} {t : ByteArray} (h1 : listB n ss = true) (h2 : ss.length <= 10000) (h3 : 0 < ss.length) (h4 : nodeIx n.nodes t = 0) : leastR n ss t = (leastI ss 0 ss.length, 0) := by
  unfold leastR;rw [if_neg (by rw [h1]; decide), if_neg (by omega), if_neg (by omega), if_neg (by omega), h4]; rfl
theorem listB_of {n : Net} {ss : List Sta} (nb : netB n = true) (h : ∀ x, x ∈ ss -> staB n x = true) : listB n ss = true := by
  unfold listB;rw [nb, Bool.true_and, List.all_eq_true];exact h
theorem sizeB_of {n : Net} {ss : List Sta} (nb : netB n = true) (h : ∀ x, x ∈ ss -> staB n x = true) : sizeB ss = true := sizeB_all fun j hj => by
  obtain ⟨_, _, l3, l4⟩ := lensB_of (staB_in nb (h _ (getD_mem hj))).1;obtain ⟨_, _, m3, m4⟩ := lensB_of (staB_in nb (h _ (getD_mem (show 0 < ss.length by omega)))).1;exact ⟨by omega, by omega⟩
theorem switchR_of {n : Net} {ss : List Sta} (nb : netB n = true) (h : ∀ x, x ∈ ss -> staB n x = true) (hl : ss.length <= 10000) : switchR ss = (swN ss ss.length, 0) := by
  unfold switchR;rw [if_neg (by omega), if_neg (by rw [sizeB_of nb h]; decide)]
theorem cparts_f (c : Cas) (infl : List Infl) (k k' : Int) (m : Nat) (hc' : casOk c) (hi : inflsOk infl) :
    Pu 5 [casD c, inflL infl, li k, li k'] m (lb true) := by
  have k1 := fun m => lrg_f c m hc'
  have k2 := fun m => many44_f infl m hi
  obtain ⟨no, co, lo, so, _⟩ := hc';have k3 := fun m => r44V_f c.net c.cat c.rul c.sta m no co lo so
  have hnl := no.1.1;generalize hL : lrgB c = L at *
  generalize hM : many44 infl = M at *
  generalize hV : (netB c.net && staB c.net c.sta && catB c.cat && rulesB c.rul) = V at *
  refine pcN 326 [.tmp 8] [4] Tryz.func5 rfl [] ?_;(repeat' first|(show SWp _ _ _ (.seq (.region 5 _ _) _) _ _ _ _;refine (stop_in ?_))|(show SWp _ _ _ (.region _ _ true) _ _ _ _;refine xG mixed [] ?_)|refine stW [0,1,2,3,4,8,9,10,11,12,13,14,15,17,18,19,20,21,22,23,24,25,26,27,28,29,30,31,32,33,34,35,37,78,116,139,140,141,142,143,197,199,220,274] ?_|(show CallQ ..;first|refine cQ (fun hcc=>(by exact awake44_f _)) ?_|(refine lP ?_;refine lQ (fun hcc m=>(by exact awake44_f _)) ?_))|(show XCallQ ..;first|refine xQ (fun hcc=>(by exact awake44_f _)) ?_|(refine xlP ?_;refine xlQ (fun hcc m=>(by exact awake44_f _)) ?_))|refine fctI fun hf=>?_|refine twI (fun hc=>?_) fun hc=>?_)
  · exact DVR
  refine stop_out ?_;have hq : L = false /\ M = false /\ (1 <= k /\ k <= 6) /\ (1 <= k' /\ k' <= 6) /\ V = true /\ ¬ c.net.nodes.length = 0 := by
    clear k1 k2 k3 hL hM hV;grind
  obtain ⟨rfl, rfl, hk, hk', rfl, hz⟩ := hq;clear hc k1 k2 k3;obtain ⟨nb, sb, cb, rb⟩ := hv_of hV;obtain ⟨f1, _, _⟩ := large_f0 hL;obtain ⟨i6, i30⟩ := many44_0 hM;obtain ⟨K, rfl⟩ : ∃ K : Nat, k = (K : Int) := ⟨k.toNat, by omega⟩;obtain ⟨M, rfl⟩ : ∃ M : Nat, k' = (M : Int) := ⟨k'.toNat, by omega⟩;have kA := fun m => CRun_f c.net c.cat c.rul c.sta infl c.sec ((K + M : Nat) : Int) m no co lo so hi (by omega)
  have kB := fun m => CRun_f c.net c.cat c.rul c.sta infl c.sec (K : Int) m no co lo so hi (by omega)
  have TR := two_runsC (x := c.sta) (infl := infl) (sec := c.sec) no co hV (k := K) (m := M) (by omega) (by omega);have eik : ((K + M : Nat) : Int) = (K : Int) + (M : Int) := by omega
  obtain ⟨oA1, oA2, oA3, oA4⟩ := @runC_ok c.net c.cat c.rul c.sta infl c.sec no co ((K + M : Nat) : Int);obtain ⟨oB1, oB2, oB3, oB4⟩ := @runC_ok c.net c.cat c.rul c.sta infl c.sec no co (K : Int);generalize runC c.net c.cat c.rul c.sta infl c.sec ((K + M : Nat) : Int) = RA at *
  generalize runC c.net c.cat c.rul c.sta infl c.sec (K : Int) = RB at *
  rw [eik] at kA;obtain ⟨AS, AG, AE⟩ := RA;obtain ⟨BS, BG, BE⟩ := RB;dsimp only at oA1 oA2 oA3 oA4 oB1 oB2 oB3 oB4;have il1 := hi.1;by_cases e0 : BE = 0
  case neg =>
    obtain ⟨b1, b2, b3⟩ := TR.bad e0;have b1 : AE = BE := b1;have b2 : AS = [] := b2;have b3 : BS = [] := b3;subst b1 b2 b3;have e1 : AE = AE := rfl;(have:=NeI e0);(have:=NeI e1);clear TR oA3 oA4 oB3 oB4 i30;(repeat' first|refine stW [0,1,2,3,4,8,9,10,11,12,13,14,15,17,18,19,20,21,22,23,24,25,26,27,28,29,30,31,32,33,34,35,37,78,116,139,140,141,142,143,197,199,220,274] ?_|refine fctI fun hf=>?_|refine twI (fun hc=>?_) fun hc=>?_);exact DVR
  subst e0;obtain ⟨l1, l2⟩ := TR.lb rfl;obtain ⟨om, C, hC, c1, c2, c3⟩ := TR.mid rfl _ rfl;clear TR;dsimp only at l1 l2 om hC c1 c2 c3;obtain ⟨p, hp⟩ : ∃ p : Nat, K = p + 1 := ⟨K - 1, by omega⟩;rw [show K - 1 = p by omega] at om hC;have kC := fun m => CRun_f c.net c.cat c.rul (BS.getD p default) (infl.map (cutI K)) c.sec (M : Int) m no co lo (staOk_of nb om) (cut_ok44 hi) (by omega)
  obtain ⟨oC1, oC2, oC3, oC4⟩ := @runC_ok c.net c.cat c.rul (BS.getD p default) (infl.map (cutI K)) c.sec no co (M : Int);rw [hC] at kC oC1 oC2 oC3 oC4;obtain ⟨CS, CG, CE⟩ := C;dsimp only at oC1 oC2 oC3 oC4;clear hC;have c1 : AE = CE := c1;subst c1;haveI : SubOk (K : Int) 1 (p : Int) := ⟨by omega⟩;have hpB : p < BS.length := by omega
  have hpB3 : (p : Int) < (BS.length : Int) := by omega
  have q3 : (BS.length : Int) = (K : Int) := by omega
  have q4 : (BG.length : Int) = (K : Int) := by omega
  (have:=NeI hpB);(have:=NeI hpB3);(have:=NeI q3);(have:=NeI q4);have e1 : AE = AE := rfl;(have:=NeI e1);(repeat' first|refine stW [0,1,2,3,4,8,9,10,11,12,13,14,15,17,18,19,20,21,22,23,24,25,26,27,28,29,30,31,32,33,34,35,37,78,116,139,140,141,142,143,197,199,220,274] ?_|refine fctI fun hf=>?_|refine twI (fun hc=>?_) fun hc=>?_);(refine sN 15 71 2 ?_);refine loop_swp [2, 3, 4, 9, 10, 11, 12, 13, 15, 140, 141, 142] [0, 824] 832 (fun q A H => ∃ j : Nat, j <= infl.length /\ q = infl.length - j /\ A = [(2, li K), (3, li M), (4, .ptr 0 0), (9, staL AS), (10, ledgL AG), (11, li AE), (12, staL BS), (13, ledgL BG), (15, .gl 824), (140, inflL infl), (141, li infl.length), (142, li j)] /\ H = [(0, .blk 33 (casC c)), (824, inflLt4 ((infl.map (cutI K)).take j))]) (by omega) ?_ ?_ ?_
  · rintro q A H ⟨j, g1, g2, rfl, rfl⟩;exact SDD
  · refine ⟨_, 0, by omega, rfl, ?_, ?_⟩
    · exact DVR
    · exact DVR
  rintro q A H ⟨j, g1, g2, rfl, rfl⟩;by_cases hj : j < infl.length
  · have hj3 : (j : Int) < (infl.length : Int) := by omega
    have hvl := i30 _ (getD_mem hj);have hnx : (infl.map (cutI K)).take (j + 1) = (infl.map (cutI K)).take j ++ [cutI K (infl.getD j default)] := by
      rw [List.take_succ_eq_append_getElem (by rw [List.length_map]; exact hj), List.getElem_map, List.getD_eq_getElem?_getD, List.getElem?_eq_getElem hj]; rfl
    have hlt : ((infl.map (cutI K)).take j).length = j := by rw [List.length_take, List.length_map]; omega
    generalize (infl.map (cutI K)).take j = X at *
    (have:=NeI hj);(have:=NeI hj3);obtain ⟨Q, hM1, hM2, hcut⟩ : ∃ Q : Nat, min (K : Int) ((infl.getD j default).vols.length : Int) = (Q : Int) /\ Q <= (infl.getD j default).vols.length /\ cutI K (infl.getD j default) = ⟨(infl.getD j default).nod, (infl.getD j default).vols.drop Q⟩ := ⟨min K (infl.getD j default).vols.length, by omega, by omega, rfl⟩;have hM3 : (Q : Int) <= ((infl.getD j default).vols.length : Int) := by omega
    haveI : MinOk44 (K : Int) ((infl.getD j default).vols.length : Int) (Q : Int) := ⟨hM1⟩;have kc := fun m => cloneD_f ((infl.getD j default).vols.drop Q) m (by rw [List.length_drop]; omega)
    rw [hcut] at hnx;(have:=NeI hM3);clear i30 oA3 oA4 oB3 oB4 oC3 oC4 c2 c3 kA kB kC;(repeat' first|(show SWp _ _ _ (.region _ _ true) _ _ _ _;refine xG mixed [824, 1000011] ?_)|refine stW [0,1,2,3,4,8,9,10,11,12,13,14,15,17,18,19,20,21,22,23,24,25,26,27,28,29,30,31,32,33,34,35,37,78,116,139,140,141,142,143,197,199,220,274] ?_|refine fctI fun hf=>?_|refine twI (fun hc=>?_) fun hc=>?_);rw [show rows inflP X ++ [[DV.p (PV.lit (Value.string (infl.getD j default).nod)), DV.p (PV.dat 1 (List.map inRow (List.drop Q (infl.getD j default).vols)))]] = rows inflP (X ++ [⟨(infl.getD j default).nod, (infl.getD j default).vols.drop Q⟩]) from rows_app inflP X [(⟨(infl.getD j default).nod, (infl.getD j default).vols.drop Q⟩ : Infl)], <- hnx];(refine lR 984 824 [0, 984] ?_);exact ⟨_, by omega, j + 1, by omega, rfl, rfl, by rw [List.map_take]⟩
  obtain rfl : j = infl.length := by omega
  have hj3 : ¬ ((infl.length : Int) < (infl.length : Int)) := by omega
  rw [List.take_of_length_le (by rw [List.length_map]; exact Nat.le_refl _)];(have:=NeI hj3);(repeat' first|(show SWp _ _ _ (.seq (.region 17 _ _) _) _ _ _ _;refine (stop_in ?_))|(show SWp _ _ _ (.region _ _ true) _ _ _ _;refine xG mixed [] ?_)|refine stW [0,1,2,3,4,8,9,10,11,12,13,14,15,17,18,19,20,21,22,23,24,25,26,27,28,29,30,31,32,33,34,35,37,78,116,139,140,141,142,143,197,199,220,274] ?_|refine fctI fun hf=>?_|refine twI (fun hc=>?_) fun hc=>?_);refine stop_out ?_;(refine sF 824 ?_);clear kA kB i30;have sS := fun x y m hx hy => same_f x y m hx hy
  by_cases eA : AE = 0
  case neg =>
    obtain ⟨d1, d2⟩ := c2 eA;have d1 : AS = [] := d1;have d2 : CS = [] := d2;subst d1 d2;have gS := DCallsG.giveG (C := []) (args := [.gl 0]) (o := 0) (hv := .lst 61 1 [[staL BS], [staL []]]) (h := []) (x := .elems 1 [[.dat 4 (BS.map staP)], [.dat 4 []]]) rfl rfl (concSt_f BS [] 1 (by omega) (by decide));have kE := fun m => eqfSta_f 12 [] BS m (by decide) (by omega) (fun x hx y hy m => same_f x y m (by cases hx) (by cases hx))
    rw [decide_eq_false (fun e => by have := congrArg List.length e; simp at this; omega)] at kE;(have:=NeI eA);clear c2 c3 oA3 oA4 oB3 oB4 oC3 oC4 sS;(repeat' first|refine stW [0,1,2,3,4,8,9,10,11,12,13,14,15,17,18,19,20,21,22,23,24,25,26,27,28,29,30,31,32,33,34,35,37,78,116,139,140,141,142,143,197,199,220,274] ?_|refine fctI fun hf=>?_|refine twI (fun hc=>?_) fun hc=>?_);(refine cQT [1080] (fun hcc => gS) ?_);(repeat' first|refine stW [0,1,2,3,4,8,9,10,11,12,13,14,15,17,18,19,20,21,22,23,24,25,26,27,28,29,30,31,32,33,34,35,37,78,116,139,140,141,142,143,197,199,220,274] ?_|refine fctI fun hf=>?_|refine twI (fun hc=>?_) fun hc=>?_);exact DVR
  obtain ⟨d1, d2, d3, d4⟩ := c3 eA;have d1 : CS.length = M := d1;have d2 : CG.length = M := d2;have d3 : AS = BS ++ CS := d3;have d4 : AG = BG ++ CG := d4;subst eA;clear c2 c3 sS;have kS := concSt_f BS CS 1 (by omega) (by omega);have kG := concLg_f BG CG 1 (by omega) (by omega);rw [<- d3] at kS;rw [<- d4] at kG;have gS := DCallsG.giveG (C := []) (args := [.gl 0]) (o := 0) (hv := .lst 61 1 [[staL BS], [staL CS]]) (h := []) (x := .elems 1 [[.dat 4 (BS.map staP)], [.dat 4 (CS.map staP)]]) rfl rfl kS;have gG := DCallsG.giveG (C := []) (args := [.gl 0]) (o := 0) (hv := .lst 62 1 [[ledgL BG], [ledgL CG]]) (h := []) (x := .elems 1 [[.dat 3 (BG.map ledgP)], [.dat 3 (CG.map ledgP)]]) rfl rfl kG;have kE := fun m => eqfSta_f 12 AS AS m (by omega) (by omega) (fun x hx y hy m => same_f x y m (oA3 x hx).2 (oA3 y hy).2)
  have kF := fun m => eqfLedg_f 13 AG AG m (by omega) (by omega) (fun x hx y hy m => sameLed_f x y m (oA4 x hx) (oA4 y hy))
  rw [decide_eq_true rfl] at kE kF;have hAl : AS.length = K + M := by rw [d3, List.length_append]; omega
  have hz1 : 0 < c.net.nodes.length := by omega
  have hz3 : (0 : Int) < (c.net.nodes.length : Int) := by omega
  have hz0 := (nidx_eq nb hz1 (c.net.nodes.getD 0 default).name).2 rfl;have hz0 : nodeIx c.net.nodes (c.net.nodes.getD 0 default).name = 0 := hz0;have sA := fun x hx => (oA3 x hx).1
  have sB := fun x hx => (oB3 x hx).1
  have sC := fun x hx => (oC3 x hx).1
  have xA : stasOk AS := ⟨by omega, fun x hx => (oA3 x hx).2⟩;have xB : stasOk BS := ⟨by omega, fun x hx => (oB3 x hx).2⟩;have xC : stasOk CS := ⟨by omega, fun x hx => (oC3 x hx).2⟩;have y1 := fun m => CLeast_f c.net AS (c.net.nodes.getD 0 default).name m no xA
  have y2 := fun m => CLeast_f c.net BS (c.net.nodes.getD 0 default).name m no xB
  have y3 := fun m => CLeast_f c.net CS (c.net.nodes.getD 0 default).name m no xC
  rw [leastR_eq (listB_of nb sA) (by omega) (by omega) hz0] at y1;rw [leastR_eq (listB_of nb sB) (by omega) (by omega) hz0] at y2;rw [leastR_eq (listB_of nb sC) (by omega) (by omega) hz0] at y3;have y4 := fun m => rFindNode_f c.net (c.net.nodes.getD 0 default).name m no.1.1
  rw [hz0] at y4;obtain ⟨w, hw⟩ : ∃ w : Nat, M = w + 1 := ⟨M - 1, by omega⟩;have hmin := leastI_both (a := BS) (b := CS) (i := 0) (by omega) (by omega) w (by omega);rw [<- d3, show BS.length + (w + 1) = AS.length by omega, show w + 1 = CS.length by omega] at hmin;have hsw := swN_both (a := BS) (b := CS) (by omega) w (by omega);rw [<- d3, show BS.length + (w + 1) = AS.length by omega, show w + 1 = CS.length by omega, show BS.length - 1 = p by omega] at hsw;have z1 := fun m => CSwitched_f AS m xA
  have z2 := fun m => CSwitched_f BS m xB
  have z3 := fun m => CSwitched_f CS m xC
  have hC0 : 0 < CS.length := by omega
  have hC03 : (0 : Int) < (CS.length : Int) := by omega
  have sP : ∀ x, x ∈ [BS.getD p default, CS.getD 0 default] -> staB c.net x = true := fun x hx => by
    simp only [List.mem_cons, List.not_mem_nil, or_false] at hx;rcases hx with rfl | rfl
    · exact om
    · exact sC _ (getD_mem hC0)
  have z4 := fun m => CSwitched_f [BS.getD p default, CS.getD 0 default] m ⟨(by show 2 <= 281474976710656; decide), fun x hx => staOk_of nb (sP x hx)⟩
  rw [switchR_of nb sA (by omega)] at z1;rw [switchR_of nb sB (by omega)] at z2;rw [switchR_of nb sC (by omega)] at z3;rw [switchR_of nb sP (by show 2 <= 10000; decide), show swN [BS.getD p default, CS.getD 0 default] [BS.getD p default, CS.getD 0 default].length = swI (BS.getD p default) (CS.getD 0 default) (CS.getD 0 default).set.length by
    show 0 + 0 + _ = _;rw [Int.add_zero, Int.zero_add]; rfl] at z4
  have nA := swN_in xA.2 AS.length (Nat.le_refl _);have nB := swN_in xB.2 BS.length (Nat.le_refl _);have nC := swN_in xC.2 CS.length (Nat.le_refl _);have nD := swI_in (a := BS.getD p default) (b := CS.getD 0 default) (CS.getD 0 default).set.length;have nD2 := (xC.2 _ (getD_mem hC0)).2.2.1.1;generalize leastI AS 0 AS.length = LA at *
  generalize leastI BS 0 BS.length = LB at *
  generalize leastI CS 0 CS.length = LC at *
  generalize swN AS AS.length = SA at *
  generalize swN BS BS.length = SB at *
  generalize swN CS CS.length = SC at *
  generalize swI (BS.getD p default) (CS.getD 0 default) (CS.getD 0 default).set.length = SD at *
  haveI : MinOk44 LB LC LA := ⟨hmin.symm⟩;have hLL : LA = LA := rfl;have q5 : (CS.length : Int) = (M : Int) := by omega
  (have:=NeI hLL);(have:=NeI q5);(have:=NeI hz1);(have:=NeI hz3);(have:=NeI hC0);(have:=NeI hC03);have hsw : SA = SB + SC + SD := by omega
  (have:=NeI hsw);clear oA3 oA4 oB3 oB4 oC3 oC4 sA sB sC sP xA xB xC hmin hsw d3 d4;(repeat' first|refine stW [0,1,2,3,4,8,9,10,11,12,13,14,15,17,18,19,20,21,22,23,24,25,26,27,28,29,30,31,32,33,34,35,37,78,116,139,140,141,142,143,197,199,220,274] ?_|refine fctI fun hf=>?_|refine twI (fun hc=>?_) fun hc=>?_);(refine cQT [1080] (fun hcc => gS) ?_);(repeat' first|refine stW [0,1,2,3,4,8,9,10,11,12,13,14,15,17,18,19,20,21,22,23,24,25,26,27,28,29,30,31,32,33,34,35,37,78,116,139,140,141,142,143,197,199,220,274] ?_|refine fctI fun hf=>?_|refine twI (fun hc=>?_) fun hc=>?_);(refine cQT [1232] (fun hcc => gG) ?_);(repeat' first|(show SWp _ _ _ (.region _ _ true) _ _ _ _;refine xG mixed [1992] ?_)|refine stW [0,1,2,3,4,8,9,10,11,12,13,14,15,17,18,19,20,21,22,23,24,25,26,27,28,29,30,31,32,33,34,35,37,78,116,139,140,141,142,143,197,199,220,274] ?_|(show CallQ ..;first|refine cQ (fun hcc=>(by first | exact z1 _ | exact z3 _)) ?_|(refine lP ?_;refine lQ (fun hcc m=>(by first | exact z1 _ | exact z3 _)) ?_))|(show XCallQ ..;first|refine xQ (fun hcc=>(by first | exact z1 _ | exact z3 _)) ?_|(refine xlP ?_;refine xlQ (fun hcc m=>(by first | exact z1 _ | exact z3 _)) ?_))|refine fctI fun hf=>?_|refine twI (fun hc=>?_) fun hc=>?_);exact DVR

end Go.Proofs.YtefkhfkapnmikaaGreat
