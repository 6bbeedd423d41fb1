/-
  Contracts of functions of the program, over the engine.
  No condition.
-/
import Derived.Test.YtefkhfkapnmikaaGreatCX4
import Derived.Test.YtefkhfkapnmikaaGreatCXA
import Derived.Test.YtefkhfkapnmikaaGreatCX8
namespace Go.Proofs.YtefkhfkapnmikaaGreat
open Go.Eng
set_option linter.all false
attribute [local irreducible] DCallsG SWp Fct CallQ XCallQ LCallQ XLCallQ drun xrun
set_option maxHeartbeats 64000000
set_option maxRecDepth 20000

theorem adj_like {n : Net} {l : List Rule} {ss : List Sta} {L : Nat} {k : Nat} (h : ∀ j, j < k -> likeS n l ss L (L - j) = true) (hk : 1 <= k) : likeS n l ss L (L - k) = likeS n l ss (L - (k - 1)) (L - k) := like_trans (h (k - 1) (by omega))
theorem rCSteady_f (n : Net) (l : List Rule) (ss : List Sta) (m : Nat) (no : netOk n) (lo : rulOk l) (hs : stasOk ss) :
    Pu 34 [netD n, ruleL l, staL ss] m (.tup [li (steadyR n l ss).1, li (steadyR n l ss).2]) := by
  have k1 := fun m => rCLog_f n l ss m no lo hs
  by_cases h0 : (logR n l ss).2 = 0
  case neg =>
    rw [show steadyR n l ss = (0, (logR n l ss).2) from if_pos h0];generalize logR n l ss = R at *
    obtain ⟨r1, r2⟩ := R;(have:=NeI h0);refine pcN 63 [.tmp 6,.tmp 7] [3,3] Tryz.func34 rfl [] ?_;(repeat' first|refine stW [0,1,2,3,6,7,8,9,10,11,20,25,29,58] ?_|refine fctI fun hf=>?_|refine twI (fun hc=>?_) fun hc=>?_);exact DVR
  rw [show steadyR n l ss = (((steadyF (fun k => likeS n l ss (ss.length - 1) (ss.length - 1 - k)) ss.length ss.length 0 : Nat) : Int), 0) from if_neg (fun c => c h0)];obtain ⟨hv, h10, hka, hlg⟩ := logR_0 h0;rw [h0, hlg] at k1;obtain ⟨nb, hall⟩ := listB_in (Bool.and_eq_true _ _ ▸ hv).1;have hLl := logL_len n l ss;have hLm : ∀ x, x ∈ logL n l ss -> x.length <= 281474976710656 := fun x hx => by
    obtain ⟨y, _, rfl⟩ := List.mem_map.1 hx;have := firedK_len n (levelsL n y.vol) l l.length;have := lo.1;omega
  have hat : ∀ i j, likeS n l ss i j = (decide ((ss.getD i default).set = (ss.getD j default).set) && decide ((ss.getD i default).on = (ss.getD j default).on) && decide ((logL n l ss).getD i default = (logL n l ss).getD j default)) := fun i j => rfl
  have hstop := fun k h => @steady_stop (fun k => likeS n l ss (ss.length - 1) (ss.length - 1 - k)) ss.length k h (ss.length - k)
  have hsat := fun k h1 h2 => @steady_at (fun k => likeS n l ss (ss.length - 1) (ss.length - 1 - k)) ss.length k h1 h2
  generalize hSF : steadyF (fun k => likeS n l ss (ss.length - 1) (ss.length - 1 - k)) ss.length ss.length 0 = SF at *
  generalize logL n l ss = LG at *
  clear hSF hv hka hlg h0;cases hN : ss.length with
  | zero =>
    have hz : SF = 0 := by
      rw [hsat 0 (by omega) (by omega)];exact hstop 0 (.inl (by omega))
    subst hz;have hz3 : ss.length = 0 := hN;have hz4 : (ss.length : Int) = 0 := by omega
    have hz5 : ¬ (0 : Int) < (ss.length : Int) := by omega
    (have:=NeI hz5);clear hstop hsat hat hall hLm;refine pcN 63 [.tmp 6,.tmp 7] [3,3] Tryz.func34 rfl [] ?_;(repeat' first|refine stW [0,1,2,3,6,7,8,9,10,11,20,25,29,58] ?_|refine fctI fun hf=>?_|refine twI (fun hc=>?_) fun hc=>?_);refine loop_swp [2, 8, 10] [] 160 (fun q A H => q = 0 /\ A = [(2, staL ss), (8, intss LG), (10, li ss.length)] /\ H = []) (by omega) ?_ ?_ ?_
    · rintro q A H ⟨g1, rfl, rfl⟩;exact SDD
    · refine ⟨_, rfl, ?_, ?_⟩
      · exact DVR
      · exact DVR
    rintro q A H ⟨g1, rfl, rfl⟩;have hz6 : ¬ (ss.length : Int) < (ss.length : Int) := by omega
    (have:=NeI hz6);(repeat' first|refine stW [0,1,2,3,6,7,8,9,10,11,20,25,29,58] ?_|refine fctI fun hf=>?_|refine twI (fun hc=>?_) fun hc=>?_);rw [hz4];exact DVR
  | succ L =>
    have e1 : ss.length - 1 = L := by omega
    rw [e1] at hstop hsat
    have hsm : ∀ x, x ∈ ss -> staOk x := hs.2;have hz5 : (0 : Int) < (ss.length : Int) := by omega
    (have:=NeI hz5);refine pcN 63 [.tmp 6,.tmp 7] [3,3] Tryz.func34 rfl [] ?_;(repeat' first|refine stW [0,1,2,3,6,7,8,9,10,11,20,25,29,58] ?_|refine fctI fun hf=>?_|refine twI (fun hc=>?_) fun hc=>?_);refine loop_swp [2, 8, 10] [] 160 (fun q A H => ∃ k : Nat, 1 <= k /\ k <= L + 1 /\ q = L + 1 - k /\ (∀ j, j < k -> likeS n l ss L (L - j) = true) /\ A = [(2, staL ss), (8, intss LG), (10, li k)] /\ H = []) (by omega) ?_ ?_ ?_
    · rintro q A H ⟨k, g0, g1, g2, g3, rfl, rfl⟩;exact SDD
    · refine ⟨_, 1, by omega, by omega, rfl, fun j hj => ?_, ?_, ?_⟩
      · rw [show j = 0 by omega];exact like_refl n l ss L
      · exact DVR
      · exact DVR
    rintro q A H ⟨k, g0, g1, g2, g3, rfl, rfl⟩;by_cases hk : k <= L
    · obtain ⟨p, hp, hp1, hp2⟩ : ∃ p : Nat, (ss.length : Int) - (k : Int) = ((p + 1 : Nat) : Int) /\ L - k = p /\ L - (k - 1) = p + 1 := ⟨L - k, by omega, rfl, by omega⟩;haveI : SubOk (ss.length : Int) (k : Int) ((p : Int) + 1) := ⟨by omega⟩;haveI : SubOk ((p : Int) + 1) 1 (p : Int) := ⟨by omega⟩;have hk3 : (k : Int) < (ss.length : Int) := by omega
      have hpl : p < ss.length := by omega
      have hpl3 : (p : Int) < (ss.length : Int) := by omega
      have hql : p + 1 < ss.length := by omega
      have hql3 : ((p + 1 : Nat) : Int) < (ss.length : Int) := by omega
      have hql4 : (p : Int) + 1 < (ss.length : Int) := by omega
      have hpg : p < LG.length := by omega
      have hpg3 : (p : Int) < (LG.length : Int) := by omega
      have hqg : p + 1 < LG.length := by omega
      have hqg4 : (p : Int) + 1 < (LG.length : Int) := by omega
      have hak := adj_like g3 g0;rw [hp1, hp2, @like_symm n l ss (p + 1) p, hat p (p + 1)] at hak;have hsk := hstop k;have hqk := hsat k (by omega) g3;have hnx : likeS n l ss L (L - k) = true -> ∀ j, j < k + 1 -> likeS n l ss L (L - j) = true := fun h j hj => by
        by_cases e : j = k
        · subst e; exact h
        · exact g3 j (by omega)
      rw [hp1] at hsk hnx;obtain ⟨v1, v2, v3, v4⟩ := lensB_of (staB_in nb (hall _ (getD_mem hpl))).1;obtain ⟨w1, w2, w3, w4⟩ := lensB_of (staB_in nb (hall _ (getD_mem hql))).1;obtain ⟨_, _, ⟨a3, _⟩, a4⟩ := hsm _ (getD_mem hpl);have k2 := fun m => rSwitches_f (ss.getD p default) (ss.getD (p + 1) default) m a3 (by omega) (by omega) (by omega)
      have hsw := @swI_same (ss.getD p default) (ss.getD (p + 1) default) (ss.getD p default).set.length ⟨rfl, by omega⟩ ⟨by omega, by omega⟩;have hsi := (swI_in (a := ss.getD p default) (b := ss.getD (p + 1) default) (ss.getD p default).set.length).1;have k4 := fun m => sameInts_f (LG.getD p default) (LG.getD (p + 1) default) m (hLm _ (getD_mem hpg)) (hLm _ (getD_mem hqg))
      generalize swI (ss.getD p default) (ss.getD (p + 1) default) (ss.getD p default).set.length = W at *
      generalize decide (LG.getD p default = LG.getD (p + 1) default) = d3 at *
      (have:=NeI hk3);(have:=NeI hpl);(have:=NeI hpl3);(have:=NeI hql);(have:=NeI hql3);(have:=NeI hql4);(have:=NeI hpg);(have:=NeI hpg3);(have:=NeI hqg);(have:=NeI hqg4);clear g3 hstop hsat hat hsm hall hLm;by_cases hw : 0 < W
      · have hne : ¬ ((ss.getD p default).set = (ss.getD (p + 1) default).set /\ (ss.getD p default).on = (ss.getD (p + 1) default).on) := fun c => by have := hsw.2 c; omega
        have hf : likeS n l ss L p = false := by
          rw [hak, Bool.and_eq_false_iff];refine .inl ?_;rw [Bool.and_eq_false_iff, decide_eq_false_iff_not, decide_eq_false_iff_not];by_cases c : (ss.getD p default).set = (ss.getD (p + 1) default).set
          · exact .inr fun c2 => hne ⟨c, c2⟩
          · exact .inl c
        rw [hqk, hsk (.inr hf)];(have:=NeI hw);clear hqk hsk hnx hak hsw;(repeat' first|refine stW [0,1,2,3,6,7,8,9,10,11,20,25,29,58] ?_|refine fctI fun hf=>?_|refine twI (fun hc=>?_) fun hc=>?_);exact DVR
      · obtain ⟨c1, c2⟩ := hsw.1 (by omega);rw [decide_eq_true c1, decide_eq_true c2, Bool.true_and, Bool.true_and] at hak;(have:=NeI hw);cases d3
        · rw [hqk, hsk (.inr hak)];clear hqk hsk hnx hak hsw c1 c2;(repeat' first|refine stW [0,1,2,3,6,7,8,9,10,11,20,25,29,58] ?_|refine fctI fun hf=>?_|refine twI (fun hc=>?_) fun hc=>?_);exact DVR
        · replace hnx := hnx hak
          clear hqk hsk hak hsw c1 c2;(repeat' first|refine stW [0,1,2,3,6,7,8,9,10,11,20,25,29,58] ?_|refine fctI fun hf=>?_|refine twI (fun hc=>?_) fun hc=>?_);(refine lN [] ?_);exact ⟨_, by omega, k + 1, by omega, by omega, rfl, hnx, rfl, rfl⟩
    obtain rfl : k = L + 1 := by omega
    rw [hsat (L + 1) (by omega) g3, hstop (L + 1) (.inl hN.symm)];have hk3 : ¬ ((L + 1 : Nat) : Int) < (ss.length : Int) := by omega
    have hk4 : ¬ (L : Int) + 1 < (ss.length : Int) := by omega
    (have:=NeI hk3);(have:=NeI hk4);clear g3 hstop hsat hat hsm hall hLm;(repeat' first|refine stW [0,1,2,3,6,7,8,9,10,11,20,25,29,58] ?_|refine fctI fun hf=>?_|refine twI (fun hc=>?_) fun hc=>?_);exact DVR
theorem eqfIl4_f (g : FuncId) (a b : List (List Int)) (m : Nat) (ha : a.length <= 281474976710656) (hb : b.length <= 281474976710656) (hg : ∀ x, x ∈ a -> ∀ y, y ∈ b -> ∀ m, Pu g [ints x, ints y] m (lb (decide (x = y)))) :
    Pu 37 [intss a, intss b, .clo g []] m (lb (decide (a = b))) := by
  by_cases hn : (a.length : Int) = (b.length : Int)
  case neg =>
    have hne : ¬ a = b := fun e => hn (by rw [e])
    rw [decide_eq_false hne];(have:=NeI hn);refine pcN 32 [.tmp 6] [4] Tryz.func37 rfl [] ?_;(repeat' first|refine stW [0,1,2,6,7,8,9,14,15,16,17,18,30] ?_|refine fctI fun hf=>?_|refine twI (fun hc=>?_) fun hc=>?_);exact DVR
  (have:=NeI hn);refine pcN 32 [.tmp 6] [4] Tryz.func37 rfl [] ?_;(repeat' first|refine stW [0,1,2,6,7,8,9,14,15,16,17,18,30] ?_|refine fctI fun hf=>?_|refine twI (fun hc=>?_) fun hc=>?_);refine loop_swp [1, 2, 15, 16, 17] [] 72 (fun q A H => ∃ i : Nat, i <= a.length /\ q = a.length - i /\ a.take i = b.take i /\ A = [(1, intss b), (2, .clo g []), (15, intss a), (16, li a.length), (17, li i)] /\ H = []) (by omega) ?_ ?_ ?_
  · rintro q A H ⟨i, g1, g2, g3, rfl, rfl⟩;exact SDD
  · refine ⟨_, 0, by omega, rfl, rfl, ?_, ?_⟩
    · exact DVR
    · exact DVR
  rintro q A H ⟨i, g1, g2, g3, rfl, rfl⟩;by_cases hi : i < a.length
  · have hi3 : (i : Int) < (a.length : Int) := by omega
    have hi4 : i < b.length := by omega
    have hi5 : (i : Int) < (b.length : Int) := by omega
    have cg := fun m => hg _ (getD_mem hi) _ (getD_mem hi4) m
    (have:=NeI hi);(have:=NeI hi3);(have:=NeI hi4);(have:=NeI hi5);clear hg;by_cases he : a.getD i default = b.getD i default
    · rw [decide_eq_true he] at cg;(repeat' first|refine stW [0,1,2,6,7,8,9,14,15,16,17,18,30] ?_|refine fctI fun hf=>?_|refine twI (fun hc=>?_) fun hc=>?_);(refine lN [] ?_);exact ⟨_, by omega, i + 1, by omega, rfl, take_next g3 (by omega) (by omega) he, rfl, rfl⟩
    · rw [decide_eq_false he] at cg;rw [decide_eq_false (fun e => he (by rw [e]))];clear he;(repeat' first|refine stW [0,1,2,6,7,8,9,14,15,16,17,18,30] ?_|refine fctI fun hf=>?_|refine twI (fun hc=>?_) fun hc=>?_);exact DVR
  obtain rfl : i = a.length := by omega
  have hi3 : ¬ ((a.length : Int) < (a.length : Int)) := by omega
  have hab : a = b := by
    have h4 := g3;rw [List.take_length, List.take_of_length_le (by omega)] at h4;exact h4
  rw [decide_eq_true hab];(have:=NeI hi3);clear hg g3 hab;(repeat' first|refine stW [0,1,2,6,7,8,9,14,15,16,17,18,30] ?_|refine fctI fun hf=>?_|refine twI (fun hc=>?_) fun hc=>?_);exact DVR
theorem logR_ok {n : Net} {l : List Rule} {ss : List Sta} (lo : l.length <= 281474976710656) (hs : ss.length <= 281474976710656) : (logR n l ss).1.length <= 281474976710656 /\ ∀ x, x ∈ (logR n l ss).1 -> x.length <= 281474976710656 := by
  have hLm : ∀ x, x ∈ logL n l ss -> x.length <= 281474976710656 := fun x hx => by
    obtain ⟨y, _, rfl⟩ := List.mem_map.1 hx;have := firedK_len n (levelsL n y.vol) l l.length;omega
  unfold logR;split
  · exact ⟨by decide, fun x hx => by cases hx⟩
  split
  · exact ⟨by decide, fun x hx => by cases hx⟩
  split
  · exact ⟨by decide, fun x hx => by cases hx⟩
  · exact ⟨by show (logL n l ss).length <= _; rw [logL_len]; exact hs, hLm⟩
theorem clogs_f (c : Cas) (ss : List Sta) (t : ByteArray) (m : Nat) (hc' : casOk c) (hs : stasOk ss) (ht : t.size <= 281474976710656) :
    Pu 6 [casD c, staL ss, ls t] m (lb true) := by
  have hs1 := hs.1;have k1 := fun m => lrg_f c m hc'
  cases hL : lrgB c <;> simp only [hL] at k1
  case true =>
    refine pcN 141 [.tmp 6] [4] Tryz.func6 rfl [] ?_;(repeat' first|refine stW [0,1,2,3,6,7,8,9,10,11,12,13,14,15,16,17,18,19,20,21,22,24,40] ?_|(show CallQ ..;first|refine cQ (fun hcc=>(by exact awake44_f _)) ?_|(refine lP ?_;refine lQ (fun hcc m=>(by exact awake44_f _)) ?_))|refine fctI fun hf=>?_|refine twI (fun hc=>?_) fun hc=>?_);exact DVR
  have k2 := fun m => conSta_f 30 wideB ss m hs.1 (fun x hx m => wide_f x m (hs.2 x hx))
  by_cases h12 : (12 : Int) < (ss.length : Int)
  · (have:=NeI h12);refine pcN 141 [.tmp 6] [4] Tryz.func6 rfl [] ?_;(repeat' first|refine stW [0,1,2,3,6,7,8,9,10,11,12,13,14,15,16,17,18,19,20,21,22,24,40] ?_|(show CallQ ..;first|refine cQ (fun hcc=>(by exact awake44_f _)) ?_|(refine lP ?_;refine lQ (fun hcc m=>(by exact awake44_f _)) ?_))|refine fctI fun hf=>?_|refine twI (fun hc=>?_) fun hc=>?_);exact DVR
  by_cases h13 : (100 : Int) < (t.size : Int)
  · (have:=NeI h12);(have:=NeI h13);refine pcN 141 [.tmp 6] [4] Tryz.func6 rfl [] ?_;(repeat' first|refine stW [0,1,2,3,6,7,8,9,10,11,12,13,14,15,16,17,18,19,20,21,22,24,40] ?_|(show CallQ ..;first|refine cQ (fun hcc=>(by exact awake44_f _)) ?_|(refine lP ?_;refine lQ (fun hcc m=>(by exact awake44_f _)) ?_))|refine fctI fun hf=>?_|refine twI (fun hc=>?_) fun hc=>?_);exact DVR
  (have:=NeI h12);(have:=NeI h13);cases hW : ss.any wideB <;> simp only [hW] at k2
  case true =>
    refine pcN 141 [.tmp 6] [4] Tryz.func6 rfl [] ?_;(repeat' first|refine stW [0,1,2,3,6,7,8,9,10,11,12,13,14,15,16,17,18,19,20,21,22,24,40] ?_|(show CallQ ..;first|refine cQ (fun hcc=>(by exact awake44_f _)) ?_|(refine lP ?_;refine lQ (fun hcc m=>(by exact awake44_f _)) ?_))|refine fctI fun hf=>?_|refine twI (fun hc=>?_) fun hc=>?_);exact DVR
  obtain ⟨no, co, lo, so, _⟩ := hc';have a1 := fun m => CLog_f c.net c.rul ss m no lo hs
  have a2 := fun m => rCLog_f c.net c.rul ss m no lo hs
  have a3 := fun m => CSteady_f c.net c.rul ss m no lo hs
  have a4 := fun m => rCSteady_f c.net c.rul ss m no lo hs
  have a5 := fun m => CSwitched_f ss m hs
  have a6 := fun m => rSwitched_f ss m hs
  have a7 := fun m => CLeast_f c.net ss t m no hs
  have a8 := fun m => rCLeast_f c.net ss t m no hs
  obtain ⟨o1, o2⟩ := @logR_ok c.net c.rul ss lo.1 hs.1;have a9 := fun m => eqfIl4_f 38 (logR c.net c.rul ss).1 (logR c.net c.rul ss).1 m o1 o1 (fun x hx y hy m => eqlInt_f x y m (o2 x hx) (o2 y hy))
  rw [decide_eq_true rfl] at a9;generalize logR c.net c.rul ss = R1 at *
  generalize steadyR c.net c.rul ss = R2 at *
  generalize switchR ss = R3 at *
  generalize leastR c.net ss t = R4 at *
  obtain ⟨x1, y1⟩ := R1;obtain ⟨x2, y2⟩ := R2;obtain ⟨x3, y3⟩ := R3;obtain ⟨x4, y4⟩ := R4;have e1 : y1 = y1 := rfl;have e2 : y2 = y2 := rfl;have e3 : y3 = y3 := rfl;have e4 : y4 = y4 := rfl;have e5 : x2 = x2 := rfl;have e6 : x3 = x3 := rfl;have e7 : x4 = x4 := rfl;(have:=NeI e1);(have:=NeI e2);(have:=NeI e3);(have:=NeI e4);(have:=NeI e5);(have:=NeI e6);(have:=NeI e7);clear o1 o2;refine pcN 141 [.tmp 6] [4] Tryz.func6 rfl [] ?_;(repeat' first|refine stW [0,1,2,3,6,7,8,9,10,11,12,13,14,15,16,17,18,19,20,21,22,24,40] ?_|(show CallQ ..;first|refine cQ (fun hcc=>(by exact awake44_f _)) ?_|(refine lP ?_;refine lQ (fun hcc m=>(by exact awake44_f _)) ?_))|refine fctI fun hf=>?_|refine twI (fun hc=>?_) fun hc=>?_);exact DVR

end Go.Proofs.YtefkhfkapnmikaaGreat
