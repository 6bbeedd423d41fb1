/-
  Contracts of functions of the program, over the engine.
  No condition.
-/
import Derived.Test.YtefkhfkapnmikaaGreatCX0
import Derived.Test.YtefkhfkapnmikaaGreatCX4
import Derived.Test.YtefkhfkapnmikaaGreatCX5
import Derived.Test.YtefkhfkapnmikaaGreatCY6T21L14Y7Y11Y9Y10Y12Y8Y14
import Derived.Test.YtefkhfkapnmikaaGreatCZP
namespace Go.Proofs.YtefkhfkapnmikaaGreat
open Go.Eng
set_option linter.all false
attribute [local irreducible] DCallsG SWp Fct CallQ XCallQ LCallQ XLCallQ drun xrun
set_option maxHeartbeats 64000000
set_option maxRecDepth 20000

section
variable {n : Net} {s : List Sect} {l : List Rule} {x : Sta} {inf : List Int} {sec : Int}
theorem setR_nil {lv before : List Int} (h1 : lv.length = n.nodes.length) (h2 : before.length = n.links.length) (h3 : rangB before 1000 = true) : setR n [] lv before = (before, 0) := by
  unfold setR;rw [if_neg (fun c => c.elim (fun c => c h1) (fun c => c h2)), if_neg (by rw [h3]; decide), if_neg (by show ¬ (true = false); decide)];rfl
theorem stepC_nil (nb : netB n = true) (sb : staB n x = true) (cb : catB s = true) : stepC n s [] x inf sec = stepR n s x inf sec := by
  have hr : rulesB [] = true := rfl;obtain ⟨l1, l2, l3, l4⟩ := lensB_of (staB_in nb sb).1;rw [stepC_eq (by rw [nb, sb, cb, hr]; rfl), setR_nil (levelsL_len n x.vol) l3 (sta_rang nb sb), if_neg (fun c => c rfl)]
theorem stepR_e (t : Sta) : (stepR n s t inf sec).2.2 = stepE n s t inf sec := by
  unfold stepR;split;next h => exact h.symm
  · rfl
theorem stepR_set {t : Sta} (h : (stepR n s t inf sec).2.2 = 0) : (stepR n s t inf sec).1.set = t.set := by
  rw [stepR_good (by rw [<- stepR_e]; exact h)]; rfl
theorem stepE_like {t : Sta} (h : (netB n && staB n x && catB s) = true) (h2 : (netB n && staB n t && catB s) = true) (e1 : t.vol = x.vol) (e2 : t.pon = x.pon) : stepE n s t inf sec = stepE n s x inf sec ∨ (stepE n s x inf sec = 0 /\ stepE n s t inf sec = 5) ∨ stepE n s x inf sec = 5 := by
  have eB : heldB n t inf = heldB n x inf := by unfold heldB heldA heldL; rw [e1, e2]
  unfold stepE;rw [if_neg (show ¬ (netB n && staB n t && catB s) = false by rw [h2]; decide), if_neg (show ¬ (netB n && staB n x && catB s) = false by rw [h]; decide), eB];split
  · exact .inl rfl
  split
  · exact .inl rfl
  split
  · exact .inl rfl
  split
  · exact .inl rfl
  by_cases c1 : fitS n (heldD n s t inf sec) = false
  · by_cases c2 : fitS n (heldD n s x inf sec) = false
    · exact .inr (.inr (if_pos c2))
    · exact .inr (.inl ⟨if_neg c2, if_pos c1⟩)
  · by_cases c2 : fitS n (heldD n s x inf sec) = false
    · exact .inr (.inr (if_pos c2))
    · exact .inl (by rw [if_neg c1, if_neg c2])
theorem follow_err (hv : (netB n && staB n x && catB s && rulesB l) = true) (he : ¬ (stepC n s l x inf sec).2.2 = 0) : (stepC n s l x inf sec).2.2 = 26 ∨ (stepC n s l x inf sec).2.2 = 9 ∨ (stepC n s l x inf sec).2.2 = (stepR n s x inf sec).2.2 ∨ ((stepR n s x inf sec).2.2 = 0 /\ (stepC n s l x inf sec).2.2 = 5) ∨ (stepR n s x inf sec).2.2 = 5 := by
  obtain ⟨nb, sb, cb, rb⟩ := hv_of hv;obtain ⟨l1, l2, l3, l4⟩ := lensB_of (staB_in nb sb).1;rw [stepC_eq hv] at he ⊢;by_cases h0 : (setR n l (levelsL n x.vol) x.set).2 = 0
  · rw [if_neg (fun c => c h0)];have hs := setR_sta nb sb rb h0;have := stepE_like (s := s) (inf := inf) (sec := sec) (x := x) (t := ⟨x.vol, x.pon, (setR n l (levelsL n x.vol) x.set).1, x.on⟩) (by rw [nb, sb, cb]; rfl) (by rw [nb, hs, cb]; rfl) rfl rfl;rw [stepR_e, stepR_e];exact .inr (.inr this)
  · rw [if_pos h0];have hE : (setR n l (levelsL n x.vol) x.set).2 = 26 ∨ (setR n l (levelsL n x.vol) x.set).2 = 9 := by
      unfold setR at h0 ⊢;have hL := levelsL_len n x.vol;rw [if_neg (fun c => c.elim (fun c => c hL) (fun c => c l3)), if_neg (by rw [sta_rang nb sb]; decide)] at h0 ⊢;split
      · exact .inr rfl
      next h1 =>
        rw [if_neg h1] at h0;split
        · exact .inl rfl
        next o f e => rw [e] at h0; exact absurd rfl h0
    rcases hE with e | e
    · exact .inl e
    · exact .inr (.inl e)
theorem follow_set (hv : (netB n && staB n x && catB s && rulesB l) = true) (he : (stepC n s l x inf sec).2.2 = 0) : (stepC n s l x inf sec).1.set.length = n.links.length /\ l.all (knownR n) = true /\ (∀ k, k < n.links.length -> (stepC n s l x inf sec).1.set.getD k default = wantI n (levelsL n x.vol) l x.set k l.length) /\ stepR n s ⟨x.vol, x.pon, (stepC n s l x inf sec).1.set, x.on⟩ inf sec = stepC n s l x inf sec := by
  obtain ⟨nb, sb, cb, rb⟩ := hv_of hv;have h0 : (setR n l (levelsL n x.vol) x.set).2 = 0 := Classical.byContradiction fun c => by
    rw [stepC_eq hv, if_pos c] at he;exact c he
  have e0 : stepC n s l x inf sec = stepR n s ⟨x.vol, x.pon, (setR n l (levelsL n x.vol) x.set).1, x.on⟩ inf sec := by rw [stepC_eq hv, if_neg (fun c => c h0)]
  obtain ⟨h1, h2, h3, h4, f, h5⟩ := setR_ok h0;rw [e0] at he;have hset := stepR_set he;rw [<- e0] at hset;have hset : (stepC n s l x inf sec).1.set = (setR n l (levelsL n x.vol) x.set).1 := hset;rw [hset];exact ⟨(setK_len h2 h5).1, h4, fun k hk => setK_want nb h2 (fun j hj => known_lnk h4 hj) (Nat.le_refl _) h5 k hk, e0.symm⟩
end
theorem stepR_so {n : Net} {s : List Sect} {x : Sta} {inf : List Int} {sec : Int} (no : netOk n) (co : catOk s) (nb : netB n = true) : staOk (stepR n s x inf sec).1 /\ (stepR n s x inf sec).2.1.passed.length <= 281474976710656 := by
  have hp := @stepR_pas n s x inf sec;have hnn := netB_len nb;refine ⟨?_, by omega⟩;by_cases he : stepE n s x inf sec = 0
  · exact staOk_of nb (stepR_ok no co he).1
  · rw [stepR_bad rfl he];exact zeroS_ok
theorem stepC_so {n : Net} {s : List Sect} {l : List Rule} {x : Sta} {inf : List Int} {sec : Int} (no : netOk n) (co : catOk s) (nb : netB n = true) : staOk (stepC n s l x inf sec).1 /\ (stepC n s l x inf sec).2.1.passed.length <= 281474976710656 := by
  unfold stepC;split
  · exact ⟨zeroS_ok, Nat.zero_le _⟩
  split
  · exact ⟨zeroS_ok, Nat.zero_le _⟩
  · exact stepR_so no co nb
theorem cfollows_f (c : Cas) (inf : List Int) (m : Nat) (hc' : casOk c) (hif : intsOk inf) :
    Pu 3 [casD c, ints inf] m (lb true) := by
  have hil := hif.1;have k1 := fun m => lrg_f c m hc'
  cases hL : lrgB c <;> simp only [hL] at k1
  case true =>
    refine pcN 223 [.tmp 4] [4] Tryz.func3 rfl [] ?_;(repeat' first|refine stW [0,1,2,4,5,6,7,8,9,10,11,12,13,14,15,16,17,18,20,21,22,23,24,26,45,104,106,137,149,150,151,152,163,164,165,166,179,189] ?_|(show CallQ ..;first|refine cQ (fun hcc=>(by exact awake44_f _)) ?_|(refine lP ?_;refine lQ (fun hcc m=>(by exact awake44_f _)) ?_))|refine fctI fun hf=>?_|refine twI (fun hc=>?_) fun hc=>?_);exact DVR
  by_cases h30 : (30 : Int) < (inf.length : Int)
  · (have:=NeI h30);refine pcN 223 [.tmp 4] [4] Tryz.func3 rfl [] ?_;(repeat' first|refine stW [0,1,2,4,5,6,7,8,9,10,11,12,13,14,15,16,17,18,20,21,22,23,24,26,45,104,106,137,149,150,151,152,163,164,165,166,179,189] ?_|(show CallQ ..;first|refine cQ (fun hcc=>(by exact awake44_f _)) ?_|(refine lP ?_;refine lQ (fun hcc m=>(by exact awake44_f _)) ?_))|refine fctI fun hf=>?_|refine twI (fun hc=>?_) fun hc=>?_);exact DVR
  (have:=NeI h30);obtain ⟨no, co, lo, so, _⟩ := hc';obtain ⟨f1, _, f3⟩ := large_f0 hL;have k2 := fun m => r44V_f c.net c.cat c.rul c.sta m no co lo so
  cases hv : (netB c.net && staB c.net c.sta && catB c.cat && rulesB c.rul) <;> simp only [hv] at k2
  · refine pcN 223 [.tmp 4] [4] Tryz.func3 rfl [] ?_;(repeat' first|refine stW [0,1,2,4,5,6,7,8,9,10,11,12,13,14,15,16,17,18,20,21,22,23,24,26,45,104,106,137,149,150,151,152,163,164,165,166,179,189] ?_|(show CallQ ..;first|refine cQ (fun hcc=>(by exact awake44_f _)) ?_|(refine lP ?_;refine lQ (fun hcc m=>(by exact awake44_f _)) ?_))|refine fctI fun hf=>?_|refine twI (fun hc=>?_) fun hc=>?_);exact DVR
  obtain ⟨nb, sb, cb, rb⟩ := hv_of hv;have hnn := netB_len nb;have k3 := fun m => CStep_f c.net c.cat c.rul c.sta inf c.sec m no co lo so hil (by omega)
  have k4 := fun m => CStep_f c.net c.cat [] c.sta inf c.sec m no co ⟨by decide, fun r hr => by cases hr⟩ so hil (by omega)
  have k5 := fun m => Step_f c.net c.cat c.sta inf c.sec m no co so hil (by omega)
  rw [stepC_nil nb sb cb] at k4;have hfe := @follow_err c.net c.cat c.rul c.sta inf c.sec hv;have hfs := @follow_set c.net c.cat c.rul c.sta inf c.sec hv;obtain ⟨p1, p2⟩ := @stepR_so c.net c.cat c.sta inf c.sec no co nb;obtain ⟨q1, q2⟩ := @stepC_so c.net c.cat c.rul c.sta inf c.sec no co nb;have k6 := fun m => same_f (stepR c.net c.cat c.sta inf c.sec).1 (stepR c.net c.cat c.sta inf c.sec).1 m p1 p1
  have k7 := fun m => sameLed_f (stepR c.net c.cat c.sta inf c.sec).2.1 (stepR c.net c.cat c.sta inf c.sec).2.1 m p2 p2
  have k8 := fun m => same_f (stepC c.net c.cat c.rul c.sta inf c.sec).1 (stepC c.net c.cat c.rul c.sta inf c.sec).1 m q1 q1
  have k9 := fun m => sameLed_f (stepC c.net c.cat c.rul c.sta inf c.sec).2.1 (stepC c.net c.cat c.rul c.sta inf c.sec).2.1 m q2 q2
  rw [decide_eq_true rfl] at k6 k7 k8 k9;clear p1 p2 q1 q2;by_cases he : (stepC c.net c.cat c.rul c.sta inf c.sec).2.2 = 0
  case neg =>
    replace hfe := hfe he
    clear hfs k8 k9;generalize stepR c.net c.cat c.sta inf c.sec = RR at *
    generalize stepC c.net c.cat c.rul c.sta inf c.sec = CC at *
    obtain ⟨r1, r2, r3⟩ := RR;obtain ⟨d1, d2, d3⟩ := CC;have hr : r3 = r3 := rfl;(have:=NeI hr);(have:=NeI he);refine pcN 223 [.tmp 4] [4] Tryz.func3 rfl [] ?_;(repeat' first|refine stW [0,1,2,4,5,6,7,8,9,10,11,12,13,14,15,16,17,18,20,21,22,23,24,26,45,104,106,137,149,150,151,152,163,164,165,166,179,189] ?_|(show CallQ ..;first|refine cQ (fun hcc=>(by exact awake44_f _)) ?_|(refine lP ?_;refine lQ (fun hcc m=>(by exact awake44_f _)) ?_))|refine fctI fun hf=>?_|refine twI (fun hc=>?_) fun hc=>?_);(refine DVQ ?_);refine lbC ?_;clear k1 k2 k3 k4 k5 k6 k7;dsimp only at hfe;grind
  obtain ⟨s1, s2, s3, s4⟩ := hfs he;clear hfe;have hsv := sta_vol nb sb;obtain ⟨l1, l2, l3, l4⟩ := lensB_of (staB_in nb sb).1;have a1 := fun m => rLevels29_f c.net c.sta.vol m no nb hsv.1 hsv.2
  have a2 := fun m => rNames_f c.net m (by omega)
  have a3 := fun m => rcopyD_f c.sta m (lenOk_of nb sb)
  have a4 := fun m => cloneI_f (stepC c.net c.cat c.rul c.sta inf c.sec).1.set m (by omega)
  have sb2 : staB c.net ⟨c.sta.vol, c.sta.pon, (stepC c.net c.cat c.rul c.sta inf c.sec).1.set, c.sta.on⟩ = true := by
    have h0 : (setR c.net c.rul (levelsL c.net c.sta.vol) c.sta.set).2 = 0 := Classical.byContradiction fun d => by
      rw [stepC_eq hv, if_pos d] at he;exact d he
    have e0 : stepC c.net c.cat c.rul c.sta inf c.sec = stepR c.net c.cat ⟨c.sta.vol, c.sta.pon, (setR c.net c.rul (levelsL c.net c.sta.vol) c.sta.set).1, c.sta.on⟩ inf c.sec := by rw [stepC_eq hv, if_neg (fun d => d h0)]
    have := setR_sta nb sb rb h0;rw [e0] at he ⊢;rw [stepR_set he];exact this
  have a5 := fun m => Step_f c.net c.cat ⟨c.sta.vol, c.sta.pon, (stepC c.net c.cat c.rul c.sta inf c.sec).1.set, c.sta.on⟩ inf c.sec m no co (staOk_of nb sb2) hil (by omega)
  rw [s4] at a5;have a6 := fun j (hj : j < c.rul.length) m => rHolds_f (c.rul.getD j default) c.net (levelsL c.net c.sta.vol) m (ruleOk_at lo hj) (by omega) (levelsL_len ..) (kn_at s2 hj)
  have hws : ∀ k j, wantI c.net (levelsL c.net c.sta.vol) c.rul c.sta.set k (j + 1) = if (c.rul.getD j default).lnk = (c.net.links.getD k default).name /\ holdB c.net (levelsL c.net c.sta.vol) (c.rul.getD j default) = true then (c.rul.getD j default).setg else wantI c.net (levelsL c.net c.sta.vol) c.rul c.sta.set k j := fun k j => rfl
  have hw0 : ∀ k, wantI c.net (levelsL c.net c.sta.vol) c.rul c.sta.set k 0 = c.sta.set.getD k default := fun k => rfl
  generalize levelsL c.net c.sta.vol = LV at *
  clear s2 s4 sb2;generalize stepR c.net c.cat c.sta inf c.sec = RR at *
  generalize stepC c.net c.cat c.rul c.sta inf c.sec = CC at *
  obtain ⟨r1, r2, r3⟩ := RR;obtain ⟨d1, d2, d3⟩ := CC;have he : d3 = 0 := he;have s1 : d1.set.length = c.net.links.length := s1;have s3 : ∀ k, k < c.net.links.length -> d1.set.getD k default = wantI c.net LV c.rul c.sta.set k c.rul.length := s3;subst he;have hr : r3 = r3 := rfl;(have:=NeI hr);have t1 : (d1.set.length : Int) = (c.net.links.length : Int) := by omega
  (have:=NeI t1);have hrl := lo.1;have hll := no.2.1;refine pcN 223 [.tmp 4] [4] Tryz.func3 rfl [] ?_;(repeat' first|refine stW [0,1,2,4,5,6,7,8,9,10,11,12,13,14,15,16,17,18,20,21,22,23,24,26,45,104,106,137,149,150,151,152,163,164,165,166,179,189] ?_|(show CallQ ..;first|refine cQ (fun hcc=>(by exact awake44_f _)) ?_|(refine lP ?_;refine lQ (fun hcc m=>(by exact awake44_f _)) ?_))|refine fctI fun hf=>?_|refine twI (fun hc=>?_) fun hc=>?_);clear k1 k2 k3 k4 k5 k6 k7 a1 a2;refine loop_swp [1, 2, 5, 6, 14, 15, 149, 150, 151] [0, 312, 320] 984 (fun q A H => ∃ i : Nat, i <= c.net.links.length /\ q = c.net.links.length - i /\ A = [(1, ints inf), (2, .ptr 0 0), (5, .ptr 312 0), (6, .ptr 320 0), (14, ints LV), (15, strs (namesL c.net)), (149, linkL c.net.links), (150, li c.net.links.length), (151, li i)] /\ H = [(0, .blk 33 (casC c)), (312, .blk 31 (staC d1)), (320, .blk 38 (ledgC d2))]) (by omega) ?_ ?_ ?_
  · rintro q A H ⟨i, g1, g2, rfl, rfl⟩;exact SDD
  · refine ⟨_, 0, by omega, rfl, ?_, ?_⟩
    · exact DVR
    · exact DVR
  rintro q A H ⟨i, g1, g2, rfl, rfl⟩;by_cases hi : i < c.net.links.length
  · have hi3 : (i : Int) < (c.net.links.length : Int) := by omega
    have hi4 : i < c.sta.set.length := by omega
    have hi5 : (i : Int) < (c.sta.set.length : Int) := by omega
    have hi6 : i < d1.set.length := by omega
    have hi7 : (i : Int) < (d1.set.length : Int) := by omega
    have hsi := s3 i hi
    replace hw0 := hw0 i
    replace hws := hws i
    (have:=NeI hi);(have:=NeI hi3);(have:=NeI hi4);(have:=NeI hi5);(have:=NeI hi6);(have:=NeI hi7);clear s3;(repeat' first|refine stW [0,1,2,4,5,6,7,8,9,10,11,12,13,14,15,16,17,18,20,21,22,23,24,26,45,104,106,137,149,150,151,152,163,164,165,166,179,189] ?_|refine fctI fun hf=>?_|refine twI (fun hc=>?_) fun hc=>?_);refine loop_swp [1, 2, 5, 6, 14, 15, 16, 17, 18, 149, 150, 151, 163, 164, 165] [0, 312, 320, 1016] 1128 (fun q A H => ∃ j : Nat, j <= c.rul.length /\ q = c.rul.length - j /\ A = [(1, ints inf), (2, .ptr 0 0), (5, .ptr 312 0), (6, .ptr 320 0), (14, ints LV), (15, strs (namesL c.net)), (16, li i), (17, .ptr 1016 0), (18, li (wantI c.net LV c.rul c.sta.set i j)), (149, linkL c.net.links), (150, li c.net.links.length), (151, li i), (163, ruleL c.rul), (164, li c.rul.length), (165, li j)] /\ H = [(0, .blk 33 (casC c)), (312, .blk 31 (staC d1)), (320, .blk 38 (ledgC d2)), (1016, .blk 51 (linkC (c.net.links.getD i default)))]) (by omega) ?_ ?_ ?_
    · rintro q A H ⟨j, g3, g4, rfl, rfl⟩;exact SDD
    · refine ⟨_, 0, by omega, rfl, ?_, ?_⟩
      · rw [hw0];exact DVR
      · exact DVR
    rintro q A H ⟨j, g3, g4, rfl, rfl⟩;by_cases hj : j < c.rul.length
    · have hj3 : (j : Int) < (c.rul.length : Int) := by omega
      have b1 := fun m => a6 j hj m
      have hwj := hws j;generalize wantI c.net LV c.rul c.sta.set i j = W1 at *
      (have:=NeI hj);(have:=NeI hj3);clear a6 hws hw0 hsi;by_cases hn : (c.rul.getD j default).lnk = (c.net.links.getD i default).name
      case neg =>
        rw [if_neg (fun d => hn d.1)] at hwj;(have:=NeI hn);clear hn;(repeat' first|refine stW [0,1,2,4,5,6,7,8,9,10,11,12,13,14,15,16,17,18,20,21,22,23,24,26,45,104,106,137,149,150,151,152,163,164,165,166,179,189] ?_|refine fctI fun hf=>?_|refine twI (fun hc=>?_) fun hc=>?_);(refine lN [0, 312, 320, 1016] ?_);exact ⟨_, by omega, j + 1, by omega, rfl, by rw [hwj] <;> rfl, rfl⟩
      cases hh : holdB c.net LV (c.rul.getD j default) <;> simp only [hh] at b1
      · rw [if_neg (fun d => by rw [hh] at d; cases d.2)] at hwj;(have:=NeI hn);clear hn;(repeat' first|refine stW [0,1,2,4,5,6,7,8,9,10,11,12,13,14,15,16,17,18,20,21,22,23,24,26,45,104,106,137,149,150,151,152,163,164,165,166,179,189] ?_|refine fctI fun hf=>?_|refine twI (fun hc=>?_) fun hc=>?_);(refine lN [0, 312, 320, 1016] ?_);exact ⟨_, by omega, j + 1, by omega, rfl, by rw [hwj] <;> rfl, rfl⟩
      · rw [if_pos ⟨hn, hh⟩] at hwj;(have:=NeI hn);clear hn;(repeat' first|refine stW [0,1,2,4,5,6,7,8,9,10,11,12,13,14,15,16,17,18,20,21,22,23,24,26,45,104,106,137,149,150,151,152,163,164,165,166,179,189] ?_|refine fctI fun hf=>?_|refine twI (fun hc=>?_) fun hc=>?_);(refine lN [0, 312, 320, 1016] ?_);exact ⟨_, by omega, j + 1, by omega, rfl, by rw [hwj] <;> rfl, rfl⟩
    obtain rfl : j = c.rul.length := by omega
    have hj3 : ¬ ((c.rul.length : Int) < (c.rul.length : Int)) := by omega
    (have:=NeI hj3);clear a6 hws hw0;generalize wantI c.net LV c.rul c.sta.set i c.rul.length = W at *
    (have:=NeI hsi);clear hsi;(repeat' first|refine stW [0,1,2,4,5,6,7,8,9,10,11,12,13,14,15,16,17,18,20,21,22,23,24,26,45,104,106,137,149,150,151,152,163,164,165,166,179,189] ?_|refine fctI fun hf=>?_|refine twI (fun hc=>?_) fun hc=>?_);(refine lN [0, 312, 320] ?_);exact ⟨_, by omega, i + 1, by omega, rfl, rfl, rfl⟩
  obtain rfl : i = c.net.links.length := by omega
  have hi3 : ¬ ((c.net.links.length : Int) < (c.net.links.length : Int)) := by omega
  (have:=NeI hi3);clear a6 hws hw0 s3;(repeat' first|(show SWp _ _ _ (.seq (.region 31 _ _) _) _ _ _ _;refine (stop_in ?_))|refine stW [0,1,2,4,5,6,7,8,9,10,11,12,13,14,15,16,17,18,20,21,22,23,24,26,45,104,106,137,149,150,151,152,163,164,165,166,179,189] ?_|refine fctI fun hf=>?_|refine twI (fun hc=>?_) fun hc=>?_);refine stop_out ?_;(refine sF 1048 ?_);rw [show DV.frzL 1048 (FV.elems 1 (List.map inRow d1.set)) (List.take 2 (staC c.sta) ++ [DV.gl 1048] ++ List.drop 3 (staC c.sta)) = staC ⟨c.sta.vol, c.sta.pon, d1.set, c.sta.on⟩ from rfl];(repeat' first|refine stW [0,1,2,4,5,6,7,8,9,10,11,12,13,14,15,16,17,18,20,21,22,23,24,26,45,104,106,137,149,150,151,152,163,164,165,166,179,189] ?_|refine fctI fun hf=>?_|refine twI (fun hc=>?_) fun hc=>?_);exact DVR

end Go.Proofs.YtefkhfkapnmikaaGreat
