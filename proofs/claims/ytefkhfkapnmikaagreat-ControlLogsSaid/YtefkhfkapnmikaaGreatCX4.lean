/-
  Contracts of functions of the program, over the engine.
  No condition.
-/
import Derived.Test.YtefkhfkapnmikaaGreatCX2
import Derived.Test.YtefkhfkapnmikaaGreatCX3
import Derived.Test.YtefkhfkapnmikaaGreatCX0
namespace Go.Proofs.YtefkhfkapnmikaaGreat
open Go.Eng
set_option linter.all false
attribute [local irreducible] DCallsG SWp Fct CallQ XCallQ LCallQ XLCallQ drun xrun
set_option maxHeartbeats 64000000
set_option maxRecDepth 20000

theorem CStep_f (n : Net) (s : List Sect) (l : List Rule) (x : Sta) (inf : List Int) (sec : Int) (m : Nat) (no : netOk n) (co : catOk s) (lo : rulOk l) (so : staOk x) (hil : inf.length <= 281474976710656) (h14 : n.nodes.length <= 14) :
    Pu 10 [netD n, sectL s, ruleL l, staD x, ints inf, li sec] m (.tup [staD (stepC n s l x inf sec).1, ledgD (stepC n s l x inf sec).2.1, li (stepC n s l x inf sec).2.2]) := by
  have k1 := fun m => cat_f s m co
  have k2 := fun m => rulesV_f l m lo
  have k3 := fun m => staValid_f n x m no so
  cases h1 : catB s <;> simp only [h1] at k1
  · rw [show stepC n s l x inf sec = (zeroS, zeroL, 1) from if_pos (by rw [h1, Bool.and_false, Bool.false_and])];refine pcN 71 [.cell 12 31,.cell 13 38,.tmp 14] [31,38,39] Tryz.func10 rfl [] ?_;(repeat' first|refine stW [0,1,2,3,4,5,6,9,12,13,14,15,16,17,31,42,56] ?_|refine fctI fun hf=>?_|refine twI (fun hc=>?_) fun hc=>?_);exact DVR
  cases h2 : rulesB l <;> simp only [h2] at k2
  · rw [show stepC n s l x inf sec = (zeroS, zeroL, 1) from if_pos (by rw [h2, Bool.and_false])];refine pcN 71 [.cell 12 31,.cell 13 38,.tmp 14] [31,38,39] Tryz.func10 rfl [] ?_;(repeat' first|refine stW [0,1,2,3,4,5,6,9,12,13,14,15,16,17,31,42,56] ?_|refine fctI fun hf=>?_|refine twI (fun hc=>?_) fun hc=>?_);exact DVR
  cases h3 : (netB n && staB n x) <;> simp only [h3] at k3
  · rw [show stepC n s l x inf sec = (zeroS, zeroL, 1) from if_pos (by rw [h3, Bool.false_and, Bool.false_and])];refine pcN 71 [.cell 12 31,.cell 13 38,.tmp 14] [31,38,39] Tryz.func10 rfl [] ?_;(repeat' first|refine stW [0,1,2,3,4,5,6,9,12,13,14,15,16,17,31,42,56] ?_|refine fctI fun hf=>?_|refine twI (fun hc=>?_) fun hc=>?_);exact DVR
  have hv : (netB n && staB n x && catB s && rulesB l) = true := by rw [h3, h1, h2]; rfl
  rw [stepC_eq hv];obtain ⟨nb, sb, cb, rb⟩ := hv_of hv;have hsv := sta_vol nb sb;obtain ⟨l1, l2, l3, l4⟩ := lensB_of (staB_in nb sb).1;have k4 := fun m => Levels_f n x.vol m no nb hsv.1 hsv.2
  have k5 := fun m => rsett_f l n (levelsL n x.vol) x.set m lo no nb rb (levelsL_len n x.vol) l3 (sta_rang nb sb)
  have hs' := fun h => setR_sta (l := l) nb sb rb h
  generalize levelsL n x.vol = LV at *
  generalize setR n l LV x.set = R at *
  obtain ⟨S, e⟩ := R;by_cases h0 : e = 0
  case neg =>
    rw [if_pos h0];(have:=NeI h0);clear hs';refine pcN 71 [.cell 12 31,.cell 13 38,.tmp 14] [31,38,39] Tryz.func10 rfl [] ?_;(repeat' first|refine stW [0,1,2,3,4,5,6,9,12,13,14,15,16,17,31,42,56] ?_|refine fctI fun hf=>?_|refine twI (fun hc=>?_) fun hc=>?_);exact DVR
  rw [if_neg (fun c => c h0)];have sb2 := hs' h0;have k6 := fun m => Step_f n s ⟨x.vol, x.pon, S, x.on⟩ inf sec m no co (staOk_of nb sb2) hil h14
  subst h0;clear hs';generalize stepR n s ⟨x.vol, x.pon, S, x.on⟩ inf sec = R at *
  obtain ⟨r1, r2, r3⟩ := R;refine pcN 71 [.cell 12 31,.cell 13 38,.tmp 14] [31,38,39] Tryz.func10 rfl [] ?_;(repeat' first|(show SWp _ _ _ (.seq (.region 10 _ _) _) _ _ _ _;refine (stop_in ?_))|refine stW [0,1,2,3,4,5,6,9,12,13,14,15,16,17,31,42,56] ?_|refine fctI fun hf=>?_|refine twI (fun hc=>?_) fun hc=>?_);refine stop_out ?_;rw [show List.take 2 (staC x) ++ [ints S] ++ List.drop 3 (staC x) = staC ⟨x.vol, x.pon, S, x.on⟩ from rfl];(repeat' first|refine stW [0,1,2,3,4,5,6,9,12,13,14,15,16,17,31,42,56] ?_|refine fctI fun hf=>?_|refine twI (fun hc=>?_) fun hc=>?_);exact DVR
theorem CRun_f (n : Net) (s : List Sect) (l : List Rule) (x : Sta) (infl : List Infl) (sec steps : Int) (m : Nat) (no : netOk n) (co : catOk s) (lo : rulOk l) (so : staOk x) (hi : inflsOk infl) (h14 : n.nodes.length <= 14) :
    Pu 20 [netD n, sectL s, ruleL l, staD x, inflL infl, li sec, li steps] m (.tup [staL (runC n s l x infl sec steps).1, ledgL (runC n s l x infl sec steps).2.1, li (runC n s l x infl sec steps).2.2]) := by
  have k1 := fun m => cat_f s m co
  have k2 := fun m => rulesV_f l m lo
  have k3 := fun m => staValid_f n x m no so
  cases h1 : catB s <;> simp only [h1] at k1
  · rw [show runC n s l x infl sec steps = ([], [], 1) from if_pos (by rw [h1, Bool.and_false, Bool.false_and])];refine pcN 85 [.tmp 14,.tmp 15,.tmp 16] [61,62,39] Tryz.func20 rfl [] ?_;(repeat' first|refine stW [0,1,2,3,4,5,6,7,10,14,15,16,17,18,19,20,21,22,23,24,39,50,52,53,54,71] ?_|refine fctI fun hf=>?_|refine twI (fun hc=>?_) fun hc=>?_);exact DVR
  cases h2 : rulesB l <;> simp only [h2] at k2
  · rw [show runC n s l x infl sec steps = ([], [], 1) from if_pos (by rw [h2, Bool.and_false])];refine pcN 85 [.tmp 14,.tmp 15,.tmp 16] [61,62,39] Tryz.func20 rfl [] ?_;(repeat' first|refine stW [0,1,2,3,4,5,6,7,10,14,15,16,17,18,19,20,21,22,23,24,39,50,52,53,54,71] ?_|refine fctI fun hf=>?_|refine twI (fun hc=>?_) fun hc=>?_);exact DVR
  cases h3 : (netB n && staB n x) <;> simp only [h3] at k3
  · rw [show runC n s l x infl sec steps = ([], [], 1) from if_pos (by rw [h3, Bool.false_and, Bool.false_and])];refine pcN 85 [.tmp 14,.tmp 15,.tmp 16] [61,62,39] Tryz.func20 rfl [] ?_;(repeat' first|refine stW [0,1,2,3,4,5,6,7,10,14,15,16,17,18,19,20,21,22,23,24,39,50,52,53,54,71] ?_|refine fctI fun hf=>?_|refine twI (fun hc=>?_) fun hc=>?_);exact DVR
  have hv : (netB n && staB n x && catB s && rulesB l) = true := by rw [h3, h1, h2]; rfl
  obtain ⟨nb, sb, cb, rb⟩ := hv_of hv;have hrun : runC n s l x infl sec steps = if steps < 0 ∨ 10000 < steps then ([], [], 2) else if ¬ wrongC n infl = 0 then ([], [], wrongC n infl) else ((runG (goC n s l infl sec) x steps.toNat).ss, (runG (goC n s l infl sec) x steps.toNat).gs, (runG (goC n s l infl sec) x steps.toNat).e) := if_neg (by rw [hv]; decide)
  rw [hrun];clear hrun;by_cases hb1 : steps < 0
  · rw [if_pos (.inl hb1)];(have:=NeI hb1);refine pcN 85 [.tmp 14,.tmp 15,.tmp 16] [61,62,39] Tryz.func20 rfl [] ?_;(repeat' first|refine stW [0,1,2,3,4,5,6,7,10,14,15,16,17,18,19,20,21,22,23,24,39,50,52,53,54,71] ?_|refine fctI fun hf=>?_|refine twI (fun hc=>?_) fun hc=>?_);exact DVR
  by_cases hb2 : 10000 < steps
  · rw [if_pos (.inr hb2)];(have:=NeI hb1);(have:=NeI hb2);refine pcN 85 [.tmp 14,.tmp 15,.tmp 16] [61,62,39] Tryz.func20 rfl [] ?_;(repeat' first|refine stW [0,1,2,3,4,5,6,7,10,14,15,16,17,18,19,20,21,22,23,24,39,50,52,53,54,71] ?_|refine fctI fun hf=>?_|refine twI (fun hc=>?_) fun hc=>?_);exact DVR
  rw [if_neg (by omega)];have k4 := fun m => wrong_f n infl m no nb hi
  (have:=NeI hb1);(have:=NeI hb2);by_cases h0 : wrongC n infl = 0
  case neg =>
    rw [if_pos h0];generalize wrongC n infl = e at *
    (have:=NeI h0);refine pcN 85 [.tmp 14,.tmp 15,.tmp 16] [61,62,39] Tryz.func20 rfl [] ?_;(repeat' first|refine stW [0,1,2,3,4,5,6,7,10,14,15,16,17,18,19,20,21,22,23,24,39,50,52,53,54,71] ?_|refine fctI fun hf=>?_|refine twI (fun hc=>?_) fun hc=>?_);exact DVR
  rw [if_neg (fun c => c h0)];rw [h0] at k4;obtain ⟨K, rfl⟩ : ∃ K : Nat, steps = (K : Int) := ⟨steps.toNat, by omega⟩;rw [Int.toNat_natCast];have hinv := runG_inv (F := goC n s l infl sec) (s := x) (Q := fun t => staB n t = true) (fun k t _ h => stepC_sta no co h) sb;refine pcN 85 [.tmp 14,.tmp 15,.tmp 16] [61,62,39] Tryz.func20 rfl [296, 304] ?_;(repeat' first|refine stW [0,1,2,3,4,5,6,7,10,14,15,16,17,18,19,20,21,22,23,24,39,50,52,53,54,71] ?_|refine fctI fun hf=>?_|refine twI (fun hc=>?_) fun hc=>?_);(refine sN 18 31 4 ?_);(refine sN 19 38 3 ?_);refine loop_swp [1, 2, 4, 5, 7, 10, 18, 19, 52, 53] [0, 8, 296, 304] 312 (fun q A H => ∃ k : Nat, k <= K /\ q = K - k /\ (runG (goC n s l infl sec) x k).e = 0 /\ A = [(1, sectL s), (2, ruleL l), (4, inflL infl), (5, li sec), (7, .ptr 0 0), (10, .ptr 8 0), (18, .gl 296), (19, .gl 304), (52, li K), (53, li k)] /\ H = [(0, .blk 25 (netC n)), (8, .blk 31 (staC (runG (goC n s l infl sec) x k).now)), (296, staLt (runG (goC n s l infl sec) x k).ss), (304, ledgLt (runG (goC n s l infl sec) x k).gs)]) (by omega) ?_ ?_ ?_
  · rintro q A H ⟨k, g1, g2, g3, rfl, rfl⟩;exact SDD
  · refine ⟨_, 0, by omega, rfl, rfl, ?_, ?_⟩
    · exact DVR
    · exact DVR
  rintro q A H ⟨k, g1, g2, g3, rfl, rfl⟩;by_cases hk : k < K
  · have hk3 : (k : Int) < (K : Int) := by omega
    have k5 := fun m => atC_f n infl k m no nb hi (by omega)
    have sbn := (hinv k).1;have hkl := inK_len (n := n) (infl := infl) k infl.length;have hnn := (netB_len nb).1;have k6 := fun m => CStep_f n s l (runG (goC n s l infl sec) x k).now (inK n infl k infl.length) sec m no co lo (staOk_of nb sbn) (by omega) h14
    obtain ⟨ln1, ln2⟩ := runG_len g3;have hgo := runG_good (F := goC n s l infl sec) (s := x) (k := k) g3;have hbd := runG_bad (F := goC n s l infl sec) (s := x) (k := k) g3;have hstay := fun h j => runG_stay (F := goC n s l infl sec) (s := x) (k := k + 1) h j
    have hnil := fun h => runG_nil (F := goC n s l infl sec) (s := x) (k := K) h
    have hend : ∀ e : Int, ¬ e = 0 -> (runG (goC n s l infl sec) x (k + 1)).e = e -> (runG (goC n s l infl sec) x K).ss = [] /\ (runG (goC n s l infl sec) x K).gs = [] /\ (runG (goC n s l infl sec) x K).e = e := fun e he h => by
      have h2 := hstay (by rw [h]; exact he) (K - (k + 1));rw [show k + 1 + (K - (k + 1)) = K by omega, h] at h2;obtain ⟨b1, b2⟩ := hnil (by rw [h2]; exact he);exact ⟨b1, b2, h2⟩
    have e0 : goC n s l infl sec k (runG (goC n s l infl sec) x k).now = stepC n s l (runG (goC n s l infl sec) x k).now (inK n infl k infl.length) sec := rfl;rw [e0] at hgo hbd;have hpl := @stepC_pas n s l sec (runG (goC n s l infl sec) x k).now (inK n infl k infl.length);(have:=NeI hk3);clear hstay hnil hinv e0;generalize hRN : runG (goC n s l infl sec) x (k + 1) = RN at *
    generalize runG (goC n s l infl sec) x K = RK at *
    generalize runG (goC n s l infl sec) x k = R at *
    generalize stepC n s l R.now (inK n infl k infl.length) sec = SR at *
    generalize inK n infl k infl.length = AL at *
    by_cases hs : SR.2.2 = 0
    · have hg := hgo hs;have hl400 := (netB_len nb).2;rw [hs] at k6;clear hgo hbd hend;obtain ⟨now, ss, gs, ee⟩ := R;obtain ⟨s1, s2, s3⟩ := SR;(repeat' first|(show SWp _ _ _ (.region 17 _ _) _ _ _ _;refine (stop_in ?_))|(show SWp _ _ _ (.region _ _ true) _ _ _ _;refine xG mixed [448, 456, 1000007, 1000009] ?_)|refine stW [0,1,2,3,4,5,6,7,10,14,15,16,17,18,19,20,21,22,23,24,39,50,52,53,54,71] ?_|refine fctI fun hf=>?_|refine twI (fun hc=>?_) fun hc=>?_);refine stop_out ?_;(repeat' first|(show SWp _ _ _ (.region _ _ true) _ _ _ _;refine xG mixed [296, 304] ?_)|refine stW [0,1,2,3,4,5,6,7,10,14,15,16,17,18,19,20,21,22,23,24,39,50,52,53,54,71] ?_|refine fctI fun hf=>?_|refine twI (fun hc=>?_) fun hc=>?_);(refine lR2 544 296 576 304 [0, 8, 544, 576] ?_);exact ⟨_, by omega, k + 1, by omega, rfl, by rw [hRN, hg], rfl, by rw [hRN, hg]⟩
    · have hb2 := hbd hs;obtain ⟨b1, b2, b3⟩ := hend SR.2.2 hs (by rw [hb2]);rw [b1, b2, b3];clear hgo hbd hend hb2;obtain ⟨s1, s2, s3⟩ := SR;(have:=NeI hs);(repeat' first|(show SWp _ _ _ (.region _ _ true) _ _ _ _;refine xG mixed [448, 456, 1000007, 1000009] ?_)|refine stW [0,1,2,3,4,5,6,7,10,14,15,16,17,18,19,20,21,22,23,24,39,50,52,53,54,71] ?_|refine fctI fun hf=>?_|refine twI (fun hc=>?_) fun hc=>?_);exact DVR
  obtain rfl : k = K := by omega
  have hk3 : ¬ ((k : Int) < (k : Int)) := by omega
  (have:=NeI hk3);rw [g3];clear hinv;generalize runG (goC n s l infl sec) x k = R at *
  (repeat' first|refine stW [0,1,2,3,4,5,6,7,10,14,15,16,17,18,19,20,21,22,23,24,39,50,52,53,54,71] ?_|refine fctI fun hf=>?_|refine twI (fun hc=>?_) fun hc=>?_);exact DVR
theorem idxCnd_f (g : FuncId) (p : Cnd -> Bool) (l : List (Cnd)) (m : Nat) (hl : l.length <= 281474976710656) (hg : ∀ x, x ∈ l -> ∀ m, Pu g [cndD x] m (lb (p x))) :
    Pu 99 [cndL l, .clo g []] m (li (idxI p l)) := by
  refine pcN 19 [.tmp 4] [3] Tryz.func99 rfl [] ?_;(repeat' first|refine stW [0,1,4,5,7,8,9,16] ?_|refine fctI fun hf=>?_|refine twI (fun hc=>?_) fun hc=>?_);refine loop_swp [0, 1, 7, 8] [] 0 (fun q A H => ∃ i : Nat, i <= l.length /\ q = l.length - i /\ (l.take i).any p = false /\ A = [(0, cndL l), (1, .clo g []), (7, li l.length), (8, li i)] /\ H = []) (by omega) ?_ ?_ ?_
  · rintro q A H ⟨i, h1, h2, h3, rfl, rfl⟩;exact SDD
  · refine ⟨_, 0, by omega, rfl, rfl, ?_, ?_⟩
    · exact DVR
    · exact DVR
  · rintro q A H ⟨i, h1, h2, h3, rfl, rfl⟩;(repeat' first|refine stW [0,1,4,5,7,8,9,16] ?_|(show CallQ ..;first|refine cQ (fun hcc=>(hg _ (getD_mem SC) _)) ?_|(refine lP ?_;refine lQ (fun hcc m=>(hg _ (getD_mem SC) _)) ?_))|refine fctI fun hf=>?_|refine twI (fun hc=>?_) fun hc=>?_)
    · (refine DVQ ?_);rw [idxI_hit h3 (by omega) (by assumption)]
    · (refine lN [] ?_);exact ⟨_, by omega, i + 1, by omega, rfl, any_step h3 (by omega) (by assumption), rfl, rfl⟩
    · (refine DVQ ?_);rw [List.take_of_length_le (by omega)] at h3;rw [idxI_none h3]
theorem conCnd_f (g : FuncId) (p : Cnd -> Bool) (l : List (Cnd)) (m : Nat) (hl : l.length <= 281474976710656) (hg : ∀ x, x ∈ l -> ∀ m, Pu g [cndD x] m (lb (p x))) :
    Pu 46 [cndL l, .clo g []] m (lb (l.any p)) := by
  refine pcN 9 [.tmp 4] [4] Tryz.func46 rfl [] ?_;(repeat' first|refine stW [0,1,4] ?_|(show CallQ ..;first|refine cQ (fun hcc=>(idxCnd_f g p l _ hl hg)) ?_|(refine lP ?_;refine lQ (fun hcc m=>(idxCnd_f g p l _ hl hg)) ?_))|refine fctI fun hf=>?_|refine twI (fun hc=>?_) fun hc=>?_);(refine DVQ ?_);rw [idxI_any]
theorem idxRule_f (g : FuncId) (p : Rule -> Bool) (l : List (Rule)) (m : Nat) (hl : l.length <= 281474976710656) (hg : ∀ x, x ∈ l -> ∀ m, Pu g [ruleD x] m (lb (p x))) :
    Pu 98 [ruleL l, .clo g []] m (li (idxI p l)) := by
  refine pcN 19 [.tmp 4] [3] Tryz.func98 rfl [] ?_;(repeat' first|refine stW [0,1,4,5,7,8,9,16] ?_|refine fctI fun hf=>?_|refine twI (fun hc=>?_) fun hc=>?_);refine loop_swp [0, 1, 7, 8] [] 0 (fun q A H => ∃ i : Nat, i <= l.length /\ q = l.length - i /\ (l.take i).any p = false /\ A = [(0, ruleL l), (1, .clo g []), (7, li l.length), (8, li i)] /\ H = []) (by omega) ?_ ?_ ?_
  · rintro q A H ⟨i, h1, h2, h3, rfl, rfl⟩;exact SDD
  · refine ⟨_, 0, by omega, rfl, rfl, ?_, ?_⟩
    · exact DVR
    · exact DVR
  · rintro q A H ⟨i, h1, h2, h3, rfl, rfl⟩;(repeat' first|refine stW [0,1,4,5,7,8,9,16] ?_|(show CallQ ..;first|refine cQ (fun hcc=>(hg _ (getD_mem SC) _)) ?_|(refine lP ?_;refine lQ (fun hcc m=>(hg _ (getD_mem SC) _)) ?_))|refine fctI fun hf=>?_|refine twI (fun hc=>?_) fun hc=>?_)
    · (refine DVQ ?_);rw [idxI_hit h3 (by omega) (by assumption)]
    · (refine lN [] ?_);exact ⟨_, by omega, i + 1, by omega, rfl, any_step h3 (by omega) (by assumption), rfl, rfl⟩
    · (refine DVQ ?_);rw [List.take_of_length_le (by omega)] at h3;rw [idxI_none h3]
theorem conRule_f (g : FuncId) (p : Rule -> Bool) (l : List (Rule)) (m : Nat) (hl : l.length <= 281474976710656) (hg : ∀ x, x ∈ l -> ∀ m, Pu g [ruleD x] m (lb (p x))) :
    Pu 44 [ruleL l, .clo g []] m (lb (l.any p)) := by
  refine pcN 9 [.tmp 4] [4] Tryz.func44 rfl [] ?_;(repeat' first|refine stW [0,1,4] ?_|(show CallQ ..;first|refine cQ (fun hcc=>(idxRule_f g p l _ hl hg)) ?_|(refine lP ?_;refine lQ (fun hcc m=>(idxRule_f g p l _ hl hg)) ?_))|refine fctI fun hf=>?_|refine twI (fun hc=>?_) fun hc=>?_);(refine DVQ ?_);rw [idxI_any]
def hvyN (x : Node) : Bool := decide (100 < x.name.size) || decide (120 < x.shape.length)
def hvyL (x : Link) : Bool := decide (100 < x.name.size) || decide (100 < x.fro.size) || decide (100 < x.til.size) || decide (100 < x.sect.size) || decide (120 < x.curve.length)
def heavyB (n : Net) : Bool := decide (12 < n.nodes.length) || decide (20 < n.links.length) || (n.nodes.any hvyN || n.links.any hvyL)
def wideB (s : Sta) : Bool := decide (30 < s.vol.length) || decide (30 < s.pon.length) || decide (40 < s.set.length) || decide (40 < s.on.length)
def lrgS (s : Sect) : Bool := decide (100 < s.name.size) || decide (120 < s.area.length) || decide (120 < s.conv.length)
def lrgC (c : Cnd) : Bool := decide (100 < c.nod.size)
def lrgR (r : Rule) : Bool := decide (100 < r.name.size) || decide (100 < r.lnk.size) || (decide (8 < r.whn.length) && decide (r.whn.length <= 20)) || decide (40 < r.whn.length) || r.whn.any lrgC
def lrgB (c : Cas) : Bool := heavyB c.net || wideB c.sta || decide (12 < c.cat.length) || decide (8 < c.rul.length) || c.cat.any lrgS || c.rul.any lrgR
theorem large_f0 {c : Cas} (h : lrgB c = false) : c.net.nodes.length <= 12 /\ c.net.links.length <= 20 /\ c.rul.length <= 8 := by
  unfold lrgB heavyB at h;simp only [Bool.or_eq_false_iff, decide_eq_false_iff_not] at h;obtain ⟨⟨⟨⟨⟨⟨⟨h1, h2⟩, _⟩, _⟩, _⟩, h3⟩, _⟩, _⟩ := h;exact ⟨by omega, by omega, by omega⟩
theorem heavy1_f (x : Node) (m : Nat) (hx : nodeOk x) : Pu 94 [nodeD x] m (lb (hvyN x)) := by
  have h1 := hx.1;have h2 := hx.2.2.2.2.2.1.1;refine pcN 13 [.tmp 2] [4] Tryz.func94 rfl [] ?_;(repeat' first|refine stW [0,1,2] ?_|refine fctI fun hf=>?_|refine twI (fun hc=>?_) fun hc=>?_);(refine DVQ ?_);refine lbC ?_;unfold hvyN; grind
theorem heavy2_f (x : Link) (m : Nat) (hx : linkOk x) : Pu 96 [linkD x] m (lb (hvyL x)) := by
  obtain ⟨h1, h2, h3, _, _, _, _, h4, _, _, h5, _⟩ := hx;refine pcN 31 [.tmp 2] [4] Tryz.func96 rfl [] ?_;(repeat' first|refine stW [0,1,2] ?_|refine fctI fun hf=>?_|refine twI (fun hc=>?_) fun hc=>?_);(refine DVQ ?_);refine lbC ?_;unfold hvyL; grind
theorem heavy_f (n : Net) (m : Nat) (no : netOk n) : Pu 41 [netD n] m (lb (heavyB n)) := by
  have h1 := no.1.1;have h2 := no.2.1;have k1 := fun m => conNode_f 94 hvyN n.nodes m no.1.1 (fun x hx m => heavy1_f x m (no.1.2 x hx))
  have k2 := fun m => conLink_f 96 hvyL n.links m no.2.1 (fun x hx m => heavy2_f x m (no.2.2 x hx))
  unfold heavyB;generalize n.nodes.any hvyN = a at *
  generalize n.links.any hvyL = b at *
  refine pcN 21 [.tmp 2] [4] Tryz.func41 rfl [] ?_;(repeat' first|refine stW [0,1,2,12] ?_|refine fctI fun hf=>?_|refine twI (fun hc=>?_) fun hc=>?_)
  · (refine DVQ ?_);refine lbC ?_;clear k1 k2;grind
  · (refine DVQ ?_);refine lbC ?_;clear k1 k2;grind
theorem wide_f (s : Sta) (m : Nat) (hs : staOk s) : Pu 30 [staD s] m (lb (wideB s)) := by
  obtain ⟨⟨h1, _⟩, ⟨h2, _⟩, ⟨h3, _⟩, h4⟩ := hs;refine pcN 25 [.tmp 2] [4] Tryz.func30 rfl [] ?_;(repeat' first|refine stW [0,1,2] ?_|refine fctI fun hf=>?_|refine twI (fun hc=>?_) fun hc=>?_);(refine DVQ ?_);refine lbC ?_;unfold wideB; grind
theorem lrg1_f (s : Sect) (m : Nat) (hs : sectOk s) : Pu 43 [sectD s] m (lb (lrgS s)) := by
  obtain ⟨h1, h2, h3, ⟨h4, _⟩, h5, _⟩ := hs;refine pcN 19 [.tmp 2] [4] Tryz.func43 rfl [] ?_;(repeat' first|refine stW [0,1,2] ?_|refine fctI fun hf=>?_|refine twI (fun hc=>?_) fun hc=>?_);(refine DVQ ?_);refine lbC ?_;unfold lrgS; grind
theorem lrg21_f (c : Cnd) (m : Nat) (hc' : cndOk c) : Pu 47 [cndD c] m (lb (lrgC c)) := by
  have h1 := hc'.1;refine pcN 7 [.tmp 2] [4] Tryz.func47 rfl [] ?_;(repeat' first|refine stW [0,1,2] ?_|refine fctI fun hf=>?_|refine twI (fun hc=>?_) fun hc=>?_);(refine DVQ ?_);refine lbC ?_;unfold lrgC; grind
theorem lrg2_f (r : Rule) (m : Nat) (hr : ruleOk r) : Pu 45 [ruleD r] m (lb (lrgR r)) := by
  obtain ⟨h1, ⟨h2, h3⟩, h4, _⟩ := hr;have k1 := fun m => conCnd_f 47 lrgC r.whn m h2 (fun x hx m => lrg21_f x m (h3 x hx))
  unfold lrgR;generalize r.whn.any lrgC = a at *
  refine pcN 36 [.tmp 2] [4] Tryz.func45 rfl [] ?_;(repeat' first|refine stW [0,1,2] ?_|refine fctI fun hf=>?_|refine twI (fun hc=>?_) fun hc=>?_);(refine DVQ ?_);refine lbC ?_;clear k1;grind
theorem lrg_f (c : Cas) (m : Nat) (hc' : casOk c) : Pu 8 [casD c] m (lb (lrgB c)) := by
  obtain ⟨no, co, lo, so, _⟩ := hc';have h1 := co.1;have h2 := lo.1;have k1 := fun m => heavy_f c.net m no
  have k2 := fun m => wide_f c.sta m so
  have k3 := fun m => conSect_f 43 lrgS c.cat m co.1 (fun x hx m => lrg1_f x m (co.2 x hx))
  have k4 := fun m => conRule_f 45 lrgR c.rul m lo.1 (fun x hx m => lrg2_f x m (lo.2 x hx))
  unfold lrgB;generalize heavyB c.net = a at *
  generalize wideB c.sta = b at *
  generalize c.cat.any lrgS = d at *
  generalize c.rul.any lrgR = e at *
  refine pcN 33 [.tmp 2] [4] Tryz.func8 rfl [] ?_;(repeat' first|refine stW [0,1,2] ?_|refine fctI fun hf=>?_|refine twI (fun hc=>?_) fun hc=>?_);(refine DVQ ?_);refine lbC ?_;clear k1 k2 k3 k4;grind
def manI (x : Infl) : Bool := decide (100 < x.nod.size) || decide (30 < x.vols.length)
def many44 (l : List Infl) : Bool := decide (6 < l.length) || l.any manI
theorem many1_44 (x : Infl) (m : Nat) (hx : inflOk x) : Pu 73 [inflD x] m (lb (manI x)) := by
  obtain ⟨h1, h2, _⟩ := hx;refine pcN 13 [.tmp 2] [4] Tryz.func73 rfl [] ?_;(repeat' first|refine stW [0,1,2] ?_|refine fctI fun hf=>?_|refine twI (fun hc=>?_) fun hc=>?_);(refine DVQ ?_);refine lbC ?_;unfold manI; grind
theorem many44_f (l : List Infl) (m : Nat) (hl : inflsOk l) : Pu 19 [inflL l] m (lb (many44 l)) := by
  obtain ⟨h1, h2⟩ := hl;have k1 := fun m => conInfl_f 73 manI l m h1 (fun x hx m => many1_44 x m (h2 x hx))
  unfold many44;generalize l.any manI = a at *
  refine pcN 10 [.tmp 2] [4] Tryz.func19 rfl [] ?_;(repeat' first|refine stW [0,2] ?_|refine fctI fun hf=>?_|refine twI (fun hc=>?_) fun hc=>?_);(refine DVQ ?_);refine lbC ?_;clear k1;grind
def exN44 : Net := ⟨[⟨⟨#[116]⟩, 2, ⟨0, 0⟩, 1000, 2000, [⟨0, 0⟩, ⟨1000, 1000000⟩], false, 0⟩, ⟨⟨#[111]⟩, 3, ⟨0, 0⟩, 0, 0, [], false, 0⟩],
  [⟨⟨#[103]⟩, ⟨#[116]⟩, ⟨#[111]⟩, 3, 0, 1000, 0, .empty, 100, 100, []⟩]⟩
def exL44 : List Rule := [⟨⟨#[108, 111, 119]⟩, [⟨⟨#[116]⟩, true, 1200⟩], ⟨#[103]⟩, 0⟩]
def exS44 (v : Int) : Sta := ⟨[v, 0], [0, 0], [1000], [false]⟩
def nilP44 : PV := .lit (.slice none 0 0)
theorem weakenTup4 {P : Program} {g : FuncId} {C : List Nat} {args : List DV} {h h' : Nat -> Option HV} {m : Nat} {a b : List PV} {c : DV} (k : DCallsG P g C args h m (.tup [.agg (a.map .p), c]) h') (hw : PLeL a b) : DCallsG P g C args h m (.tup [.agg (b.map .p), c]) h' :=
  k.weaken (fun ρ S w v ⟨vs, e, r⟩ => ⟨vs, e, by
    cases vs with
    | nil => exact r.elim
    | cons v1 vs =>
      obtain ⟨⟨us, e2, r2⟩, r3⟩ := r;exact ⟨⟨us, e2, hw.rel r2⟩, r3⟩⟩) fun U hu => ⟨usesL_iff.2 fun d hd => by obtain ⟨x, _, rfl⟩ := List.mem_map.1 hd; exact trivial, hu.2⟩
theorem ex44_0 (m : Nat) : Pu 39 [] m (.tup [.agg ([.dat 9 [nodeP (exN44.nodes.getD 0 default), (nodeP (exN44.nodes.getD 1 default)).set 6 nilP44], .dat 11 [(linkP (exN44.links.getD 0 default)).set 10 nilP44]].map .p), ruleL exL44]) := by
  refine pcN 17 [.cell 0 25,.tmp 1] [25,27] Tryz.func39 rfl [32, 56, 72, 120, 136] ?_;(repeat' first|refine stW [0,1,2] ?_|refine fctI fun hf=>?_|refine twI (fun hc=>?_) fun hc=>?_);(refine DVQ ?_);all_goals rfl
theorem ex44_f (m : Nat) : Pu 39 [] m (.tup [netD exN44, ruleL exL44]) :=
  weakenTup4 (b := netP exN44) (ex44_0 m) (by repeat' (first | exact PLe.rfl | exact PLe.nil _ | exact PLeL.nil | exact PLeR.nil | exact rfl | (show PLeL (_ :: _) _; refine PLeL.cons ?_ ?_) | (show PLeR _ (_ :: _) _; refine PLeR.cons ?_ rfl ?_) | refine PLe.rows ?_))
theorem ex44_s (v : Int) (m : Nat) : Pu 40 [li v] m (staD (exS44 v)) := by
  refine pcN 9 [.cell 2 31] [31] Tryz.func40 rfl [16, 24, 32, 40] ?_;(repeat' first|refine stW [0,2] ?_|refine fctI fun hf=>?_|refine twI (fun hc=>?_) fun hc=>?_);(refine DVQ ?_);all_goals rfl
theorem ex44_no : netOk exN44 := by
  refine ⟨⟨by decide, fun y hy => ?_⟩, ⟨by decide, fun y hy => ?_⟩⟩
  · simp only [exN44, List.mem_cons, List.not_mem_nil, or_false] at hy;rcases hy with rfl | rfl
    · refine ⟨by decide, by unfold i64ok; decide, by unfold pointOk i64ok; decide, by unfold i64ok; decide, by unfold i64ok; decide, ⟨by decide, fun z hz => ?_⟩, by unfold i64ok; decide⟩;simp only [List.mem_cons, List.not_mem_nil, or_false] at hz;rcases hz with rfl | rfl <;> (unfold knotOk i64ok; decide)
    · exact ⟨by decide, by unfold i64ok; decide, by unfold pointOk i64ok; decide, by unfold i64ok; decide, by unfold i64ok; decide, ⟨by decide, fun z hz => by cases hz⟩, by unfold i64ok; decide⟩
  · simp only [exN44, List.mem_cons, List.not_mem_nil, or_false] at hy;subst hy;exact ⟨by decide, by decide, by decide, by unfold i64ok; decide, by unfold i64ok; decide, by unfold i64ok; decide, by unfold i64ok; decide, by decide, by unfold i64ok; decide, by unfold i64ok; decide, by decide, fun z hz => by cases hz⟩
theorem ex44_lo : rulOk exL44 := by
  refine ⟨by decide, fun r hr => ?_⟩;simp only [exL44, List.mem_cons, List.not_mem_nil, or_false] at hr;subst hr;refine ⟨by decide, ⟨by decide, fun y hy => ?_⟩, by decide, by unfold i64ok; decide⟩;simp only [List.mem_cons, List.not_mem_nil, or_false] at hy;subst hy;exact ⟨by decide, by unfold i64ok; decide⟩
theorem ex44_so {v : Int} (h : i64ok v) : staOk (exS44 v) := by
  unfold i64ok at h;unfold staOk intsOk i64ok exS44;simp;omega
theorem ex44_a : (stepC exN44 [] exL44 (exS44 199999) [0, 0] 1).1.set = [0] /\ (stepC exN44 [] exL44 (exS44 199999) [0, 0] 1).2.1.out = 0 /\ (stepC exN44 [] exL44 (exS44 199999) [0, 0] 1).2.2 = 0 := by decide +kernel
theorem ex44_b : (stepC exN44 [] exL44 (exS44 200000) [0, 0] 1).1.set = [1000] /\ decide (0 < (stepC exN44 [] exL44 (exS44 200000) [0, 0] 1).2.1.out) = true /\ (stepC exN44 [] exL44 (exS44 200000) [0, 0] 1).2.2 = 0 := by decide +kernel
section
variable [Dfr] {P : Program} {N pin nx : Nat} {ops : Array Oper} {A : LE} {H : LH}
theorem xQT4 {M V : List Nat} {Kt : LE -> LH -> Prop} {o : Oper} {os : List Oper} {i : Nat} {c : Bool} {g : FuncId} {args argsC : List DV} {A2 : LE} {H1 H2 : LH} {j2 : Nat} {pre : Prop} {chk : Bool} {rest : List Oper} {C : List Nat} {d : DV} {h h' : LH} (R : List Nat)
    (hcall : c = true -> DCallsG P g C argsC (hget h) R.length d (hget h')) (hx : xrun P N pin nx ops M V rest j2 A2 H2 Kt) (hM : DV.mpL (rr R 0 (nx + 8 * i)) argsC = args := by exact Go.Eng.DR) (hd : dstOk N o.dst = true /\ (c = true -> oksD (eget A) o.op = true) := by exact ⟨by exact Go.Eng.D0F, by first | (simp only [push_cast, reduceIte, reduceDIte, reduceCtorEq, Nat.reduceLT, Nat.reduceLeDiff, Nat.reduceEqDiff, Nat.reduceAdd, Nat.reduceMul, Nat.reduceBEq, Nat.reducePow, Int.zero_add, Int.reduceAdd, Int.reduceSub, Int.reduceLT, Int.reduceLE, Int.reduceToNat, Int.reduceNeg, Nat.reduceSub, Int.reduceBNe, Int.reduceBEq, Int.reduceTDiv, Int.reduceTMod, Int.reduceMul] <;> fail) | (simp only [push_cast, reduceIte, reduceDIte, reduceCtorEq, Nat.reduceLT, Nat.reduceLeDiff, Nat.reduceEqDiff, Nat.reduceAdd, Nat.reduceMul, Nat.reduceBEq, Nat.reducePow, Int.zero_add, Int.reduceAdd, Int.reduceSub, Int.reduceLT, Int.reduceLE, Int.reduceToNat, Int.reduceNeg, Nat.reduceSub, Int.reduceBNe, Int.reduceBEq, Int.reduceTDiv, Int.reduceTMod, Int.reduceMul] <;> (exact Go.Eng.PZ))⟩)  (he : effB o.op = true := by rfl)
    (hC : ∀ j, j ∈ C.map (rr R 0 (nx + 8 * i)) -> pin <= j := by exact Go.Eng.CZL) (hCn : ∀ j, j ∈ C.map (rr R 0 (nx + 8 * i)) -> (hget (hmp (rr R 0 (nx + 8 * i)) h) j).isSome = true := by exact Go.Eng.CZL) (hsub : subH H (hmp (rr R 0 (nx + 8 * i)) h) := by exact Go.Eng.CZ) (hk : keysIn (hmp (rr R 0 (nx + 8 * i)) h) (nx + 8 * i) (hmp (rr R 0 (nx + 8 * i)) h') := by exact Go.Eng.CZ) (hq : (hmp (rr R 0 (nx + 8 * i)) h = [] /\ hmp (rr R 0 (nx + 8 * i)) h' = []) ∨ c = true := by exact Go.Eng.CZ)
    (hR : apartL (nx + 8 * i) R := by exact Go.Eng.CZ) (hh : usesH R.length h := by exact Go.Eng.CZ) (hu : DV.usesL (fun i => i < R.length) argsC := by exact Go.Eng.CZ) (hC2 : ∀ i, i ∈ C -> i < R.length := by exact Go.Eng.CZ)
    (hfp : fpB ops M nx V i (keysL (hmp (rr R 0 (nx + 8 * i)) h)) (keysL (hmp (rr R 0 (nx + 8 * i)) h)) = true := by kernel_rfl) (hfr : above (nx + 8 * i) H := by exact Go.Eng.CZ) (hH1 : hpat H (hmp (rr R 0 (nx + 8 * i)) h) (hmp (rr R 0 (nx + 8 * i)) h') = H1 := by exact Go.Eng.DR)
    (hF : xrunF P N pin nx ops M V os (i + 1) (eput A o.dst (wrapD o c (d.mp (rr R 0 (nx + 8 * i))))) H1 True true = some ⟨A2, H2, j2, pre, chk, rest⟩ := by exact Go.Eng.DR) (hck : chk = true := by kernel_rfl) (hp : pre := by exact Go.Eng.PZ) : XCallQ P N pin nx ops M V o os i A H Kt c g args := by
  unfold XCallQ;exact fun _ hg hc hN =>
   xrun_call _ _ _ _ hg hc (by rw [hM]; exact hN) hd he hC hCn hsub hk hq (fun e => DCallsG.at R _ (hcall e) hR hh hu hC2) hfp (above_spec hfr) hH1 hF hck hp hx
end
set_option maxRecDepth 200000 in
theorem awake44_f (m : Nat) : Pu 7 [] m (lb true) := by
  have ka := fun m => CStep_f exN44 [] exL44 (exS44 199999) [0, 0] 1 m ex44_no ⟨by decide, fun x hx => by cases hx⟩ ex44_lo (ex44_so (by unfold i64ok; decide)) (by decide) (by decide)
  have kb := fun m => CStep_f exN44 [] exL44 (exS44 200000) [0, 0] 1 m ex44_no ⟨by decide, fun x hx => by cases hx⟩ ex44_lo (ex44_so (by unfold i64ok; decide)) (by decide) (by decide)
  have ks1 := fun m => ex44_s 199999 m
  have ks2 := fun m => ex44_s 200000 m
  obtain ⟨a1, a2, a3⟩ := ex44_a;obtain ⟨b1, b2, b3⟩ := ex44_b;generalize stepC exN44 [] exL44 (exS44 199999) [0, 0] 1 = SA at *
  generalize stepC exN44 [] exL44 (exS44 200000) [0, 0] 1 = SB at *
  obtain ⟨⟨av, ap, az, an⟩, ⟨ai, ao, ag⟩, ae⟩ := SA;obtain ⟨⟨bv, bp, bz, bn⟩, ⟨bi, bo, bg⟩, be⟩ := SB;cases a1;cases a2;cases a3;cases b1;cases b3;have b2 := of_decide_eq_true b2;have b2 : 0 < bo := b2;(have:=NeI b2);have ga := DCallsG.giveG (C := []) (args := [netD exN44, sectL [], ruleL exL44, staD (exS44 199999), .gl 0, li 1]) (o := 0) (hv := .lst 3 1 [[li 0], [li 0]]) (h := []) (x := .elems 1 [inRow 0, inRow 0]) (by show HV.fv (.lst _ 1 (rows inRow [0, 0])) = _; exact fv_rows inRow _ _ _) rfl (ka 1);have gb := DCallsG.giveG (C := []) (args := [netD exN44, sectL [], ruleL exL44, staD (exS44 200000), .gl 0, li 1]) (o := 0) (hv := .lst 3 1 [[li 0], [li 0]]) (h := []) (x := .elems 1 [inRow 0, inRow 0]) (by show HV.fv (.lst _ 1 (rows inRow [0, 0])) = _; exact fv_rows inRow _ _ _) rfl (kb 1);refine pcN 76 [.tmp 0] [4] Tryz.func7 rfl [] ?_;(repeat' first|(show SWp _ _ _ (.region _ _ true) _ _ _ _;refine xG mixed [104, 152, 160, 224, 272, 280, 1000003] ?_)|refine stW [0,1,2,3,4,5,6,7,8,9] ?_|(show CallQ ..;first|refine cQ (fun hcc=>(by exact ex44_f _)) ?_|(refine lP ?_;refine lQ (fun hcc m=>(by exact ex44_f _)) ?_))|(show XCallQ ..;first|refine xQ (fun hcc=>(by exact ex44_f _)) ?_|(refine xlP ?_;refine xlQ (fun hcc m=>(by exact ex44_f _)) ?_))|refine fctI fun hf=>?_|refine twI (fun hc=>?_) fun hc=>?_);refine xQT4 [104] (fun hcc => ga) ?_;(repeat' first|(show SWp _ _ _ (.region _ _ true) _ _ _ _;refine xG mixed [104, 152, 160, 224, 272, 280, 1000003] ?_)|refine stW [0,1,2,3,4,5,6,7,8,9] ?_|refine fctI fun hf=>?_|refine twI (fun hc=>?_) fun hc=>?_);refine xQT4 [224] (fun hcc => gb) ?_;(repeat' first|(show SWp _ _ _ (.region _ _ true) _ _ _ _;refine xG mixed [104, 152, 160, 224, 272, 280, 1000003] ?_)|refine stW [0,1,2,3,4,5,6,7,8,9] ?_|refine fctI fun hf=>?_|refine twI (fun hc=>?_) fun hc=>?_);exact DVR

end Go.Proofs.YtefkhfkapnmikaaGreat
