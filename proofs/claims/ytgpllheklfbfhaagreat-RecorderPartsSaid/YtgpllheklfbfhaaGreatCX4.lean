/-
  Contracts of functions of the program, over the engine.
  No condition.
-/
import Derived.Test.YtgpllheklfbfhaaGreatCX2
import Derived.Test.YtgpllheklfbfhaaGreatCX3
import Derived.Test.YtgpllheklfbfhaaGreatCX0
namespace Go.Proofs.YtgpllheklfbfhaaGreat
open Go.Eng
set_option linter.all false
attribute [local irreducible] DCallsG SWp Fct CallQ XCallQ LCallQ XLCallQ drun xrun
set_option maxHeartbeats 64000000
set_option maxRecDepth 20000

theorem CStep_f (n : Net) (s : List Sect) (l : List Rule) (x : Sta) (inf : List Int) (sec : Int) (m : Nat) (no : netOk n) (co : catOk s) (lo : rulOk l) (so : staOk x) (hil : inf.length <= 281474976710656) (h14 : n.nodes.length <= 14) :
    Pu 19 [netD n, sectL s, ruleL l, staD x, ints inf, li sec] m (.tup [staD (stepC n s l x inf sec).1, ledgD (stepC n s l x inf sec).2.1, li (stepC n s l x inf sec).2.2]) := by
  have k1 := fun m => cat_f s m co
  have k2 := fun m => rulesV_f l m lo
  have k3 := fun m => staValid_f n x m no so
  cases h1 : catB s <;> simp only [h1] at k1
  · rw [show stepC n s l x inf sec = (zeroS, zeroL, 1) from if_pos (by rw [h1, Bool.and_false, Bool.false_and])];refine pcN 71 [.cell 12 31,.cell 13 59,.tmp 14] [31,59,45] Tryz.func19 rfl [] ?_;(repeat' first|refine stW [0,1,2,3,4,5,6,9,12,13,14,15,16,17,31,42,56] ?_|refine fctI fun hf=>?_|refine twI (fun hc=>?_) fun hc=>?_);exact DVR
  cases h2 : rulesB l <;> simp only [h2] at k2
  · rw [show stepC n s l x inf sec = (zeroS, zeroL, 1) from if_pos (by rw [h2, Bool.and_false])];refine pcN 71 [.cell 12 31,.cell 13 59,.tmp 14] [31,59,45] Tryz.func19 rfl [] ?_;(repeat' first|refine stW [0,1,2,3,4,5,6,9,12,13,14,15,16,17,31,42,56] ?_|refine fctI fun hf=>?_|refine twI (fun hc=>?_) fun hc=>?_);exact DVR
  cases h3 : (netB n && staB n x) <;> simp only [h3] at k3
  · rw [show stepC n s l x inf sec = (zeroS, zeroL, 1) from if_pos (by rw [h3, Bool.false_and, Bool.false_and])];refine pcN 71 [.cell 12 31,.cell 13 59,.tmp 14] [31,59,45] Tryz.func19 rfl [] ?_;(repeat' first|refine stW [0,1,2,3,4,5,6,9,12,13,14,15,16,17,31,42,56] ?_|refine fctI fun hf=>?_|refine twI (fun hc=>?_) fun hc=>?_);exact DVR
  have hv : (netB n && staB n x && catB s && rulesB l) = true := by rw [h3, h1, h2]; rfl
  rw [stepC_eq hv];obtain ⟨nb, sb, cb, rb⟩ := hv_of hv;have hsv := sta_vol nb sb;obtain ⟨l1, l2, l3, l4⟩ := lensB_of (staB_in nb sb).1;have k4 := fun m => Levels_f n x.vol m no nb hsv.1 hsv.2
  have k5 := fun m => rsett_f l n (levelsL n x.vol) x.set m lo no nb rb (levelsL_len n x.vol) l3 (sta_rang nb sb)
  have hs' := fun h => setR_sta (l := l) nb sb rb h
  generalize levelsL n x.vol = LV at *
  generalize setR n l LV x.set = R at *
  obtain ⟨S, e⟩ := R;by_cases h0 : e = 0
  case neg =>
    rw [if_pos h0];(have:=NeI h0);clear hs';refine pcN 71 [.cell 12 31,.cell 13 59,.tmp 14] [31,59,45] Tryz.func19 rfl [] ?_;(repeat' first|refine stW [0,1,2,3,4,5,6,9,12,13,14,15,16,17,31,42,56] ?_|refine fctI fun hf=>?_|refine twI (fun hc=>?_) fun hc=>?_);exact DVR
  rw [if_neg (fun c => c h0)];have sb2 := hs' h0;have k6 := fun m => Step_f n s ⟨x.vol, x.pon, S, x.on⟩ inf sec m no co (staOk_of nb sb2) hil h14
  subst h0;clear hs';generalize stepR n s ⟨x.vol, x.pon, S, x.on⟩ inf sec = R at *
  obtain ⟨r1, r2, r3⟩ := R;refine pcN 71 [.cell 12 31,.cell 13 59,.tmp 14] [31,59,45] Tryz.func19 rfl [] ?_;(repeat' first|(show SWp _ _ _ (.seq (.region 10 _ _) _) _ _ _ _;refine (stop_in ?_))|refine stW [0,1,2,3,4,5,6,9,12,13,14,15,16,17,31,42,56] ?_|refine fctI fun hf=>?_|refine twI (fun hc=>?_) fun hc=>?_);refine stop_out ?_;rw [show List.take 2 (staC x) ++ [ints S] ++ List.drop 3 (staC x) = staC ⟨x.vol, x.pon, S, x.on⟩ from rfl];(repeat' first|refine stW [0,1,2,3,4,5,6,9,12,13,14,15,16,17,31,42,56] ?_|refine fctI fun hf=>?_|refine twI (fun hc=>?_) fun hc=>?_);exact DVR
end Go.Proofs.YtgpllheklfbfhaaGreat
