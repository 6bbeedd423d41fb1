/-
  Contracts of functions of the program, over the engine.
  No condition.
-/
import Derived.Test.YtgpllheklfbfhaaGreatCY2Y3Y4
import Derived.Test.YtgpllheklfbfhaaGreatCY6T21L14Y7Y11Y9Y10Y12Y8Y14
import Derived.Test.YtgpllheklfbfhaaGreatCT12T13T14T2IT16T15T18T20Y0Y5Y1
import Derived.Test.YtgpllheklfbfhaaGreatCT5T6T6bT7T7bT7c
namespace Go.Proofs.YtgpllheklfbfhaaGreat
open Go.Eng
set_option linter.all false
attribute [local irreducible] DCallsG SWp Fct CallQ XCallQ LCallQ XLCallQ drun xrun
set_option maxHeartbeats 64000000

theorem stepFail_f (e : Int) (m : Nat) : Pu 102 [li e] m (.tup [staD zeroS, ledgD zeroL, li e]) := by
  refine pcN 8 [.cell 2 31,.cell 3 59,.tmp 4] [31,59,45] Tryz.func102 rfl [] ?_;(repeat' first|refine stW [0,2,3,4] ?_|refine fctI fun hf=>?_|refine twI (fun hc=>?_) fun hc=>?_);exact DVR
theorem rvalid_f (n : Net) (l : List Sect) (s : Sta) (m : Nat) (no : netOk n) (co : catOk l) (so : staOk s) : Pu 103 [netD n, sectL l, staD s] m (lb (netB n && staB n s && catB l)) := by
  have c1 := fun m => staValid_f n s m no so
  have c2 := fun m => cat_f l m co
  generalize catB l = y at *
  cases hx : (netB n && staB n s) <;> simp only [hx] at c1
  · refine pcN 14 [.tmp 6] [4] Tryz.func103 rfl [] ?_;(repeat' first|refine stW [0,1,2,3,5,6] ?_|refine fctI fun hf=>?_|refine twI (fun hc=>?_) fun hc=>?_);exact DVR
  · refine pcN 14 [.tmp 6] [4] Tryz.func103 rfl [] ?_;(repeat' first|refine stW [0,1,2,3,5,6] ?_|refine fctI fun hf=>?_|refine twI (fun hc=>?_) fun hc=>?_);exact DVR
theorem step2_f (v : Int) (m : Nat) : Pu 104 [li v] m (lb (!btwB v 0 1125899906842624)) := by
  refine pcN 6 [.tmp 2] [4] Tryz.func104 rfl [] ?_;(repeat' first|refine stW [0,2] ?_|(show CallQ ..;first|refine cQ (fun hcc=>(rwithin_f _ _ _)) ?_|(refine lP ?_;refine lQ (fun hcc m=>(rwithin_f _ _ _)) ?_))|refine fctI fun hf=>?_|refine twI (fun hc=>?_) fun hc=>?_);exact DVR
class PairAt (l : List (Int × Int)) (j : Nat) (a b : outParam Int) : Prop where
  out : l.getD j default = (a, b)
theorem pair_at1 {l : List (Int × Int)} {j : Nat} {a b : Int} [h : PairAt l j a b] : (l.getD j default).1 = a := by rw [h.out]
theorem pair_at2 {l : List (Int × Int)} {j : Nat} {a b : Int} [h : PairAt l j a b] : (l.getD j default).2 = b := by rw [h.out]
attribute [push_cast] pair_at1 pair_at2
def stepR (n : Net) (l : List Sect) (s : Sta) (inf : List Int) (sec : Int) : Sta × Ledg × Int := if stepE n l s inf sec = 0 then (stepS n l s inf sec, stepL n l s inf sec, 0) else (zeroS, zeroL, stepE n l s inf sec)
theorem stepR_bad {n : Net} {l : List Sect} {s : Sta} {inf : List Int} {sec e : Int} (h : stepE n l s inf sec = e) (he : ¬ e = 0) : stepR n l s inf sec = (zeroS, zeroL, e) := by
  unfold stepR; rw [h, if_neg he]
set_option maxRecDepth 20000 in
theorem stepBad_f (n : Net) (l : List Sect) (s : Sta) (inf : List Int) (sec : Int) (m : Nat) (no : netOk n) (co : catOk l) (so : staOk s) (hil : inf.length <= 281474976710656)
    (hbad : ¬ ((netB n && staB n s && catB l) = true /\ inf.length = n.nodes.length /\ (rangB inf 1125899906842624 = true /\ 1 <= sec /\ sec <= 86400) /\ (n.links.any fun x => !knownB l x) = false)) :
    Pu 55 [netD n, sectL l, staD s, ints inf, li sec] m (.tup [staD (stepR n l s inf sec).1, ledgD (stepR n l s inf sec).2.1, li (stepR n l s inf sec).2.2]) := by
  have cv := fun m => rvalid_f n l s m no co so
  have hnl := no.1.1;cases hv : (netB n && staB n s && catB l) <;> simp only [hv] at cv
  · rw [stepR_bad (e := 1) (by unfold stepE; rw [if_pos hv]) (by decide)];refine pcN 205 [.cell 10 31,.cell 11 59,.tmp 12] [31,59,45] Tryz.func55 rfl [] ?_;(repeat' first|refine stW [0,1,2,3,4,5,7,10,11,12,13,14,15,16,17,18,19,20,21,23,24,25,26,27,38,50,66,80,81,82,83,98,115,131,151,152,153,154,180,197] ?_|(show CallQ ..;first|refine cQ (fun hcc=>(by exact stepFail_f _ _)) ?_|(refine lP ?_;refine lQ (fun hcc m=>(by exact stepFail_f _ _)) ?_))|refine fctI fun hf=>?_|refine twI (fun hc=>?_) fun hc=>?_);exact DVR
  by_cases hs : inf.length = n.nodes.length
  case neg =>
    rw [stepR_bad (e := 3) (by unfold stepE; rw [if_neg (by rw [hv]; decide), if_pos hs]) (by decide)];have hs3 : ¬ (inf.length : Int) = (n.nodes.length : Int) := by omega
    (have:=NeI hs3);refine pcN 205 [.cell 10 31,.cell 11 59,.tmp 12] [31,59,45] Tryz.func55 rfl [] ?_;(repeat' first|refine stW [0,1,2,3,4,5,7,10,11,12,13,14,15,16,17,18,19,20,21,23,24,25,26,27,38,50,66,80,81,82,83,98,115,131,151,152,153,154,180,197] ?_|(show CallQ ..;first|refine cQ (fun hcc=>(by exact stepFail_f _ _)) ?_|(refine lP ?_;refine lQ (fun hcc m=>(by exact stepFail_f _ _)) ?_))|refine fctI fun hf=>?_|refine twI (fun hc=>?_) fun hc=>?_);exact DVR
  have hs3 : (inf.length : Int) = (n.nodes.length : Int) := by omega
  (have:=NeI hs3);have cr := fun m => conInt_f 104 (fun n => !btwB n 0 1125899906842624) inf m hil (fun x _ m => step2_f x m)
  simp only [any_rang] at cr;by_cases hr : rangB inf 1125899906842624 = true /\ 1 <= sec /\ sec <= 86400
  case neg =>
    rw [stepR_bad (e := 2) (by
      unfold stepE;rw [if_neg (by rw [hv]; decide), if_neg (fun q => q hs), if_pos];by_cases h1 : rangB inf 1125899906842624 = true
      · right; by_cases h2 : sec < 1
        · exact .inl h2
        · exact .inr (by have : ¬ (1 <= sec /\ sec <= 86400) := fun q => hr ⟨h1, q⟩; omega)
      · exact .inl (by simpa using h1)) (by decide)]
    cases h1 : rangB inf 1125899906842624 <;> simp only [h1] at cr
    · refine pcN 205 [.cell 10 31,.cell 11 59,.tmp 12] [31,59,45] Tryz.func55 rfl [] ?_;(repeat' first|refine stW [0,1,2,3,4,5,7,10,11,12,13,14,15,16,17,18,19,20,21,23,24,25,26,27,38,50,66,80,81,82,83,98,115,131,151,152,153,154,180,197] ?_|(show CallQ ..;first|refine cQ (fun hcc=>(by exact stepFail_f _ _)) ?_|(refine lP ?_;refine lQ (fun hcc m=>(by exact stepFail_f _ _)) ?_))|refine fctI fun hf=>?_|refine twI (fun hc=>?_) fun hc=>?_);exact DVR
    · by_cases h2 : sec < 1
      · (have:=NeI h2);refine pcN 205 [.cell 10 31,.cell 11 59,.tmp 12] [31,59,45] Tryz.func55 rfl [] ?_;(repeat' first|refine stW [0,1,2,3,4,5,7,10,11,12,13,14,15,16,17,18,19,20,21,23,24,25,26,27,38,50,66,80,81,82,83,98,115,131,151,152,153,154,180,197] ?_|(show CallQ ..;first|refine cQ (fun hcc=>(by exact stepFail_f _ _)) ?_|(refine lP ?_;refine lQ (fun hcc m=>(by exact stepFail_f _ _)) ?_))|refine fctI fun hf=>?_|refine twI (fun hc=>?_) fun hc=>?_);exact DVR
      · have h3 : 86400 < sec := by
          have : ¬ (1 <= sec /\ sec <= 86400) := fun q => hr ⟨h1, q⟩
          omega
        (have:=NeI h2);(have:=NeI h3);refine pcN 205 [.cell 10 31,.cell 11 59,.tmp 12] [31,59,45] Tryz.func55 rfl [] ?_;(repeat' first|refine stW [0,1,2,3,4,5,7,10,11,12,13,14,15,16,17,18,19,20,21,23,24,25,26,27,38,50,66,80,81,82,83,98,115,131,151,152,153,154,180,197] ?_|(show CallQ ..;first|refine cQ (fun hcc=>(by exact stepFail_f _ _)) ?_|(refine lP ?_;refine lQ (fun hcc m=>(by exact stepFail_f _ _)) ?_))|refine fctI fun hf=>?_|refine twI (fun hc=>?_) fun hc=>?_);exact DVR
  obtain ⟨h1, h2, h3⟩ := hr;simp only [h1] at cr;have h4 : ¬ sec < 1 := by omega
  have h5 : ¬ 86400 < sec := by omega
  (have:=NeI h4);(have:=NeI h5);have hcb : catB l = true := by
    cases h : catB l
    · rw [h, Bool.and_false] at hv; cases hv
    · rfl
  have cn := fun m => rnamed_f n l m no co hcb
  have hk : (n.links.any fun x => !knownB l x) = true := by
    cases h : n.links.any fun x => !knownB l x
    · exact absurd ⟨hv, hs, ⟨h1, h2, h3⟩, h⟩ hbad
    · rfl
  rw [hk] at cn;rw [stepR_bad (e := 9) (by
    unfold stepE;rw [if_neg (by rw [hv]; decide), if_neg (fun q => q hs), if_neg (by rw [h1]; simp; omega), if_pos hk]) (by decide)]
  refine pcN 205 [.cell 10 31,.cell 11 59,.tmp 12] [31,59,45] Tryz.func55 rfl [] ?_;(repeat' first|refine stW [0,1,2,3,4,5,7,10,11,12,13,14,15,16,17,18,19,20,21,23,24,25,26,27,38,50,66,80,81,82,83,98,115,131,151,152,153,154,180,197] ?_|(show CallQ ..;first|refine cQ (fun hcc=>(by exact stepFail_f _ _)) ?_|(refine lP ?_;refine lQ (fun hcc m=>(by exact stepFail_f _ _)) ?_))|refine fctI fun hf=>?_|refine twI (fun hc=>?_) fun hc=>?_);exact DVR

end Go.Proofs.YtgpllheklfbfhaaGreat
