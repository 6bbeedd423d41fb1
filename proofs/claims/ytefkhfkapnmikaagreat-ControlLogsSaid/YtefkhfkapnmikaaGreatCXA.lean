/-
  Contracts of functions of the program, over the engine.
  No condition.
-/
import Derived.Test.YtefkhfkapnmikaaGreatCX5
import Derived.Test.YtefkhfkapnmikaaGreatCX8
import Derived.Test.YtefkhfkapnmikaaGreatCX9
import Derived.Test.YtefkhfkapnmikaaGreatCZP
namespace Go.Proofs.YtefkhfkapnmikaaGreat
open Go.Eng
set_option linter.all false
attribute [local irreducible] DCallsG SWp Fct CallQ XCallQ LCallQ XLCallQ drun xrun
set_option maxHeartbeats 64000000
set_option maxRecDepth 20000

theorem rFired_f (l : List Rule) (n : Net) (lv : List Int) (m : Nat) (hl : rulOk l) (hn : n.nodes.length <= 281474976710656) (hl6 : l.length <= 1048576) (h1 : lv.length = n.nodes.length) (hk : l.all (knownR n) = true) :
    Pu 90 [ruleL l, strs (namesL n), ints lv] m (ints (firedK n lv l l.length)) := by
  refine pcN 27 [.tmp 6] [28] Tryz.func90 rfl [24] ?_;(repeat' first|refine stW [0,1,2,6,7,8,12,21] ?_|refine fctI fun hf=>?_|refine twI (fun hc=>?_) fun hc=>?_);(refine sN 7 3 1 ?_);refine loop_swp [0, 1, 2, 7, 8] [24] 32 (fun q A H => ∃ i : Nat, i <= l.length /\ q = l.length - i /\ A = [(0, ruleL l), (1, strs (namesL n)), (2, ints lv), (7, .gl 24), (8, li i)] /\ H = [(24, inLt (firedK n lv l i))]) (by omega) ?_ ?_ ?_
  · rintro q A H ⟨i, g1, g2, rfl, rfl⟩;exact SDD
  · refine ⟨_, 0, by omega, rfl, ?_, ?_⟩
    · exact DVR
    · exact DVR
  rintro q A H ⟨i, g1, g2, rfl, rfl⟩;by_cases hi : i < l.length
  · have hi3 : (i : Int) < (l.length : Int) := by omega
    have c5 := fun m => rHolds_f (l.getD i default) n lv m (ruleOk_at hl hi) hn h1 (kn_at hk hi)
    have hfl := firedK_len n lv l i;have hfs : firedK n lv l (i + 1) = if holdB n lv (l.getD i default) = true then firedK n lv l i ++ [(i : Int)] else firedK n lv l i := rfl
    generalize firedK n lv l i = X at *
    (have:=NeI hi);(have:=NeI hi3);clear hk;cases hh : holdB n lv (l.getD i default) <;> simp only [hh] at c5 hfs
    · (repeat' first|refine stW [0,1,2,6,7,8,12,21] ?_|refine fctI fun hf=>?_|refine twI (fun hc=>?_) fun hc=>?_);(refine lN [24] ?_);exact ⟨_, by omega, i + 1, by omega, rfl, rfl, by rw [hfs]; rfl⟩
    · (repeat' first|refine stW [0,1,2,6,7,8,12,21] ?_|refine fctI fun hf=>?_|refine twI (fun hc=>?_) fun hc=>?_);(refine lN [24] ?_);exact ⟨_, by omega, i + 1, by omega, rfl, rfl, by rw [hfs]; rfl⟩
  obtain rfl : i = l.length := by omega
  have hi3 : ¬ ((l.length : Int) < (l.length : Int)) := by omega
  (have:=NeI hi3);clear hk;generalize firedK n lv l l.length = X at *
  (repeat' first|refine stW [0,1,2,6,7,8,12,21] ?_|refine fctI fun hf=>?_|refine twI (fun hc=>?_) fun hc=>?_);exact DVR
theorem listB_hit {n : Net} {ss : List Sta} {i : Nat} (hi : i < ss.length) (h : staB n (ss.getD i default) = false) : listB n ss = false := by
  unfold listB;rw [Bool.and_eq_false_iff];exact .inr (List.all_eq_false.2 ⟨_, getD_mem hi, by rw [h]; decide⟩)
theorem listB_all {n : Net} {ss : List Sta} (nb : netB n = true) (h : ∀ j, j < ss.length -> staB n (ss.getD j default) = true) : listB n ss = true := by
  unfold listB;rw [nb, Bool.true_and, List.all_eq_true];intro r hr;obtain ⟨j, hj, rfl⟩ := List.mem_iff_getElem.1 hr;have := h j hj;rw [List.getD_eq_getElem?_getD, List.getElem?_eq_getElem hj] at this;exact this
def listN (n : Net) (ss : List Sta) : Int := if listB n ss = false then 1 else if 10000 < ss.length then 4 else 0
theorem rListed_f (n : Net) (ss : List Sta) (m : Nat) (no : netOk n) (hs : stasOk ss) : Pu 88 [netD n, staL ss] m (li (listN n ss)) := by
  obtain ⟨hs1, hs2⟩ := hs;have k1 := fun m => rNetValid_f n m no
  have e0 : listN n ss = if listB n ss = false then 1 else if 10000 < ss.length then 4 else 0 := rfl
  rw [e0];clear e0;cases nb : netB n <;> simp only [nb] at k1
  · rw [if_pos (by unfold listB; rw [nb]; rfl)];refine pcN 25 [.tmp 4] [3] Tryz.func88 rfl [] ?_;(repeat' first|refine stW [0,1,2,4,5,8,12,21,24] ?_|refine fctI fun hf=>?_|refine twI (fun hc=>?_) fun hc=>?_);exact DVR
  refine pcN 25 [.tmp 4] [3] Tryz.func88 rfl [] ?_;(repeat' first|refine stW [0,1,2,4,5,8,12,21,24] ?_|refine fctI fun hf=>?_|refine twI (fun hc=>?_) fun hc=>?_);refine loop_swp [1, 2, 5] [0] 48 (fun q A H => ∃ i : Nat, i <= ss.length /\ q = ss.length - i /\ (∀ j, j < i -> staB n (ss.getD j default) = true) /\ A = [(1, staL ss), (2, .ptr 0 0), (5, li i)] /\ H = [(0, .blk 25 (netC n))]) (by omega) ?_ ?_ ?_
  · rintro q A H ⟨i, g1, g2, g3, rfl, rfl⟩;exact SDD
  · refine ⟨_, 0, by omega, rfl, by omega, ?_, ?_⟩
    · exact DVR
    · exact DVR
  rintro q A H ⟨i, g1, g2, g3, rfl, rfl⟩;by_cases hi : i < ss.length
  · have hi3 : (i : Int) < (ss.length : Int) := by omega
    have k2 := fun m => rStaValid_f n (ss.getD i default) m nb (hs2 _ (getD_mem hi))
    have hit := @listB_hit n ss i hi;have hnx : staB n (ss.getD i default) = true -> ∀ j, j < i + 1 -> staB n (ss.getD j default) = true := fun h j hj => by
      by_cases e : j = i
      · subst e; exact h
      · exact g3 j (by omega)
    (have:=NeI hi);(have:=NeI hi3);clear g3 hs2;cases hb : staB n (ss.getD i default) <;> simp only [hb] at k2
    · rw [if_pos (hit hb)];clear hnx hit;(repeat' first|refine stW [0,1,2,4,5,8,12,21,24] ?_|refine fctI fun hf=>?_|refine twI (fun hc=>?_) fun hc=>?_);exact DVR
    · replace hnx := hnx hb
      clear hit;(repeat' first|refine stW [0,1,2,4,5,8,12,21,24] ?_|refine fctI fun hf=>?_|refine twI (fun hc=>?_) fun hc=>?_);(refine lN [0] ?_);exact ⟨_, by omega, i + 1, by omega, rfl, hnx, rfl, rfl⟩
  obtain rfl : i = ss.length := by omega
  have hi3 : ¬ ((ss.length : Int) < (ss.length : Int)) := by omega
  rw [if_neg (by rw [listB_all nb g3]; decide)];(have:=NeI hi3);clear g3 hs2;by_cases h10 : (10000 : Int) < (ss.length : Int)
  · rw [if_pos (by omega)];(have:=NeI h10);(repeat' first|refine stW [0,1,2,4,5,8,12,21,24] ?_|refine fctI fun hf=>?_|refine twI (fun hc=>?_) fun hc=>?_);exact DVR
  · rw [if_neg (by omega)];(have:=NeI h10);(repeat' first|refine stW [0,1,2,4,5,8,12,21,24] ?_|refine fctI fun hf=>?_|refine twI (fun hc=>?_) fun hc=>?_);exact DVR
theorem rCLog_f (n : Net) (l : List Rule) (ss : List Sta) (m : Nat) (no : netOk n) (lo : rulOk l) (hs : stasOk ss) :
    Pu 32 [netD n, ruleL l, staL ss] m (.tup [intss (logR n l ss).1, li (logR n l ss).2]) := by
  have hs1 := hs.1;have k1 := fun m => rRulesV_f l m lo
  have k2 := fun m => rListed_f n ss m no hs
  have e0 : logR n l ss = if (listB n ss && rulesB l) = false then ([], 1) else if 10000 < ss.length then ([], 4) else if l.all (knownR n) = false then ([], 9) else (logL n l ss, 0) := rfl
  rw [e0];clear e0;cases rb : rulesB l <;> simp only [rb] at k1
  · rw [if_pos (by rw [Bool.and_false])];refine pcN 45 [.tmp 6,.tmp 7] [85,3] Tryz.func32 rfl [] ?_;(repeat' first|refine stW [0,1,2,3,6,7,8,9,10,13,18,23,27] ?_|refine fctI fun hf=>?_|refine twI (fun hc=>?_) fun hc=>?_);exact DVR
  rw [Bool.and_true];unfold listN at k2;cases hL : listB n ss
  · rw [hL, if_pos rfl] at k2;rw [if_pos rfl];refine pcN 45 [.tmp 6,.tmp 7] [85,3] Tryz.func32 rfl [] ?_;(repeat' first|refine stW [0,1,2,3,6,7,8,9,10,13,18,23,27] ?_|refine fctI fun hf=>?_|refine twI (fun hc=>?_) fun hc=>?_);exact DVR
  rw [hL, if_neg (by decide)] at k2;rw [if_neg (show ¬ true = false by decide)];by_cases h10 : 10000 < ss.length
  · rw [if_pos h10] at k2 ⊢;refine pcN 45 [.tmp 6,.tmp 7] [85,3] Tryz.func32 rfl [] ?_;(repeat' first|refine stW [0,1,2,3,6,7,8,9,10,13,18,23,27] ?_|refine fctI fun hf=>?_|refine twI (fun hc=>?_) fun hc=>?_);exact DVR
  rw [if_neg h10] at k2 ⊢;obtain ⟨nb, hall⟩ := listB_in hL;have hnn := netB_len nb;have hl60 : l.length <= 60 := by
    unfold rulesB at rb;simp only [Bool.and_eq_true, decide_eq_true_eq] at rb;exact rb.1.1
  have k3 := fun m => rKnown_f l n m lo no (by omega)
  cases hka : l.all (knownR n) <;> simp only [hka] at k3
  · rw [if_pos rfl];clear hall;refine pcN 45 [.tmp 6,.tmp 7] [85,3] Tryz.func32 rfl [] ?_;(repeat' first|refine stW [0,1,2,3,6,7,8,9,10,13,18,23,27] ?_|refine fctI fun hf=>?_|refine twI (fun hc=>?_) fun hc=>?_);exact DVR
  rw [if_neg (by decide)];have k4 := fun m => rNames_f n m (by omega)
  have hLl := logL_len n l ss;have hLt := fun i (h : i < ss.length) => logL_take n l ss h
  refine pcN 45 [.tmp 6,.tmp 7] [85,3] Tryz.func32 rfl [144] ?_;(repeat' first|refine stW [0,1,2,3,6,7,8,9,10,13,18,23,27] ?_|refine fctI fun hf=>?_|refine twI (fun hc=>?_) fun hc=>?_);(refine sN 9 28 1 ?_);refine loop_swp [1, 2, 3, 9, 10] [0, 144] 152 (fun q A H => ∃ i : Nat, i <= ss.length /\ q = ss.length - i /\ A = [(1, ruleL l), (2, staL ss), (3, .ptr 0 0), (9, .gl 144), (10, li i)] /\ H = [(0, .blk 25 (netC n)), (144, ilLt ((logL n l ss).take i))]) (by omega) ?_ ?_ ?_
  · rintro q A H ⟨i, g1, g2, rfl, rfl⟩;exact SDD
  · refine ⟨_, 0, by omega, rfl, ?_, ?_⟩
    · exact DVR
    · exact DVR
  rintro q A H ⟨i, g1, g2, rfl, rfl⟩;by_cases hi : i < ss.length
  · have hi3 : (i : Int) < (ss.length : Int) := by omega
    obtain ⟨v1, v2⟩ := sta_vol nb (hall _ (getD_mem hi));have k5 := fun m => rLevels29_f n (ss.getD i default).vol m no nb v1 v2
    have k6 := fun m => rFired_f l n (levelsL n (ss.getD i default).vol) m lo (by omega) (by omega) (levelsL_len ..) hka
    have hnx := hLt i hi;have hti : ((logL n l ss).take i).length = i := by rw [List.length_take]; omega
    generalize (logL n l ss).take i = X at *
    generalize firedK n (levelsL n (ss.getD i default).vol) l l.length = F at *
    generalize levelsL n (ss.getD i default).vol = LV at *
    (have:=NeI hi);(have:=NeI hi3);clear hall hLt hka v2;(repeat' first|(show SWp _ _ _ (.region _ _ true) _ _ _ _;refine xG mixed [144] ?_)|refine stW [0,1,2,3,6,7,8,9,10,13,18,23,27] ?_|refine fctI fun hf=>?_|refine twI (fun hc=>?_) fun hc=>?_);rw [show rows ilRow X ++ [[ints F]] = rows ilRow (X ++ [F]) from rows_app ilRow X [F], <- hnx];(refine lR 288 144 [0, 288] ?_);exact ⟨_, by omega, i + 1, by omega, rfl, rfl, rfl⟩
  obtain rfl : i = ss.length := by omega
  have hi3 : ¬ ((ss.length : Int) < (ss.length : Int)) := by omega
  rw [show (logL n l ss).take ss.length = logL n l ss by rw [<- hLl, List.take_length]];generalize logL n l ss = X at *
  (have:=NeI hi3);clear hall hLt hka;(repeat' first|refine stW [0,1,2,3,6,7,8,9,10,13,18,23,27] ?_|refine fctI fun hf=>?_|refine twI (fun hc=>?_) fun hc=>?_);exact DVR
theorem rSwitches_f (a b : Sta) (m : Nat) (h0 : a.set.length <= 281474976710656) (h1 : a.on.length = a.set.length) (h2 : b.set.length = a.set.length) (h3 : b.on.length = a.set.length) : Pu 92 [staD a, staD b] m (li (swI a b a.set.length)) := by
  have hbj := fun k => swI_in (a := a) (b := b) k
  have hswk : ∀ k, swI a b (k + 1) = swI a b k + if a.set.getD k default = b.set.getD k default /\ a.on.getD k default = b.on.getD k default then 0 else 1 := fun k => rfl
  refine pcN 41 [.tmp 4] [3] Tryz.func92 rfl [] ?_;(repeat' first|refine stW [0,1,2,3,4,5,6,11,37] ?_|refine fctI fun hf=>?_|refine twI (fun hc=>?_) fun hc=>?_);refine loop_swp [2, 3, 5, 6] [0, 8] 40 (fun q A H => ∃ k : Nat, k <= a.set.length /\ q = a.set.length - k /\ A = [(2, .ptr 0 0), (3, .ptr 8 0), (5, li (swI a b k)), (6, li k)] /\ H = [(0, .blk 31 (staC a)), (8, .blk 31 (staC b))]) (by omega) ?_ ?_ ?_
  · rintro q A H ⟨k, k1, k2, rfl, rfl⟩;exact SDD
  · refine ⟨_, 0, by omega, rfl, ?_, ?_⟩
    · exact DVR
    · exact DVR
  rintro q A H ⟨k, k1, k2, rfl, rfl⟩;by_cases hk : k < a.set.length
  · have hk3 : (k : Int) < (a.set.length : Int) := by omega
    have hka : k < a.on.length := by omega
    have hka3 : (k : Int) < (a.on.length : Int) := by omega
    have hkb : k < b.set.length := by omega
    have hkb3 : (k : Int) < (b.set.length : Int) := by omega
    have hkc : k < b.on.length := by omega
    have hkc3 : (k : Int) < (b.on.length : Int) := by omega
    have hbk := hbj k;have hsk := hswk k;generalize swI a b k = W1 at *
    (have:=NeI hk);(have:=NeI hk3);(have:=NeI hka);(have:=NeI hka3);(have:=NeI hkb);(have:=NeI hkb3);(have:=NeI hkc);(have:=NeI hkc3);clear hswk hbj;by_cases h1 : a.set.getD k default = b.set.getD k default
    case neg =>
      rw [if_neg (fun c => h1 c.1)] at hsk;(have:=NeI h1);(repeat' first|refine stW [0,1,2,3,4,5,6,11,37] ?_|refine fctI fun hf=>?_|refine twI (fun hc=>?_) fun hc=>?_);(refine lN [0, 8] ?_);exact ⟨_, by omega, k + 1, by omega, rfl, by rw [hsk] <;> rfl, rfl⟩
    (have:=NeI h1);(repeat' first|refine stW [0,1,2,3,4,5,6,11,37] ?_|refine fctI fun hf=>?_|refine twI (fun hc=>?_) fun hc=>?_)
    · have h2 : ¬ a.on.getD k default = b.on.getD k default := by simpa using hc
      rw [if_neg (fun c => h2 c.2)] at hsk;(refine lN [0, 8] ?_);exact ⟨_, by omega, k + 1, by omega, rfl, by rw [hsk] <;> rfl, rfl⟩
    · have h2 : a.on.getD k default = b.on.getD k default := by simpa using hc
      rw [if_pos ⟨h1, h2⟩, Int.add_zero] at hsk;(refine lN [0, 8] ?_);exact ⟨_, by omega, k + 1, by omega, rfl, by rw [hsk] <;> rfl, rfl⟩
  obtain rfl : k = a.set.length := by omega
  have hk3 : ¬ ((a.set.length : Int) < (a.set.length : Int)) := by omega
  (have:=NeI hk3);clear hswk hbj;generalize swI a b a.set.length = W at *
  (repeat' first|refine stW [0,1,2,3,4,5,6,11,37] ?_|refine fctI fun hf=>?_|refine twI (fun hc=>?_) fun hc=>?_);exact DVR
theorem rSwitched_f (ss : List Sta) (m : Nat) (hs : stasOk ss) :
    Pu 35 [staL ss] m (.tup [li (switchR ss).1, li (switchR ss).2]) := by
  obtain ⟨hs1, hs2⟩ := hs;by_cases h10 : (10000 : Int) < (ss.length : Int)
  · rw [show switchR ss = (0, 4) from if_pos (by omega)];(have:=NeI h10);refine pcN 62 [.tmp 2,.tmp 3] [3,3] Tryz.func35 rfl [] ?_;(repeat' first|refine stW [0,2,3,4,5,6,9,13,42,46] ?_|refine fctI fun hf=>?_|refine twI (fun hc=>?_) fun hc=>?_);exact DVR
  rw [show switchR ss = if sizeB ss = false then (0, 3) else (swN ss ss.length, 0) from if_neg (by omega)];(have:=NeI h10);refine pcN 62 [.tmp 2,.tmp 3] [3,3] Tryz.func35 rfl [] ?_;(repeat' first|refine stW [0,2,3,4,5,6,9,13,42,46] ?_|refine fctI fun hf=>?_|refine twI (fun hc=>?_) fun hc=>?_);refine loop_swp [0, 4] [] 48 (fun q A H => ∃ i : Nat, i <= ss.length /\ q = ss.length - i /\ (∀ j, j < i -> (ss.getD j default).set.length = (ss.getD 0 default).set.length /\ (ss.getD j default).on.length = (ss.getD j default).set.length) /\ A = [(0, staL ss), (4, li i)] /\ H = []) (by omega) ?_ ?_ ?_
  · rintro q A H ⟨i, g1, g2, g3, rfl, rfl⟩;exact SDD
  · refine ⟨_, 0, by omega, rfl, by omega, ?_, ?_⟩
    · exact DVR
    · exact DVR
  rintro q A H ⟨i, g1, g2, g3, rfl, rfl⟩;by_cases hi : i < ss.length
  · have hi3 : (i : Int) < (ss.length : Int) := by omega
    have hz : 0 < ss.length := by omega
    have hz3 : (0 : Int) < (ss.length : Int) := by omega
    have hit := @sizeB_hit ss i hi;(have:=NeI hi);(have:=NeI hi3);(have:=NeI hz);(have:=NeI hz3);by_cases h1 : ((ss.getD i default).set.length : Int) = ((ss.getD 0 default).set.length : Int)
    case neg =>
      rw [hit (fun c => h1 (by omega)), if_pos rfl];(have:=NeI h1);clear g3 hit hs2;(repeat' first|refine stW [0,2,3,4,5,6,9,13,42,46] ?_|refine fctI fun hf=>?_|refine twI (fun hc=>?_) fun hc=>?_);exact DVR
    by_cases h2 : ((ss.getD i default).on.length : Int) = ((ss.getD i default).set.length : Int)
    case neg =>
      rw [hit (fun c => h2 (by omega)), if_pos rfl];(have:=NeI h1);(have:=NeI h2);clear g3 hit hs2;(repeat' first|refine stW [0,2,3,4,5,6,9,13,42,46] ?_|refine fctI fun hf=>?_|refine twI (fun hc=>?_) fun hc=>?_);exact DVR
    have hnx : ∀ j, j < i + 1 -> (ss.getD j default).set.length = (ss.getD 0 default).set.length /\ (ss.getD j default).on.length = (ss.getD j default).set.length := fun j hj => by
      by_cases e : j = i
      · subst e; exact ⟨by omega, by omega⟩
      · exact g3 j (by omega)
    (have:=NeI h1);(have:=NeI h2);clear g3 hit hs2;(repeat' first|refine stW [0,2,3,4,5,6,9,13,42,46] ?_|refine fctI fun hf=>?_|refine twI (fun hc=>?_) fun hc=>?_);(refine lN [] ?_);exact ⟨_, by omega, i + 1, by omega, rfl, hnx, rfl, rfl⟩
  obtain rfl : i = ss.length := by omega
  have hi3 : ¬ ((ss.length : Int) < (ss.length : Int)) := by omega
  rw [sizeB_all g3, if_neg (by decide)];(have:=NeI hi3);clear hi3;have hb := swN_in hs2;have hsl : ∀ j, j < ss.length -> (ss.getD j default).set.length <= 281474976710656 := fun j hj => (hs2 _ (getD_mem hj)).2.2.1.1
  have hsz := g3;clear g3 hs2;(repeat' first|refine stW [0,2,3,4,5,6,9,13,42,46] ?_|refine fctI fun hf=>?_|refine twI (fun hc=>?_) fun hc=>?_);refine loop_swp [0, 5, 6] [] 96 (fun q A H => ∃ i : Nat, 1 <= i /\ (i <= ss.length ∨ i = 1) /\ q = ss.length - i /\ A = [(0, staL ss), (5, li (swN ss i)), (6, li i)] /\ H = []) (by omega) ?_ ?_ ?_
  · rintro q A H ⟨i, g1, g2, g3, rfl, rfl⟩;exact SDD
  · refine ⟨_, 1, by omega, by omega, rfl, ?_, ?_⟩
    · exact DVR
    · exact DVR
  rintro q A H ⟨i, g1, g2, g3, rfl, rfl⟩;by_cases hi : i < ss.length
  · have hi3 : (i : Int) < (ss.length : Int) := by omega
    obtain ⟨p, hp⟩ : ∃ p, i = p + 1 := ⟨i - 1, by omega⟩;have hp3 : (i : Int) - 1 = (p : Int) := by omega
    haveI : SubOk (i : Int) 1 (p : Int) := ⟨hp3⟩;have hpl : p < ss.length := by omega
    have hpl3 : (p : Int) < (ss.length : Int) := by omega
    have hsi := hsz i hi;have hsp := hsz p hpl;have hbi := hb i (by omega);have hb2 := hb (i + 1) (by omega);have hsw : swN ss (i + 1) = swN ss i + swI (ss.getD p default) (ss.getD i default) (ss.getD i default).set.length := by
      rw [swN, if_neg (by omega), show i - 1 = p by omega]
    have k1 := fun m => rSwitches_f (ss.getD p default) (ss.getD i default) m (hsl p hpl) (by omega) (by omega) (by omega)
    rw [show (ss.getD i default).set.length = (ss.getD p default).set.length by omega] at hsw;generalize swI (ss.getD p default) (ss.getD i default) (ss.getD p default).set.length = W at *
    generalize swN ss i = S1 at *
    (have:=NeI hi);(have:=NeI hi3);(have:=NeI hpl);(have:=NeI hpl3);clear hsz hb hsl;(repeat' first|refine stW [0,2,3,4,5,6,9,13,42,46] ?_|refine fctI fun hf=>?_|refine twI (fun hc=>?_) fun hc=>?_);(refine lN [] ?_);exact ⟨_, by omega, i + 1, by omega, by omega, rfl, by rw [hsw] <;> rfl, rfl⟩
  have hi3 : ¬ ((i : Int) < (ss.length : Int)) := by omega
  have he : swN ss i = swN ss ss.length := by
    rcases g2 with e | e
    · rw [show i = ss.length by omega]
    · subst e;by_cases e : ss.length = 1
      · rw [e]
      · rw [show ss.length = 0 by omega]; rfl
  rw [he];generalize swN ss ss.length = S at *
  (have:=NeI hi3);clear hb hsz hsl he;(repeat' first|refine stW [0,2,3,4,5,6,9,13,42,46] ?_|refine fctI fun hf=>?_|refine twI (fun hc=>?_) fun hc=>?_);exact DVR
theorem rCLeast_f (n : Net) (ss : List Sta) (t : ByteArray) (m : Nat) (no : netOk n) (hs : stasOk ss) :
    Pu 36 [netD n, staL ss, ls t] m (.tup [li (leastR n ss t).1, li (leastR n ss t).2]) := by
  have k1 := fun m => rListed_f n ss m no hs
  have e0 : leastR n ss t = if listB n ss = false then (0, 1) else if 10000 < ss.length then (0, 4) else if nodeIx n.nodes t < 0 then (0, 9) else if ss.length = 0 then (0, 14) else (leastI ss (nodeIx n.nodes t).toNat ss.length, 0) := rfl
  rw [e0];clear e0;unfold listN at k1;cases hL : listB n ss
  · rw [hL, if_pos rfl] at k1;rw [if_pos rfl];refine pcN 58 [.tmp 6,.tmp 7] [3,3] Tryz.func36 rfl [] ?_;(repeat' first|refine stW [0,1,2,3,6,7,8,9,10,11,16,22,25,36,48] ?_|refine fctI fun hf=>?_|refine twI (fun hc=>?_) fun hc=>?_);exact DVR
  rw [hL, if_neg (by decide)] at k1;rw [if_neg (by decide)];by_cases h10 : 10000 < ss.length
  · rw [if_pos h10] at k1 ⊢;refine pcN 58 [.tmp 6,.tmp 7] [3,3] Tryz.func36 rfl [] ?_;(repeat' first|refine stW [0,1,2,3,6,7,8,9,10,11,16,22,25,36,48] ?_|refine fctI fun hf=>?_|refine twI (fun hc=>?_) fun hc=>?_);exact DVR
  rw [if_neg h10] at k1 ⊢;obtain ⟨nb, hall⟩ := listB_in hL;have k2 := fun m => rFindNode_f n t m no.1.1
  have hlt := nix_lt n.nodes t;by_cases h0 : nodeIx n.nodes t < 0
  · rw [if_pos h0];generalize nodeIx n.nodes t = K at *
    (have:=NeI h0);clear hall;refine pcN 58 [.tmp 6,.tmp 7] [3,3] Tryz.func36 rfl [] ?_;(repeat' first|refine stW [0,1,2,3,6,7,8,9,10,11,16,22,25,36,48] ?_|refine fctI fun hf=>?_|refine twI (fun hc=>?_) fun hc=>?_);exact DVR
  rw [if_neg h0];obtain ⟨p, hp⟩ : ∃ p : Nat, nodeIx n.nodes t = (p : Int) := ⟨_, (Int.toNat_of_nonneg (by omega)).symm⟩;rw [hp] at k2 hlt;rw [hp, Int.toNat_natCast];have hp0 : ¬ (p : Int) < 0 := by omega
  (have:=NeI hp0);by_cases hz : (ss.length : Int) = 0
  · rw [if_pos (by omega)];(have:=NeI hz);clear hall;refine pcN 58 [.tmp 6,.tmp 7] [3,3] Tryz.func36 rfl [] ?_;(repeat' first|refine stW [0,1,2,3,6,7,8,9,10,11,16,22,25,36,48] ?_|refine fctI fun hf=>?_|refine twI (fun hc=>?_) fun hc=>?_);exact DVR
  rw [if_neg (by omega)];(have:=NeI hz);have hvl : ∀ j, j < ss.length -> p < (ss.getD j default).vol.length := fun j hj => by
    have := (sta_vol nb (hall _ (getD_mem hj))).1;omega
  have hz1 : 0 < ss.length := by omega
  have hz2 : (0 : Int) < (ss.length : Int) := by omega
  have hz4 := hvl 0 hz1;have hz5 : (p : Int) < ((ss.getD 0 default).vol.length : Int) := by omega
  (have:=NeI hz1);(have:=NeI hz2);(have:=NeI hz4);(have:=NeI hz5);clear hall;refine pcN 58 [.tmp 6,.tmp 7] [3,3] Tryz.func36 rfl [] ?_;(repeat' first|refine stW [0,1,2,3,6,7,8,9,10,11,16,22,25,36,48] ?_|refine fctI fun hf=>?_|refine twI (fun hc=>?_) fun hc=>?_);refine loop_swp [1, 9, 10, 11] [] 216 (fun q A H => ∃ i : Nat, 1 <= i /\ i <= ss.length /\ q = ss.length - i /\ A = [(1, staL ss), (9, li p), (10, li (leastI ss p i)), (11, li i)] /\ H = []) (by omega) ?_ ?_ ?_
  · rintro q A H ⟨i, g1, g2, g3, rfl, rfl⟩;exact SDD
  · refine ⟨_, 1, by omega, by omega, rfl, ?_, ?_⟩
    · rw [show leastI ss p 1 = (ss.getD 0 default).vol.getD p default from Int.min_self _];exact DVR
    · exact DVR
  rintro q A H ⟨i, g1, g2, g3, rfl, rfl⟩;by_cases hi : i < ss.length
  · have hi3 : (i : Int) < (ss.length : Int) := by omega
    have hv1 := hvl i hi;have hv2 : (p : Int) < ((ss.getD i default).vol.length : Int) := by omega
    have hst : leastI ss p (i + 1) = min (leastI ss p i) ((ss.getD i default).vol.getD p default) := rfl;generalize leastI ss p i = X at *
    (have:=NeI hi);(have:=NeI hi3);(have:=NeI hv1);(have:=NeI hv2);clear hvl;by_cases hm : (ss.getD i default).vol.getD p default < X
    · (have:=NeI hm);have hst2 : leastI ss p (i + 1) = (ss.getD i default).vol.getD p default := by omega
      (repeat' first|refine stW [0,1,2,3,6,7,8,9,10,11,16,22,25,36,48] ?_|refine fctI fun hf=>?_|refine twI (fun hc=>?_) fun hc=>?_);(refine lN [] ?_);exact ⟨_, by omega, i + 1, by omega, by omega, rfl, by rw [hst2] <;> rfl, rfl⟩
    · (have:=NeI hm);have hst2 : leastI ss p (i + 1) = X := by omega
      (repeat' first|refine stW [0,1,2,3,6,7,8,9,10,11,16,22,25,36,48] ?_|refine fctI fun hf=>?_|refine twI (fun hc=>?_) fun hc=>?_);(refine lN [] ?_);exact ⟨_, by omega, i + 1, by omega, by omega, rfl, by rw [hst2] <;> rfl, rfl⟩
  obtain rfl : i = ss.length := by omega
  have hi3 : ¬ ((ss.length : Int) < (ss.length : Int)) := by omega
  (have:=NeI hi3);generalize leastI ss p ss.length = X at *
  clear hvl;(repeat' first|refine stW [0,1,2,3,6,7,8,9,10,11,16,22,25,36,48] ?_|refine fctI fun hf=>?_|refine twI (fun hc=>?_) fun hc=>?_);exact DVR

end Go.Proofs.YtefkhfkapnmikaaGreat
