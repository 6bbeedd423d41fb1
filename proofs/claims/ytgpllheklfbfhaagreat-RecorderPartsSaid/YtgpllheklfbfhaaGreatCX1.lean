/-
  Contracts of functions of the program, over the engine.
  No condition.
-/
import Derived.Test.YtgpllheklfbfhaaGreatCX0
import Derived.Test.YtgpllheklfbfhaaGreatCT8T9T9bT9cT9eT10T11
namespace Go.Proofs.YtgpllheklfbfhaaGreat
open Go.Eng
set_option linter.all false
attribute [local irreducible] DCallsG SWp Fct CallQ XCallQ LCallQ XLCallQ drun xrun
set_option maxHeartbeats 64000000
set_option maxRecDepth 20000

def setZ (ks : List Int) : List (Value × DV) := ks.map fun z => (.int .i64 z, lb true)
def hasZ (ks : List Int) (w : Int) : Bool := ks.any fun z => decide (z = w)
def insZ (ks : List Int) (w : Int) : List Int := if hasZ ks w = true then ks else ks ++ [w]
theorem vkey_z (x y : Int) : vkey (.int .i64 x) (.int .i64 y) = decide (x = y) := by
  rw [Bool.eq_iff_iff];simp [vkey]
theorem setZ_uses (U : Nat -> Prop) (ks : List Int) : DV.usesL U ((setZ ks).map (·.2)) = True :=
  propext ⟨fun _ => trivial, fun _ => usesL_iff.2 fun d hd => by
    obtain ⟨e, he, rfl⟩ := List.mem_map.1 hd;obtain ⟨z, _, rfl⟩ := List.mem_map.1 he;trivial⟩
theorem setZ_mp (r : Nat -> Nat) (ks : List Int) : (setZ ks).map (fun e => (e.1, e.2.mp r)) = setZ ks := by
  unfold setZ; rw [List.map_map]; exact List.map_congr_left fun z _ => rfl
theorem setZ_ren (o n : Nat) (ks : List Int) : (setZ ks).map (fun e => (e.1, e.2.ren o n)) = setZ ks := by
  unfold setZ; rw [List.map_map]; exact List.map_congr_left fun z _ => rfl
theorem setZ_frz (o : Nat) (x : FV) (ks : List Int) : (setZ ks).map (fun e => (e.1, e.2.frz o x)) = setZ ks := by
  unfold setZ; rw [List.map_map]; exact List.map_congr_left fun z _ => rfl
theorem setZ_len (ks : List Int) : (setZ ks).length = ks.length := List.length_map _
theorem setZ_ok (ks : List Int) : keysOk (.int .i64) (setZ ks) = True :=
  propext ⟨fun _ => trivial, fun _ e he => by
    obtain ⟨z, _, rfl⟩ := List.mem_map.1 he;rfl⟩
theorem setZ_find (w : Int) : ∀ ks : List Int, mfind (setZ ks) (.int .i64 w) = if hasZ ks w = true then some (lb true) else none
  | [] => rfl
  | z :: ks => by
    have e0 : setZ (z :: ks) = (.int .i64 z, lb true) :: setZ ks := rfl;have e1 : hasZ (z :: ks) w = (decide (z = w) || hasZ ks w) := rfl;rw [e0, mfind, vkey_z, setZ_find w ks, e1];by_cases h : w = z
    · subst h;rw [if_pos (decide_eq_true rfl), decide_eq_true rfl, Bool.true_or, if_pos rfl]
    · rw [if_neg (by simpa using h), decide_eq_false (fun e => h e.symm), Bool.false_or]
theorem setZ_val (ks : List Int) (w : Int) : (mfind (setZ ks) (.int .i64 w)).getD (.p (.lit (.bool false))) = lb (hasZ ks w) := by
  rw [setZ_find];cases hasZ ks w <;> rfl
theorem setZ_set (w : Int) : ∀ ks : List Int, mset (setZ ks) (.int .i64 w) (.p (.lit (.bool true))) = setZ (insZ ks w)
  | [] => rfl
  | z :: ks => by
    have ih := setZ_set w ks;unfold insZ at ih ⊢;have e0 : setZ (z :: ks) = (.int .i64 z, lb true) :: setZ ks := rfl;have e1 : hasZ (z :: ks) w = (decide (z = w) || hasZ ks w) := rfl;rw [e0, mset, vkey_z, e1];by_cases h : w = z
    · subst h;rw [if_pos (decide_eq_true rfl), decide_eq_true rfl, Bool.true_or, if_pos rfl]; rfl
    · rw [if_neg (by simpa using h), decide_eq_false (fun e => h e.symm), Bool.false_or, ih];cases hasZ ks w <;> rfl
theorem insZ_has (ks : List Int) (w v : Int) : hasZ (insZ ks w) v = (hasZ ks v || decide (w = v)) := by
  unfold insZ;cases h : hasZ ks w
  · rw [if_neg (by decide)];unfold hasZ;rw [List.any_append, List.any_cons, List.any_nil, Bool.or_false]
  · rw [if_pos rfl];by_cases e : w = v
    · subst e; rw [h]; rfl
    · rw [decide_eq_false e, Bool.or_false]
attribute [push_cast] setZ_val setZ_set setZ_uses setZ_mp setZ_ren setZ_frz setZ_len setZ_ok
attribute [irreducible] setZ
class HasZ (l : List Int) (s : Int) (b : outParam Bool) : Prop where
  h : hasZ l s = b
theorem hasZ_at {l : List Int} {s : Int} {b : Bool} [h : HasZ l s b] : hasZ l s = b := h.h
class KnoAt (l : List (ByteArray × Int)) (s : ByteArray) (b : outParam Bool) : Prop where
  h : knoS l s = b
theorem knoS_at {l : List (ByteArray × Int)} {s : ByteArray} {b : Bool} [h : KnoAt l s b] : knoS l s = b := h.h
attribute [push_cast] hasZ_at knoS_at
theorem idxCndC_f (g : FuncId) (t : TypeId) (cs : List PV) (p : Cnd -> Bool) (l : List (Cnd)) (hl : l.length <= 281474976710656) (hg : ∀ x, x ∈ l -> ∀ m, DCalls Tryz.prog g [cndD x, .ptr 0 0] (hget [(0, .blk t (cs.map .p))]) m (lb (p x)) (hget [(0, .blk t (cs.map .p))])) :
    DCalls Tryz.prog 65 [cndL l, .clo g [.ptr 0 0]] (hget [(0, .blk t (cs.map .p))]) 1 (li (idxI p l)) (hget [(0, .blk t (cs.map .p))]) := by
  refine contract (n := 19) (rs := [.tmp 4]) (ts := [3]) Tryz.func65 rfl (by decide) 1 1 [] [] [] (li (idxI p l)) [(0, .blk t (cs.map .p))] (by (exact SD)) (by (exact SD)) ?_;(repeat' first|refine stW [0,1,4,5,7,8,9,16] ?_|refine fctI fun hf=>?_|refine twI (fun hc=>?_) fun hc=>?_);refine loop_swp [0, 1, 7, 8] [0] 1 (fun q A H => ∃ i : Nat, i <= l.length /\ q = l.length - i /\ (l.take i).any p = false /\ A = [(0, cndL l), (1, .clo g [.ptr 0 0]), (7, li l.length), (8, li i)] /\ H = [(0, .blk t (cs.map .p))]) (by omega) ?_ ?_ ?_
  · rintro q A H ⟨i, h1, h2, h3, rfl, rfl⟩;exact SDD
  · refine ⟨_, 0, by omega, rfl, rfl, ?_, ?_⟩
    · exact DVR
    · exact DVR
  · rintro q A H ⟨i, h1, h2, h3, rfl, rfl⟩;(repeat' first|refine stW [0,1,4,5,7,8,9,16] ?_|(show CallQ ..;first|refine cQ (fun hcc=>(hg _ (getD_mem SC) _)) ?_|(refine lP ?_;refine lQ (fun hcc m=>(hg _ (getD_mem SC) _)) ?_))|refine fctI fun hf=>?_|refine twI (fun hc=>?_) fun hc=>?_)
    · (refine DVQ ?_);rw [idxI_hit h3 (by omega) (by assumption)]
    · (refine lN [0] ?_);exact ⟨_, by omega, i + 1, by omega, rfl, any_step h3 (by omega) (by assumption), rfl, rfl⟩
    · (refine DVQ ?_);rw [List.take_of_length_le (by omega)] at h3;rw [idxI_none h3]
theorem conCndC_f (g : FuncId) (t : TypeId) (cs : List PV) (p : Cnd -> Bool) (l : List Cnd) (hl : l.length <= 281474976710656) (hg : ∀ x, x ∈ l -> ∀ m, DCalls Tryz.prog g [cndD x, .ptr 0 0] (hget [(0, .blk t (cs.map .p))]) m (lb (p x)) (hget [(0, .blk t (cs.map .p))])) :
    DCalls Tryz.prog 32 [cndL l, .clo g [.ptr 0 0]] (hget [(0, .blk t (cs.map .p))]) 1 (lb (l.any p)) (hget [(0, .blk t (cs.map .p))]) := by
  have ci := idxCndC_f g t cs p l hl hg;refine contract (n := 9) (rs := [.tmp 4]) (ts := [4]) Tryz.func32 rfl (by decide) 1 1 [] [] [] (lb (l.any p)) [(0, .blk t (cs.map .p))] (by (exact SD)) (by (exact SD)) ?_;(repeat' first|refine stW [0,1,4] ?_|refine fctI fun hf=>?_|refine twI (fun hc=>?_) fun hc=>?_);(refine cQT [0] (fun hcc => ci) ?_);(repeat' first|refine stW [0,1,4] ?_|refine fctI fun hf=>?_|refine twI (fun hc=>?_) fun hc=>?_);(refine DVQ ?_);rw [idxI_any]
theorem uwithin_f (a b c : Int) (m : Nat) : Pu 100 [li a, li b, li c] m (lb (btwB a b c)) := by
  refine pcN 15 [.tmp 6] [4] Tryz.func100 rfl [] ?_;(repeat' first|refine stW [0,1,2,6] ?_|refine fctI fun hf=>?_|refine twI (fun hc=>?_) fun hc=>?_);(refine DVQ ?_);refine lbC ?_;unfold btwB; grind
theorem uvalid_f (r : Rule) (m : Nat) (hr : ruleOk r) : Pu 91 [ruleD r] m (lb (ruleB r)) := by
  obtain ⟨h1, ⟨h2, h3⟩, h4, _⟩ := hr;have c1 := fun m => name_f r.name m h1
  have c2 := fun m => name_f r.lnk m h4
  have c3 := fun m => uwithin_f r.setg 0 1000 m
  have e : ruleB r = (nameB r.name && nameB r.lnk && decide (r.whn.length <= 20) && btwB r.setg 0 1000 && r.whn.all cndB) := rfl;rw [e];have e20 : decide (r.whn.length <= 20) = !decide ((20 : Int) < (r.whn.length : Int)) := by
    rw [Bool.eq_iff_iff];simp only [decide_eq_true_eq, Bool.not_eq_true', decide_eq_false_iff_not]; omega
  rw [e20];generalize nameB r.name = a at *
  generalize nameB r.lnk = b at *
  generalize btwB r.setg 0 1000 = c at *
  by_cases h20 : (20 : Int) < (r.whn.length : Int)
  · rw [decide_eq_true h20, Bool.not_true, Bool.and_false, Bool.false_and, Bool.false_and];(have:=NeI h20);cases a
    · refine pcN 45 [.tmp 2] [4] Tryz.func91 rfl [] ?_;(repeat' first|refine stW [0,1,2,4,26,28,29,30,31,43] ?_|refine fctI fun hf=>?_|refine twI (fun hc=>?_) fun hc=>?_);exact DVR
    cases b
    · refine pcN 45 [.tmp 2] [4] Tryz.func91 rfl [] ?_;(repeat' first|refine stW [0,1,2,4,26,28,29,30,31,43] ?_|refine fctI fun hf=>?_|refine twI (fun hc=>?_) fun hc=>?_);exact DVR
    · refine pcN 45 [.tmp 2] [4] Tryz.func91 rfl [] ?_;(repeat' first|refine stW [0,1,2,4,26,28,29,30,31,43] ?_|refine fctI fun hf=>?_|refine twI (fun hc=>?_) fun hc=>?_);exact DVR
  rw [decide_eq_false h20, Bool.not_false, Bool.and_true];(have:=NeI h20);cases a
  · refine pcN 45 [.tmp 2] [4] Tryz.func91 rfl [] ?_;(repeat' first|refine stW [0,1,2,4,26,28,29,30,31,43] ?_|refine fctI fun hf=>?_|refine twI (fun hc=>?_) fun hc=>?_);exact DVR
  cases b
  · refine pcN 45 [.tmp 2] [4] Tryz.func91 rfl [] ?_;(repeat' first|refine stW [0,1,2,4,26,28,29,30,31,43] ?_|refine fctI fun hf=>?_|refine twI (fun hc=>?_) fun hc=>?_);exact DVR
  cases c
  · refine pcN 45 [.tmp 2] [4] Tryz.func91 rfl [] ?_;(repeat' first|refine stW [0,1,2,4,26,28,29,30,31,43] ?_|refine fctI fun hf=>?_|refine twI (fun hc=>?_) fun hc=>?_);exact DVR
  rw [show (true && true && true) = true from rfl, Bool.true_and];refine pcN 45 [.tmp 2] [4] Tryz.func91 rfl [] ?_;(repeat' first|refine stW [0,1,2,4,26,28,29,30,31,43] ?_|refine fctI fun hf=>?_|refine twI (fun hc=>?_) fun hc=>?_);refine loop_swp [28, 29, 30] [] 224 (fun q A H => ∃ i : Nat, i <= r.whn.length /\ q = r.whn.length - i /\ (∀ j, j < i -> (!cndB (r.whn.getD j default)) = false) /\ A = [(28, cndL r.whn), (29, li r.whn.length), (30, li i)] /\ H = []) (by omega) ?_ ?_ ?_
  · rintro q A H ⟨i, g1, g2, g3, rfl, rfl⟩;exact SDD
  · refine ⟨_, 0, by omega, rfl, by omega, ?_, ?_⟩
    · exact DVR
    · exact DVR
  rintro q A H ⟨i, g1, g2, g3, rfl, rfl⟩;by_cases hi : i < r.whn.length
  · have hi3 : (i : Int) < (r.whn.length : Int) := by omega
    have c4 := fun m => name_f (r.whn.getD i default).nod m (h3 _ (getD_mem hi)).1
    have c5 := fun m => uwithin_f (r.whn.getD i default).level (-4194304) 4194304 m
    have ec : cndB (r.whn.getD i default) = (nameB (r.whn.getD i default).nod && btwB (r.whn.getD i default).level (-4194304) 4194304) := rfl;have hbad : (!cndB (r.whn.getD i default)) = true -> r.whn.all cndB = false := fun h => List.all_eq_false.2 ⟨_, getD_mem hi, by rw [Bool.not_eq_true'] at h; rw [h]; decide⟩
    have hnx : (!cndB (r.whn.getD i default)) = false -> ∀ j, j < i + 1 -> (!cndB (r.whn.getD j default)) = false := fun h j hj => by
      by_cases e : j = i
      · subst e; exact h
      · exact g3 j (by omega)
    rw [ec] at hbad hnx;clear g3 ec e e20;generalize nameB (r.whn.getD i default).nod = a at *
    generalize btwB (r.whn.getD i default).level (-4194304) 4194304 = b at *
    (have:=NeI hi);(have:=NeI hi3);cases a
    · rw [hbad rfl];(repeat' first|refine stW [0,1,2,4,26,28,29,30,31,43] ?_|refine fctI fun hf=>?_|refine twI (fun hc=>?_) fun hc=>?_);exact DVR
    cases b
    · rw [hbad rfl];(repeat' first|refine stW [0,1,2,4,26,28,29,30,31,43] ?_|refine fctI fun hf=>?_|refine twI (fun hc=>?_) fun hc=>?_);exact DVR
    · replace hnx := hnx rfl
      (repeat' first|refine stW [0,1,2,4,26,28,29,30,31,43] ?_|refine fctI fun hf=>?_|refine twI (fun hc=>?_) fun hc=>?_);(refine lN [] ?_);exact ⟨_, by omega, i + 1, by omega, rfl, hnx, rfl, rfl⟩
  obtain rfl : i = r.whn.length := by omega
  have hi3 : ¬ ((r.whn.length : Int) < (r.whn.length : Int)) := by omega
  have ht : r.whn.all cndB = true := by
    rw [<- not_all, any_no g3]; rfl
  rw [ht];(have:=NeI hi3);clear g3;(repeat' first|refine stW [0,1,2,4,26,28,29,30,31,43] ?_|refine fctI fun hf=>?_|refine twI (fun hc=>?_) fun hc=>?_);exact DVR
theorem ruleNs_take (l : List Rule) {i : Nat} (h : i < l.length) : (ruleNs l).take (i + 1) = (ruleNs l).take i ++ [(l.getD i default).name] := by
  have h2 : i < (ruleNs l).length := by rw [ruleNs_len]; exact h
  rw [List.take_succ_eq_append_getElem h2, <- ruleNs_at l h, List.getD_eq_getElem?_getD, List.getElem?_eq_getElem h2]; rfl
theorem rulesB_eq {l : List Rule} (h : l.length <= 60) : rulesB l = (l.all ruleB && !dupB (ruleNs l)) := by
  unfold rulesB;rw [decide_eq_true h, Bool.true_and]
theorem rulesV_f (l : List Rule) (m : Nat) (hl : rulOk l) : Pu 48 [ruleL l] m (lb (rulesB l)) := by
  obtain ⟨hl1, hl2⟩ := hl;by_cases h60 : (60 : Int) < (l.length : Int)
  · rw [show rulesB l = false by unfold rulesB; rw [decide_eq_false (by omega), Bool.false_and, Bool.false_and]];(have:=NeI h60);refine pcN 29 [.tmp 2] [4] Tryz.func48 rfl [] ?_;(repeat' first|refine stW [0,2,3,5,8,10,11,12,13,24] ?_|refine fctI fun hf=>?_|refine twI (fun hc=>?_) fun hc=>?_);exact DVR
  rw [rulesB_eq (by omega)];(have:=NeI h60);refine pcN 29 [.tmp 2] [4] Tryz.func48 rfl [] ?_;(repeat' first|refine stW [0,2,3,5,8,10,11,12,13,24] ?_|refine fctI fun hf=>?_|refine twI (fun hc=>?_) fun hc=>?_);refine loop_swp [3, 10, 11, 12] [32] 72 (fun q A H => ∃ i : Nat, i <= l.length /\ q = l.length - i /\ (∀ j, j < i -> ruleB (l.getD j default) = true /\ hasB ((ruleNs l).take j) (l.getD j default).name = false) /\ A = [(3, .mref 32), (10, ruleL l), (11, li l.length), (12, li i)] /\ H = [(32, .map (setS ((ruleNs l).take i)))]) (by omega) ?_ ?_ ?_
  · rintro q A H ⟨i, g1, g2, g3, rfl, rfl⟩;exact SDD
  · refine ⟨_, 0, by omega, rfl, by omega, ?_, ?_⟩
    · exact DVR
    · rw [List.take_zero, show setS [] = [] from by unfold setS; rfl];exact DVR
  rintro q A H ⟨i, g1, g2, g3, rfl, rfl⟩;by_cases hi : i < l.length
  · have hi3 : (i : Int) < (l.length : Int) := by omega
    have c1 := fun m => uvalid_f (l.getD i default) m (hl2 _ (getD_mem hi))
    have hh := @rules_hit l i hi;have htk := ruleNs_take l hi;have hins : hasB ((ruleNs l).take i) (l.getD i default).name = false -> insS ((ruleNs l).take i) (l.getD i default).name = (ruleNs l).take (i + 1) := fun h => by
      unfold insS;rw [h, if_neg (by decide), htk]
    have hnx : ruleB (l.getD i default) = true -> hasB ((ruleNs l).take i) (l.getD i default).name = false -> ∀ j, j < i + 1 -> ruleB (l.getD j default) = true /\ hasB ((ruleNs l).take j) (l.getD j default).name = false := fun h1 h2 j hj => by
      by_cases e : j = i
      · subst e; exact ⟨h1, h2⟩
      · exact g3 j (by omega)
    clear g3 htk;(have:=NeI hi);(have:=NeI hi3);cases hv : ruleB (l.getD i default) <;> simp only [hv] at c1
    · rw [hh (.inl hv)];clear hnx hins hh;generalize (ruleNs l).take i = X at *
      (repeat' first|refine stW [0,2,3,5,8,10,11,12,13,24] ?_|refine fctI fun hf=>?_|refine twI (fun hc=>?_) fun hc=>?_);exact DVR
    cases hb : hasB ((ruleNs l).take i) (l.getD i default).name
    · replace hins := hins hb
      replace hnx := hnx hv hb
      (have:=NeI hb);clear hh;generalize (ruleNs l).take i = X at *
      (repeat' first|refine stW [0,2,3,5,8,10,11,12,13,24] ?_|refine fctI fun hf=>?_|refine twI (fun hc=>?_) fun hc=>?_);rw [hins];(refine lN [32] ?_);exact ⟨_, by omega, i + 1, by omega, rfl, hnx, rfl, rfl⟩
    · rw [hh (.inr hb)];(have:=NeI hb);clear hnx hins hh;generalize (ruleNs l).take i = X at *
      (repeat' first|refine stW [0,2,3,5,8,10,11,12,13,24] ?_|refine fctI fun hf=>?_|refine twI (fun hc=>?_) fun hc=>?_);exact DVR
  obtain rfl : i = l.length := by omega
  have hi3 : ¬ ((l.length : Int) < (l.length : Int)) := by omega
  rw [rules_all g3];(have:=NeI hi3);clear g3;generalize (ruleNs l).take l.length = X at *
  (repeat' first|refine stW [0,2,3,5,8,10,11,12,13,24] ?_|refine fctI fun hf=>?_|refine twI (fun hc=>?_) fun hc=>?_);exact DVR
theorem rholds1_f (c : Cnd) (L : List (ByteArray × Int)) (m : Nat) : DCalls Tryz.prog 144 [cndD c, .ptr 0 0] (hget [(0, .blk 135 (([mapT L] : List PV).map .p))]) m (lb (!cndH (valS L c.nod) c)) (hget [(0, .blk 135 (([mapT L] : List PV).map .p))]) := by
  have e : (!cndH (valS L c.nod) c) = (decide (c.level <= valS L c.nod) == c.below) := by
    unfold cndH;by_cases h : valS L c.nod < c.level
    · rw [decide_eq_true h, decide_eq_false (by omega)];cases c.below <;> rfl
    · rw [decide_eq_false h, decide_eq_true (by omega)];cases c.below <;> rfl
  rw [e];refine contract (n := 14) (rs := [.tmp 3]) (ts := [4]) Tryz.func144 rfl (by decide) 1 1 [] [] [] (lb (decide (c.level <= valS L c.nod) == c.below)) [(0, .blk 135 [.p (mapT L)])] (by (exact SD)) (by (exact SD)) ?_;(repeat' first|refine stW [0,1,2,3] ?_|refine fctI fun hf=>?_|refine twI (fun hc=>?_) fun hc=>?_);exact DVR
theorem rholds_f (r : Rule) (L : List (ByteArray × Int)) (m : Nat) (hl : r.whn.length <= 281474976710656) : Pu 101 [ruleD r, .p (mapT L)] m (lb (r.whn.all fun c => cndH (valS L c.nod) c)) := by
  have ci := conCndC_f 144 135 [mapT L] (fun c => !cndH (valS L c.nod) c) r.whn hl (fun x _ m => rholds1_f x L m);rw [<- not_all];generalize (r.whn.any fun c => !cndH (valS L c.nod) c) = b at *
  refine pcN 10 [.tmp 4] [4] Tryz.func101 rfl [] ?_;(repeat' first|refine stW [0,1,2,3,4] ?_|refine fctI fun hf=>?_|refine twI (fun hc=>?_) fun hc=>?_);(refine cQT [8] (fun hcc => ci) ?_);(repeat' first|refine stW [0,1,2,3,4] ?_|refine fctI fun hf=>?_|refine twI (fun hc=>?_) fun hc=>?_);exact DVR
theorem hold_eq {n : Net} (nb : netB n = true) (lv : List Int) {r : Rule} (h : knownR n r = true) : (r.whn.all fun c => cndH (valS (lvM n lv) c.nod) c) = holdB n lv r := by
  unfold knownR at h;simp only [Bool.and_eq_true, List.all_eq_true, decide_eq_true_eq] at h;unfold holdB;rw [Bool.eq_iff_iff];simp only [List.all_eq_true];exact ⟨fun k c hc => by have := k c hc; rw [lvM_val nb lv (h.2 c hc)] at this; exact this, fun k c hc => by rw [lvM_val nb lv (h.2 c hc)]; exact k c hc⟩
theorem rsett1_f (v : Int) (m : Nat) : Pu 99 [li v] m (lb (!btwB v 0 1000)) := by
  have c1 := fun m => uwithin_f v 0 1000 m
  generalize btwB v 0 1000 = b at *
  refine pcN 6 [.tmp 2] [4] Tryz.func99 rfl [] ?_;(repeat' first|refine stW [0,2] ?_|refine fctI fun hf=>?_|refine twI (fun hc=>?_) fun hc=>?_);exact DVR
theorem rang_any {l : List Int} {b : Int} (h : rangB l b = true) : (l.any fun v => !btwB v 0 b) = false := any_no fun j hj => by
  unfold rangB at h;rw [List.all_eq_true] at h;show (!btwB (l.getD j default) 0 b) = false;rw [h j (List.mem_range.2 hj)]; rfl
theorem kn_hit {n : Net} {l : List Rule} {i : Nat} (hi : i < l.length) (h : knownR n (l.getD i default) = false) : l.all (knownR n) = false := List.all_eq_false.2 ⟨_, getD_mem hi, by rw [h]; decide⟩
theorem kn_all {n : Net} {l : List Rule} (h : ∀ j, j < l.length -> knownR n (l.getD j default) = true) : l.all (knownR n) = true := by
  rw [List.all_eq_true];intro r hr;obtain ⟨j, hj, rfl⟩ := List.mem_iff_getElem.1 hr;have := h j hj;rw [List.getD_eq_getElem?_getD, List.getElem?_eq_getElem hj] at this;exact this
theorem kn_at {n : Net} {l : List Rule} (h : l.all (knownR n) = true) {j : Nat} (hj : j < l.length) : knownR n (l.getD j default) = true := (List.all_eq_true.1 h) _ (getD_mem hj)
def nodKn (n : Net) (c : Cnd) : Bool := decide (0 <= nodeIx n.nodes c.nod)
theorem knownR_eq (n : Net) (r : Rule) : knownR n r = (decide (0 <= linkIx n.links r.lnk) && r.whn.all (nodKn n)) := rfl
theorem all_takeS {α : Type} [Inhabited α] (p : α -> Bool) {l : List α} {i : Nat} (h : i < l.length) : (l.take (i + 1)).all p = ((l.take i).all p && p (l.getD i default)) := by
  rw [take_snocD h, List.all_append, List.all_cons, List.all_nil, Bool.and_true]
theorem ruleOk_at {l : List Rule} (h : rulOk l) {i : Nat} (hi : i < l.length) : (l.getD i default).whn.length <= 281474976710656 := (h.2 _ (getD_mem hi)).2.1.1

end Go.Proofs.YtgpllheklfbfhaaGreat
