/-
  Contracts of functions of the program, over the engine.
  No condition.
-/
import Derived.Test.YtefkhfkapnmikaaGreatCX5
import Derived.Test.YtefkhfkapnmikaaGreatCL9L10L11L12L16L20RL25L27
import Derived.Test.YtefkhfkapnmikaaGreatCT5T6T6bT7T7bT7c
import Derived.Test.YtefkhfkapnmikaaGreatCT8T9T9bT9cT9eT10T11
import Derived.Test.YtefkhfkapnmikaaGreatCW4W5W6R1R2R3R4
import Derived.Test.YtefkhfkapnmikaaGreatCT12T13T14T2IT16T15T18T20Y0Y5Y1
import Derived.Test.YtefkhfkapnmikaaGreatCKSK1K2K3K5K4W0W1W2W3
namespace Go.Proofs.YtefkhfkapnmikaaGreat
open Go.Eng
set_option linter.all false
attribute [local irreducible] DCallsG SWp Fct CallQ XCallQ LCallQ XLCallQ drun xrun
set_option maxHeartbeats 64000000
set_option maxRecDepth 20000

theorem rSett_f (l : List Rule) (n : Net) (lv before : List Int) (m : Nat) (hl : rulOk l) (no : netOk n) (nb : netB n = true) (h1 : lv.length = n.nodes.length) (h2 : before.length = n.links.length) (h3 : rangB before 1000 = true) :
    Pu 134 [ruleL l, netD n, ints lv, ints before] m (.tup [ints (setR n l lv before).1, li (setR n l lv before).2]) := by
  have hl1 := hl.1;have hlen := netB_len nb;have hrg := rang_at h3;have c1 := fun m => rKnown_f l n m hl no (by omega)
  have c2 := fun m => rNames_f n m (by omega)
  have e1 : (lv.length : Int) = (n.nodes.length : Int) := by omega
  have e2 : (before.length : Int) = (n.links.length : Int) := by omega
  have hR : setR n l lv before = if l.all (knownR n) = false then (([], 9) : List Int × Int) else match setK n lv l before l.length with | none => ([], 26) | some (o, _) => (o, 0) := by
    unfold setR;rw [if_neg (fun c => c.elim (fun c => c h1) (fun c => c h2)), if_neg (by rw [h3]; decide)]; rfl
  rw [hR];(have:=NeI e1);(have:=NeI e2);refine pcN 109 [.tmp 8,.tmp 9] [28,3] Tryz.func134 rfl [208] ?_;(repeat' first|refine stW [0,1,2,3,5,8,9,10,11,12,13,14,15,29,33,47,51,63,73,96] ?_|refine fctI fun hf=>?_|refine twI (fun hc=>?_) fun hc=>?_);refine loop_swp [0, 2, 3, 5, 10] [0] 144 (fun q A H => ∃ i : Nat, i <= before.length /\ q = before.length - i /\ A = [(0, ruleL l), (2, ints lv), (3, ints before), (5, .ptr 0 0), (10, li i)] /\ H = [(0, .blk 25 (netC n))]) (by omega) ?_ ?_ ?_
  · rintro q A H ⟨i, g1, g2, rfl, rfl⟩;exact SDD
  · refine ⟨_, 0, by omega, rfl, ?_, ?_⟩
    · exact DVR
    · exact DVR
  rintro q A H ⟨i, g1, g2, rfl, rfl⟩;by_cases hi : i < before.length
  · have hi3 : (i : Int) < (before.length : Int) := by omega
    have a1 : ¬ before.getD i default < 0 := by have := hrg i hi; omega
    have a2 : ¬ 1000 < before.getD i default := by have := hrg i hi; omega
    (have:=NeI hi);(have:=NeI hi3);(have:=NeI a1);(have:=NeI a2);clear hR hrg;(repeat' first|refine stW [0,1,2,3,5,8,9,10,11,12,13,14,15,29,33,47,51,63,73,96] ?_|refine fctI fun hf=>?_|refine twI (fun hc=>?_) fun hc=>?_);(refine lN [0] ?_);exact ⟨_, by omega, i + 1, by omega, rfl, rfl, rfl⟩
  obtain rfl : i = before.length := by omega
  have hi3 : ¬ ((before.length : Int) < (before.length : Int)) := by omega
  (have:=NeI hi3);clear hR hrg;cases hka : l.all (knownR n) <;> simp only [hka] at c1
  · rw [if_pos rfl];(repeat' first|refine stW [0,1,2,3,5,8,9,10,11,12,13,14,15,29,33,47,51,63,73,96] ?_|refine fctI fun hf=>?_|refine twI (fun hc=>?_) fun hc=>?_);exact DVR
  rw [if_neg (by decide)];(repeat' first|refine stW [0,1,2,3,5,8,9,10,11,12,13,14,15,29,33,47,51,63,73,96] ?_|refine fctI fun hf=>?_|refine twI (fun hc=>?_) fun hc=>?_);refine loop_swp [0, 2, 5, 11, 12, 13, 14] [0, 208, 256] 304 (fun q A H => ∃ (i : Nat) (o : List Int) (f : List Bool), i <= l.length /\ q = l.length - i /\ setK n lv l before i = some (o, f) /\ A = [(0, ruleL l), (2, ints lv), (5, .ptr 0 0), (11, .gl 208), (12, .gl 256), (13, strs (namesL n)), (14, li i)] /\ H = [(0, .blk 25 (netC n)), (208, inLt o), (256, boL f)]) (by omega) ?_ ?_ ?_
  · rintro q A H ⟨i, o, f, g1, g2, g3, rfl, rfl⟩;exact SDD
  · refine ⟨_, 0, before, List.replicate n.links.length false, by omega, rfl, rfl, ?_, ?_⟩
    · exact DVR
    · rw [<- h2, show boL (List.replicate before.length false) = .lst 4 1 (List.replicate before.length [DV.p (.lit (.bool false))]) from by show HV.lst _ 1 (rows boRow _) = _; unfold rows; rw [List.map_replicate]; rfl];exact DVR
  rintro q A H ⟨i, o, f, g1, g2, g3, rfl, rfl⟩;by_cases hi : i < l.length
  · have hi3 : (i : Int) < (l.length : Int) := by omega
    have hkr := kn_at hka hi;have c5 := fun m => rHolds_f (l.getD i default) n lv m (ruleOk_at hl hi) (by omega) h1 hkr
    have c6 := fun m => rFindLink_f n (l.getD i default).lnk m no.2.1
    obtain ⟨ol, fl⟩ := setK_len h2 g3;have hsk := setK_skip g3;have hbd := setK_bad g3;have hse := setK_set g3;have hno := fun h => @setK_none n lv l before (i + 1) h (l.length - (i + 1))
    rw [show i + 1 + (l.length - (i + 1)) = l.length by omega] at hno;rw [knownR_eq, Bool.and_eq_true] at hkr;have hk0 := of_decide_eq_true hkr.1;have hkn := lix_lt n.links (l.getD i default).lnk;obtain ⟨k, hke⟩ : ∃ k : Nat, linkIx n.links (l.getD i default).lnk = (k : Int) := ⟨_, (Int.toNat_of_nonneg hk0).symm⟩;rw [hke] at hkn c6;rw [hke, Int.toNat_natCast] at hbd hse;have hko : k < o.length := by omega
    have hko3 : (k : Int) < (o.length : Int) := by omega
    have hkf : k < f.length := by omega
    have hkf3 : (k : Int) < (f.length : Int) := by omega
    (have:=NeI hi);(have:=NeI hi3);(have:=NeI hko);(have:=NeI hko3);(have:=NeI hkf);(have:=NeI hkf3);clear hkr hka;cases hh : holdB n lv (l.getD i default) <;> simp only [hh] at c5
    · replace hsk := hsk hh
      clear hbd hse hno;(repeat' first|refine stW [0,1,2,3,5,8,9,10,11,12,13,14,15,29,33,47,51,63,73,96] ?_|refine fctI fun hf=>?_|refine twI (fun hc=>?_) fun hc=>?_);(refine lN [0, 208, 256] ?_);exact ⟨_, by omega, i + 1, o, f, by omega, rfl, hsk, rfl, rfl⟩
    replace hbd := hbd hh
    replace hse := hse hh
    clear hsk;have hfe : ∀ b, f.getD k default = b -> Nonempty (f.getD k default = b) := fun b h => ⟨h⟩
    by_cases ho : o.getD k default = (l.getD i default).setg
    · replace hse := hse (fun c => c.2 ho)
      (have:=NeI ho);clear hbd hno;(repeat' first|refine stW [0,1,2,3,5,8,9,10,11,12,13,14,15,29,33,47,51,63,73,96] ?_|refine fctI fun hf=>?_|refine twI (fun hc=>?_) fun hc=>?_);rw [show (rows boRow f).set k [DV.p (PV.lit (Value.bool true))] = rows boRow (f.set k true) from rows_set boRow f k true];(refine lN [0, 208, 256] ?_);exact ⟨_, by omega, i + 1, _, _, by omega, rfl, hse, rfl, rfl⟩
    · (have:=NeI ho);(repeat' first|refine stW [0,1,2,3,5,8,9,10,11,12,13,14,15,29,33,47,51,63,73,96] ?_|refine fctI fun hf=>?_|refine twI (fun hc=>?_) fun hc=>?_)
      · rw [hno (hbd (by assumption) ho)];exact DVR
      · replace hse := hse (fun c => by simp_all)
        rw [show (rows boRow f).set k [DV.p (PV.lit (Value.bool true))] = rows boRow (f.set k true) from rows_set boRow f k true];(refine lN [0, 208, 256] ?_);exact ⟨_, by omega, i + 1, _, _, by omega, rfl, hse, rfl, rfl⟩
  obtain rfl : i = l.length := by omega
  have hi3 : ¬ ((l.length : Int) < (l.length : Int)) := by omega
  rw [g3];(have:=NeI hi3);clear hka;(repeat' first|refine stW [0,1,2,3,5,8,9,10,11,12,13,14,15,29,33,47,51,63,73,96] ?_|refine fctI fun hf=>?_|refine twI (fun hc=>?_) fun hc=>?_);exact DVR
theorem rAll_f (n : Net) (l : List Sect) (lv : List Int) (s : Sta) (m : Nat) (F : FlowsIn n l lv s) : Pu 240 [netD n, sectL l, ints lv, staD s] m (ints (flowsL n l lv s)) := by
  have hll := F.no.2.1;have hv := F.sb;have hlen := lensB_of (show lensB n s = true by unfold staB at hv; simp only [Bool.and_eq_true] at hv; exact hv.1.1);have h400 := (netB_len F.nb).2;have hfl : (flowsL n l lv s).length = n.links.length := rng_len _ _;have hfa : ∀ i, i < n.links.length -> (flowsL n l lv s).getD i default = flowAt n l lv s i := fun i hi => rng_at hi
  generalize flowsL n l lv s = O at *
  refine pcN 52 [.tmp 8] [28] Tryz.func240 rfl [40] ?_;(repeat' first|refine stW [0,1,2,3,4,7,8,9,10,11,12,17] ?_|refine fctI fun hf=>?_|refine twI (fun hc=>?_) fun hc=>?_);(refine sN 9 3 1 ?_);refine loop_swp [1, 2, 4, 7, 9, 10] [0, 8, 40] 41 (fun z A H => ∃ i : Nat, i <= n.links.length /\ z = n.links.length - i /\ A = [(1, sectL l), (2, ints lv), (4, .ptr 0 0), (7, .ptr 8 0), (9, .gl 40), (10, li i)] /\ H = [(0, .blk 25 (netC n)), (8, .blk 31 (staC s)), (40, inLt (O.take i))]) (by omega) ?_ ?_ ?_
  · rintro z A H ⟨i, h1, h2, rfl, rfl⟩;exact SDD
  · refine ⟨_, 0, by omega, rfl, ?_, ?_⟩
    · exact DVR
    · exact DVR
  rintro z A H ⟨i, h1, h2, rfl, rfl⟩;by_cases hi : i < n.links.length
  · have hi3 : (i : Int) < (n.links.length : Int) := by omega
    have hnx := take_sn (l := O) (i := i) (by omega);rw [hfa i hi] at hnx;have hti : (O.take i).length = i := by rw [List.length_take]; omega
    have ce := fun m => ends34_f n i m F.no F.nb hi
    have hf := (fromI_lt F.nb hi).1;have ht := (tillI_lt F.nb hi).1;have cb := fun m => rBetween_f n l i (lv.getD (fromI n i) default) (lv.getD (tillI n i) default) (s.set.getD i default).toNat (s.on.getD i default) m hi (F.btw hi)
    have hst := (okSL_in F.sb hi).1;rw [show ((s.set.getD i default).toNat : Int) = s.set.getD i default by omega] at cb;change ∀ m, DCalls _ _ _ _ m (li (flowAt n l lv s i)) _ at cb;generalize flowAt n l lv s i = q at *
    generalize O.take i = X at *
    have hs1 : i < s.set.length := by omega
    have hs2 : i < s.on.length := by omega
    have hf2 : fromI n i < lv.length := by have := F.ll; omega
    have ht2 : tillI n i < lv.length := by have := F.ll; omega
    generalize fromI n i = fr at *
    generalize tillI n i = tl at *
    (have:=NeI hi);(have:=NeI hi3);(have:=NeI hs1);(have:=NeI hs2);(have:=NeI hf2);(have:=NeI ht2);clear hfa F;(repeat' first|(show SWp _ _ _ (.region _ _ true) _ _ _ _;refine xG mixed [40, 1000022] ?_)|refine stW [0,1,2,3,4,7,8,9,10,11,12,17] ?_|refine fctI fun hf=>?_|refine twI (fun hc=>?_) fun hc=>?_);rw [<- hnx];(refine lR 337 40 [0, 8, 337] ?_);exact ⟨_, by omega, i + 1, by omega, rfl, rfl, rfl⟩
  obtain rfl : i = n.links.length := by omega
  have hi3 : ¬ ((n.links.length : Int) < (n.links.length : Int)) := by omega
  (have:=NeI hi3);rw [show O.take n.links.length = O by rw [<- hfl, List.take_length]];(repeat' first|refine stW [0,1,2,3,4,7,8,9,10,11,12,17] ?_|refine fctI fun hf=>?_|refine twI (fun hc=>?_) fun hc=>?_);exact DVR
theorem rPumps_f (n : Net) (on : List Bool) (lv : List Int) (m : Nat) (no : netOk n) (nb : netB n = true) (ho : on.length = n.links.length) (hl : lv.length = n.nodes.length) : Pu 209 [netD n, bools on, ints lv] m (bools (pumpsL n lv on)) := by
  have hll := no.2.1;have h400 := (netB_len nb).2;have hfl : (pumpsL n lv on).length = n.links.length := rng_len _ _;have hfa : ∀ i, i < n.links.length -> (pumpsL n lv on).getD i default = pumpAt n lv on i := fun i hi => rng_at hi
  generalize pumpsL n lv on = O at *
  refine pcN 51 [.tmp 6] [29] Tryz.func209 rfl [32] ?_;(repeat' first|refine stW [0,1,2,3,6,7,8,9,15] ?_|refine fctI fun hf=>?_|refine twI (fun hc=>?_) fun hc=>?_);(refine sN 7 4 1 ?_);refine loop_swp [1, 2, 3, 7, 8] [0, 32] 33 (fun z A H => ∃ i : Nat, i <= n.links.length /\ z = n.links.length - i /\ A = [(1, bools on), (2, ints lv), (3, .ptr 0 0), (7, .gl 32), (8, li i)] /\ H = [(0, .blk 25 (netC n)), (32, boL (O.take i))]) (by omega) ?_ ?_ ?_
  · rintro z A H ⟨i, h1, h2, rfl, rfl⟩;exact SDD
  · refine ⟨_, 0, by omega, rfl, ?_, ?_⟩
    · exact DVR
    · exact DVR
  rintro z A H ⟨i, h1, h2, rfl, rfl⟩;by_cases hi : i < n.links.length
  · have hi3 : (i : Int) < (n.links.length : Int) := by omega
    have hnx := take_sn (l := O) (i := i) (by omega);rw [hfa i hi] at hnx;have hti : (O.take i).length = i := by rw [List.length_take]; omega
    have ce := fun m => ends34_f n i m no nb hi
    have hf := (fromI_lt nb hi).1;unfold pumpAt at hnx;have hs2 : i < on.length := by omega
    have hf2 : fromI n i < lv.length := by omega
    generalize O.take i = X at *
    (have:=NeI hi);(have:=NeI hi3);(have:=NeI hs2);(have:=NeI hf2);by_cases k4 : (n.links.getD i default).kind = 4
    · have cp := fun m => rOn33_f (n.links.getD i default) (on.getD i default) (lv.getD (fromI n i) default) m
      rw [decide_eq_true k4, Bool.true_and] at hnx;generalize onB (n.links.getD i default) (on.getD i default) (lv.getD (fromI n i) default) = b at *
      generalize fromI n i = fr at *
      generalize tillI n i = tl at *
      (have:=NeI k4);clear hfa hf;(repeat' first|(show SWp _ _ _ (.region _ _ true) _ _ _ _;refine xG mixed [32, 1000022] ?_)|refine stW [0,1,2,3,6,7,8,9,15] ?_|refine fctI fun hf=>?_|refine twI (fun hc=>?_) fun hc=>?_);rw [<- hnx];(refine lR 337 32 [0, 337] ?_);exact ⟨_, by omega, i + 1, by omega, rfl, rfl, rfl⟩
    · rw [decide_eq_false k4, Bool.false_and] at hnx;generalize fromI n i = fr at *
      generalize tillI n i = tl at *
      (have:=NeI k4);clear hfa hf;(repeat' first|(show SWp _ _ _ (.region _ _ true) _ _ _ _;refine xG mixed [32] ?_)|refine stW [0,1,2,3,6,7,8,9,15] ?_|refine fctI fun hf=>?_|refine twI (fun hc=>?_) fun hc=>?_);rw [<- hnx];(refine lR 337 32 [0, 337] ?_);exact ⟨_, by omega, i + 1, by omega, rfl, rfl, rfl⟩
  obtain rfl : i = n.links.length := by omega
  have hi3 : ¬ ((n.links.length : Int) < (n.links.length : Int)) := by omega
  (have:=NeI hi3);rw [show O.take n.links.length = O by rw [<- hfl, List.take_length]];(repeat' first|refine stW [0,1,2,3,6,7,8,9,15] ?_|refine fctI fun hf=>?_|refine twI (fun hc=>?_) fun hc=>?_);exact DVR
theorem rRight_f (n : Net) (s : Sta) (m : Nat) (no : netOk n) (so : staOk s) : Pu 236 [netD n, staD s] m (lb (netB n && staB n s)) := by
  have c1 := fun m => rNetValid_f n m no
  cases hn : netB n <;> simp only [hn] at c1
  · refine pcN 12 [.tmp 4] [4] Tryz.func236 rfl [] ?_;(repeat' first|refine stW [0,1,2,3,4] ?_|refine fctI fun hf=>?_|refine twI (fun hc=>?_) fun hc=>?_);exact DVR
  · have c2 := fun m => rStaValid_f n s m hn so
    refine pcN 12 [.tmp 4] [4] Tryz.func236 rfl [] ?_;(repeat' first|refine stW [0,1,2,3,4] ?_|refine fctI fun hf=>?_|refine twI (fun hc=>?_) fun hc=>?_);exact DVR
theorem rFlows_f (n : Net) (l : List Sect) (lv : List Int) (s : Sta) (m : Nat) (no : netOk n) (co : catOk l) (so : staOk s) : Pu 210 [netD n, sectL l, ints lv, staD s] m (.tup [ints (flowsR n l lv s).1, li (flowsR n l lv s).2]) := by
  have c1 := fun m => rRight_f n s m no so
  have c2 := fun m => given34_f n l lv m no co
  have hll := no.2.1;unfold flowsR;cases hv : (netB n && staB n s) <;> simp only [hv] at c1
  · rw [Bool.and_false];refine pcN 47 [.tmp 8,.tmp 9] [28,3] Tryz.func210 rfl [] ?_;(repeat' first|refine stW [0,1,2,3,4,7,8,9,10,11,15,21,26,31,41] ?_|refine fctI fun hf=>?_|refine twI (fun hc=>?_) fun hc=>?_);exact DVR
  have hv2 := hv;simp only [Bool.and_eq_true] at hv2;rw [Bool.and_true];cases hcb : catB l
  · rw [hv2.1, hcb, if_neg (by decide)] at c2;refine pcN 47 [.tmp 8,.tmp 9] [28,3] Tryz.func210 rfl [] ?_;(repeat' first|refine stW [0,1,2,3,4,7,8,9,10,11,15,21,26,31,41] ?_|refine fctI fun hf=>?_|refine twI (fun hc=>?_) fun hc=>?_);exact DVR
  rw [hv2.1, hcb, if_pos (show (true && true) = true from rfl)] at c2;rw [if_pos rfl];by_cases hl : lv.length = n.nodes.length
  case neg =>
    rw [if_neg hl] at c2;have e1 : lvE n lv = 3 := by unfold lvE; rw [if_neg hl]
    rw [e1];refine pcN 47 [.tmp 8,.tmp 9] [28,3] Tryz.func210 rfl [] ?_;(repeat' first|refine stW [0,1,2,3,4,7,8,9,10,11,15,21,26,31,41] ?_|refine fctI fun hf=>?_|refine twI (fun hc=>?_) fun hc=>?_);exact DVR
  rw [if_pos hl] at c2;have c3 := fun m => rLevelled_f n lv m no hl
  have e1 : lvE n lv = if lvA n lv then 0 else 2 := by unfold lvE; rw [if_pos hl]
  rw [e1];cases ha : lvA n lv <;> simp only [ha] at c3
  · refine pcN 47 [.tmp 8,.tmp 9] [28,3] Tryz.func210 rfl [] ?_;(repeat' first|refine stW [0,1,2,3,4,7,8,9,10,11,15,21,26,31,41] ?_|refine fctI fun hf=>?_|refine twI (fun hc=>?_) fun hc=>?_);exact DVR
  rw [if_pos rfl, if_pos rfl];refine pcN 47 [.tmp 8,.tmp 9] [28,3] Tryz.func210 rfl [] ?_;(repeat' first|refine stW [0,1,2,3,4,7,8,9,10,11,15,21,26,31,41] ?_|refine fctI fun hf=>?_|refine twI (fun hc=>?_) fun hc=>?_);refine loop_swp [1, 2, 4, 7, 11] [0, 8] 9 (fun z A H => ∃ i : Nat, i <= n.links.length /\ z = n.links.length - i /\ ((n.links.take i).any fun x => !knownB l x) = false /\ A = [(1, sectL l), (2, ints lv), (4, .ptr 0 0), (7, .ptr 8 0), (11, li i)] /\ H = [(0, .blk 25 (netC n)), (8, .blk 31 (staC s))]) (by omega) ?_ ?_ ?_
  · rintro z A H ⟨i, h1, h2, h3, rfl, rfl⟩;exact SDD
  · refine ⟨_, 0, by omega, rfl, rfl, ?_, ?_⟩
    · exact DVR
    · exact DVR
  rintro z A H ⟨i, h1, h2, h3, rfl, rfl⟩;by_cases hi : i < n.links.length
  · have hi3 : (i : Int) < (n.links.length : Int) := by omega
    have cn := fun m => named_f l (n.links.getD i default) m co.1
    (have:=NeI hi);(have:=NeI hi3);cases hk : knownB l (n.links.getD i default) <;> simp only [hk] at cn
    · have e2 : (n.links.any fun x => !knownB l x) = true := List.any_eq_true.2 ⟨_, getD_mem hi, by rw [hk]; rfl⟩;rw [e2];(repeat' first|refine stW [0,1,2,3,4,7,8,9,10,11,15,21,26,31,41] ?_|refine fctI fun hf=>?_|refine twI (fun hc=>?_) fun hc=>?_);exact DVR
    · (repeat' first|refine stW [0,1,2,3,4,7,8,9,10,11,15,21,26,31,41] ?_|refine fctI fun hf=>?_|refine twI (fun hc=>?_) fun hc=>?_);(refine lN [0, 8] ?_);exact ⟨_, by omega, i + 1, by omega, rfl, any_step h3 (by omega) (by rw [hk]; rfl), rfl, rfl⟩
  obtain rfl : i = n.links.length := by omega
  have hi3 : ¬ ((n.links.length : Int) < (n.links.length : Int)) := by omega
  (have:=NeI hi3);rw [List.take_length] at h3;rw [h3, if_neg (by decide)];have F : FlowsIn n l lv s := ⟨no, co, hv2.1, hcb, hv2.2, hl, ha, known_no h3⟩;have cA := fun m => rAll_f n l lv s m F
  generalize flowsL n l lv s = O at *
  (repeat' first|refine stW [0,1,2,3,4,7,8,9,10,11,15,21,26,31,41] ?_|refine fctI fun hf=>?_|refine twI (fun hc=>?_) fun hc=>?_);exact DVR
theorem rSettledO_f (n : Net) (s : Sta) (held : List Int) (m : Nat) (hs : lenOk s) (hv : netB n = true) (l1 : held.length = n.nodes.length) (l2 : s.vol.length = n.nodes.length) (l3 : s.pon.length = n.nodes.length) (hb : ∀ i, i < n.nodes.length -> 0 <= held.getD i default /\ held.getD i default <= 1152921504606846976) :
    DCallsG Tryz.prog 173 [] [netD n, staD s, ints held] (hget []) m (.tup [.agg [.gl m, .gl (m + 1), .gl (m + 2), .gl (m + 3)], lb (fitS n held)]) (hget [(m, inLt (vS n held)), (m + 1, inLt (pS n held)), (m + 2, inLt s.set), (m + 3, boL s.on)]) := by
  have a1 := netB_len hv;have q2 : (vS n held).length = s.vol.length := by simp [vS, l2]
  have q3 : (pS n held).length = s.pon.length := by simp [pS, l3]
  refine contract (n := 70) (rs := [.cell 6 31, .tmp 7]) (ts := [31, 4]) Tryz.func173 rfl (by decide) 0 0 [] [] [40, 41, 42, 43] (.tup [.agg [.gl 40, .gl 41, .gl 42, .gl 43], lb (fitS n held)]) [(40, inLt (vS n held)), (41, inLt (pS n held)), (42, inLt s.set), (43, boL s.on)] (by (exact SD)) (by (exact SD)) ?_;(repeat' first|refine stW [0,1,2,3,4,6,7,8,9,10,11,17,43] ?_|(show CallQ ..;first|refine cQ (fun hcc=>(rCopy_f _ _ hs)) ?_|(refine lP ?_;refine lQ (fun hcc m=>(rCopy_f _ _ hs)) ?_))|refine fctI fun hf=>?_|refine twI (fun hc=>?_) fun hc=>?_);refine loop_swp [2, 3, 6, 8, 9, 10] [0, 16, 40, 41, 42, 43, 48] 49 (fun q A H => ∃ i : Nat, i <= n.nodes.length /\ q = n.nodes.length - i /\ A = [(2, ints held), (3, .ptr 0 0), (6, .ptr 16 0), (8, .ptr 48 0), (9, lb (fitI (pS n held) i)), (10, li i)] /\ H = [(0, .blk 25 (netC n)), (16, .blk 31 [nilS, nilS, nilS, nilS]), (40, inLt ((vS n held).take i ++ s.vol.drop i)), (41, inLt ((pS n held).take i ++ s.pon.drop i)), (42, inLt s.set), (43, boL s.on), (48, .blk 31 [.gl 40, .gl 41, .gl 42, .gl 43])]) (by omega) ?_ ?_ ?_
  · rintro q A H ⟨i, h1, h2, rfl, rfl⟩;exact SDD
  · refine ⟨_, 0, by omega, rfl, ?_, ?_⟩
    · exact DVR
    · exact DVR
  rintro q A H ⟨i, h1, h2, rfl, rfl⟩;by_cases hi : i < n.nodes.length
  · have hbi := hb i hi;have hcap := capN_in hv hi;have cc := fun m => rCapacity_f (n.nodes.getD i default) m (nodeR_shape (netB_node hv hi))
    have L2 := upd_len q2 (i := i) (by omega);have L3 := upd_len q3 (i := i) (by omega);have S2 := fun x hx => upd_step (i := i) (x := x) q2 (by omega) hx
    have S3 := fun x hx => upd_step (i := i) (x := x) q3 (by omega) hx
    have ev : (vS n held).getD i default = if capN (n.nodes.getD i default) < held.getD i default then capN (n.nodes.getD i default) else held.getD i default := map_at hi
    have ep : (pS n held).getD i default = held.getD i default - (if capN (n.nodes.getD i default) < held.getD i default then capN (n.nodes.getD i default) else held.getD i default) := map_at hi;have ef := fitI_next (pS n held) i;generalize hF : fitI (pS n held) i = F at *
    generalize hX2 : (vS n held).take i ++ s.vol.drop i = X2 at *
    generalize hX3 : (pS n held).take i ++ s.pon.drop i = X3 at *
    by_cases hcp : capN (n.nodes.getD i default) < held.getD i default
    · rw [if_pos hcp] at ev ep;(have:=NeI hcp);(repeat' first|(show SWp _ _ _ (.region _ _ true) _ _ _ _;refine xG mixed [40, 41] ?_)|refine stW [0,1,2,3,4,6,7,8,9,10,11,17,43] ?_|(show CallQ ..;first|refine cQ (fun hcc=>(cc _)) ?_|(refine lP ?_;refine lQ (fun hcc m=>(cc _)) ?_))|refine fctI fun hf=>?_|refine twI (fun hc=>?_) fun hc=>?_)
      · (refine lN [0, 16, 40, 41, 42, 43, 48] ?_);refine ⟨_, by omega, i + 1, by omega, rfl, ?_, ?_⟩
        · rw [ef, ep]; cases F <;> rfl
        · rw [<- S2 _ ev.symm, <- S3 _ ep.symm]
      · omega
    · rw [if_neg hcp] at ev ep;rw [Int.sub_self] at ep;(have:=NeI hcp);(repeat' first|(show SWp _ _ _ (.region _ _ true) _ _ _ _;refine xG mixed [40, 41] ?_)|refine stW [0,1,2,3,4,6,7,8,9,10,11,17,43] ?_|(show CallQ ..;first|refine cQ (fun hcc=>(cc _)) ?_|(refine lP ?_;refine lQ (fun hcc m=>(cc _)) ?_))|refine fctI fun hf=>?_|refine twI (fun hc=>?_) fun hc=>?_)
      · (refine lN [0, 16, 40, 41, 42, 43, 48] ?_);refine ⟨_, by omega, i + 1, by omega, rfl, ?_, ?_⟩
        · rw [ef, ep]; cases F <;> rfl
        · rw [<- S2 _ ev.symm, <- S3 _ ep.symm]
      · omega
  have hi2 : i = n.nodes.length := by omega
  subst hi2;have e2 := upd_end q2;have e3 := upd_end q3;rw [l2] at e2;rw [l3] at e3;rw [e2, e3];(repeat' first|refine stW [0,1,2,3,4,6,7,8,9,10,11,17,43] ?_|refine fctI fun hf=>?_|refine twI (fun hc=>?_) fun hc=>?_)
  · omega
  exact DVR
theorem rPartN_f (t a b : Nat) (m : Nat) (ht : t < 4611686018427387904) (hab : a <= b) (hb : 0 < b /\ b < 4611686018427387904) :
    Pu 212 [li t, li a, li b] m (li ((t * a / b : Nat) : Int)) := by
  have w1 : IntKind.u64.wrap (t : Int) = (t : Int) := by rw [u64w]; omega
  have w2 : IntKind.u64.wrap (a : Int) = (a : Int) := by rw [u64w]; omega
  have w3 : IntKind.u64.wrap (b : Int) = (b : Int) := by rw [u64w]; omega
  obtain ⟨p, hp⟩ : ∃ p, t * a = p := ⟨_, rfl⟩;obtain ⟨h1, h2⟩ := part_hi (by omega) hab hb.1 hp;have hdm : p / 18446744073709551616 * 18446744073709551616 + p % 18446744073709551616 = p := by rw [Nat.mul_comm]; exact Nat.div_add_mod p _
  have hlt : p % 18446744073709551616 < 18446744073709551616 := Nat.mod_lt _ (by decide);have cM := fun m => rmul_f t a (p / 18446744073709551616) (p % 18446744073709551616) m (by omega) (by omega) (by rw [hdm]; exact hp) hlt
  have cD := fun m => rdiv_f (p / 18446744073709551616) (p % 18446744073709551616) b (p / b) (p % b) m (by omega) hlt hb (by rw [hdm, Nat.div_add_mod]) (Nat.mod_lt _ hb.1) (by omega)
  rw [hp];clear hdm hp;generalize p / 18446744073709551616 = hi at *
  generalize p % 18446744073709551616 = lo at *
  generalize p % b = r at *
  generalize p / b = q at *
  have hq : q < 4611686018427387904 := by omega
  refine pcN 24 [.tmp 6] [3] Tryz.func212 rfl [] ?_;(repeat' first|refine stW [0,1,2,6,7] ?_|refine fctI fun hf=>?_|refine twI (fun hc=>?_) fun hc=>?_);rw [w1, w2];(repeat' first|refine stW [0,1,2,6,7] ?_|(show CallQ ..;first|refine cQ (fun hcc=>(cM _)) ?_|(refine lP ?_;refine lQ (fun hcc m=>(cM _)) ?_))|refine fctI fun hf=>?_|refine twI (fun hc=>?_) fun hc=>?_);rw [w3];(repeat' first|refine stW [0,1,2,6,7] ?_|(show CallQ ..;first|refine cQ (fun hcc=>(cD _)) ?_|(refine lP ?_;refine lQ (fun hcc m=>(cD _)) ?_))|refine fctI fun hf=>?_|refine twI (fun hc=>?_) fun hc=>?_);exact DVR
theorem rPartI_f (h a b : Int) (m : Nat) (hh : 0 <= h /\ h < 4611686018427387904) (ha : 0 <= a /\ a <= b) (hb : 0 < b /\ b < 4611686018427387904) : Pu 212 [li h, li a, li b] m (li (h * a / b)) := by
  obtain ⟨x, rfl⟩ : ∃ x : Nat, h = x := ⟨h.toNat, by omega⟩;obtain ⟨y, rfl⟩ : ∃ y : Nat, a = y := ⟨a.toNat, by omega⟩;obtain ⟨z, rfl⟩ : ∃ z : Nat, b = z := ⟨b.toNat, by omega⟩;have := rPartN_f x y z m (by omega) (by omega) (by omega);rw [show ((x * y / z : Nat) : Int) = (x : Int) * (y : Int) / (z : Int) by push_cast; rfl] at this;exact this
section
open Go.Eng
def idD2 : DV -> Bool
  | .agg l => l.all idD
  | d => idD d
def idR2 : DV -> Bool
  | .tup l => l.all idD2
  | d => idD2 d
theorem idD2_rel {ρ : Nat -> Hd} {S S' : Nat -> Prop} {w : World} {d : DV} {v : Value} (h : idD2 d = true) (hr : Rel ρ S w d v) : Rel ρ S' w d v := by
  unfold idD2 at h;split at h
  · next l =>
    simp only [Rel] at hr ⊢;obtain ⟨vs, rfl, hr⟩ := hr;exact ⟨vs, rfl, idL_rel h hr⟩
  · exact idD_rel h hr
theorem idL2_rel {ρ : Nat -> Hd} {S S' : Nat -> Prop} {w : World} : ∀ {l : List DV} {vs : List Value}, l.all idD2 = true -> RelL ρ S w l vs -> RelL ρ S' w l vs
  | [], [], _, _ => trivial
  | d :: l, v :: vs, h, hr => by
    simp only [List.all_cons, Bool.and_eq_true] at h;exact ⟨idD2_rel h.1 hr.1, idL2_rel h.2 hr.2⟩
  | [], _ :: _, _, h => h.elim
  | _ :: _, [], _, h => h.elim
theorem idR2_rel {ρ : Nat -> Hd} {S S' : Nat -> Prop} {w : World} {d : DV} {v : Value} (h : idR2 d = true) (hr : Rel ρ S w d v) : Rel ρ S' w d v := by
  unfold idR2 at h;split at h
  · next l =>
    simp only [Rel] at hr ⊢;obtain ⟨vs, rfl, hr⟩ := hr;exact ⟨vs, rfl, idL2_rel h hr⟩
  · exact idD2_rel h hr
theorem DCallsG.lendLit2 {P : Program} {g : FuncId} {args : List DV} {d : DV} {m o : Nat} {hv : HV} {x : FV} {h0 h2 : LH} (hx : hv.fv = some x) (hl0 : litHs h0 = true) (hl2 : litHs h2 = true) (ho0 : hget h0 o = none) (ho2 : hget h2 o = none) (hd : idR2 d = true)
    (hc : DCallsG P g [] (DV.frzL o x args) (hget h0) m d (hget h2)) : DCallsG P g [] args (hget ((o, hv) :: h0)) m d (hget ((o, hv) :: h2)) := by
  unfold DCallsG at hc ⊢;refine ⟨hc.1, fun U ρ S w vs H0 hmU hr huU => ?_⟩;have ho : hget ((o, hv) :: h0) o = some hv := by simp [hget]
  have hO := H0.heap o hv ho;have hOu := H0.heapU o hv ho;have hr1 := RelL.frz hx hO args vs hr;have hz := HSat.frz (HSat0.to (C := fun _ => True) (U0 := fun _ => False) H0 (fun _ _ _ => .inl trivial)) ho hx (fun k => k);rw [<- hget_frz, show hfrzL o x ((o, hv) :: h0) = h0 by simp only [hfrzL, if_true]; exact hfrz_lit hl0 ho0] at hz;have hz0 := hz.to0;have hS1 : ∀ b, hblk (ρ o) hv = some b -> Sfrz S (hblk (ρ o) hv) b := fun b e => .inr e
  refine (hc.2 U ρ _ w vs hz0 hmU hr1 (usesL_frz args huU)).mono ?_;rintro e w' ⟨v, ρ', S', rfl, HS, hr', hu'⟩;have up : ∀ i v, hget h0 i = some v -> i ≠ o /\ hget ((o, hv) :: h0) i = some v := fun i v hi => by
    have e : i ≠ o := fun e => by subst e; rw [ho0] at hi; cases hi
    exact ⟨e, by simp only [hget, if_neg e]; exact hi⟩
  have keepS : ∀ b, Sfrz S (hblk (ρ o) hv) b -> w'.heap[b]? = w.heap[b]? := fun b hb =>
    HS.keep b (hz0.sIn b hb) (fun i ⟨_, _, v, k1, k2⟩ => hz0.sep i v b k1 k2 hb) (fun ⟨i, v, k, _⟩ => by cases k)
  have hoo : HRel ρ' S w' o hv := HRel.mono (U := U) (fun i hi => HS.pin i hi) (fun _ k => k) (fun b hb => keepS b (.inl hb)) hOu.1 hOu.2 (fun b hb => keepS b (hS1 b hb)) hO;have get2 : ∀ i v, hget ((o, hv) :: h2) i = some v -> (i = o /\ v = hv) ∨ (i ≠ o /\ hget h2 i = some v) := fun i v hi => by
    simp only [hget] at hi;split at hi
    · next e => exact .inl ⟨e, (Option.some.inj hi).symm⟩
    · next e => exact .inr ⟨e, hi⟩
  have own : ∀ i b, (Base.of (fun i => i ∈ ([] : List Nat)) U ρ (Sfrz S (hblk (ρ o) hv)) w (hget h0)).own0 i b -> (Base.of (fun i => i ∈ ([] : List Nat)) U ρ S w (hget ((o, hv) :: h0))).own0 i b := fun i b ⟨k1, k2, u, k3, k4⟩ =>
    ⟨k1, k2, u, (up i u k3).2, k4⟩
  have fre : ∀ b, (Base.of (fun i => i ∈ ([] : List Nat)) U ρ (Sfrz S (hblk (ρ o) hv)) w (hget h0)).fresh b -> (Base.of (fun i => i ∈ ([] : List Nat)) U ρ S w (hget ((o, hv) :: h0))).fresh b := fun b hb => by
    rcases hb with ⟨i, v, k, _⟩ | k
    · cases k
    · exact .inr k
  have hρo : ρ' o = ρ o := HS.pin o hOu.1;refine ⟨v, ρ', S, rfl, ?_, idR2_rel hd hr', hu'⟩;exact {
    heap := fun i v k => by
      rcases get2 i v k with ⟨rfl, rfl⟩ | ⟨_, k⟩
      · exact hoo
      · exact litH_rel (litHs_get hl2 i v k) (HS.heap i v k)
    heapU := fun i v k => by
      rcases get2 i v k with ⟨rfl, rfl⟩ | ⟨_, k⟩
      · exact ⟨.inl hOu.1, HV.uses_mono (fun i k => .inl k) _ hOu.2⟩
      · exact HS.heapU i v k
    disj := fun i j v u b hi hj hbi hbj => by
      rcases get2 i v hi with ⟨rfl, rfl⟩ | ⟨ni, hi2⟩ <;> rcases get2 j u hj with ⟨rfl, rfl⟩ | ⟨nj, hj2⟩
      · rfl
      · rw [hρo] at hbi;exact absurd (HS.sOld b (hS1 b hbi)) (HS.sep j u b hj2 hbj)
      · rw [hρo] at hbj;exact absurd (HS.sOld b (hS1 b hbj)) (HS.sep i v b hi2 hbi)
      · exact HS.disj i j v u b hi2 hj2 hbi hbj
    sep := fun i v b hi hb => by
      rcases get2 i v hi with ⟨rfl, rfl⟩ | ⟨_, hi⟩
      · rw [hρo] at hb;exact H0.sep i _ b ho hb
      · exact fun k => HS.sep i v b hi hb (HS.sOld b (.inl k))
    prov := fun i v b hi hb => by
      rcases get2 i v hi with ⟨rfl, rfl⟩ | ⟨_, hi⟩
      · rw [hρo] at hb;exact .inl ⟨by simp, hOu.1, _, ho, hb⟩
      · rcases HS.prov i v b hi hb with k | k
        · exact .inl (own i b k)
        · exact .inr (fre b k)
    sIn := fun b hb => Nat.lt_of_lt_of_le (H0.sIn b hb) HS.size
    sProv := fun b hb => .inl hb
    sOld := fun b hb => hb
    pin := HS.pin
    ownU := fun i b hb => hb.2.1
    os := HS.os
    tape := HS.tape
    output := HS.output
    size := HS.size
    keep := fun b hb k1 k2 => HS.keep b hb (fun i k => k1 i (own i b k)) (fun ⟨i, v, k, _⟩ => by cases k) }
end

end Go.Proofs.YtefkhfkapnmikaaGreat
