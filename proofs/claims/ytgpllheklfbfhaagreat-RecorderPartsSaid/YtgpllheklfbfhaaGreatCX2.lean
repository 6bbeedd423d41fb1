/-
  Contracts of functions of the program, over the engine.
  No condition.
-/
import Derived.Test.YtgpllheklfbfhaaGreatCX1
namespace Go.Proofs.YtgpllheklfbfhaaGreat
open Go.Eng
set_option linter.all false
attribute [local irreducible] DCallsG SWp Fct CallQ XCallQ LCallQ XLCallQ drun xrun
set_option maxHeartbeats 64000000
set_option maxRecDepth 20000

theorem rsett_f (l : List Rule) (n : Net) (lv before : List Int) (m : Nat) (hl : rulOk l) (no : netOk n) (nb : netB n = true) (rb : rulesB l = true) (h1 : lv.length = n.nodes.length) (h2 : before.length = n.links.length) (h3 : rangB before 1000 = true) :
    Pu 54 [ruleL l, netD n, ints lv, ints before] m (.tup [ints (setR n l lv before).1, li (setR n l lv before).2]) := by
  have hl1 := hl.1;have c1 := fun m => rulesV_f l m hl
  have c2 := fun m => netValid_f n m no
  have hlen := netB_len nb;have c3 := fun m => conInt_f 99 (fun v => !btwB v 0 1000) before m (by omega) (fun v _ m => rsett1_f v m)
  have c4 := fun m => cloneI_f before m (by omega)
  rw [rb] at c1;rw [nb] at c2;rw [rang_any h3] at c3;have e1 : (lv.length : Int) = (n.nodes.length : Int) := by omega
  have e2 : (before.length : Int) = (n.links.length : Int) := by omega
  have hR : setR n l lv before = if l.all (knownR n) = false then (([], 9) : List Int × Int) else match setK n lv l before l.length with | none => ([], 26) | some (o, _) => (o, 0) := by
    unfold setR;rw [if_neg (fun c => c.elim (fun c => c h1) (fun c => c h2)), if_neg (by rw [h3]; decide)]; rfl
  rw [hR];(have:=NeI e1);(have:=NeI e2);refine pcN 160 [.tmp 8,.tmp 9] [28,45] Tryz.func54 rfl [392] ?_;(repeat' first|refine stW [0,1,2,3,5,8,9,10,11,12,13,14,15,17,19,21,23,24,25,27,28,29,38,53,58,59,60,61,75,76,77,78,87,88,89,90,101,102,103,104,120,125,126,127,128,134,150] ?_|refine fctI fun hf=>?_|refine twI (fun hc=>?_) fun hc=>?_);refine loop_swp [0, 2, 3, 5, 10, 58, 59, 60] [0, 240] 288 (fun q A H => ∃ i : Nat, i <= n.nodes.length /\ q = n.nodes.length - i /\ A = [(0, ruleL l), (2, ints lv), (3, ints before), (5, .ptr 0 0), (10, .mref 240), (58, nodeL n.nodes), (59, li n.nodes.length), (60, li i)] /\ H = [(0, .blk 25 (netC n)), (240, .map (strE (ixL (namesL n) (fun j => lv.getD j default) i)))]) (by omega) ?_ ?_ ?_
  · rintro q A H ⟨i, g1, g2, rfl, rfl⟩;exact SDD
  · refine ⟨_, 0, by omega, rfl, ?_, ?_⟩
    · exact DVR
    · rw [show strE (ixL (namesL n) (fun j => lv.getD j default) 0) = [] from by unfold strE; rfl];exact DVR
  rintro q A H ⟨i, g1, g2, rfl, rfl⟩;by_cases hi : i < n.nodes.length
  · have hi3 : (i : Int) < (n.nodes.length : Int) := by omega
    have hi4 : i < lv.length := by omega
    have hi5 : (i : Int) < (lv.length : Int) := by omega
    have hput := ixL_put (l := namesL n) (f := fun j => lv.getD j default) (i := i) (namesL_ne nb hi);rw [namesL_at n hi] at hput;have hput : putS (ixL (namesL n) (fun j => lv.getD j default) i) (n.nodes.getD i default).name (lv.getD i default) = ixL (namesL n) (fun j => lv.getD j default) (i + 1) := hput;generalize ixL (namesL n) (fun j => lv.getD j default) i = X at *
    (have:=NeI hi);(have:=NeI hi3);(have:=NeI hi4);(have:=NeI hi5);clear hR;(repeat' first|(show SWp _ _ _ (.region _ _ true) _ _ _ _;refine xG mixed [240] ?_)|refine stW [0,1,2,3,5,8,9,10,11,12,13,14,15,17,19,21,23,24,25,27,28,29,38,53,58,59,60,61,75,76,77,78,87,88,89,90,101,102,103,104,120,125,126,127,128,134,150] ?_|refine fctI fun hf=>?_|refine twI (fun hc=>?_) fun hc=>?_);rw [hput];(refine lN [0, 240] ?_);exact ⟨_, by omega, i + 1, by omega, rfl, rfl, rfl⟩
  obtain rfl : i = n.nodes.length := by omega
  have hi3 : ¬ ((n.nodes.length : Int) < (n.nodes.length : Int)) := by omega
  (have:=NeI hi3);rw [show ixL (namesL n) (fun j => lv.getD j default) n.nodes.length = lvM n lv from rfl];have hkv := lvM_kno nb lv;have hho := fun r => @hold_eq n nb lv r
  generalize lvM n lv = IX at *
  (repeat' first|(show SWp _ _ _ (.seq (.region 13 _ _) _) _ _ _ _;refine (stop_in ?_))|(show SWp _ _ _ (.region _ _ true) _ _ _ _;refine xG mixed [] ?_)|refine stW [0,1,2,3,5,8,9,10,11,12,13,14,15,17,19,21,23,24,25,27,28,29,38,53,58,59,60,61,75,76,77,78,87,88,89,90,101,102,103,104,120,125,126,127,128,134,150] ?_|refine fctI fun hf=>?_|refine twI (fun hc=>?_) fun hc=>?_);refine stop_out ?_;refine sF 240 (v := .map (strE IX)) (x := .mp (IX.map fun e => .string e.1) (IX.map fun e => .lit (.int .i64 e.2))) ?_ (hx := strE_fv IX);rw [mapT_eq];(repeat' first|refine stW [0,1,2,3,5,8,9,10,11,12,13,14,15,17,19,21,23,24,25,27,28,29,38,53,58,59,60,61,75,76,77,78,87,88,89,90,101,102,103,104,120,125,126,127,128,134,150] ?_|refine fctI fun hf=>?_|refine twI (fun hc=>?_) fun hc=>?_);refine loop_swp [0, 3, 10, 13, 75, 76, 77] [296] 344 (fun q A H => ∃ i : Nat, i <= n.links.length /\ q = n.links.length - i /\ A = [(0, ruleL l), (3, ints before), (10, .p (mapT IX)), (13, .mref 296), (75, linkL n.links), (76, li n.links.length), (77, li i)] /\ H = [(296, .map (strE (ixL (linkNs n) (fun j => (j : Int)) i)))]) (by omega) ?_ ?_ ?_
  · rintro q A H ⟨i, g1, g2, rfl, rfl⟩;exact SDD
  · refine ⟨_, 0, by omega, rfl, ?_, ?_⟩
    · exact DVR
    · rw [show strE (ixL (linkNs n) (fun j => (j : Int)) 0) = [] from by unfold strE; rfl];exact DVR
  rintro q A H ⟨i, g1, g2, rfl, rfl⟩;by_cases hi : i < n.links.length
  · have hi3 : (i : Int) < (n.links.length : Int) := by omega
    have hput := ixL_put (l := linkNs n) (f := fun j => (j : Int)) (i := i) (linkNs_ne nb hi);rw [linkNs_at n hi] at hput;have hput : putS (ixL (linkNs n) (fun j => (j : Int)) i) (n.links.getD i default).name (i : Int) = ixL (linkNs n) (fun j => (j : Int)) (i + 1) := hput;generalize ixL (linkNs n) (fun j => (j : Int)) i = X at *
    (have:=NeI hi);(have:=NeI hi3);clear hR hkv hho;(repeat' first|refine stW [0,1,2,3,5,8,9,10,11,12,13,14,15,17,19,21,23,24,25,27,28,29,38,53,58,59,60,61,75,76,77,78,87,88,89,90,101,102,103,104,120,125,126,127,128,134,150] ?_|refine fctI fun hf=>?_|refine twI (fun hc=>?_) fun hc=>?_);rw [hput];(refine lN [296] ?_);exact ⟨_, by omega, i + 1, by omega, rfl, rfl, rfl⟩
  obtain rfl : i = n.links.length := by omega
  have hi3 : ¬ ((n.links.length : Int) < (n.links.length : Int)) := by omega
  (have:=NeI hi3);rw [show ixL (linkNs n) (fun j => (j : Int)) n.links.length = lkM n from rfl];have hkl := lkM_kno nb;have hvl := fun s => @lkM_val n nb s
  generalize lkM n = IL at *
  (repeat' first|(show SWp _ _ _ (.seq (.region 19 _ _) _) _ _ _ _;refine (stop_in ?_))|(show SWp _ _ _ (.region _ _ true) _ _ _ _;refine xG mixed [] ?_)|refine stW [0,1,2,3,5,8,9,10,11,12,13,14,15,17,19,21,23,24,25,27,28,29,38,53,58,59,60,61,75,76,77,78,87,88,89,90,101,102,103,104,120,125,126,127,128,134,150] ?_|refine fctI fun hf=>?_|refine twI (fun hc=>?_) fun hc=>?_);refine stop_out ?_;refine sF 296 (v := .map (strE IL)) (x := .mp (IL.map fun e => .string e.1) (IL.map fun e => .lit (.int .i64 e.2))) ?_ (hx := strE_fv IL);rw [mapT_eq];(repeat' first|refine stW [0,1,2,3,5,8,9,10,11,12,13,14,15,17,19,21,23,24,25,27,28,29,38,53,58,59,60,61,75,76,77,78,87,88,89,90,101,102,103,104,120,125,126,127,128,134,150] ?_|refine fctI fun hf=>?_|refine twI (fun hc=>?_) fun hc=>?_);refine loop_swp [0, 3, 10, 13, 87, 88, 89] [] 376 (fun q A H => ∃ i : Nat, i <= l.length /\ q = l.length - i /\ (∀ j, j < i -> knownR n (l.getD j default) = true) /\ A = [(0, ruleL l), (3, ints before), (10, .p (mapT IX)), (13, .p (mapT IL)), (87, ruleL l), (88, li l.length), (89, li i)] /\ H = []) (by omega) ?_ ?_ ?_
  · rintro q A H ⟨i, g1, g2, g3, rfl, rfl⟩;exact SDD
  · refine ⟨_, 0, by omega, rfl, by omega, ?_, ?_⟩
    · exact DVR
    · exact DVR
  rintro q A H ⟨i, g1, g2, g3, rfl, rfl⟩;by_cases hi : i < l.length
  · have hi3 : (i : Int) < (l.length : Int) := by omega
    have hw := ruleOk_at hl hi;have hkr := knownR_eq n (l.getD i default);have hit := @kn_hit n l i hi;haveI : KnoAt IL (l.getD i default).lnk (decide (0 <= linkIx n.links (l.getD i default).lnk)) := ⟨hkl _⟩;(have:=NeI hi);(have:=NeI hi3);generalize decide (0 <= linkIx n.links (l.getD i default).lnk) = K at *
    clear hvl hho;(repeat' first|refine stW [0,1,2,3,5,8,9,10,11,12,13,14,15,17,19,21,23,24,25,27,28,29,38,53,58,59,60,61,75,76,77,78,87,88,89,90,101,102,103,104,120,125,126,127,128,134,150] ?_|refine fctI fun hf=>?_|refine twI (fun hc=>?_) fun hc=>?_);refine loop_swp [0, 3, 10, 13, 19, 87, 88, 89, 101, 102, 103] [] 520 (fun q A H => ∃ j : Nat, j <= (l.getD i default).whn.length /\ q = (l.getD i default).whn.length - j /\ A = [(0, ruleL l), (3, ints before), (10, .p (mapT IX)), (13, .p (mapT IL)), (19, lb (K && ((l.getD i default).whn.take j).all (nodKn n))), (87, ruleL l), (88, li l.length), (89, li i), (101, cndL (l.getD i default).whn), (102, li (l.getD i default).whn.length), (103, li j)] /\ H = []) (by omega) ?_ ?_ ?_
    · rintro q A H ⟨j, k1, k2, rfl, rfl⟩;exact SDD
    · refine ⟨_, 0, by omega, rfl, ?_, ?_⟩
      · rw [List.take_zero, List.all_nil, Bool.and_true];exact DVR
      · exact DVR
    rintro q A H ⟨j, k1, k2, rfl, rfl⟩;by_cases hj : j < (l.getD i default).whn.length
    · have hj3 : (j : Int) < ((l.getD i default).whn.length : Int) := by omega
      have hs := all_takeS (nodKn n) hj;haveI : KnoAt IX ((l.getD i default).whn.getD j default).nod (nodKn n ((l.getD i default).whn.getD j default)) := ⟨hkv _⟩;have hs2 : (K && ((l.getD i default).whn.take (j + 1)).all (nodKn n)) = ((K && ((l.getD i default).whn.take j).all (nodKn n)) && nodKn n ((l.getD i default).whn.getD j default)) := by rw [hs, Bool.and_assoc]
      generalize (K && ((l.getD i default).whn.take j).all (nodKn n)) = F at *
      generalize nodKn n ((l.getD i default).whn.getD j default) = G at *
      (have:=NeI hj);(have:=NeI hj3);clear g3 hit hkr hs hR hkv hkl;cases F
      · rw [Bool.false_and] at hs2;(repeat' first|refine stW [0,1,2,3,5,8,9,10,11,12,13,14,15,17,19,21,23,24,25,27,28,29,38,53,58,59,60,61,75,76,77,78,87,88,89,90,101,102,103,104,120,125,126,127,128,134,150] ?_|refine fctI fun hf=>?_|refine twI (fun hc=>?_) fun hc=>?_);(refine lN [] ?_);exact ⟨_, by omega, j + 1, by omega, rfl, by rw [hs2] <;> rfl, rfl⟩
      · rw [Bool.true_and] at hs2;(repeat' first|refine stW [0,1,2,3,5,8,9,10,11,12,13,14,15,17,19,21,23,24,25,27,28,29,38,53,58,59,60,61,75,76,77,78,87,88,89,90,101,102,103,104,120,125,126,127,128,134,150] ?_|refine fctI fun hf=>?_|refine twI (fun hc=>?_) fun hc=>?_);(refine lN [] ?_);exact ⟨_, by omega, j + 1, by omega, rfl, by rw [hs2] <;> rfl, rfl⟩
    obtain rfl : j = (l.getD i default).whn.length := by omega
    have hj3 : ¬ (((l.getD i default).whn.length : Int) < ((l.getD i default).whn.length : Int)) := by omega
    rw [List.take_length, <- hkr];(have:=NeI hj3);cases hb : knownR n (l.getD i default)
    · rw [hit hb, if_pos rfl];clear g3 hit hkr hR hkv hkl;(repeat' first|refine stW [0,1,2,3,5,8,9,10,11,12,13,14,15,17,19,21,23,24,25,27,28,29,38,53,58,59,60,61,75,76,77,78,87,88,89,90,101,102,103,104,120,125,126,127,128,134,150] ?_|refine fctI fun hf=>?_|refine twI (fun hc=>?_) fun hc=>?_);exact DVR
    · have hnx : ∀ j, j < i + 1 -> knownR n (l.getD j default) = true := fun j hj => by
        by_cases e : j = i
        · subst e; exact hb
        · exact g3 j (by omega)
      clear g3 hit hkr hR hkv hkl;(repeat' first|refine stW [0,1,2,3,5,8,9,10,11,12,13,14,15,17,19,21,23,24,25,27,28,29,38,53,58,59,60,61,75,76,77,78,87,88,89,90,101,102,103,104,120,125,126,127,128,134,150] ?_|refine fctI fun hf=>?_|refine twI (fun hc=>?_) fun hc=>?_);(refine lN [] ?_);exact ⟨_, by omega, i + 1, by omega, rfl, hnx, rfl, rfl⟩
  obtain rfl : i = l.length := by omega
  have hi3 : ¬ ((l.length : Int) < (l.length : Int)) := by omega
  have hka := kn_all g3;rw [hka, if_neg (by decide)];(have:=NeI hi3);clear hR hkv hkl g3;(repeat' first|refine stW [0,1,2,3,5,8,9,10,11,12,13,14,15,17,19,21,23,24,25,27,28,29,38,53,58,59,60,61,75,76,77,78,87,88,89,90,101,102,103,104,120,125,126,127,128,134,150] ?_|refine fctI fun hf=>?_|refine twI (fun hc=>?_) fun hc=>?_);refine loop_swp [10, 13, 24, 25, 125, 126, 127] [392, 408] 448 (fun q A H => ∃ (i : Nat) (o : List Int) (f : List Bool) (F : List Int), i <= l.length /\ q = l.length - i /\ setK n lv l before i = some (o, f) /\ (∀ k : Nat, k < n.links.length -> hasZ F (k : Int) = f.getD k default) /\ A = [(10, .p (mapT IX)), (13, .p (mapT IL)), (24, .gl 392), (25, .mref 408), (125, ruleL l), (126, li l.length), (127, li i)] /\ H = [(392, inLt o), (408, .map (setZ F))]) (by omega) ?_ ?_ ?_
  · rintro q A H ⟨i, o, f, F, g1, g2, g3, g4, rfl, rfl⟩;exact SDD
  · refine ⟨_, 0, before, List.replicate n.links.length false, [], by omega, rfl, rfl, fun k hk => ?_, ?_, ?_⟩
    · rw [List.getD_eq_getElem?_getD, List.getElem?_replicate, if_pos hk]; rfl
    · exact DVR
    · rw [show setZ [] = [] from by unfold setZ; rfl];exact DVR
  rintro q A H ⟨i, o, f, F, g1, g2, g3, g4, rfl, rfl⟩;by_cases hi : i < l.length
  · have hi3 : (i : Int) < (l.length : Int) := by omega
    have hw := ruleOk_at hl hi;have hkr := kn_at hka hi;have c5 := fun m => rholds_f (l.getD i default) IX m hw
    rw [hho _ hkr] at c5;obtain ⟨ol, fl⟩ := setK_len h2 g3;have hsk := setK_skip g3;have hbd := setK_bad g3;have hse := setK_set g3;have hno := fun h => @setK_none n lv l before (i + 1) h (l.length - (i + 1))
    rw [show i + 1 + (l.length - (i + 1)) = l.length by omega] at hno;rw [knownR_eq, Bool.and_eq_true] at hkr;have hk0 := of_decide_eq_true hkr.1;have hv := hvl _ hk0;have hkn := lix_lt n.links (l.getD i default).lnk;obtain ⟨k, hke⟩ : ∃ k : Nat, linkIx n.links (l.getD i default).lnk = (k : Int) := ⟨_, (Int.toNat_of_nonneg hk0).symm⟩;rw [hke] at hv hkn;rw [hke, Int.toNat_natCast] at hbd hse;have hkn : k < n.links.length := by omega
    have hzk := g4 k hkn;have hko : k < o.length := by omega
    have hko3 : (k : Int) < (o.length : Int) := by omega
    haveI : ValAt IL (l.getD i default).lnk (k : Int) := ⟨hv⟩;haveI : HasZ F (k : Int) (f.getD k default) := ⟨hzk⟩;have hnz : ∀ j : Nat, j < n.links.length -> hasZ (insZ F (k : Int)) (j : Int) = (f.set k true).getD j default := fun j hj => by
      rw [insZ_has, g4 j hj];by_cases e : j = k
      · subst e;rw [decide_eq_true rfl, Bool.or_true, List.getD_eq_getElem?_getD, List.getElem?_set_self (by omega)]; rfl
      · rw [decide_eq_false (by omega), Bool.or_false, List.getD_eq_getElem?_getD, List.getD_eq_getElem?_getD, List.getElem?_set_ne (by omega)]
    (have:=NeI hi);(have:=NeI hi3);(have:=NeI hko);(have:=NeI hko3);clear hho hvl hkr hka;cases hh : holdB n lv (l.getD i default) <;> simp only [hh] at c5
    · replace hsk := hsk hh
      clear hbd hse hno;(repeat' first|refine stW [0,1,2,3,5,8,9,10,11,12,13,14,15,17,19,21,23,24,25,27,28,29,38,53,58,59,60,61,75,76,77,78,87,88,89,90,101,102,103,104,120,125,126,127,128,134,150] ?_|refine fctI fun hf=>?_|refine twI (fun hc=>?_) fun hc=>?_);(refine lN [392, 408] ?_);exact ⟨_, by omega, i + 1, o, f, F, by omega, rfl, hsk, g4, rfl, rfl⟩
    replace hbd := hbd hh
    replace hse := hse hh
    clear hsk;generalize hfk : f.getD k default = fk at *
    by_cases ho : o.getD k default = (l.getD i default).setg
    · replace hse := hse (fun c => c.2 ho)
      (have:=NeI ho);clear hbd hno;cases fk
      · (repeat' first|refine stW [0,1,2,3,5,8,9,10,11,12,13,14,15,17,19,21,23,24,25,27,28,29,38,53,58,59,60,61,75,76,77,78,87,88,89,90,101,102,103,104,120,125,126,127,128,134,150] ?_|refine fctI fun hf=>?_|refine twI (fun hc=>?_) fun hc=>?_);(refine lN [392, 408] ?_);exact ⟨_, by omega, i + 1, _, _, _, by omega, rfl, hse, hnz, rfl, rfl⟩
      · (repeat' first|refine stW [0,1,2,3,5,8,9,10,11,12,13,14,15,17,19,21,23,24,25,27,28,29,38,53,58,59,60,61,75,76,77,78,87,88,89,90,101,102,103,104,120,125,126,127,128,134,150] ?_|refine fctI fun hf=>?_|refine twI (fun hc=>?_) fun hc=>?_);(refine lN [392, 408] ?_);exact ⟨_, by omega, i + 1, _, _, _, by omega, rfl, hse, hnz, rfl, rfl⟩
    · (have:=NeI ho);cases fk
      · replace hse := hse (fun c => Bool.noConfusion c.1)
        clear hbd hno;(repeat' first|refine stW [0,1,2,3,5,8,9,10,11,12,13,14,15,17,19,21,23,24,25,27,28,29,38,53,58,59,60,61,75,76,77,78,87,88,89,90,101,102,103,104,120,125,126,127,128,134,150] ?_|refine fctI fun hf=>?_|refine twI (fun hc=>?_) fun hc=>?_);(refine lN [392, 408] ?_);exact ⟨_, by omega, i + 1, _, _, _, by omega, rfl, hse, hnz, rfl, rfl⟩
      · rw [hno (hbd rfl ho)];clear hbd hse hno;(repeat' first|refine stW [0,1,2,3,5,8,9,10,11,12,13,14,15,17,19,21,23,24,25,27,28,29,38,53,58,59,60,61,75,76,77,78,87,88,89,90,101,102,103,104,120,125,126,127,128,134,150] ?_|refine fctI fun hf=>?_|refine twI (fun hc=>?_) fun hc=>?_);exact DVR
  obtain rfl : i = l.length := by omega
  have hi3 : ¬ ((l.length : Int) < (l.length : Int)) := by omega
  rw [g3];(have:=NeI hi3);clear hho hvl hka g4;(repeat' first|refine stW [0,1,2,3,5,8,9,10,11,12,13,14,15,17,19,21,23,24,25,27,28,29,38,53,58,59,60,61,75,76,77,78,87,88,89,90,101,102,103,104,120,125,126,127,128,134,150] ?_|refine fctI fun hf=>?_|refine twI (fun hc=>?_) fun hc=>?_);exact DVR

end Go.Proofs.YtgpllheklfbfhaaGreat
