/-
  Contracts of functions of the program, over the engine.
  No condition.
-/
import Derived.Test.YtlgfdfljnbncfaaGreatCU7
import Derived.Test.YtlgfdfljnbncfaaGreatCU4
import Derived.Test.YtlgfdfljnbncfaaGreatCU1
namespace Go.Proofs.YtlgfdfljnbncfaaGreat
open Go.Eng
set_option linter.all false
attribute [local irreducible] DCallsG SWp Fct CallQ XCallQ LCallQ XLCallQ drun xrun
set_option maxHeartbeats 64000000
set_option maxRecDepth 20000

theorem rLeaves_f (n : Net) (c : List Sect) (t : ByteArray) (S : List Int) (v sec : Int) (m : Nat) (no : netOk n) (co : catOk c) (nb : netB n = true) (cb : catB c = true) (hkn : ∀ x, x ∈ outL n t -> knownB c x = true) (hv : btwB v (nodeA n t).inv (nodeA n t).gnd = true) (hS : S.length = (outL n t).length) (hS2 : ∀ s, s ∈ S -> 0 <= s /\ s <= 1000) (hs : 1 <= sec /\ sec <= 86400) :
    Pu 18 [netD n, sectL c, ls t, ints S, li v, li sec] m (li (leavesI (flowsS n c t S v) sec)) := by
  obtain ⟨h300, h400⟩ := netB_len nb;have ni := (netB_iff n).1 nb;have ci := (catB_iff c).1 cb;have k1 := fun m => rOut_f n t m (by omega)
  have hol : (outL n t).length <= n.links.length := List.length_filter_le ..;have hIl := outI_len n t;have hFl := flowsS_len (n := n) (c := c) (t := t) (S := S) (v := v) hS;rw [<- leavK_all, hFl];have hFi : ∀ i, i < (outL n t).length -> (flowsS n c t S v).getD i default = flowX n c v ((outL n t).getD i default) (S.getD i default) := fun i hi => flowsS_at hS hi
  have hFn : ∀ i, i < (outL n t).length -> leavK (flowsS n c t S v) sec (i + 1) = leavK (flowsS n c t S v) sec i + min (flowX n c v ((outL n t).getD i default) (S.getD i default) * sec) 1125899906842624 := fun i hi => by
    rw [<- hFi i hi]; exact leavK_next (by omega)
  have hB : ∀ i, i < (outL n t).length -> BtwIn n c ((outL n t).getD i default) v (nodeA n ((outL n t).getD i default).til).inv (S.getD i default).toNat := fun i hi => out_btw no co ni ci hkn (mem_getD hi) hv (hS2 _ (mem_getD (by omega)))
  have hq : ∀ q, q ∈ flowsS n c t S v -> 0 <= q /\ q <= 1099511627776 := fun q hq => by
    obtain ⟨i, hi, rfl⟩ := List.mem_iff_getElem.1 hq;have hi2 : i < (outL n t).length := by omega
    have := hFi i hi2;rw [getD_is hi] at this;rw [this];exact flowI_in (hB i hi2)
  have hLb : ∀ i, 0 <= leavK (flowsS n c t S v) sec i /\ leavK (flowsS n c t S v) sec i <= 450359962737049600 := fun i => by
    have hb := leaves_in sec (by omega) ((flowsS n c t S v).take i) fun q h => (hq q (mem_take_of h)).1
    have hb : 0 <= leavK (flowsS n c t S v) sec i /\ leavK (flowsS n c t S v) sec i <= (((flowsS n c t S v).take i).length : Int) * 1125899906842624 := hb;rw [List.length_take] at hb;have : ((min i (flowsS n c t S v).length : Nat) : Int) <= 400 := by omega
    omega
  refine pcN 67 [.tmp 12] [3] Tryz.func18 rfl [] ?_;(repeat' first|refine stW [0,1,2,3,4,5,6,12,13,14,15,17,18,19,27] ?_|refine fctI fun hf=>?_|refine twI (fun hc=>?_) fun hc=>?_);refine loop_swp [1, 3, 4, 5, 6, 13, 14, 15] [0] 64 (fun q A H => ∃ i : Nat, i <= (outL n t).length /\ q = (outL n t).length - i /\ A = [(1, sectL c), (3, ints S), (4, li v), (5, li sec), (6, .ptr 0 0), (13, ints (outI n t)), (14, li (leavK (flowsS n c t S v) sec i)), (15, li i)] /\ H = [(0, .blk 25 (netC n))]) (by omega) ?_ ?_ ?_
  · rintro q A H ⟨i, g1, g2, rfl, rfl⟩;exact SDD
  · refine ⟨_, 0, by omega, rfl, ?_, ?_⟩
    · rw [show leavK (flowsS n c t S v) sec 0 = 0 from rfl];exact DVR
    · exact DVR
  rintro q A H ⟨i, g1, g2, rfl, rfl⟩;by_cases hi : i < (outL n t).length
  · have hi2 : i < (outI n t).length := by omega
    have hi3 : (i : Int) < ((outI n t).length : Int) := by omega
    have hiS : i < S.length := by omega
    have hiS3 : (i : Int) < (S.length : Int) := by omega
    obtain ⟨k, hk1, hk2, hk3⟩ := outI_at hi;have hk4 : (k : Int) < (n.links.length : Int) := by omega
    have hBi := hB i hi;have hx := mem_getD (l := outL n t) hi;have ht := tillI_lt nb hk2;have hti : tillI n k < n.nodes.length := ht.1;have hti3 : (tillI n k : Int) < (n.nodes.length : Int) := by omega
    have hnode : nodeA n ((outL n t).getD i default).til = n.nodes.getD (tillI n k) default := by rw [<- hk3]; rfl
    rw [hnode] at hBi;have k2 := fun m => ends34_f n k m no nb hk2
    rw [<- hk3] at hBi;have k3 := fun m => rBetween_f n c k v (n.nodes.getD (tillI n k) default).inv (S.getD i default).toNat true m hk2 hBi
    have hfx : flowI n c (n.links.getD k default) v (n.nodes.getD (tillI n k) default).inv (S.getD i default).toNat true = flowX n c v ((outL n t).getD i default) (S.getD i default) := by rw [<- hk3]; rfl
    rw [hfx] at k3;have hsi := hS2 _ (mem_getD hiS);rw [show li ((S.getD i default).toNat : Int) = li (S.getD i default) by rw [Int.toNat_of_nonneg hsi.1]] at k3;have hqi := flowI_in (on := true) hBi;rw [hfx] at hqi;have k4 := fun m => rWish_f (flowX n c v ((outL n t).getD i default) (S.getD i default)) sec m
    have hw : wishI (flowX n c v ((outL n t).getD i default) (S.getD i default)) sec = (min (flowX n c v ((outL n t).getD i default) (S.getD i default) * sec) 1125899906842624, 0) := by
      unfold wishI;rw [if_neg (by omega)]
    rw [hw] at k4;have hnx := hFn i hi;have hb1 := hLb i;have hb2 := hLb (i + 1);rw [hnx] at hb2;generalize leavK (flowsS n c t S v) sec i = L at *
    generalize min (flowX n c v ((outL n t).getD i default) (S.getD i default) * sec) 1125899906842624 = W at *
    generalize flowX n c v ((outL n t).getD i default) (S.getD i default) = Q at *
    haveI : OutAt (outI n t) i k := ⟨hk1⟩;clear k1 hFn hFi hB hLb hq hBi hw hfx hnode hx;(have:=NeI hi2);(have:=NeI hi3);(have:=NeI hiS);(have:=NeI hiS3);(have:=NeI hk2);(have:=NeI hk4);(have:=NeI hti);(have:=NeI hti3);(repeat' first|refine stW [0,1,2,3,4,5,6,12,13,14,15,17,18,19,27] ?_|refine fctI fun hf=>?_|refine twI (fun hc=>?_) fun hc=>?_);(refine lN [0] ?_);exact ⟨_, by omega, i + 1, by omega, rfl, by rw [hnx] <;> rfl, rfl⟩
  obtain rfl : i = (outL n t).length := by omega
  have hi3 : ¬ (((outL n t).length : Int) < ((outI n t).length : Int)) := by omega
  generalize leavK (flowsS n c t S v) sec (outL n t).length = L at *
  (have:=NeI hi3);clear k1;(repeat' first|refine stW [0,1,2,3,4,5,6,12,13,14,15,17,18,19,27] ?_|refine fctI fun hf=>?_|refine twI (fun hc=>?_) fun hc=>?_);exact DVR
theorem all_stop {α : Type} [Inhabited α] {p : α -> Bool} {l : List α} {i : Nat} (h : i < l.length) (e : p (l.getD i default) = false) : l.all p = false := List.all_eq_false.2 ⟨_, getD_mem h, by rw [e]; decide⟩
theorem all_go {α : Type} [Inhabited α] {p : α -> Bool} {l : List α} (h : ∀ j, j < l.length -> p (l.getD j default) = true) : l.all p = true := by
  rw [List.all_eq_true];intro x hx;obtain ⟨j, hj, rfl⟩ := List.mem_iff_getElem.1 hx;have := h j hj
  rwa [getD_is hj] at this
theorem rCheck_f (n : Net) (c : List Sect) (l : List Rule) (t : ByteArray) (sec : Int) (m : Nat) (no : netOk n) (co : catOk c) (lo : rulOk l) :
    Pu 17 [netD n, sectL c, ruleL l, ls t, li sec] m (.tup [li (if safE n c l t sec = 0 then nodeIx n.nodes t else 0), li (safE n c l t sec)]) := by
  have k1 := fun m => rGiven_f n l t m lo no
  have k2 := fun m => rCat_f c m co
  cases cb : catB c <;> simp only [cb] at k2
  · rw [show safE n c l t sec = 1 from if_pos (by rw [cb, Bool.and_false, Bool.false_and]), if_neg (by decide)];generalize givA n l t = G at *
    obtain ⟨G1, G2⟩ := G;refine pcN 56 [.tmp 10,.tmp 11] [3,3] Tryz.func17 rfl [] ?_;(repeat' first|refine stW [0,1,2,3,4,5,10,11,12,13,14,15,25,27,34,41,54] ?_|refine fctI fun hf=>?_|refine twI (fun hc=>?_) fun hc=>?_);exact DVR
  unfold givA at k1;cases hb : (netB n && rulesB l)
  · rw [show safE n c l t sec = 1 from if_pos (by rw [cb, Bool.and_true, hb]), if_neg (by decide)];rw [hb, if_pos rfl] at k1;refine pcN 56 [.tmp 10,.tmp 11] [3,3] Tryz.func17 rfl [] ?_;(repeat' first|refine stW [0,1,2,3,4,5,10,11,12,13,14,15,25,27,34,41,54] ?_|refine fctI fun hf=>?_|refine twI (fun hc=>?_) fun hc=>?_);exact DVR
  rw [hb, if_neg (by decide)] at k1;have h0 : ¬ (netB n && catB c && rulesB l) = false := by rw [cb, Bool.and_true, hb]; decide
  by_cases te : tankE n l t = 0
  case neg =>
    rw [if_neg te] at k1;rw [show safE n c l t sec = tankE n l t from (if_neg h0).trans (if_pos te), if_neg te];generalize tankE n l t = E at *
    (have:=NeI te);refine pcN 56 [.tmp 10,.tmp 11] [3,3] Tryz.func17 rfl [] ?_;(repeat' first|refine stW [0,1,2,3,4,5,10,11,12,13,14,15,25,27,34,41,54] ?_|refine fctI fun hf=>?_|refine twI (fun hc=>?_) fun hc=>?_);exact DVR
  rw [if_pos te] at k1;have hE : safE n c l t sec = _ := safE_sec (by rw [cb, Bool.and_true]; exact hb) te;simp only [Bool.and_eq_true] at hb;obtain ⟨h300, h400⟩ := netB_len hb.1;generalize nodeIx n.nodes t = K at *
  by_cases s1 : sec < 1
  · rw [hE.trans (if_pos (by omega)), if_neg (by decide)];clear hE;(have:=NeI s1);refine pcN 56 [.tmp 10,.tmp 11] [3,3] Tryz.func17 rfl [] ?_;(repeat' first|refine stW [0,1,2,3,4,5,10,11,12,13,14,15,25,27,34,41,54] ?_|refine fctI fun hf=>?_|refine twI (fun hc=>?_) fun hc=>?_);exact DVR
  by_cases s2 : 86400 < sec
  · rw [hE.trans (if_pos (by omega)), if_neg (by decide)];clear hE;(have:=NeI s1);(have:=NeI s2);refine pcN 56 [.tmp 10,.tmp 11] [3,3] Tryz.func17 rfl [] ?_;(repeat' first|refine stW [0,1,2,3,4,5,10,11,12,13,14,15,25,27,34,41,54] ?_|refine fctI fun hf=>?_|refine twI (fun hc=>?_) fun hc=>?_);exact DVR
  rw [hE.trans (if_neg (by omega))];clear hE;(have:=NeI s1);(have:=NeI s2);have k3 := fun m => rOut_f n t m (by omega)
  have hlc := co.1;have hol : (outL n t).length <= n.links.length := List.length_filter_le ..;have hIl := outI_len n t;have hR : (if findK c (outL n t) [] = none then (9 : Int) else 0) = if (outL n t).all (knownB c) = false then 9 else 0 := by
    by_cases q : (outL n t).all (knownB c) = false
    · rw [if_pos q, if_pos (find_none.2 q)]
    · rw [if_neg q, if_neg fun h => q (find_none.1 h)]
  rw [hR];clear hR;refine pcN 56 [.tmp 10,.tmp 11] [3,3] Tryz.func17 rfl [] ?_;(repeat' first|refine stW [0,1,2,3,4,5,10,11,12,13,14,15,25,27,34,41,54] ?_|refine fctI fun hf=>?_|refine twI (fun hc=>?_) fun hc=>?_);refine loop_swp [1, 5, 12, 14, 15] [0] 232 (fun q A H => ∃ i : Nat, i <= (outL n t).length /\ q = (outL n t).length - i /\ (∀ j, j < i -> knownB c ((outL n t).getD j default) = true) /\ A = [(1, sectL c), (5, .ptr 0 0), (12, li K), (14, ints (outI n t)), (15, li i)] /\ H = [(0, .blk 25 (netC n))]) (by omega) ?_ ?_ ?_
  · rintro q A H ⟨i, g1, g2, g3, rfl, rfl⟩;exact SDD
  · refine ⟨_, 0, by omega, rfl, by omega, ?_, ?_⟩
    · exact DVR
    · exact DVR
  rintro q A H ⟨i, g1, g2, g3, rfl, rfl⟩;by_cases hi : i < (outL n t).length
  · have hi2 : i < (outI n t).length := by omega
    have hi3 : (i : Int) < ((outI n t).length : Int) := by omega
    obtain ⟨k, hk1, hk2, hk3⟩ := outI_at hi;have hk4 : (k : Int) < (n.links.length : Int) := by omega
    have k4 := fun m => named_f c (n.links.getD k default) m hlc
    haveI : OutAt (outI n t) i k := ⟨hk1⟩;have hst := all_stop (p := knownB c) hi;have hnx : knownB c ((outL n t).getD i default) = true -> ∀ j, j < i + 1 -> knownB c ((outL n t).getD j default) = true := fun h j hj => by
      by_cases e : j = i
      · subst e; exact h
      · exact g3 j (by omega)
    rw [<- hk3] at hst hnx;clear k1 k2 k3 g3;(have:=NeI hi2);(have:=NeI hi3);(have:=NeI hk2);(have:=NeI hk4);cases hb2 : knownB c (n.links.getD k default) <;> simp only [hb2] at k4
    · rw [hst hb2, if_pos rfl, if_neg (by decide)];clear hst hnx;(repeat' first|refine stW [0,1,2,3,4,5,10,11,12,13,14,15,25,27,34,41,54] ?_|refine fctI fun hf=>?_|refine twI (fun hc=>?_) fun hc=>?_);exact DVR
    · replace hnx := hnx hb2
      clear hst;(repeat' first|refine stW [0,1,2,3,4,5,10,11,12,13,14,15,25,27,34,41,54] ?_|refine fctI fun hf=>?_|refine twI (fun hc=>?_) fun hc=>?_);(refine lN [0] ?_);exact ⟨_, by omega, i + 1, by omega, rfl, hnx, rfl, rfl⟩
  obtain rfl : i = (outL n t).length := by omega
  have hi3 : ¬ (((outL n t).length : Int) < ((outI n t).length : Int)) := by omega
  rw [all_go g3, show (if true = false then (9 : Int) else 0) = 0 from rfl, if_pos rfl];(have:=NeI hi3);clear k1 k2 k3 g3;(repeat' first|refine stW [0,1,2,3,4,5,10,11,12,13,14,15,25,27,34,41,54] ?_|refine fctI fun hf=>?_|refine twI (fun hc=>?_) fun hc=>?_);exact DVR
def phK (vol : Int -> Int) (F : Int -> List Int) (res h sec : Int) (j : Nat) : Int := minL ((List.range j).map fun (i : Nat) => margI res (vol (h + i)) (F (h + i)) sec)
theorem phK_all (vol : Int -> Int) (F : Int -> List Int) (res gnd h sec : Int) : phK vol F res h sec (gnd + 1 - h).toNat = phaseI vol F res gnd h sec := by
  unfold phK phaseI upTo;rw [List.map_map]; rfl
theorem phK_one (vol : Int -> Int) (F : Int -> List Int) (res h sec : Int) : phK vol F res h sec 1 = margI res (vol (h + (0 : Nat))) (F (h + (0 : Nat))) sec := rfl
theorem phK_next (vol : Int -> Int) (F : Int -> List Int) (res h sec : Int) {j : Nat} (hj : 0 < j) : phK vol F res h sec (j + 1) = min (phK vol F res h sec j) (margI res (vol (h + j)) (F (h + j)) sec) := by
  unfold phK;rw [List.range_succ, List.map_append, List.map_cons, List.map_nil, minL_app];intro e;have := congrArg List.length e;simp at this; omega
theorem rMargin_f {n : Net} {c a : List Sect} {l : List Rule} {t : ByteArray} (K : TankIn n c l t a) (h sec : Int) (m : Nat) (h1 : (nodeA n t).inv <= h) (h2 : h <= (nodeA n t).gnd) (hs : 1 <= sec /\ sec <= 86400) :
    Pu 75 [netD n, sectL c, ruleL l, li (nodeIx n.nodes t), li h, li sec] m (li (safM n c l t sec h)) := by
  obtain ⟨h300, h400⟩ := netB_len K.nb;obtain ⟨e1, e2, e3, e4, e5⟩ := tankE_in K.te;have hlt := nix_lt n.nodes t;have hnm := K.nm;have hnr := K.nr;have hrs := K.rs;have a1 := lev_in (node_lev hnr).1;have a2 := lev_in (node_lev hnr).2.1;have hpos := fun g q1 q2 => K.pos (g := g) q1 q2 h
  have kL := fun g m q => rLeaves_f n c t (setsS l n t h) g sec m K.no K.co K.nb K.cb K.kn q (setsS_len l n t h) (fun s hs => setsS_in (rules_in K.rb) hs) hs
  have kV := fun g m q => rVol29_f (nodeA n t) g m hnr q
  have hVi := fun g => volI_in g hnr
  unfold safM phS;rw [hnm, <- phK_all];obtain ⟨p, hp⟩ : ∃ p : Nat, nodeIx n.nodes t = (p : Int) := ⟨_, (Int.toNat_of_nonneg e2).symm⟩;have hpl : p < n.nodes.length := by omega
  have hpl3 : (p : Int) < (n.nodes.length : Int) := by omega
  rw [nodeA_at hp] at *
  rw [hp];have k1 := fun m => rSettings_f l n t h m K.lo (by omega)
  have hSl := setsS_len l n t h;have hFl := fun v => flowsS_len (n := n) (c := c) (t := t) (v := v) hSl
  have hol : (outL n t).length <= n.links.length := List.length_filter_le ..;have hLv : ∀ g, (n.nodes.getD p default).inv <= g -> g <= (n.nodes.getD p default).gnd -> 0 <= leavesI (flowsS n c t (setsS l n t h) g) sec /\ leavesI (flowsS n c t (setsS l n t h) g) sec <= 450359962737049600 := fun g q1 q2 => by
    have hb := leaves_in sec (by omega) (flowsS n c t (setsS l n t h) g) fun q hq => (hpos g q1 q2 q hq).1
    rw [hFl g] at hb;omega
  haveI : NameAt (n.nodes.getD p default) t := ⟨hnm⟩;generalize setsS l n t h = S at *
  (have:=NeI hpl);(have:=NeI hpl3);refine pcN 69 [.tmp 12] [3] Tryz.func75 rfl [] ?_;(repeat' first|refine stW [0,1,2,3,4,5,6,12,13,14,15,16,17,18,34,43,66] ?_|refine fctI fun hf=>?_|refine twI (fun hc=>?_) fun hc=>?_);refine loop_swp [1, 4, 5, 6, 13, 14, 15, 16] [0, 56] 152 (fun q A H => ∃ (j : Nat) (L : Int), (j : Int) <= (n.nodes.getD p default).gnd + 1 - h /\ q = ((n.nodes.getD p default).gnd + 1 - h).toNat - j /\ (0 < j -> L = phK (volI (n.nodes.getD p default)) (flowsS n c t S) (n.nodes.getD p default).res h sec j) /\ (-450359962737049600 <= L /\ L <= 1125899906842624) /\ A = [(1, sectL c), (4, li h), (5, li sec), (6, .ptr 0 0), (13, .ptr 56 0), (14, ints S), (15, li L), (16, li (h + j))] /\ H = [(0, .blk 25 (netC n)), (56, .blk 44 (nodeC (n.nodes.getD p default)))]) (by omega) ?_ ?_ ?_
  · rintro q A H ⟨j, L, g1, g2, g3, g4, rfl, rfl⟩;exact SDD
  · refine ⟨_, 0, 0, by omega, rfl, by omega, by omega, ?_, ?_⟩
    · rw [show h + ((0 : Nat) : Int) = h by omega];exact DVR
    · exact DVR
  rintro q A H ⟨j, L, g1, g2, g3, g4, rfl, rfl⟩;by_cases hj : h + j <= (n.nodes.getD p default).gnd
  · have hbw : btwB (h + j) (n.nodes.getD p default).inv (n.nodes.getD p default).gnd = true := by
      unfold btwB;simp only [Bool.and_eq_true, decide_eq_true_eq]; omega
    have k2 := fun m => kV (h + j) m hbw
    have k3 := fun m => kL (h + j) m hbw
    have hV := hVi (h + j);have hL2 := hLv (h + j) (by omega) hj;have hn1 := phK_one (volI (n.nodes.getD p default)) (flowsS n c t S) (n.nodes.getD p default).res h sec;have hn2 := fun q => @phK_next (volI (n.nodes.getD p default)) (flowsS n c t S) (n.nodes.getD p default).res h sec j q
    unfold margI at hn1 hn2;have hg3 : 0 < j -> L = phK (volI (n.nodes.getD p default)) (flowsS n c t S) (n.nodes.getD p default).res h sec j := g3;generalize phK (volI (n.nodes.getD p default)) (flowsS n c t S) (n.nodes.getD p default).res h sec = PK at *
    have hj0 : j = 0 ∨ 0 < j := by omega
    have hst : PK (j + 1) = if (h + j = h ∨ (max (n.nodes.getD p default).res (volI (n.nodes.getD p default) (h + j)) - leavesI (flowsS n c t S (h + j)) sec - (n.nodes.getD p default).res) < L) then (max (n.nodes.getD p default).res (volI (n.nodes.getD p default) (h + j)) - leavesI (flowsS n c t S (h + j)) sec - (n.nodes.getD p default).res) else L := by
      rcases hj0 with rfl | h0
      · rw [if_pos (.inl (by omega))]; exact hn1
      · rw [hn2 h0, <- hg3 h0];by_cases q : (max (n.nodes.getD p default).res (volI (n.nodes.getD p default) (h + j)) - leavesI (flowsS n c t S (h + j)) sec - (n.nodes.getD p default).res) < L
        · rw [if_pos (.inr q)]; omega
        · rw [if_neg (by omega)]; omega
    clear hn1 hn2 hg3 g3 kL kV hVi hLv hpos k1 hFl;generalize leavesI (flowsS n c t S (h + j)) sec = LV at *
    generalize volI (n.nodes.getD p default) (h + j) = V at *
    generalize hG : h + (j : Int) = G at *
    have hi5 : h + ((j + 1 : Nat) : Int) = G + 1 := by omega
    (have:=NeI hj);by_cases q1 : V < (n.nodes.getD p default).res
    · rw [show max (n.nodes.getD p default).res V = (n.nodes.getD p default).res by omega] at hst;(have:=NeI q1);by_cases q2 : G = h
      · rw [if_pos (.inl q2)] at hst;(have:=NeI q2);(repeat' first|refine stW [0,1,2,3,4,5,6,12,13,14,15,16,17,18,34,43,66] ?_|refine fctI fun hf=>?_|refine twI (fun hc=>?_) fun hc=>?_);(refine lN [0, 56] ?_);exact ⟨_, by omega, j + 1, _, by omega, rfl, fun _ => hst.symm, by omega, by rw [hi5] <;> rfl, rfl⟩
      · (have:=NeI q2);by_cases q3 : (n.nodes.getD p default).res - LV - (n.nodes.getD p default).res < L
        · rw [if_pos (.inr q3)] at hst;(have:=NeI q3);(repeat' first|refine stW [0,1,2,3,4,5,6,12,13,14,15,16,17,18,34,43,66] ?_|refine fctI fun hf=>?_|refine twI (fun hc=>?_) fun hc=>?_);(refine lN [0, 56] ?_);exact ⟨_, by omega, j + 1, _, by omega, rfl, fun _ => hst.symm, by omega, by rw [hi5] <;> rfl, rfl⟩
        · rw [if_neg fun c => c.elim q2 q3] at hst;(have:=NeI q3);(repeat' first|refine stW [0,1,2,3,4,5,6,12,13,14,15,16,17,18,34,43,66] ?_|refine fctI fun hf=>?_|refine twI (fun hc=>?_) fun hc=>?_);(refine lN [0, 56] ?_);exact ⟨_, by omega, j + 1, _, by omega, rfl, fun _ => hst.symm, by omega, by rw [hi5] <;> rfl, rfl⟩
    · rw [show max (n.nodes.getD p default).res V = V by omega] at hst;(have:=NeI q1);by_cases q2 : G = h
      · rw [if_pos (.inl q2)] at hst;(have:=NeI q2);(repeat' first|refine stW [0,1,2,3,4,5,6,12,13,14,15,16,17,18,34,43,66] ?_|refine fctI fun hf=>?_|refine twI (fun hc=>?_) fun hc=>?_);(refine lN [0, 56] ?_);exact ⟨_, by omega, j + 1, _, by omega, rfl, fun _ => hst.symm, by omega, by rw [hi5] <;> rfl, rfl⟩
      · (have:=NeI q2);by_cases q3 : V - LV - (n.nodes.getD p default).res < L
        · rw [if_pos (.inr q3)] at hst;(have:=NeI q3);(repeat' first|refine stW [0,1,2,3,4,5,6,12,13,14,15,16,17,18,34,43,66] ?_|refine fctI fun hf=>?_|refine twI (fun hc=>?_) fun hc=>?_);(refine lN [0, 56] ?_);exact ⟨_, by omega, j + 1, _, by omega, rfl, fun _ => hst.symm, by omega, by rw [hi5] <;> rfl, rfl⟩
        · rw [if_neg fun c => c.elim q2 q3] at hst;(have:=NeI q3);(repeat' first|refine stW [0,1,2,3,4,5,6,12,13,14,15,16,17,18,34,43,66] ?_|refine fctI fun hf=>?_|refine twI (fun hc=>?_) fun hc=>?_);(refine lN [0, 56] ?_);exact ⟨_, by omega, j + 1, _, by omega, rfl, fun _ => hst.symm, by omega, by rw [hi5] <;> rfl, rfl⟩
  obtain rfl : j = ((n.nodes.getD p default).gnd + 1 - h).toNat := by omega
  have hend := g3 (by omega);have hj3 : ¬ h + (((n.nodes.getD p default).gnd + 1 - h).toNat : Int) <= (n.nodes.getD p default).gnd := hj;rw [<- hend];clear kL kV hVi hLv hpos k1 hFl g3 hend;generalize h + (((n.nodes.getD p default).gnd + 1 - h).toNat : Int) = G at *
  (have:=NeI hj3);(repeat' first|refine stW [0,1,2,3,4,5,6,12,13,14,15,16,17,18,34,43,66] ?_|refine fctI fun hf=>?_|refine twI (fun hc=>?_) fun hc=>?_);exact DVR
def chgK (l : List Rule) (t : ByteArray) (h : Int) (i : Nat) : Bool := (l.take i).any fun r => r.whn.any fun c => decide (c.nod = t) && decide (c.level = h)
def chgJ (l : List Rule) (t : ByteArray) (h : Int) (i j : Nat) : Bool := chgK l t h i || ((l.getD i default).whn.take j).any fun c => decide (c.nod = t) && decide (c.level = h)
theorem chgJ_zero (l : List Rule) (t : ByteArray) (h : Int) (i : Nat) : chgJ l t h i 0 = chgK l t h i := by
  unfold chgJ;rw [List.take_zero, List.any_nil, Bool.or_false]
theorem chgJ_next {l : List Rule} {t : ByteArray} {h : Int} {i j : Nat} (hj : j < (l.getD i default).whn.length) : chgJ l t h i (j + 1) = (chgJ l t h i j || (decide (((l.getD i default).whn.getD j default).nod = t) && decide (((l.getD i default).whn.getD j default).level = h))) := by
  unfold chgJ;rw [take_snocD hj, any_snoc, Bool.or_assoc]
theorem chgK_next {l : List Rule} {t : ByteArray} {h : Int} {i : Nat} (hi : i < l.length) : chgK l t h (i + 1) = chgJ l t h i (l.getD i default).whn.length := by
  unfold chgJ chgK;rw [take_snocD hi, any_snoc, List.take_length]
theorem chgK_all (l : List Rule) (t : ByteArray) (h : Int) : chgK l t h l.length = chgB l t h := by unfold chgK chgB; rw [List.take_length]
def stR (l : List Rule) (t : ByteArray) (f : Int) (j : Nat) : List Int := f :: ((List.range j).map fun (i : Nat) => f + 1 + i).filter (chgB l t)
theorem stR_next (l : List Rule) (t : ByteArray) (f : Int) (j : Nat) : stR l t f (j + 1) = if chgB l t (f + 1 + j) = true then stR l t f j ++ [f + 1 + j] else stR l t f j := by
  unfold stR;rw [List.range_succ, List.map_append, List.filter_append, List.map_cons, List.map_nil];split
  · next h => rw [List.filter_cons_of_pos h, List.filter_nil]; rfl
  · next h => rw [List.filter_cons_of_neg h, List.filter_nil, List.append_nil]
theorem stR_len (l : List Rule) (t : ByteArray) (f : Int) (j : Nat) : (stR l t f j).length <= j + 1 := by
  unfold stR;rw [List.length_cons];refine Nat.succ_le_succ (Nat.le_trans (List.length_filter_le ..) ?_);rw [List.length_map, List.length_range]; exact Nat.le_refl _
theorem stR_all (l : List Rule) (t : ByteArray) (f g : Int) (h : f <= g) : stR l t f (g - f).toNat = startsR l t f g := by
  unfold stR startsR upTo;rw [show (g + 1 - (f + 1)).toNat = (g - f).toNat by omega]
theorem stR_zero (l : List Rule) (t : ByteArray) (f : Int) : stR l t f 0 = [f] := rfl
attribute [irreducible] stR chgK chgJ
theorem rStarts_f (l : List Rule) (x : Node) (m : Nat) (lo : rulOk l) (hr : nodeR x = true) (hv : 0 <= x.res /\ x.res <= 1125899906842624) (hg : x.gnd - x.inv <= 20000) :
    Pu 74 [ruleL l, nodeD x] m (ints (startsR l x.name (levelI x x.res) x.gnd)) := by
  have hl1 := lo.1;have hin := levelI_in hr hv.1;have a1 := lev_in (node_lev hr).1;have a2 := lev_in (node_lev hr).2.1;have c1 := fun m => rLevel29_f x x.res m hr hv
  rw [<- stR_all l x.name _ _ hin.2];generalize levelI x x.res = f at *
  have hnx := stR_next l x.name f;have hln := stR_len l x.name f;refine pcN 70 [.tmp 4] [31] Tryz.func74 rfl [64] ?_;(repeat' first|refine stW [0,1,3,4,5,6,7,8,9,10,11,23,29,39,64] ?_|refine fctI fun hf=>?_|refine twI (fun hc=>?_) fun hc=>?_);refine loop_swp [0, 3, 6, 7] [0, 64] 104 (fun q A H => ∃ j : Nat, f + j <= x.gnd /\ q = (x.gnd - f).toNat - j /\ A = [(0, ruleL l), (3, .ptr 0 0), (6, .gl 64), (7, li (f + 1 + j))] /\ H = [(0, .blk 44 (nodeC x)), (64, inLt (stR l x.name f j))]) (by omega) ?_ ?_ ?_
  · rintro q A H ⟨j, g1, g2, rfl, rfl⟩;exact SDD
  · refine ⟨_, 0, by omega, rfl, ?_, ?_⟩
    · rw [show f + 1 + ((0 : Nat) : Int) = f + 1 by omega];exact DVR
    · rw [stR_zero];exact DVR
  rintro q A H ⟨j, g1, g2, rfl, rfl⟩;by_cases hj : f + 1 + (j : Int) <= x.gnd
  · have hn := hnx j;have hl := hln j;have hG : f + 1 + ((j + 1 : Nat) : Int) = f + 1 + (j : Int) + 1 := by omega
    have hj2 : f + ((j + 1 : Nat) : Int) <= x.gnd := by omega
    have hjb : j <= 20000 := by omega
    generalize hX : stR l x.name f j = X at *
    generalize hGG : f + 1 + (j : Int) = G at *
    clear hnx hln c1;(have:=NeI hj);(repeat' first|refine stW [0,1,3,4,5,6,7,8,9,10,11,23,29,39,64] ?_|refine fctI fun hf=>?_|refine twI (fun hc=>?_) fun hc=>?_);refine loop_swp [0, 3, 6, 7, 8, 9] [0, 64] 152 (fun q A H => ∃ i : Nat, i <= l.length /\ q = l.length - i /\ A = [(0, ruleL l), (3, .ptr 0 0), (6, .gl 64), (7, li G), (8, lb (chgK l x.name G i)), (9, li i)] /\ H = [(0, .blk 44 (nodeC x)), (64, inLt X)]) (by omega) ?_ ?_ ?_
    · rintro q A H ⟨i, k1, k2, rfl, rfl⟩;exact SDD
    · refine ⟨_, 0, by omega, rfl, ?_, ?_⟩
      · rw [show chgK l x.name G 0 = false by unfold chgK; rfl];exact DVR
      · exact DVR
    rintro q A H ⟨i, k1, k2, rfl, rfl⟩;by_cases hi : i < l.length
    · have hi3 : (i : Int) < (l.length : Int) := by omega
      have hw := ruleOk_at lo hi;have hkn := chgK_next (t := x.name) (h := G) hi;have hj0 := chgJ_zero l x.name G i;(have:=NeI hi);(have:=NeI hi3);clear hn;(repeat' first|refine stW [0,1,3,4,5,6,7,8,9,10,11,23,29,39,64] ?_|refine fctI fun hf=>?_|refine twI (fun hc=>?_) fun hc=>?_);refine loop_swp [0, 3, 6, 7, 8, 9, 10] [0, 64] 192 (fun q A H => ∃ u : Nat, u <= (l.getD i default).whn.length /\ q = (l.getD i default).whn.length - u /\ A = [(0, ruleL l), (3, .ptr 0 0), (6, .gl 64), (7, li G), (8, lb (chgJ l x.name G i u)), (9, li i), (10, li u)] /\ H = [(0, .blk 44 (nodeC x)), (64, inLt X)]) (by omega) ?_ ?_ ?_
      · rintro q A H ⟨u, v1, v2, rfl, rfl⟩;exact SDD
      · refine ⟨_, 0, by omega, rfl, ?_, ?_⟩
        · rw [hj0];exact DVR
        · exact DVR
      rintro q A H ⟨u, v1, v2, rfl, rfl⟩;by_cases hu : u < (l.getD i default).whn.length
      · have hu3 : (u : Int) < ((l.getD i default).whn.length : Int) := by omega
        have hun := chgJ_next (t := x.name) (h := G) hu;generalize chgJ l x.name G i u = C at *
        (have:=NeI hu);(have:=NeI hu3);clear hkn hj0;cases C
        · rw [Bool.false_or] at hun;by_cases e1 : ((l.getD i default).whn.getD u default).nod = x.name
          · rw [decide_eq_true e1, Bool.true_and] at hun;(have:=NeI e1);by_cases e2 : ((l.getD i default).whn.getD u default).level = G
            · rw [decide_eq_true e2] at hun;(have:=NeI e2);(repeat' first|refine stW [0,1,3,4,5,6,7,8,9,10,11,23,29,39,64] ?_|refine fctI fun hf=>?_|refine twI (fun hc=>?_) fun hc=>?_);(refine lN [0, 64] ?_);exact ⟨_, by omega, u + 1, by omega, rfl, by rw [hun] <;> rfl, rfl⟩
            · rw [decide_eq_false e2] at hun;(have:=NeI e2);(repeat' first|refine stW [0,1,3,4,5,6,7,8,9,10,11,23,29,39,64] ?_|refine fctI fun hf=>?_|refine twI (fun hc=>?_) fun hc=>?_);(refine lN [0, 64] ?_);exact ⟨_, by omega, u + 1, by omega, rfl, by rw [hun] <;> rfl, rfl⟩
          · rw [decide_eq_false e1, Bool.false_and] at hun;(have:=NeI e1);(repeat' first|refine stW [0,1,3,4,5,6,7,8,9,10,11,23,29,39,64] ?_|refine fctI fun hf=>?_|refine twI (fun hc=>?_) fun hc=>?_);(refine lN [0, 64] ?_);exact ⟨_, by omega, u + 1, by omega, rfl, by rw [hun] <;> rfl, rfl⟩
        · rw [Bool.true_or] at hun;(repeat' first|refine stW [0,1,3,4,5,6,7,8,9,10,11,23,29,39,64] ?_|refine fctI fun hf=>?_|refine twI (fun hc=>?_) fun hc=>?_);(refine lN [0, 64] ?_);exact ⟨_, by omega, u + 1, by omega, rfl, by rw [hun] <;> rfl, rfl⟩
      obtain rfl : u = (l.getD i default).whn.length := by omega
      have hu3 : ¬ (((l.getD i default).whn.length : Int) < ((l.getD i default).whn.length : Int)) := by omega
      rw [<- hkn];(have:=NeI hu3);clear hkn hj0;(repeat' first|refine stW [0,1,3,4,5,6,7,8,9,10,11,23,29,39,64] ?_|refine fctI fun hf=>?_|refine twI (fun hc=>?_) fun hc=>?_);(refine lN [0, 64] ?_);exact ⟨_, by omega, i + 1, by omega, rfl, rfl, rfl⟩
    obtain rfl : i = l.length := by omega
    have hi3 : ¬ ((l.length : Int) < (l.length : Int)) := by omega
    rw [chgK_all];(have:=NeI hi3);cases hb : chgB l x.name G <;> rw [hb] at hn
    · rw [if_neg (by decide)] at hn;(repeat' first|refine stW [0,1,3,4,5,6,7,8,9,10,11,23,29,39,64] ?_|refine fctI fun hf=>?_|refine twI (fun hc=>?_) fun hc=>?_);(refine lN [0, 64] ?_);exact ⟨_, by omega, j + 1, by omega, rfl, by rw [hG] <;> rfl, by rw [hn] <;> rfl⟩
    · rw [if_pos rfl] at hn;(repeat' first|refine stW [0,1,3,4,5,6,7,8,9,10,11,23,29,39,64] ?_|refine fctI fun hf=>?_|refine twI (fun hc=>?_) fun hc=>?_);(refine lN [0, 64] ?_);exact ⟨_, by omega, j + 1, by omega, rfl, by rw [hG] <;> rfl, by rw [hn] <;> rfl⟩
  obtain rfl : j = (x.gnd - f).toNat := by omega
  generalize hX : stR l x.name f (x.gnd - f).toNat = X at *
  generalize f + 1 + (((x.gnd - f).toNat : Nat) : Int) = G at *
  (have:=NeI hj);clear hnx hln c1;(repeat' first|refine stW [0,1,3,4,5,6,7,8,9,10,11,23,29,39,64] ?_|refine fctI fun hf=>?_|refine twI (fun hc=>?_) fun hc=>?_);exact DVR

end Go.Proofs.YtlgfdfljnbncfaaGreat
