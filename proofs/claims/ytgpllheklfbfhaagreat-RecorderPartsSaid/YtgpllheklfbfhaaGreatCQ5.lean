/-
  Contracts of functions of the program, over the engine.
  No condition.
-/
import Derived.Test.YtgpllheklfbfhaaGreatCQ3
import Derived.Test.YtgpllheklfbfhaaGreatCQ4
import Derived.Test.YtgpllheklfbfhaaGreatCQ2
import Derived.Test.YtgpllheklfbfhaaGreatCX0
import Derived.Test.YtgpllheklfbfhaaGreatCX5
namespace Go.Proofs.YtgpllheklfbfhaaGreat
open Go.Eng
set_option linter.all false
attribute [local irreducible] DCallsG SWp Fct CallQ XCallQ LCallQ XLCallQ drun xrun
set_option maxHeartbeats 64000000
set_option maxRecDepth 20000

theorem idxLinkP_f (g : FuncId) (u : PV) (p : Link -> Bool) (l : List (Link)) (m : Nat) (hl : l.length <= 281474976710656) (hg : ∀ x, x ∈ l -> ∀ m, Pu g [linkD x, .p u] m (lb (p x))) :
    Pu 17 [linkL l, .clo g [.p u]] m (li (idxI p l)) := by
  refine pcN 19 [.tmp 4] [3] Tryz.func17 rfl [] ?_;(repeat' first|refine stW [0,1,4,5,7,8,9,16] ?_|refine fctI fun hf=>?_|refine twI (fun hc=>?_) fun hc=>?_);refine loop_swp [0, 1, 7, 8] [] 0 (fun q A H => ∃ i : Nat, i <= l.length /\ q = l.length - i /\ (l.take i).any p = false /\ A = [(0, linkL l), (1, .clo g [.p u]), (7, li l.length), (8, li i)] /\ H = []) (by omega) ?_ ?_ ?_
  · rintro q A H ⟨i, h1, h2, h3, rfl, rfl⟩;exact SDD
  · refine ⟨_, 0, by omega, rfl, rfl, ?_, ?_⟩
    · exact DVR
    · exact DVR
  · rintro q A H ⟨i, h1, h2, h3, rfl, rfl⟩;(repeat' first|refine stW [0,1,4,5,7,8,9,16] ?_|(show CallQ ..;first|refine cQ (fun hcc=>(hg _ (getD_mem SC) _)) ?_|(refine lP ?_;refine lQ (fun hcc m=>(hg _ (getD_mem SC) _)) ?_))|refine fctI fun hf=>?_|refine twI (fun hc=>?_) fun hc=>?_)
    · (refine DVQ ?_);rw [idxI_hit h3 (by omega) (by assumption)]
    · (refine lN [] ?_);exact ⟨_, by omega, i + 1, by omega, rfl, any_step h3 (by omega) (by assumption), rfl, rfl⟩
    · (refine DVQ ?_);rw [List.take_of_length_le (by omega)] at h3;rw [idxI_none h3]
theorem parts2_54 (r : Rec) (m : Nat) : Pu 14 [recD r] m (lb (isWord r)) := by
  unfold isWord;by_cases h1 : r.kind = 3 <;> by_cases h2 : r.kind = 4
  all_goals
    (have:=NeI h1);(have:=NeI h2);refine pcN 11 [.tmp 2] [4] Tryz.func14 rfl [] ?_;(repeat' first|refine stW [0,1,2] ?_|refine fctI fun hf=>?_|refine twI (fun hc=>?_) fun hc=>?_);exact DVR
theorem same54l_f (a b : List Sta) (m : Nat) (ha : a.length <= 281474976710656) (hb : b.length <= 281474976710656) (oa : ∀ x, x ∈ a -> staOk x) (ob : ∀ x, x ∈ b -> staOk x) : Pu 15 [staL a, staL b] m (lb (decide (a = b))) := by
  have k := fun m => eqfSta_f 20 a b m ha hb (fun x hx y hy m => same_f x y m (oa x hx) (ob y hy))
  generalize decide (a = b) = v at *
  refine pcN 8 [.tmp 4] [4] Tryz.func15 rfl [] ?_;(repeat' first|refine stW [0,1,4] ?_|refine fctI fun hf=>?_|refine twI (fun hc=>?_) fun hc=>?_);exact DVR
theorem copyLent_f (s : Sta) (hs : lenOk s) : DCallsG Tryz.prog 16 [] [.agg [.gl 0, .gl 1, .gl 2, .gl 3]] (hget [(3, boL s.on), (2, inLt s.set), (1, inLt s.pon), (0, inLt s.vol)]) 4 (.agg [.gl 4, .gl 5, .gl 6, .gl 7]) (hget [(3, boL s.on), (2, inLt s.set), (1, inLt s.pon), (0, inLt s.vol), (4, inLt s.vol), (5, inLt s.pon), (6, inLt s.set), (7, boL s.on)]) := by
  have c0 := rCopy_f s 4 hs;have c1 : DCallsG Tryz.prog 16 [] [.agg [.gl 0, ints s.pon, ints s.set, bools s.on]] (hget [(0, inLt s.vol)]) 4 (.agg [.gl 4, .gl 5, .gl 6, .gl 7]) (hget [(0, inLt s.vol), (4, inLt s.vol), (5, inLt s.pon), (6, inLt s.set), (7, boL s.on)]) :=
    DCallsG.lendLit2 (x := .elems 1 (s.vol.map inRow)) (h0 := []) (fv_rows inRow _ _ _) rfl (by simp only [litHs, litH_in, litH_bo, Bool.and_self]) rfl rfl rfl c0
  have c2 : DCallsG Tryz.prog 16 [] [.agg [.gl 0, .gl 1, ints s.set, bools s.on]] (hget [(1, inLt s.pon), (0, inLt s.vol)]) 4 (.agg [.gl 4, .gl 5, .gl 6, .gl 7]) (hget [(1, inLt s.pon), (0, inLt s.vol), (4, inLt s.vol), (5, inLt s.pon), (6, inLt s.set), (7, boL s.on)]) :=
    DCallsG.lendLit2 (x := .elems 1 (s.pon.map inRow)) (h0 := [(0, inLt s.vol)]) (fv_rows inRow _ _ _) (by simp only [litHs, litH_in, litH_bo, Bool.and_self]) (by simp only [litHs, litH_in, litH_bo, Bool.and_self]) rfl rfl rfl c1
  have c3 : DCallsG Tryz.prog 16 [] [.agg [.gl 0, .gl 1, .gl 2, bools s.on]] (hget [(2, inLt s.set), (1, inLt s.pon), (0, inLt s.vol)]) 4 (.agg [.gl 4, .gl 5, .gl 6, .gl 7]) (hget [(2, inLt s.set), (1, inLt s.pon), (0, inLt s.vol), (4, inLt s.vol), (5, inLt s.pon), (6, inLt s.set), (7, boL s.on)]) :=
    DCallsG.lendLit2 (x := .elems 1 (s.set.map inRow)) (h0 := [(1, inLt s.pon), (0, inLt s.vol)]) (fv_rows inRow _ _ _) (by simp only [litHs, litH_in, litH_bo, Bool.and_self]) (by simp only [litHs, litH_in, litH_bo, Bool.and_self]) rfl rfl rfl c2
  exact DCallsG.lendLit2 (x := .elems 1 (s.on.map boRow)) (h0 := [(2, inLt s.set), (1, inLt s.pon), (0, inLt s.vol)]) (fv_rows boRow _ _ _) (by simp only [litHs, litH_in, litH_bo, Bool.and_self]) (by simp only [litHs, litH_in, litH_bo, Bool.and_self]) rfl rfl rfl c3
def midC : Option (Sta × Nat) -> List DV
  | none => [.gl 624, .gl 625, .gl 626, .gl 627]
  | some y => staC y.1
def midI : Option (Sta × Nat) -> Int
  | none => 0
  | some y => y.2
theorem recparts_f (c : Cas) (r : List Rec) (z : Int) (m : Nat) (hc' : casOk c) (hrl : r.length <= 281474976710656) (hro : ∀ y, y ∈ r -> recOk y) (hz : 0 <= z /\ z <= 255) :
    Pu 3 [casD c, recs r, lv (.int .u8 z)] m (lb true) := by
  obtain ⟨no, co, lo, so⟩ := id hc';have k0 := fun m => awake54_f m
  have k1 := fun m => large54_f c m hc'
  cases hL : lrg54 c <;> simp only [hL] at k1
  case true =>
    refine pcN 208 [.tmp 6] [4] Tryz.func3 rfl [] ?_;(repeat' first|refine stW [0,1,2,3,6,7,8,9,10,11,12,13,14,15,16,17,18,19,20,22,23,24,26,53,91,93,107,108,109,110,116,121,122,130,137,171,180,184] ?_|refine fctI fun hf=>?_|refine twI (fun hc=>?_) fun hc=>?_);exact DVR
  obtain ⟨b1, b2, b3⟩ := lrg54_in hL;by_cases h10 : (10 : Int) < (r.length : Int)
  · (have:=NeI h10);refine pcN 208 [.tmp 6] [4] Tryz.func3 rfl [] ?_;(repeat' first|refine stW [0,1,2,3,6,7,8,9,10,11,12,13,14,15,16,17,18,19,20,22,23,24,26,53,91,93,107,108,109,110,116,121,122,130,137,171,180,184] ?_|refine fctI fun hf=>?_|refine twI (fun hc=>?_) fun hc=>?_);exact DVR
  (have:=NeI h10);have k2 := fun m => conRec_f 7 wordyB r m hrl (fun y hy m => wordy_f y m (hro y hy))
  cases hW : r.any wordyB <;> simp only [hW] at k2
  case true =>
    refine pcN 208 [.tmp 6] [4] Tryz.func3 rfl [] ?_;(repeat' first|refine stW [0,1,2,3,6,7,8,9,10,11,12,13,14,15,16,17,18,19,20,22,23,24,26,53,91,93,107,108,109,110,116,121,122,130,137,171,180,184] ?_|refine fctI fun hf=>?_|refine twI (fun hc=>?_) fun hc=>?_);exact DVR
  have k3 := fun m => conRec_f 8 (fun y => !recB y) r m hrl (fun y hy m => parts1_54 y m (hro y hy))
  cases hR : r.any (fun y => !recB y) <;> simp only [hR] at k3
  case true =>
    refine pcN 208 [.tmp 6] [4] Tryz.func3 rfl [] ?_;(repeat' first|refine stW [0,1,2,3,6,7,8,9,10,11,12,13,14,15,16,17,18,19,20,22,23,24,26,53,91,93,107,108,109,110,116,121,122,130,137,171,180,184] ?_|refine fctI fun hf=>?_|refine twI (fun hc=>?_) fun hc=>?_);exact DVR
  have hb : ∀ y, y ∈ r -> recB y = true := fun y hy => by
    have := List.any_eq_false.1 hR y hy;simpa using this
  have k4 := fun m => r44V_f c.net c.cat c.rul c.sta m no co lo so
  cases hV : (netB c.net && staB c.net c.sta && catB c.cat && rulesB c.rul) <;> simp only [hV] at k4
  case false =>
    refine pcN 208 [.tmp 6] [4] Tryz.func3 rfl [] ?_;(repeat' first|refine stW [0,1,2,3,6,7,8,9,10,11,12,13,14,15,16,17,18,19,20,22,23,24,26,53,91,93,107,108,109,110,116,121,122,130,137,171,180,184] ?_|refine fctI fun hf=>?_|refine twI (fun hc=>?_) fun hc=>?_);exact DVR
  obtain ⟨nb, sb, cb, rb⟩ := hv_of hV;have k5 := fun m => replay_f c.net c.cat c.rul c.sta r m no co lo so hV (by omega) hro hb (by omega)
  have hfl : (r.filter fun y => !isWord y).length <= r.length := List.length_filter_le ..;have k6 := fun m => replay_f c.net c.cat c.rul c.sta (r.filter fun y => !isWord y) m no co lo so hV (by omega) (fun y hy => hro y (List.mem_filter.1 hy).1) (fun y hy => hb y (List.mem_filter.1 hy).1) (by omega)
  simp only [repL_words] at k6;have d1 := fun m => cloneRec_f r m (by omega)
  have d2 := fun m => delRec_f 14 isWord r m hrl (fun y _ m => parts2_54 y m)
  have hin := repK_in (l := c.rul) nb no co sb hb;have hall := hin r.length (Nat.le_refl _);rw [repK_all] at hall;have hnil := repL_nil (n := c.net) (s := c.cat) (l := c.rul) r ⟨c.sta, [], 0⟩ (.inl rfl);have hgood := fun (h : (repL c.net c.cat c.rul ⟨c.sta, [], 0⟩ r).e = 0) (i : Nat) (hi : i <= r.length) => repK_good h hi
  have hss := fun (h : (repL c.net c.cat c.rul ⟨c.sta, [], 0⟩ r).e = 0) (i : Nat) (hi : i <= r.length) => repK_ss h hi
  have hhit := fun (h : (repL c.net c.cat c.rul ⟨c.sta, [], 0⟩ r).e = 0) (i : Nat) (hi : i < r.length) => repK_hit h hi
  have hput := fun (h : (repL c.net c.cat c.rul ⟨c.sta, [], 0⟩ r).e = 0) (i : Nat) (hi : i < r.length) => repK_put h hi
  have hend := repK_all (n := c.net) (s := c.cat) (l := c.rul) (x := c.sta) r;generalize hRR : repL c.net c.cat c.rul ⟨c.sta, [], 0⟩ r = R at *
  obtain ⟨Rn, AL, E⟩ := R;have hnil : E = 0 ∨ AL = [] := hnil;have hEE : E = E := rfl;(have:=NeI hEE);by_cases hE : E = 0
  case neg =>
    obtain rfl := hnil.resolve_left hE;have kS := fun m => same54l_f [] [] m (by decide) (by decide) (fun x hx => by cases hx) (fun x hx => by cases hx)
    rw [decide_eq_true rfl] at kS;clear hgood hss hhit hput hend hall hin hRR;(have:=NeI hE);refine pcN 208 [.tmp 6] [4] Tryz.func3 rfl [] ?_;(repeat' first|refine stW [0,1,2,3,6,7,8,9,10,11,12,13,14,15,16,17,18,19,20,22,23,24,26,53,91,93,107,108,109,110,116,121,122,130,137,171,180,184] ?_|refine fctI fun hf=>?_|refine twI (fun hc=>?_) fun hc=>?_);(refine cQT [376] (fun hcc => (d2 _)) ?_);(repeat' first|(show SWp _ _ _ (.seq (.region 7 _ _) _) _ _ _ _;refine (stop_in ?_))|(show SWp _ _ _ (.region _ _ true) _ _ _ _;refine xG mixed [] ?_)|refine stW [0,1,2,3,6,7,8,9,10,11,12,13,14,15,16,17,18,19,20,22,23,24,26,53,91,93,107,108,109,110,116,121,122,130,137,171,180,184] ?_|refine fctI fun hf=>?_|refine twI (fun hc=>?_) fun hc=>?_);refine stop_out ?_;(refine sF 384 ?_);(repeat' first|refine stW [0,1,2,3,6,7,8,9,10,11,12,13,14,15,16,17,18,19,20,22,23,24,26,53,91,93,107,108,109,110,116,121,122,130,137,171,180,184] ?_|refine fctI fun hf=>?_|refine twI (fun hc=>?_) fun hc=>?_);exact DVR
  subst hE
  replace hgood := hgood rfl
  replace hss := hss rfl
  replace hhit := hhit rfl
  replace hput := hput rfl
  obtain ⟨_, hAs, hAl⟩ := hall rfl;have hAs : ∀ t, t ∈ AL -> staB c.net t = true := hAs;have hAl : AL.length <= r.length := hAl;have hend1 : (repK c.net c.cat c.rul c.sta r r.length).ss.length = AL.length := by rw [hend]
  clear hnil hend;have kS := fun m => same54l_f AL AL m (by omega) (by omega) (fun x hx => staOk_of nb (hAs x hx)) (fun x hx => staOk_of nb (hAs x hx))
  rw [decide_eq_true rfl] at kS;have k7 := fun m => rCopy_f c.sta m (lenOk_of nb sb)
  obtain ⟨Z, rfl⟩ : ∃ Z : Nat, z = (Z : Int) := ⟨z.toNat, by omega⟩;have hpl : Z % (r.length + 1) <= r.length := by have := Nat.mod_lt Z (show 0 < r.length + 1 by omega); omega
  have hmd : ((Z : Int)).tmod ((r.length : Int) + 1) = ((Z % (r.length + 1) : Nat) : Int) := by
    rw [Int.tmod_eq_emod_of_nonneg (by omega)]; rfl
  generalize hpp : Z % (r.length + 1) = p at *
  haveI : ModOk (Z : Int) ((r.length : Int) + 1) (p : Int) := ⟨hmd⟩;have hr1 : ¬ ((r.length : Int) + 1 = 0) := by omega
  (have:=NeI hr1);clear hmd hall;refine pcN 208 [.tmp 6] [4] Tryz.func3 rfl [] ?_;(repeat' first|refine stW [0,1,2,3,6,7,8,9,10,11,12,13,14,15,16,17,18,19,20,22,23,24,26,53,91,93,107,108,109,110,116,121,122,130,137,171,180,184] ?_|refine fctI fun hf=>?_|refine twI (fun hc=>?_) fun hc=>?_);(refine cQT [376] (fun hcc => (d2 _)) ?_);(repeat' first|(show SWp _ _ _ (.seq (.region 7 _ _) _) _ _ _ _;refine (stop_in ?_))|(show SWp _ _ _ (.region _ _ true) _ _ _ _;refine xG mixed [] ?_)|refine stW [0,1,2,3,6,7,8,9,10,11,12,13,14,15,16,17,18,19,20,22,23,24,26,53,91,93,107,108,109,110,116,121,122,130,137,171,180,184] ?_|refine fctI fun hf=>?_|refine twI (fun hc=>?_) fun hc=>?_);refine stop_out ?_;(refine sF 384 ?_);(repeat' first|refine stW [0,1,2,3,6,7,8,9,10,11,12,13,14,15,16,17,18,19,20,22,23,24,26,53,91,93,107,108,109,110,116,121,122,130,137,171,180,184] ?_|refine fctI fun hf=>?_|refine twI (fun hc=>?_) fun hc=>?_);clear k0 k1 k2 k3 k4 k5 k6 k7 kS d1 d2;refine loop_swp [1, 3, 7, 12, 13, 14, 15, 16, 107, 108, 109] [0, 632, 664, 624, 625, 626, 627] 768 (fun q A H => ∃ (i : Nat) (w : Option (Sta × Nat)), i <= r.length /\ q = r.length - i /\ (w = none -> i <= p) /\ (∀ y a, w = some (y, a) -> p < i -> y = (repK c.net c.cat c.rul c.sta r p).now /\ a = (repK c.net c.cat c.rul c.sta r p).ss.length) /\
    A = [(1, recs r), (3, .ptr 0 0), (7, staL AL), (12, .ptr 632 0), (13, li (repK c.net c.cat c.rul c.sta r i).ss.length), (14, .ptr 664 0), (15, li (midI w)), (16, li p), (107, recs r), (108, li r.length), (109, li i)] /\
    H = [(0, .blk 33 (casC c)), (632, .blk 31 [.gl 624, .gl 625, .gl 626, .gl 627]), (664, .blk 31 (midC w)), (624, inLt (repK c.net c.cat c.rul c.sta r i).now.vol), (625, inLt (repK c.net c.cat c.rul c.sta r i).now.pon), (626, inLt (repK c.net c.cat c.rul c.sta r i).now.set), (627, boL (repK c.net c.cat c.rul c.sta r i).now.on)]) (by omega) ?_ ?_ ?_
  · rintro q A H ⟨i, w, g1, g2, g3, g4, rfl, rfl⟩;cases w
    · exact SDD
    · exact SDD
  · refine ⟨_, 0, none, by omega, rfl, fun _ => by omega, fun y a h => (by cases h), ?_, ?_⟩
    · exact DVR
    · exact DVR
  rintro q A H ⟨i, w, g1, g2, g3, g4, rfl, rfl⟩;by_cases hi : i < r.length
  case neg =>
    obtain rfl : i = r.length := by omega
    have hi3 : ¬ ((r.length : Int) < (r.length : Int)) := by omega
    rw [hend1];have eAL : (AL.length : Int) = (AL.length : Int) := rfl;(have:=NeI hi3);(have:=NeI eAL);by_cases hpr : p = r.length
    · have hp3 : (p : Int) = (r.length : Int) := by omega
      (have:=NeI hp3);clear hgood hss hhit hput hin g3 g4;cases w;all_goals
        (repeat' first|refine stW [0,1,2,3,6,7,8,9,10,11,12,13,14,15,16,17,18,19,20,22,23,24,26,53,91,93,107,108,109,110,116,121,122,130,137,171,180,184] ?_|refine fctI fun hf=>?_|refine twI (fun hc=>?_) fun hc=>?_);exact DVR
    have hp3 : ¬ (p : Int) = (r.length : Int) := by omega
    (have:=NeI hp3);rcases w with _ | ⟨y, a⟩
    · exact absurd (g3 rfl) (by omega)
    obtain ⟨e1, e2⟩ := g4 y a rfl (by omega);obtain ⟨s1, s2⟩ := hss p hpl;have hy := hin p hpl (hgood p hpl);have s1 : AL = _ := s1;have k9 := fun m => replay_f c.net c.cat c.rul (repK c.net c.cat c.rul c.sta r p).now (r.drop p) m no co lo (staOk_of nb hy.sb) (by rw [nb, hy.sb, cb, rb]; rfl) (by rw [List.length_drop]; omega) (fun y hy => hro y (List.mem_of_mem_drop hy)) (fun y hy => hb y (List.mem_of_mem_drop hy)) (by omega)
    rw [s2] at k9;have hsy := hy.sb;subst e1 e2;have hla : (repK c.net c.cat c.rul c.sta r p).ss.length <= AL.length := by rw [s1, List.length_append]; omega
    have hdr : AL.drop (repK c.net c.cat c.rul c.sta r p).ss.length = (repL c.net c.cat c.rul ⟨(repK c.net c.cat c.rul c.sta r p).now, [], 0⟩ (r.drop p)).ss := by
      conv => lhs; rw [s1]
      exact List.drop_left ..
    clear s1 s2 hgood hss hhit hput hin g3 g4 hy;generalize (repL c.net c.cat c.rul ⟨(repK c.net c.cat c.rul c.sta r p).now, [], 0⟩ (r.drop p)).ss = RS at *
    generalize (repK c.net c.cat c.rul c.sta r p).ss.length = a at *
    generalize (repK c.net c.cat c.rul c.sta r p).now = y at *
    have hRl : RS.length <= 10 := by rw [<- hdr, List.length_drop]; omega
    have hRo : ∀ x, x ∈ RS -> staOk x := fun x hx => staOk_of nb (hAs x (List.mem_of_mem_drop (by rw [hdr]; exact hx)))
    have kT := fun m => same54l_f RS (AL.drop a) m (by omega) (by rw [List.length_drop]; omega) hRo (by rw [hdr]; exact hRo)
    rw [decide_eq_true hdr.symm] at kT;rw [show r.drop p = (r.drop p).take (r.length - p) from (List.take_of_length_le (by rw [List.length_drop]; exact Nat.le_refl _)).symm] at k9;rw [show AL.drop a = (AL.drop a).take (AL.length - a) from (List.take_of_length_le (by rw [List.length_drop]; exact Nat.le_refl _)).symm] at kT;have ha3 : (a : Int) <= (AL.length : Int) := by omega
    have hp4 : (p : Int) <= (r.length : Int) := by omega
    (have:=NeI hla);(have:=NeI ha3);(have:=NeI hpl);(have:=NeI hp4);dsimp only [midC, midI];(repeat' first|refine stW [0,1,2,3,6,7,8,9,10,11,12,13,14,15,16,17,18,19,20,22,23,24,26,53,91,93,107,108,109,110,116,121,122,130,137,171,180,184] ?_|refine fctI fun hf=>?_|refine twI (fun hc=>?_) fun hc=>?_);exact DVR
  have hi3 : (i : Int) < (r.length : Int) := by omega
  have hy := hb _ (getD_mem hi);have hyo := hro _ (getD_mem hi);have sbn := (hin i (by omega) (hgood i (by omega))).sb;have hh := hhit i hi;have hu := hput i hi;have hw := fun h => repK_word (n := c.net) (s := c.cat) (l := c.rul) (x := c.sta) (r := r) hi h
  have h3n := (lensB_of (staB_in nb sbn).1).2.2.1;have hnl := netB_len nb;clear hgood hss hhit hput hin hend1;(have:=NeI hi);(have:=NeI hi3);by_cases hip : i = p
  · subst hip;have c1 := copyLent_f (repK c.net c.cat c.rul c.sta r i).now (lenOk_of nb sbn);generalize hKN : repK c.net c.cat c.rul c.sta r (i + 1) = KN at *
    generalize repK c.net c.cat c.rul c.sta r i = S at *
    generalize hYY : r.getD i default = y0 at *
    have hip3 : (i : Int) = (i : Int) := rfl;(have:=NeI hip3);have hgo : ∀ y a, some (S.now, S.ss.length) = some (y, a) -> i < i + 1 -> y = S.now /\ a = S.ss.length := fun y a h _ => by cases h; exact ⟨rfl, rfl⟩
    cases w;all_goals
      dsimp only [midC, midI];(repeat' first|refine stW [0,1,2,3,6,7,8,9,10,11,12,13,14,15,16,17,18,19,20,22,23,24,26,53,91,93,107,108,109,110,116,121,122,130,137,171,180,184] ?_|refine fctI fun hf=>?_|refine twI (fun hc=>?_) fun hc=>?_);(refine cQT [624, 625, 626, 627] (fun hcc => c1) ?_);(repeat' first|(show SWp _ _ _ (.seq (.region 21 _ _) _) _ _ _ _;refine (stop_in ?_))|(show SWp _ _ _ (.region _ _ true) _ _ _ _;refine xG mixed [] ?_)|refine stW [0,1,2,3,6,7,8,9,10,11,12,13,14,15,16,17,18,19,20,22,23,24,26,53,91,93,107,108,109,110,116,121,122,130,137,171,180,184] ?_|refine fctI fun hf=>?_|refine twI (fun hc=>?_) fun hc=>?_);refine stop_out ?_;(refine sF 856 ?_);(refine sF 857 ?_);(refine sF 858 ?_);(refine sF 859 ?_);rcases recB_kind hy with hk | hk | hk
      · obtain ⟨t1, t2, t3, t4, t5⟩ := hh hk;have hk2 : ¬ y0.kind = 2 := by omega
        have k6 := fun m => CStep_f c.net c.cat c.rul S.now y0.inflows y0.seconds m no co lo (staOk_of nb sbn) hyo.1 (by omega)
        have so1 := stepC_sta (l := c.rul) no co t1;generalize stepC c.net c.cat c.rul S.now y0.inflows y0.seconds = SR at *
        obtain ⟨s1, s2, s3⟩ := SR;have t1 : s3 = 0 := t1;have t3 : AL.getD S.ss.length default = s1 := t3;have t4 : KN.now = s1 := t4;have so1 : staB c.net s1 = true := so1;subst t1;have kQ := fun m => same_f s1 (AL.getD S.ss.length default) m (staOk_of nb so1) (by rw [t3]; exact staOk_of nb so1)
        rw [decide_eq_true t3.symm] at kQ;have k7 := fun m => rCopy_f s1 m (lenOk_of nb so1)
        have t2 : S.ss.length < AL.length := t2;have t6 : (S.ss.length : Int) < (AL.length : Int) := by omega
        have t7 : ¬ (AL.length : Int) <= (S.ss.length : Int) := by omega
        subst hYY;(have:=NeI hk);(have:=NeI hk2);(have:=NeI t2);(have:=NeI t6);(have:=NeI t7);(refine sF 624 ?_);(refine sF 625 ?_);(refine sF 626 ?_);(refine sF 627 ?_);(repeat' first|(show SWp _ _ _ (.region 33 _ _) _ _ _ _;refine (stop_in ?_))|(show SWp _ _ _ (.region _ _ true) _ _ _ _;refine xG mixed [] ?_)|refine stW [0,1,2,3,6,7,8,9,10,11,12,13,14,15,16,17,18,19,20,22,23,24,26,53,91,93,107,108,109,110,116,121,122,130,137,171,180,184] ?_|refine fctI fun hf=>?_|refine twI (fun hc=>?_) fun hc=>?_);refine stop_out ?_;(refine sR 1248 624 ?_);(refine sR 1249 625 ?_);(refine sR 1250 626 ?_);(refine sR 1251 627 ?_);(repeat' first|refine stW [0,1,2,3,6,7,8,9,10,11,12,13,14,15,16,17,18,19,20,22,23,24,26,53,91,93,107,108,109,110,116,121,122,130,137,171,180,184] ?_|refine fctI fun hf=>?_|refine twI (fun hc=>?_) fun hc=>?_);(refine lN [0, 632, 664, 624, 625, 626, 627] ?_);exact ⟨_, by omega, i + 1, some (S.now, S.ss.length), by omega, rfl, fun h => (by cases h), hgo, by rw [hKN, t5] <;> rfl, by rw [hKN, t4] <;> rfl⟩
      · obtain ⟨t1, t2, t3⟩ := hu hk;have hk1 : ¬ y0.kind = 1 := by omega
        have k7 := fun m => idxLinkP_f 18 (.ptr (recP y0)) (fun x => decide (x.name = y0.link)) c.net.links m (by omega) (fun x _ m => parts3_54 x y0 m)
        have hlx := lix_lt c.net.links y0.link;change ∀ m, DCalls _ _ _ _ _ (li (linkIx c.net.links y0.link)) _ at k7;generalize linkIx c.net.links y0.link = LX at *
        obtain ⟨KX, rfl⟩ : ∃ KX : Nat, LX = (KX : Int) := ⟨LX.toNat, by omega⟩;rw [Int.toNat_natCast] at t2;have hK : KX < S.now.set.length := by omega
        have hK3 : (KX : Int) < (S.now.set.length : Int) := by omega
        have hK0 : ¬ ((KX : Int) < 0) := by omega
        subst hYY;(have:=NeI hk);(have:=NeI hk1);(have:=NeI hK);(have:=NeI hK3);(have:=NeI hK0);(repeat' first|(show SWp _ _ _ (.seq (.region 23 _ _) _) _ _ _ _;refine (stop_in ?_))|(show SWp _ _ _ (.region _ _ true) _ _ _ _;refine xG mixed [] ?_)|refine stW [0,1,2,3,6,7,8,9,10,11,12,13,14,15,16,17,18,19,20,22,23,24,26,53,91,93,107,108,109,110,116,121,122,130,137,171,180,184] ?_|refine fctI fun hf=>?_|refine twI (fun hc=>?_) fun hc=>?_);refine stop_out ?_;refine sF 800 (v := .blk 41 (recC (r.getD i default))) (x := .cells (recP (r.getD i default))) ?_ (hx := rfl);(repeat' first|refine stW [0,1,2,3,6,7,8,9,10,11,12,13,14,15,16,17,18,19,20,22,23,24,26,53,91,93,107,108,109,110,116,121,122,130,137,171,180,184] ?_|refine fctI fun hf=>?_|refine twI (fun hc=>?_) fun hc=>?_);(refine lN [0, 632, 664, 624, 625, 626, 627] ?_);exact ⟨_, by omega, i + 1, some (S.now, S.ss.length), by omega, rfl, fun h => (by cases h), hgo, by rw [hKN, t3] <;> rfl, by rw [hKN, t2] <;> rfl⟩
      · have hn := hw hk;have hk1 : ¬ y0.kind = 1 := by unfold isWord at hk; rw [Bool.or_eq_true, decide_eq_true_eq, decide_eq_true_eq] at hk; omega
        have hk2 : ¬ y0.kind = 2 := by unfold isWord at hk; rw [Bool.or_eq_true, decide_eq_true_eq, decide_eq_true_eq] at hk; omega
        subst hYY;(have:=NeI hk1);(have:=NeI hk2);(repeat' first|refine stW [0,1,2,3,6,7,8,9,10,11,12,13,14,15,16,17,18,19,20,22,23,24,26,53,91,93,107,108,109,110,116,121,122,130,137,171,180,184] ?_|refine fctI fun hf=>?_|refine twI (fun hc=>?_) fun hc=>?_);(refine lN [0, 632, 664, 624, 625, 626, 627] ?_);exact ⟨_, by omega, i + 1, some (S.now, S.ss.length), by omega, rfl, fun h => (by cases h), hgo, by rw [hKN, hn] <;> rfl, by rw [hKN, hn] <;> rfl⟩
  have hip3 : ¬ ((i : Int) = (p : Int)) := by omega
  (have:=NeI hip3);generalize hKN : repK c.net c.cat c.rul c.sta r (i + 1) = KN at *
  generalize repK c.net c.cat c.rul c.sta r i = S at *
  generalize hYY : r.getD i default = y0 at *
  rcases w with _ | ⟨yw, aw⟩
  · have hlt : i < p := by have := g3 rfl; omega
    have hgo : ∀ y a, (none : Option (Sta × Nat)) = some (y, a) -> p < i + 1 -> y = (repK c.net c.cat c.rul c.sta r p).now /\ a = (repK c.net c.cat c.rul c.sta r p).ss.length := fun y a h _ => by cases h
    have hgo1 : ∀ y a, some (S.now, 0) = some (y, a) -> p < i + 1 -> y = (repK c.net c.cat c.rul c.sta r p).now /\ a = (repK c.net c.cat c.rul c.sta r p).ss.length := fun y a _ h => absurd h (by omega)
    dsimp only [midC, midI];(repeat' first|(show SWp _ _ _ (.seq (.region 21 _ _) _) _ _ _ _;refine (stop_in ?_))|(show SWp _ _ _ (.region _ _ true) _ _ _ _;refine xG mixed [] ?_)|refine stW [0,1,2,3,6,7,8,9,10,11,12,13,14,15,16,17,18,19,20,22,23,24,26,53,91,93,107,108,109,110,116,121,122,130,137,171,180,184] ?_|refine fctI fun hf=>?_|refine twI (fun hc=>?_) fun hc=>?_);refine stop_out ?_;rcases recB_kind hy with hk | hk | hk
    · obtain ⟨t1, t2, t3, t4, t5⟩ := hh hk;have hk2 : ¬ y0.kind = 2 := by omega
      have k6 := fun m => CStep_f c.net c.cat c.rul S.now y0.inflows y0.seconds m no co lo (staOk_of nb sbn) hyo.1 (by omega)
      have so1 := stepC_sta (l := c.rul) no co t1;generalize stepC c.net c.cat c.rul S.now y0.inflows y0.seconds = SR at *
      obtain ⟨s1, s2, s3⟩ := SR;have t1 : s3 = 0 := t1;have t3 : AL.getD S.ss.length default = s1 := t3;have t4 : KN.now = s1 := t4;have so1 : staB c.net s1 = true := so1;subst t1;have kQ := fun m => same_f s1 (AL.getD S.ss.length default) m (staOk_of nb so1) (by rw [t3]; exact staOk_of nb so1)
      rw [decide_eq_true t3.symm] at kQ;have k7 := fun m => rCopy_f s1 m (lenOk_of nb so1)
      have t2 : S.ss.length < AL.length := t2;have t6 : (S.ss.length : Int) < (AL.length : Int) := by omega
      have t7 : ¬ (AL.length : Int) <= (S.ss.length : Int) := by omega
      subst hYY;(have:=NeI hk);(have:=NeI hk2);(have:=NeI t2);(have:=NeI t6);(have:=NeI t7);(refine sF 624 ?_);(refine sF 625 ?_);(refine sF 626 ?_);(refine sF 627 ?_);(repeat' first|(show SWp _ _ _ (.region 33 _ _) _ _ _ _;refine (stop_in ?_))|(show SWp _ _ _ (.region _ _ true) _ _ _ _;refine xG mixed [] ?_)|refine stW [0,1,2,3,6,7,8,9,10,11,12,13,14,15,16,17,18,19,20,22,23,24,26,53,91,93,107,108,109,110,116,121,122,130,137,171,180,184] ?_|refine fctI fun hf=>?_|refine twI (fun hc=>?_) fun hc=>?_);refine stop_out ?_;(refine sR 1208 624 ?_);(refine sR 1209 625 ?_);(refine sR 1210 626 ?_);(refine sR 1211 627 ?_);(repeat' first|refine stW [0,1,2,3,6,7,8,9,10,11,12,13,14,15,16,17,18,19,20,22,23,24,26,53,91,93,107,108,109,110,116,121,122,130,137,171,180,184] ?_|refine fctI fun hf=>?_|refine twI (fun hc=>?_) fun hc=>?_);(refine lN [0, 632, 664, 624, 625, 626, 627] ?_);exact ⟨_, by omega, i + 1, some (S.now, 0), by omega, rfl, fun h => (by cases h), hgo1, by rw [hKN, t5] <;> rfl, by rw [hKN, t4] <;> rfl⟩
    · obtain ⟨t1, t2, t3⟩ := hu hk;have hk1 : ¬ y0.kind = 1 := by omega
      have k7 := fun m => idxLinkP_f 18 (.ptr (recP y0)) (fun x => decide (x.name = y0.link)) c.net.links m (by omega) (fun x _ m => parts3_54 x y0 m)
      have hlx := lix_lt c.net.links y0.link;change ∀ m, DCalls _ _ _ _ _ (li (linkIx c.net.links y0.link)) _ at k7;generalize linkIx c.net.links y0.link = LX at *
      obtain ⟨KX, rfl⟩ : ∃ KX : Nat, LX = (KX : Int) := ⟨LX.toNat, by omega⟩;rw [Int.toNat_natCast] at t2;have hK : KX < S.now.set.length := by omega
      have hK3 : (KX : Int) < (S.now.set.length : Int) := by omega
      have hK0 : ¬ ((KX : Int) < 0) := by omega
      subst hYY;(have:=NeI hk);(have:=NeI hk1);(have:=NeI hK);(have:=NeI hK3);(have:=NeI hK0);(repeat' first|(show SWp _ _ _ (.seq (.region 23 _ _) _) _ _ _ _;refine (stop_in ?_))|(show SWp _ _ _ (.region _ _ true) _ _ _ _;refine xG mixed [] ?_)|refine stW [0,1,2,3,6,7,8,9,10,11,12,13,14,15,16,17,18,19,20,22,23,24,26,53,91,93,107,108,109,110,116,121,122,130,137,171,180,184] ?_|refine fctI fun hf=>?_|refine twI (fun hc=>?_) fun hc=>?_);refine stop_out ?_;refine sF 800 (v := .blk 41 (recC (r.getD i default))) (x := .cells (recP (r.getD i default))) ?_ (hx := rfl);(repeat' first|refine stW [0,1,2,3,6,7,8,9,10,11,12,13,14,15,16,17,18,19,20,22,23,24,26,53,91,93,107,108,109,110,116,121,122,130,137,171,180,184] ?_|refine fctI fun hf=>?_|refine twI (fun hc=>?_) fun hc=>?_);(refine lN [0, 632, 664, 624, 625, 626, 627] ?_);exact ⟨_, by omega, i + 1, none, by omega, rfl, fun _ => (by omega), hgo, by rw [hKN, t3] <;> rfl, by rw [hKN, t2] <;> rfl⟩
    · have hn := hw hk;have hk1 : ¬ y0.kind = 1 := by unfold isWord at hk; rw [Bool.or_eq_true, decide_eq_true_eq, decide_eq_true_eq] at hk; omega
      have hk2 : ¬ y0.kind = 2 := by unfold isWord at hk; rw [Bool.or_eq_true, decide_eq_true_eq, decide_eq_true_eq] at hk; omega
      subst hYY;(have:=NeI hk1);(have:=NeI hk2);(repeat' first|refine stW [0,1,2,3,6,7,8,9,10,11,12,13,14,15,16,17,18,19,20,22,23,24,26,53,91,93,107,108,109,110,116,121,122,130,137,171,180,184] ?_|refine fctI fun hf=>?_|refine twI (fun hc=>?_) fun hc=>?_);(refine lN [0, 632, 664, 624, 625, 626, 627] ?_);exact ⟨_, by omega, i + 1, none, by omega, rfl, fun _ => (by omega), hgo, by rw [hKN, hn] <;> rfl, by rw [hKN, hn] <;> rfl⟩
  · have hgo : ∀ y a, some (yw, aw) = some (y, a) -> p < i + 1 -> y = (repK c.net c.cat c.rul c.sta r p).now /\ a = (repK c.net c.cat c.rul c.sta r p).ss.length := fun y a h hl => g4 y a h (by omega)
    dsimp only [midC, midI];(repeat' first|(show SWp _ _ _ (.seq (.region 21 _ _) _) _ _ _ _;refine (stop_in ?_))|(show SWp _ _ _ (.region _ _ true) _ _ _ _;refine xG mixed [] ?_)|refine stW [0,1,2,3,6,7,8,9,10,11,12,13,14,15,16,17,18,19,20,22,23,24,26,53,91,93,107,108,109,110,116,121,122,130,137,171,180,184] ?_|refine fctI fun hf=>?_|refine twI (fun hc=>?_) fun hc=>?_);refine stop_out ?_;rcases recB_kind hy with hk | hk | hk
    · obtain ⟨t1, t2, t3, t4, t5⟩ := hh hk;have hk2 : ¬ y0.kind = 2 := by omega
      have k6 := fun m => CStep_f c.net c.cat c.rul S.now y0.inflows y0.seconds m no co lo (staOk_of nb sbn) hyo.1 (by omega)
      have so1 := stepC_sta (l := c.rul) no co t1;generalize stepC c.net c.cat c.rul S.now y0.inflows y0.seconds = SR at *
      obtain ⟨s1, s2, s3⟩ := SR;have t1 : s3 = 0 := t1;have t3 : AL.getD S.ss.length default = s1 := t3;have t4 : KN.now = s1 := t4;have so1 : staB c.net s1 = true := so1;subst t1;have kQ := fun m => same_f s1 (AL.getD S.ss.length default) m (staOk_of nb so1) (by rw [t3]; exact staOk_of nb so1)
      rw [decide_eq_true t3.symm] at kQ;have k7 := fun m => rCopy_f s1 m (lenOk_of nb so1)
      have t2 : S.ss.length < AL.length := t2;have t6 : (S.ss.length : Int) < (AL.length : Int) := by omega
      have t7 : ¬ (AL.length : Int) <= (S.ss.length : Int) := by omega
      subst hYY;(have:=NeI hk);(have:=NeI hk2);(have:=NeI t2);(have:=NeI t6);(have:=NeI t7);(refine sF 624 ?_);(refine sF 625 ?_);(refine sF 626 ?_);(refine sF 627 ?_);(repeat' first|(show SWp _ _ _ (.region 33 _ _) _ _ _ _;refine (stop_in ?_))|(show SWp _ _ _ (.region _ _ true) _ _ _ _;refine xG mixed [] ?_)|refine stW [0,1,2,3,6,7,8,9,10,11,12,13,14,15,16,17,18,19,20,22,23,24,26,53,91,93,107,108,109,110,116,121,122,130,137,171,180,184] ?_|refine fctI fun hf=>?_|refine twI (fun hc=>?_) fun hc=>?_);refine stop_out ?_;(refine sR 1208 624 ?_);(refine sR 1209 625 ?_);(refine sR 1210 626 ?_);(refine sR 1211 627 ?_);(repeat' first|refine stW [0,1,2,3,6,7,8,9,10,11,12,13,14,15,16,17,18,19,20,22,23,24,26,53,91,93,107,108,109,110,116,121,122,130,137,171,180,184] ?_|refine fctI fun hf=>?_|refine twI (fun hc=>?_) fun hc=>?_);(refine lN [0, 632, 664, 624, 625, 626, 627] ?_);exact ⟨_, by omega, i + 1, some (yw, aw), by omega, rfl, fun h => (by cases h), hgo, by rw [hKN, t5] <;> rfl, by rw [hKN, t4] <;> rfl⟩
    · obtain ⟨t1, t2, t3⟩ := hu hk;have hk1 : ¬ y0.kind = 1 := by omega
      have k7 := fun m => idxLinkP_f 18 (.ptr (recP y0)) (fun x => decide (x.name = y0.link)) c.net.links m (by omega) (fun x _ m => parts3_54 x y0 m)
      have hlx := lix_lt c.net.links y0.link;change ∀ m, DCalls _ _ _ _ _ (li (linkIx c.net.links y0.link)) _ at k7;generalize linkIx c.net.links y0.link = LX at *
      obtain ⟨KX, rfl⟩ : ∃ KX : Nat, LX = (KX : Int) := ⟨LX.toNat, by omega⟩;rw [Int.toNat_natCast] at t2;have hK : KX < S.now.set.length := by omega
      have hK3 : (KX : Int) < (S.now.set.length : Int) := by omega
      have hK0 : ¬ ((KX : Int) < 0) := by omega
      subst hYY;(have:=NeI hk);(have:=NeI hk1);(have:=NeI hK);(have:=NeI hK3);(have:=NeI hK0);(repeat' first|(show SWp _ _ _ (.seq (.region 23 _ _) _) _ _ _ _;refine (stop_in ?_))|(show SWp _ _ _ (.region _ _ true) _ _ _ _;refine xG mixed [] ?_)|refine stW [0,1,2,3,6,7,8,9,10,11,12,13,14,15,16,17,18,19,20,22,23,24,26,53,91,93,107,108,109,110,116,121,122,130,137,171,180,184] ?_|refine fctI fun hf=>?_|refine twI (fun hc=>?_) fun hc=>?_);refine stop_out ?_;refine sF 800 (v := .blk 41 (recC (r.getD i default))) (x := .cells (recP (r.getD i default))) ?_ (hx := rfl);(repeat' first|refine stW [0,1,2,3,6,7,8,9,10,11,12,13,14,15,16,17,18,19,20,22,23,24,26,53,91,93,107,108,109,110,116,121,122,130,137,171,180,184] ?_|refine fctI fun hf=>?_|refine twI (fun hc=>?_) fun hc=>?_);(refine lN [0, 632, 664, 624, 625, 626, 627] ?_);exact ⟨_, by omega, i + 1, some (yw, aw), by omega, rfl, fun h => (by cases h), hgo, by rw [hKN, t3] <;> rfl, by rw [hKN, t2] <;> rfl⟩
    · have hn := hw hk;have hk1 : ¬ y0.kind = 1 := by unfold isWord at hk; rw [Bool.or_eq_true, decide_eq_true_eq, decide_eq_true_eq] at hk; omega
      have hk2 : ¬ y0.kind = 2 := by unfold isWord at hk; rw [Bool.or_eq_true, decide_eq_true_eq, decide_eq_true_eq] at hk; omega
      subst hYY;(have:=NeI hk1);(have:=NeI hk2);(repeat' first|refine stW [0,1,2,3,6,7,8,9,10,11,12,13,14,15,16,17,18,19,20,22,23,24,26,53,91,93,107,108,109,110,116,121,122,130,137,171,180,184] ?_|refine fctI fun hf=>?_|refine twI (fun hc=>?_) fun hc=>?_);(refine lN [0, 632, 664, 624, 625, 626, 627] ?_);exact ⟨_, by omega, i + 1, some (yw, aw), by omega, rfl, fun h => (by cases h), hgo, by rw [hKN, hn] <;> rfl, by rw [hKN, hn] <;> rfl⟩

end Go.Proofs.YtgpllheklfbfhaaGreat
