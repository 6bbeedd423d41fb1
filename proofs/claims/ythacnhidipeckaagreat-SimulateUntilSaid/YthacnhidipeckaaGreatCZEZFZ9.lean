/-
  Contracts of functions of the program, over the engine.
  No condition.
-/
import Derived.Test.YthacnhidipeckaaGreatCZCZD
import Derived.Test.YthacnhidipeckaaGreatCY21Y23N2Z3Z4Z5Z6ZAZB
import Derived.Test.YthacnhidipeckaaGreatCY6T21L14Y7Y11
import Derived.Test.YthacnhidipeckaaGreatCT8T9T9bT9cT9eT10T11
namespace Go.Proofs.YthacnhidipeckaaGreat
open Go.Eng
set_option linter.all false
attribute [local irreducible] DCallsG SWp Fct CallQ XCallQ LCallQ XLCallQ drun xrun
set_option maxRecDepth 20000 in
set_option maxHeartbeats 32000000 in
theorem Until_f (n : Net) (l : List Sect) (s : Sta) (sec most : Int) (m : Nat) (no : netOk n) (co : catOk l) (so : staOk s) (h14 : n.nodes.length <= 14) :
    DCalls Tryz.prog 25 [netD n, sectL l, staD s, li sec, li most] (hget []) m (.tup [li (untilR n l s sec most).1, staD (untilR n l s sec most).2.1, li (untilR n l s sec most).2.2]) (hget []) := by
  have cv := fun m => svalid_f n l s m no co so
  cases hv : (netB n && staB n s && catB l)
  · rw [hv] at cv;rw [show untilR n l s sec most = (0, zeroS, 1) from if_pos hv];refine pureC (n := 80) (rs := [.tmp 10, .cell 11 30, .tmp 12]) (ts := [3, 30, 37]) Tryz.func25 rfl (by decide) [] (by (exact SD)) ?_;(repeat' (first|refine swp_seq [0,1,2,3,4,5,7,10,11,12,13,14,15,16,17,18,19,26,57,62,74] ?_|refine st2 ?_|(show CallQ ..;first|refine cQ (fun hcc=>(by first | exact cv _)) ?_|(refine lP ?_;refine lQ (fun hcc m=>(by first | exact cv _)) ?_))|refine fctI fun hf=>?_|(show CondG ..;first|refine cBG (fun hc=>?_) (fun hc=>?_)|refine cUG ?_ ?_)));exact DVR
  have hrun : untilR n l s sec most = if most < 0 ∨ 10000 < most ∨ sec < 1 ∨ 86400 < sec then (0, zeroS, 2) else untilF n l sec (most.toNat + 1) 0 s := if_neg (by rw [hv]; decide)
  rw [hrun];rw [hv] at cv;simp only [Bool.and_eq_true] at hv;obtain ⟨⟨nb, sb⟩, cb⟩ := hv;clear hrun;have cn := fun m => scount_f most m
  have hok := lenOk_of nb sb;have ccp := fun m => scopied_f s m hok
  by_cases hb : most < 0 ∨ 10000 < most
  · rw [if_pos (by omega)];rw [show btwB most 0 10000 = false by
      unfold btwB;rw [Bool.and_eq_false_iff, decide_eq_false_iff_not, decide_eq_false_iff_not]; omega] at cn
    refine pureC (n := 80) (rs := [.tmp 10, .cell 11 30, .tmp 12]) (ts := [3, 30, 37]) Tryz.func25 rfl (by decide) [] (by (exact SD)) ?_;(repeat' (first|refine swp_seq [0,1,2,3,4,5,7,10,11,12,13,14,15,16,17,18,19,26,57,62,74] ?_|refine st2 ?_|(show CallQ ..;first|refine cQ (fun hcc=>(by first | exact cv _ | exact cn _)) ?_|(refine lP ?_;refine lQ (fun hcc m=>(by first | exact cv _ | exact cn _)) ?_))|refine fctI fun hf=>?_|(show CondG ..;first|refine cBG (fun hc=>?_) (fun hc=>?_)|refine cUG ?_ ?_)));exact DVR
  rw [show btwB most 0 10000 = true by
      unfold btwB;simp only [Bool.and_eq_true, decide_eq_true_eq]; omega] at cn
  by_cases hs1 : sec < 1
  · rw [if_pos (by omega)];(have:=NeI hs1);refine pureC (n := 80) (rs := [.tmp 10, .cell 11 30, .tmp 12]) (ts := [3, 30, 37]) Tryz.func25 rfl (by decide) [] (by (exact SD)) ?_;(repeat' (first|refine swp_seq [0,1,2,3,4,5,7,10,11,12,13,14,15,16,17,18,19,26,57,62,74] ?_|refine st2 ?_|(show CallQ ..;first|refine cQ (fun hcc=>(by first | exact cv _ | exact cn _)) ?_|(refine lP ?_;refine lQ (fun hcc m=>(by first | exact cv _ | exact cn _)) ?_))|refine fctI fun hf=>?_|(show CondG ..;first|refine cBG (fun hc=>?_) (fun hc=>?_)|refine cUG ?_ ?_)));exact DVR
  by_cases hs2 : 86400 < sec
  · rw [if_pos (by omega)];(have:=NeI hs1);(have:=NeI hs2);refine pureC (n := 80) (rs := [.tmp 10, .cell 11 30, .tmp 12]) (ts := [3, 30, 37]) Tryz.func25 rfl (by decide) [] (by (exact SD)) ?_;(repeat' (first|refine swp_seq [0,1,2,3,4,5,7,10,11,12,13,14,15,16,17,18,19,26,57,62,74] ?_|refine st2 ?_|(show CallQ ..;first|refine cQ (fun hcc=>(by first | exact cv _ | exact cn _)) ?_|(refine lP ?_;refine lQ (fun hcc m=>(by first | exact cv _ | exact cn _)) ?_))|refine fctI fun hf=>?_|(show CondG ..;first|refine cBG (fun hc=>?_) (fun hc=>?_)|refine cUG ?_ ?_)));exact DVR
  rw [if_neg (by omega)];obtain ⟨K, rfl⟩ : ∃ K : Nat, most = (K : Int) := ⟨most.toNat, by omega⟩;rw [Int.toNat_natCast];have hdl : (dryL n).length = n.nodes.length := List.length_replicate ..;(have:=NeI hs1);(have:=NeI hs2);have hdry : List.replicate n.nodes.length [DV.p (.lit (.int .i64 0))] = rows inRow (dryL n) := by unfold rows dryL; rw [List.map_replicate]; rfl
  refine pureC (n := 80) (rs := [.tmp 10, .cell 11 30, .tmp 12]) (ts := [3, 30, 37]) Tryz.func25 rfl (by decide) [] (by (exact SD)) ?_;(repeat' (first|(show SWp _ _ _ (.seq (.region 6 _ _) _) _ _ _ _;refine (stop_in ?_))|refine swp_seq [0,1,2,3,4,5,7,10,11,12,13,14,15,16,17,18,19,26,57,62,74] ?_|(show SWp _ _ _ (.region _ _ true) _ _ _ _;refine xG mixed [] ?_)|refine st2 ?_|(show CallQ ..;first|refine cQ (fun hcc=>(by first | exact cv _ | exact cn _)) ?_|(refine lP ?_;refine lQ (fun hcc m=>(by first | exact cv _ | exact cn _)) ?_))|refine fctI fun hf=>?_|(show CondG ..;first|refine cBG (fun hc=>?_) (fun hc=>?_)|refine cUG ?_ ?_)));refine stop_out ?_;first | rw [hdry] | rw [show List.replicate n.nodes.length (0 : Int) = dryL n from rfl]
  (refine sF 208 ?_);(repeat' (first|refine swp_seq [0,1,2,3,4,5,7,10,11,12,13,14,15,16,17,18,19,26,57,62,74] ?_|refine st2 ?_|(show CallQ ..;first|refine cQ (fun hcc=>(by first | exact ccp _)) ?_|(refine lP ?_;refine lQ (fun hcc m=>(by first | exact ccp _)) ?_))|refine fctI fun hf=>?_|(show CondG ..;first|refine cBG (fun hc=>?_) (fun hc=>?_)|refine cUG ?_ ?_)));generalize hU : untilF n l sec (K + 1) 0 s = U;refine loop_swp [1, 3, 4, 5, 11, 13, 14, 15] [0, 24, 240] 264 (fun q A H => ∃ (k : Nat) (now : Sta), k <= K /\ q = K - k /\ staB n now = true /\ untilF n l sec (K - k + 1) k now = U /\ A = [(1, sectL l), (3, li sec), (4, li K), (5, .ptr 0 0), (11, .ptr 24 0), (13, ints (dryL n)), (14, .ptr 240 0), (15, li k)] /\ H = [(0, .blk 25 (netC n)), (24, .blk 30 [nilS, nilS, nilS, nilS]), (240, .blk 30 (staC now))]) (by omega) ?_ ?_ ?_
  · rintro q A H ⟨k, now, g1, g2, g3, g4, rfl, rfl⟩;exact SDD
  · refine ⟨_, 0, s, by omega, rfl, sb, hU, ?_, ?_⟩
    · exact DVR
    · exact DVR
  rintro q A H ⟨k, now, g1, g2, g3, g4, rfl, rfl⟩;have son := staOk_of nb g3;have cst := fun m => Step_f n l now (dryL n) sec m no co son (by omega) h14
  have hun : untilF n l sec (K - k + 1) k now = if ¬ (stepR n l now (dryL n) sec).2.2 = 0 then (0, zeroS, (stepR n l now (dryL n) sec).2.2)
      else if restB now (stepR n l now (dryL n) sec) = true then ((k : Int), now, 0)
      else untilF n l sec (K - k) (k + 1) (stepR n l now (dryL n) sec).1 := rfl
  rw [g4] at hun;have hst0 : (stepR n l now (dryL n) sec).2.2 = 0 -> staB n (stepR n l now (dryL n) sec).1 = true := fun h => by
    have he : stepE n l now (dryL n) sec = 0 := by
      unfold stepR at h;split at h
      · assumption
      next he => exact absurd h he
    exact (stepR_ok no co he).1
  have hpl := @stepR_pas n l now (dryL n) sec;have hl400 := (netB_len nb).2;have hrb : restB now (stepR n l now (dryL n) sec) = (decide (now = (stepR n l now (dryL n) sec).1) && !((stepR n l now (dryL n) sec).2.1.passed.any fun v => !decide (v = 0))) := rfl;clear hU hdry g4;generalize stepR n l now (dryL n) sec = SR at *
  by_cases he : SR.2.2 = 0
  case neg =>
    rw [if_pos he] at hun;rw [hun];clear hst0 hrb;obtain ⟨s1, s2, s3⟩ := SR;(have:=NeI he);(repeat' (first|refine swp_seq [0,1,2,3,4,5,7,10,11,12,13,14,15,16,17,18,19,26,57,62,74] ?_|refine st2 ?_|(show CallQ ..;first|refine cQ (fun hcc=>(by first | exact cst _)) ?_|(refine lP ?_;refine lQ (fun hcc m=>(by first | exact cst _)) ?_))|refine fctI fun hf=>?_|(show CondG ..;first|refine cBG (fun hc=>?_) (fun hc=>?_)|refine cUG ?_ ?_)));exact DVR
  rw [if_neg (fun c => c he)] at hun;rw [he] at cst;have sb1 := hst0 he;have cs := fun m => ssame_f now SR.1 m son (staOk_of nb sb1)
  have cc := fun m => conInt_f 82 (fun k => !decide (k = 0)) SR.2.1.passed m (by omega) (fun x _ m => until1_f x m)
  rw [hrb] at hun;generalize (SR.2.1.passed.any fun v => !decide (v = 0)) = B at *
  generalize decide (now = SR.1) = D at *
  clear hst0 hrb hpl;obtain ⟨s1, s2, s3⟩ := SR;by_cases hD : D = true /\ B = false
  · obtain ⟨rfl, rfl⟩ := hD;rw [if_pos (show (true && !false) = true from rfl)] at hun;rw [hun];(repeat' (first|refine swp_seq [0,1,2,3,4,5,7,10,11,12,13,14,15,16,17,18,19,26,57,62,74] ?_|(show SWp _ _ _ (.region _ _ true) _ _ _ _;refine xG mixed [24] ?_)|refine st2 ?_|(show CallQ ..;first|refine cQ (fun hcc=>(by first | exact cst _ | exact cs _ | exact cc _)) ?_|(refine lP ?_;refine lQ (fun hcc m=>(by first | exact cst _ | exact cs _ | exact cc _)) ?_))|refine fctI fun hf=>?_|(show CondG ..;first|refine cBG (fun hc=>?_) (fun hc=>?_)|refine cUG ?_ ?_)));exact DVR
  · rw [if_neg (by cases D <;> cases B <;> simp_all)] at hun;by_cases hk : (k : Int) = (K : Int)
    · have hk2 : k = K := by omega
      subst hk2;rw [show untilF n l sec (k - k) (k + 1) s1 = (0, zeroS, 6) by rw [Nat.sub_self]; rfl] at hun;rw [hun];have hkk : (k : Int) = (k : Int) := rfl;(have:=NeI hkk);cases D
      · (repeat' (first|refine swp_seq [0,1,2,3,4,5,7,10,11,12,13,14,15,16,17,18,19,26,57,62,74] ?_|refine st2 ?_|(show CallQ ..;first|refine cQ (fun hcc=>(by first | exact cst _ | exact cs _)) ?_|(refine lP ?_;refine lQ (fun hcc m=>(by first | exact cst _ | exact cs _)) ?_))|refine fctI fun hf=>?_|(show CondG ..;first|refine cBG (fun hc=>?_) (fun hc=>?_)|refine cUG ?_ ?_)));exact DVR
      · cases B
        · exact absurd ⟨rfl, rfl⟩ hD
        · (repeat' (first|refine swp_seq [0,1,2,3,4,5,7,10,11,12,13,14,15,16,17,18,19,26,57,62,74] ?_|refine st2 ?_|(show CallQ ..;first|refine cQ (fun hcc=>(by first | exact cst _ | exact cs _ | exact cc _)) ?_|(refine lP ?_;refine lQ (fun hcc m=>(by first | exact cst _ | exact cs _ | exact cc _)) ?_))|refine fctI fun hf=>?_|(show CondG ..;first|refine cBG (fun hc=>?_) (fun hc=>?_)|refine cUG ?_ ?_)));exact DVR
    · have hnx : untilF n l sec (K - (k + 1) + 1) (k + 1) s1 = U := by rw [show K - (k + 1) + 1 = K - k by omega]; exact hun.symm
      (have:=NeI hk);clear hun;cases D
      · (repeat' (first|refine swp_seq [0,1,2,3,4,5,7,10,11,12,13,14,15,16,17,18,19,26,57,62,74] ?_|refine st2 ?_|(show CallQ ..;first|refine cQ (fun hcc=>(by first | exact cst _ | exact cs _)) ?_|(refine lP ?_;refine lQ (fun hcc m=>(by first | exact cst _ | exact cs _)) ?_))|refine fctI fun hf=>?_|(show CondG ..;first|refine cBG (fun hc=>?_) (fun hc=>?_)|refine cUG ?_ ?_)));(refine lN [0, 24, 240] ?_);exact ⟨_, by omega, k + 1, s1, by omega, rfl, sb1, hnx, rfl, rfl⟩
      · cases B
        · exact absurd ⟨rfl, rfl⟩ hD
        · (repeat' (first|refine swp_seq [0,1,2,3,4,5,7,10,11,12,13,14,15,16,17,18,19,26,57,62,74] ?_|refine st2 ?_|(show CallQ ..;first|refine cQ (fun hcc=>(by first | exact cst _ | exact cs _ | exact cc _)) ?_|(refine lP ?_;refine lQ (fun hcc m=>(by first | exact cst _ | exact cs _ | exact cc _)) ?_))|refine fctI fun hf=>?_|(show CondG ..;first|refine cBG (fun hc=>?_) (fun hc=>?_)|refine cUG ?_ ?_)));(refine lN [0, 24, 240] ?_);exact ⟨_, by omega, k + 1, s1, by omega, rfl, sb1, hnx, rfl, rfl⟩
def exN37 : Net := ⟨[⟨⟨#[109]⟩, 1, ⟨0, 0⟩, 0, 2000, [⟨0, 0⟩, ⟨2000, 2000000⟩], false, 0⟩, ⟨⟨#[111]⟩, 3, ⟨0, 0⟩, 0, 0, [], false, 0⟩],
  [⟨⟨#[112]⟩, ⟨#[109]⟩, ⟨#[111]⟩, 4, 0, 500, 200, .empty, 0, 0, [⟨0, 1000⟩]⟩]⟩
def exS37 : Sta := ⟨[600000, 0], [0, 0], [1000], [false]⟩
def nilP37 : PV := .lit (.slice none 0 0)
theorem weakenTup {P : Program} {g : FuncId} {C : List Nat} {args : List DV} {h h' : Nat -> Option HV} {m : Nat} {a b : List PV} {c : DV} (k : DCallsG P g C args h m (.tup [.agg (a.map .p), c]) h') (hw : PLeL a b) : DCallsG P g C args h m (.tup [.agg (b.map .p), c]) h' :=
  k.weaken (fun ρ S w v ⟨vs, e, r⟩ => ⟨vs, e, by
    cases vs with
    | nil => exact r.elim
    | cons v1 vs =>
      obtain ⟨⟨us, e2, r2⟩, r3⟩ := r;exact ⟨⟨us, e2, hw.rel r2⟩, r3⟩⟩) fun U hu => ⟨usesL_iff.2 fun d hd => by obtain ⟨x, _, rfl⟩ := List.mem_map.1 hd; exact trivial, hu.2⟩
set_option maxRecDepth 20000 in
set_option maxHeartbeats 8000000 in
theorem ex37_0 (m : Nat) : DCalls Tryz.prog 74 [] (hget []) m (.tup [.agg ([.dat 9 [nodeP (exN37.nodes.getD 0 default), (nodeP (exN37.nodes.getD 1 default)).set 6 nilP37], .dat 11 [linkP (exN37.links.getD 0 default)]].map .p), staD exS37]) (hget []) := by
  refine pureC (n := 20) (rs := [.cell 0 25, .cell 1 30]) (ts := [25, 30]) Tryz.func74 rfl (by decide) [32, 72, 56, 88, 128, 136, 144, 152] (by (exact SD)) ?_;(repeat' (first|refine swp_seq [0,1,2] ?_|refine st2 ?_|refine fctI fun hf=>?_|(show CondG ..;first|refine cBG (fun hc=>?_) (fun hc=>?_)|refine cUG ?_ ?_)));(refine DVQ ?_);all_goals rfl
theorem ex37_f (m : Nat) : DCalls Tryz.prog 74 [] (hget []) m (.tup [netD exN37, staD exS37]) (hget []) :=
  weakenTup (b := netP exN37) (ex37_0 m) (by repeat' (first | exact PLe.rfl | exact PLe.nil _ | exact PLeL.nil | exact PLeR.nil | exact rfl | (show PLeL (_ :: _) _; refine PLeL.cons ?_ ?_) | (show PLeR _ (_ :: _) _; refine PLeR.cons ?_ rfl ?_) | refine PLe.rows ?_))
theorem ex37_no : netOk exN37 := by
  refine ⟨⟨by decide, fun y hy => ?_⟩, ⟨by decide, fun y hy => ?_⟩⟩
  · simp only [exN37, List.mem_cons, List.not_mem_nil, or_false] at hy;rcases hy with rfl | rfl
    · refine ⟨by decide, by unfold i64ok; decide, by unfold pointOk i64ok; decide, by unfold i64ok; decide, by unfold i64ok; decide, ⟨by decide, fun z hz => ?_⟩, by unfold i64ok; decide⟩;simp only [List.mem_cons, List.not_mem_nil, or_false] at hz;rcases hz with rfl | rfl <;> (unfold knotOk i64ok; decide)
    · exact ⟨by decide, by unfold i64ok; decide, by unfold pointOk i64ok; decide, by unfold i64ok; decide, by unfold i64ok; decide, ⟨by decide, fun z hz => by cases hz⟩, by unfold i64ok; decide⟩
  · simp only [exN37, List.mem_cons, List.not_mem_nil, or_false] at hy;subst hy;refine ⟨by decide, by decide, by decide, by unfold i64ok; decide, by unfold i64ok; decide, by unfold i64ok; decide, by unfold i64ok; decide, by decide, by unfold i64ok; decide, by unfold i64ok; decide, by decide, fun z hz => ?_⟩;simp only [List.mem_cons, List.not_mem_nil, or_false] at hz;subst hz; unfold knotOk i64ok; decide
theorem ex37_so : staOk exS37 := by
  unfold staOk intsOk i64ok exS37;simp
theorem ex37_u : (untilR exN37 [] exS37 100 9).1 = 6 /\ (untilR exN37 [] exS37 100 9).2.1.vol = [100000, 0] /\ (untilR exN37 [] exS37 100 9).2.2 = 0 := by decide +kernel
theorem ex37_r : (runR exN37 [] exS37 [] 100 2).1.map Sta.vol = [[500000, 0], [400000, 0]] /\ (runR exN37 [] exS37 [] 100 2).2.1.map Ledg.out = [100000, 100000] /\ (runR exN37 [] exS37 [] 100 2).2.2 = 0 := by decide +kernel
theorem map2 {α β : Type} {f : α -> β} {l : List α} {a b : β} (h : l.map f = [a, b]) : ∃ x y, l = [x, y] /\ f x = a /\ f y = b := by
  match l, h with
  | [x, y], h => simp at h; exact ⟨x, y, rfl, h.1, h.2⟩
theorem netC_nrm (x : Net) : normL [some 9, some 11] (netC x) = netC x := rfl
attribute [push_cast] netC_nrm
set_option maxRecDepth 200000 in
set_option maxHeartbeats 16000000 in
theorem awake37_f (m : Nat) : DCalls Tryz.prog 23 [] (hget []) m (lb true) (hget []) := by
  have cu := fun m => Until_f exN37 [] exS37 100 9 m ex37_no ⟨by decide, fun x hx => by cases hx⟩ ex37_so (by decide)
  have cr := fun m => Run_f exN37 [] exS37 [] 100 2 m ex37_no ⟨by decide, fun x hx => by cases hx⟩ ex37_so ⟨by decide, fun x hx => by cases hx⟩ (by decide)
  obtain ⟨u1, u2, u3⟩ := ex37_u;obtain ⟨r1, r2, r3⟩ := ex37_r;rw [u1, u3] at cu;rw [r3] at cr;generalize (untilR exN37 [] exS37 100 9).2.1 = T at *
  generalize (runR exN37 [] exS37 [] 100 2).1 = SS at *
  generalize (runR exN37 [] exS37 [] 100 2).2.1 = GS at *
  obtain ⟨s1, s2, rfl, b1, b2⟩ := map2 r1;obtain ⟨g1, g2, rfl, c1, c2⟩ := map2 r2;obtain ⟨tv, tp, ts, tn⟩ := T;obtain ⟨sv, sp, ss, sn⟩ := s2;obtain ⟨gi, go, gp⟩ := g1;cases u2;cases b2;cases c1;obtain ⟨L, hL⟩ : ∃ L, List.map staP [s1, ⟨[400000, 0], sp, ss, sn⟩] = L := ⟨_, rfl⟩;obtain ⟨M, hM⟩ : ∃ M, List.map ledgP [⟨gi, 100000, gp⟩, g2] = M := ⟨_, rfl⟩;have cr2 : ∀ m, DCalls Tryz.prog 32 [netD exN37, sectL [], staD exS37, inflL [], li 100, li 2] (hget []) m (.tup [.p (.dat 4 L), .p (.dat 3 M), li 0]) (hget []) := fun m => by rw [<- hL, <- hM]; exact cr m
  refine pureC (n := 84) (rs := [.tmp 0]) (ts := [4]) Tryz.func23 rfl (by decide) [] (by (exact SD)) ?_;(repeat' (first|(show SWp _ _ _ (.seq (.region 4 _ _) _) _ _ _ _;refine (stop_in ?_))|refine swp_seq [0,1,2,3,4,5,6,7,8] ?_|refine st2 ?_|(show CallQ ..;first|refine cQ (fun hcc=>(by first | exact ex37_f _ | exact cu _ | exact cr2 _)) ?_|(refine lP ?_;refine lQ (fun hcc m=>(by first | exact ex37_f _ | exact cu _ | exact cr2 _)) ?_))|refine fctI fun hf=>?_|(show CondG ..;first|refine cBG (fun hc=>?_) (fun hc=>?_)|refine cUG ?_ ?_)));refine stop_out ?_;subst hL;subst hM;(repeat' (first|refine swp_seq [0,1,2,3,4,5,6,7,8] ?_|refine st2 ?_|refine fctI fun hf=>?_|(show CondG ..;first|refine cBG (fun hc=>?_) (fun hc=>?_)|refine cUG ?_ ?_)));exact DVR
attribute [local irreducible] PT
end Go.Proofs.YthacnhidipeckaaGreat
