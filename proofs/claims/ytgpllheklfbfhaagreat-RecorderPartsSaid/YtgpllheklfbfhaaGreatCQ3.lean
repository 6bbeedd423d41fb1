/-
  Contracts of functions of the program, over the engine.
  No condition.
-/
import Derived.Test.YtgpllheklfbfhaaGreatCQ1
import Derived.Test.YtgpllheklfbfhaaGreatCX0
import Derived.Test.YtgpllheklfbfhaaGreatCQ2
import Derived.Test.YtgpllheklfbfhaaGreatCX4
import Derived.Test.YtgpllheklfbfhaaGreatCX3
namespace Go.Proofs.YtgpllheklfbfhaaGreat
open Go.Eng
set_option linter.all false
attribute [local irreducible] DCallsG SWp Fct CallQ XCallQ LCallQ XLCallQ drun xrun
set_option maxHeartbeats 64000000
set_option maxRecDepth 20000

structure Rpl where
  now : Sta
  ss : List Sta
  e : Int
def rep1 (n : Net) (s : List Sect) (l : List Rule) (S : Rpl) (y : Rec) : Rpl :=
  if ¬ S.e = 0 then S
  else if y.kind = 2 then (if linkIx n.links y.link < 0 then ⟨S.now, [], 9⟩ else ⟨⟨S.now.vol, S.now.pon, S.now.set.set (linkIx n.links y.link).toNat y.setting, S.now.on⟩, S.ss, 0⟩)
  else if y.kind = 1 then (if (stepC n s l S.now y.inflows y.seconds).2.2 = 0 then ⟨(stepC n s l S.now y.inflows y.seconds).1, S.ss ++ [(stepC n s l S.now y.inflows y.seconds).1], 0⟩ else ⟨S.now, [], (stepC n s l S.now y.inflows y.seconds).2.2⟩)
  else S
def repL (n : Net) (s : List Sect) (l : List Rule) (S : Rpl) (r : List Rec) : Rpl := r.foldl (rep1 n s l) S
section
variable {n : Net} {s : List Sect} {l : List Rule}
theorem repL_snoc (S : Rpl) (r : List Rec) (y : Rec) : repL n s l S (r ++ [y]) = rep1 n s l (repL n s l S r) y := by
  unfold repL; rw [List.foldl_append]; rfl
theorem repL_app (S : Rpl) (a b : List Rec) : repL n s l S (a ++ b) = repL n s l (repL n s l S a) b := by
  unfold repL; rw [List.foldl_append]
theorem rep1_err {S : Rpl} (h : ¬ S.e = 0) (y : Rec) : rep1 n s l S y = S := by unfold rep1; rw [if_pos h]
theorem repL_err {S : Rpl} (h : ¬ S.e = 0) : ∀ r : List Rec, repL n s l S r = S
  | [] => rfl
  | y :: r => by
    show repL n s l (rep1 n s l S y) r = S;rw [rep1_err h y]; exact repL_err h r
def isWord (y : Rec) : Bool := decide (y.kind = 3) || decide (y.kind = 4)
theorem rep1_word {S : Rpl} {y : Rec} (h : isWord y = true) : rep1 n s l S y = S := by
  unfold isWord at h;rw [Bool.or_eq_true, decide_eq_true_eq, decide_eq_true_eq] at h;unfold rep1;split
  · rfl
  · rw [if_neg (by omega), if_neg (by omega)]
theorem repL_words (S : Rpl) : ∀ r : List Rec, repL n s l S (r.filter fun y => !isWord y) = repL n s l S r
  | [] => rfl
  | y :: r => by
    cases h : isWord y
    · rw [List.filter_cons_of_pos (by rw [h]; rfl)];exact repL_words (rep1 n s l S y) r
    · rw [List.filter_cons_of_neg (by rw [h]; decide), repL_words S r];show _ = repL n s l (rep1 n s l S y) r;rw [rep1_word h]
theorem rep1_pre (t : List Sta) (S : Rpl) (y : Rec) : (rep1 n s l ⟨S.now, t ++ S.ss, S.e⟩ y).now = (rep1 n s l S y).now /\ (rep1 n s l ⟨S.now, t ++ S.ss, S.e⟩ y).e = (rep1 n s l S y).e /\ ((rep1 n s l S y).e = 0 -> (rep1 n s l ⟨S.now, t ++ S.ss, S.e⟩ y).ss = t ++ (rep1 n s l S y).ss) := by
  obtain ⟨x, u, e⟩ := S;by_cases h0 : e = 0
  · subst h0;by_cases h2 : y.kind = 2
    · by_cases h3 : linkIx n.links y.link < 0
      · simp [rep1, h2, h3]
      · simp [rep1, h2, h3]
    · by_cases h1 : y.kind = 1
      · by_cases h4 : (stepC n s l x y.inflows y.seconds).2.2 = 0
        · simp [rep1, h1, h4]
        · simp [rep1, h1, h4]
      · simp [rep1, h1, h2]
  · simp [rep1, h0]
theorem repL_pre (t : List Sta) : ∀ (r : List Rec) (S : Rpl), (repL n s l ⟨S.now, t ++ S.ss, S.e⟩ r).now = (repL n s l S r).now /\ (repL n s l ⟨S.now, t ++ S.ss, S.e⟩ r).e = (repL n s l S r).e /\ ((repL n s l S r).e = 0 -> (repL n s l ⟨S.now, t ++ S.ss, S.e⟩ r).ss = t ++ (repL n s l S r).ss)
  | [], S => ⟨rfl, rfl, fun _ => rfl⟩
  | y :: r, S => by
    obtain ⟨a1, a2, a3⟩ := rep1_pre (n := n) (s := s) (l := l) t S y;have ih := repL_pre t r (rep1 n s l S y);by_cases h : (rep1 n s l S y).e = 0
    · have e : rep1 n s l ⟨S.now, t ++ S.ss, S.e⟩ y = ⟨(rep1 n s l S y).now, t ++ (rep1 n s l S y).ss, (rep1 n s l S y).e⟩ := by
        have := a3 h;cases hq : rep1 n s l ⟨S.now, t ++ S.ss, S.e⟩ y;rw [hq] at a1 a2 this;simp only at a1 a2 this;rw [a1, a2, this]
      have e2 : repL n s l ⟨S.now, t ++ S.ss, S.e⟩ (y :: r) = repL n s l ⟨(rep1 n s l S y).now, t ++ (rep1 n s l S y).ss, (rep1 n s l S y).e⟩ r := by rw [<- e]; rfl
      rw [e2];exact ih
    · have h' : ¬ (rep1 n s l ⟨S.now, t ++ S.ss, S.e⟩ y).e = 0 := by rw [a2]; exact h
      show (repL n s l (rep1 n s l ⟨S.now, t ++ S.ss, S.e⟩ y) r).now = (repL n s l (rep1 n s l S y) r).now /\ (repL n s l (rep1 n s l ⟨S.now, t ++ S.ss, S.e⟩ y) r).e = (repL n s l (rep1 n s l S y) r).e /\ ((repL n s l (rep1 n s l S y) r).e = 0 -> _);rw [repL_err h, repL_err h'];exact ⟨a1, a2, fun k => absurd k h⟩
theorem repL_parts {x : Sta} {r : List Rec} (p : Nat) (h : (repL n s l ⟨x, [], 0⟩ r).e = 0) : (repL n s l ⟨x, [], 0⟩ (r.take p)).e = 0 /\ (repL n s l ⟨(repL n s l ⟨x, [], 0⟩ (r.take p)).now, [], 0⟩ (r.drop p)).e = 0 /\
    (repL n s l ⟨x, [], 0⟩ r).ss = (repL n s l ⟨x, [], 0⟩ (r.take p)).ss ++ (repL n s l ⟨(repL n s l ⟨x, [], 0⟩ (r.take p)).now, [], 0⟩ (r.drop p)).ss := by
  have e := repL_app (n := n) (s := s) (l := l) ⟨x, [], 0⟩ (r.take p) (r.drop p);rw [List.take_append_drop] at e;have h0 : (repL n s l ⟨x, [], 0⟩ (r.take p)).e = 0 := by
    refine Classical.byContradiction fun c => ?_
    rw [e, repL_err c] at h;exact c h
  have ep := repL_pre (n := n) (s := s) (l := l) (repL n s l ⟨x, [], 0⟩ (r.take p)).ss (r.drop p) ⟨(repL n s l ⟨x, [], 0⟩ (r.take p)).now, [], 0⟩;have es : repL n s l ⟨x, [], 0⟩ (r.take p) = ⟨(repL n s l ⟨x, [], 0⟩ (r.take p)).now, (repL n s l ⟨x, [], 0⟩ (r.take p)).ss ++ [], 0⟩ := by
    cases hq : repL n s l ⟨x, [], 0⟩ (r.take p);rw [hq] at h0;simp only at h0;rw [List.append_nil, h0]
  obtain ⟨a1, a2, a3⟩ := ep;dsimp only at a1 a2 a3;rw [<- es, <- e] at a1 a2 a3;have h1 : (repL n s l ⟨(repL n s l ⟨x, [], 0⟩ (r.take p)).now, [], 0⟩ (r.drop p)).e = 0 := by rw [<- a2]; exact h
  exact ⟨h0, h1, a3 h1⟩
end
theorem take_snocQ {α : Type} [Inhabited α] {l : List α} {i : Nat} (h : i < l.length) : l.take (i + 1) = l.take i ++ [l.getD i default] := by
  rw [List.take_succ_eq_append_getElem h, List.getD_eq_getElem?_getD, List.getElem?_eq_getElem h]; rfl
section
variable {n : Net} {s : List Sect} {l : List Rule} {x : Sta}
theorem sta_set (nb : netB n = true) (sb : staB n x = true) {k : Nat} {v : Int} (hv : 0 <= v /\ v <= 1000) : staB n ⟨x.vol, x.pon, x.set.set k v, x.on⟩ = true := by
  obtain ⟨a1, a2, a3⟩ := staB_in nb sb;obtain ⟨l1, l2, l3, l4⟩ := lensB_of a1;unfold staB lensB;simp only [Bool.and_eq_true, decide_eq_true_eq, List.all_eq_true, List.mem_range, List.length_set];refine ⟨⟨⟨⟨⟨l1, l2⟩, l3⟩, l4⟩, fun q hq => a2 q hq⟩, fun i hi => ?_⟩;have b1 := a3 i hi;unfold okSL at b1 ⊢;simp only [Bool.and_eq_true, Bool.not_eq_true', Bool.and_eq_false_iff, Bool.not_eq_false', decide_eq_true_eq] at b1 ⊢;refine ⟨?_, b1.2⟩;show btwB ((x.set.set k v).getD i default) 0 1000 = true;by_cases e : k = i
  · subst e;rw [List.getD_eq_getElem?_getD, List.getElem?_set_self (by omega)];unfold btwB;simp only [Bool.and_eq_true, decide_eq_true_eq];exact hv
  · rw [List.getD_eq_getElem?_getD, List.getElem?_set_ne e, <- List.getD_eq_getElem?_getD];exact b1.1
theorem recB_set {y : Rec} (h : recB y = true) (k : y.kind = 2) : 0 <= y.setting /\ y.setting <= 1000 := by
  unfold recB at h;rw [if_neg (by omega), if_pos k] at h;simp only [Bool.and_eq_true, inB, decide_eq_true_eq] at h;exact h.2.2
theorem recB_kind {y : Rec} (h : recB y = true) : y.kind = 1 ∨ y.kind = 2 ∨ isWord y = true := by
  by_cases k1 : y.kind = 1
  · exact .inl k1
  by_cases k2 : y.kind = 2
  · exact .inr (.inl k2)
  refine .inr (.inr ?_);unfold recB at h;rw [if_neg k1, if_neg k2] at h;unfold isWord;by_cases k3 : y.kind = 3
  · rw [decide_eq_true k3]; rfl
  by_cases k4 : y.kind = 4
  · rw [decide_eq_true k4, Bool.or_true]
  · rw [if_neg k3, if_neg k4, Bool.and_false] at h; cases h
theorem rep1_step {S : Rpl} {y : Rec} (h0 : S.e = 0) (k : y.kind = 1) : rep1 n s l S y = if (stepC n s l S.now y.inflows y.seconds).2.2 = 0 then ⟨(stepC n s l S.now y.inflows y.seconds).1, S.ss ++ [(stepC n s l S.now y.inflows y.seconds).1], 0⟩ else ⟨S.now, [], (stepC n s l S.now y.inflows y.seconds).2.2⟩ := by
  unfold rep1;rw [if_neg (not_not_intro h0), if_neg (by omega), if_pos k]
theorem rep1_set {S : Rpl} {y : Rec} (h0 : S.e = 0) (k : y.kind = 2) : rep1 n s l S y = if linkIx n.links y.link < 0 then ⟨S.now, [], 9⟩ else ⟨⟨S.now.vol, S.now.pon, S.now.set.set (linkIx n.links y.link).toNat y.setting, S.now.on⟩, S.ss, 0⟩ := by
  unfold rep1;rw [if_neg (not_not_intro h0), if_pos k]
structure RplIn (n : Net) (S : Rpl) (i : Nat) : Prop where
  sb : staB n S.now = true
  ss : ∀ t, t ∈ S.ss -> staB n t = true
  len : S.ss.length <= i
theorem rep1_in (nb : netB n = true) (no : netOk n) (co : catOk s) {S : Rpl} {i : Nat} (R : RplIn n S i) {y : Rec} (hy : recB y = true) (h0 : S.e = 0) (h : (rep1 n s l S y).e = 0) : RplIn n (rep1 n s l S y) (i + 1) := by
  have hl := R.len;rcases recB_kind hy with k | k | k
  · rw [rep1_step h0 k] at h ⊢;split;next q =>
      have hs := stepC_sta no co q;refine ⟨hs, fun t ht => ?_, by show (S.ss ++ [_]).length <= _; rw [List.length_append, List.length_singleton]; omega⟩;rcases List.mem_append.1 ht with ht | ht
      · exact R.ss t ht
      · rw [List.mem_singleton.1 ht]; exact hs
    next q => rw [if_neg q] at h; exact absurd h q
  · rw [rep1_set h0 k] at h ⊢;split;next q => rw [if_pos q] at h; cases h
    next q => exact ⟨sta_set nb R.sb (recB_set hy k), R.ss, by show S.ss.length <= _; omega⟩
  · rw [rep1_word k];exact ⟨R.sb, R.ss, by omega⟩
def repK (n : Net) (s : List Sect) (l : List Rule) (x : Sta) (r : List Rec) (i : Nat) : Rpl := repL n s l ⟨x, [], 0⟩ (r.take i)
theorem repK_next {r : List Rec} {i : Nat} (h : i < r.length) : repK n s l x r (i + 1) = rep1 n s l (repK n s l x r i) (r.getD i default) := by
  unfold repK;rw [take_snocQ h, repL_snoc]
theorem repK_all (r : List Rec) : repK n s l x r r.length = repL n s l ⟨x, [], 0⟩ r := by unfold repK; rw [List.take_length]
theorem repK_in (nb : netB n = true) (no : netOk n) (co : catOk s) (sb : staB n x = true) {r : List Rec} (hr : ∀ y, y ∈ r -> recB y = true) : ∀ i, i <= r.length -> (repK n s l x r i).e = 0 -> RplIn n (repK n s l x r i) i
  | 0, _, _ => ⟨sb, fun t ht => (by cases ht), Nat.le_refl _⟩
  | i + 1, hi, h => by
    rw [repK_next hi] at h ⊢;have h0 : (repK n s l x r i).e = 0 := by
      by_cases c : (repK n s l x r i).e = 0
      · exact c
      · rw [rep1_err c] at h; exact absurd h c
    exact rep1_in nb no co (repK_in nb no co sb hr i (by omega) h0) (hr _ (getD_mem hi)) h0 h
theorem repK_bad {r : List Rec} {i : Nat} (hi : i <= r.length) (h : ¬ (repK n s l x r i).e = 0) : repL n s l ⟨x, [], 0⟩ r = repK n s l x r i := by
  have e := repL_app (n := n) (s := s) (l := l) ⟨x, [], 0⟩ (r.take i) (r.drop i);rw [List.take_append_drop] at e;rw [e];exact repL_err h _
theorem repK_good {r : List Rec} (h : (repL n s l ⟨x, [], 0⟩ r).e = 0) {i : Nat} (hi : i <= r.length) : (repK n s l x r i).e = 0 := by
  by_cases c : (repK n s l x r i).e = 0
  · exact c
  · rw [repK_bad hi c] at h; exact h
theorem repK_ss {r : List Rec} (h : (repL n s l ⟨x, [], 0⟩ r).e = 0) {i : Nat} (hi : i <= r.length) : (repL n s l ⟨x, [], 0⟩ r).ss = (repK n s l x r i).ss ++ (repL n s l ⟨(repK n s l x r i).now, [], 0⟩ (r.drop i)).ss /\ (repL n s l ⟨(repK n s l x r i).now, [], 0⟩ (r.drop i)).e = 0 :=
  ⟨(repL_parts i h).2.2, (repL_parts i h).2.1⟩
theorem repK_hit {r : List Rec} (h : (repL n s l ⟨x, [], 0⟩ r).e = 0) {i : Nat} (hi : i < r.length) (k : (r.getD i default).kind = 1) :
    (stepC n s l (repK n s l x r i).now (r.getD i default).inflows (r.getD i default).seconds).2.2 = 0 /\ (repK n s l x r i).ss.length < (repL n s l ⟨x, [], 0⟩ r).ss.length /\ (repL n s l ⟨x, [], 0⟩ r).ss.getD (repK n s l x r i).ss.length default = (stepC n s l (repK n s l x r i).now (r.getD i default).inflows (r.getD i default).seconds).1 /\
    (repK n s l x r (i + 1)).now = (stepC n s l (repK n s l x r i).now (r.getD i default).inflows (r.getD i default).seconds).1 /\ (repK n s l x r (i + 1)).ss.length = (repK n s l x r i).ss.length + 1 := by
  have h0 := repK_good h (Nat.le_of_lt hi);have h1 := repK_good h (show i + 1 <= r.length from hi);have e := repK_next (n := n) (s := s) (l := l) (x := x) hi;rw [rep1_step h0 k] at e;by_cases q : (stepC n s l (repK n s l x r i).now (r.getD i default).inflows (r.getD i default).seconds).2.2 = 0
  · rw [if_pos q] at e;have hs := (repK_ss h (show i + 1 <= r.length from hi)).1;rw [e] at hs;refine ⟨q, ?_, ?_, by rw [e], by rw [e, List.length_append, List.length_singleton]⟩
    · rw [hs, List.length_append, List.length_append, List.length_singleton]; omega
    · rw [hs, List.getD_eq_getElem?_getD, List.append_assoc, List.getElem?_append_right (Nat.le_refl _), Nat.sub_self]; rfl
  · rw [if_neg q] at e;rw [e] at h1;exact absurd h1 q
theorem repK_put {r : List Rec} (h : (repL n s l ⟨x, [], 0⟩ r).e = 0) {i : Nat} (hi : i < r.length) (k : (r.getD i default).kind = 2) :
    0 <= linkIx n.links (r.getD i default).link /\ (repK n s l x r (i + 1)).now = ⟨(repK n s l x r i).now.vol, (repK n s l x r i).now.pon, (repK n s l x r i).now.set.set (linkIx n.links (r.getD i default).link).toNat (r.getD i default).setting, (repK n s l x r i).now.on⟩ /\ (repK n s l x r (i + 1)).ss.length = (repK n s l x r i).ss.length := by
  have h0 := repK_good h (Nat.le_of_lt hi);have h1 := repK_good h (show i + 1 <= r.length from hi);have e := repK_next (n := n) (s := s) (l := l) (x := x) hi;rw [rep1_set h0 k] at e;by_cases q : linkIx n.links (r.getD i default).link < 0
  · rw [if_pos q] at e;rw [e] at h1; cases h1
  · rw [if_neg q] at e;exact ⟨by omega, by rw [e], by rw [e]⟩
theorem repK_word {r : List Rec} {i : Nat} (hi : i < r.length) (k : isWord (r.getD i default) = true) : repK n s l x r (i + 1) = repK n s l x r i := by
  rw [repK_next hi, rep1_word k]
end
theorem repL_nil {n : Net} {s : List Sect} {l : List Rule} : ∀ (r : List Rec) (S : Rpl), S.e = 0 ∨ S.ss = [] -> (repL n s l S r).e = 0 ∨ (repL n s l S r).ss = []
  | [], _, h => h
  | y :: r, S, h => by
    refine repL_nil r (rep1 n s l S y) ?_;unfold rep1;split
    · exact h
    · split
      · split
        · exact .inr rfl
        · exact .inl rfl
      · split
        · split
          · exact .inl rfl
          · exact .inr rfl
        · exact h
theorem rwrong_f (y : Rec) (m : Nat) (hy : recOk y) : Pu 44 [recD y] m (lb (!recB y)) := by
  have c := fun m => recV_f y m hy
  generalize recB y = b at *
  refine pcN 6 [.tmp 2] [4] Tryz.func44 rfl [] ?_;(repeat' first|refine stW [0,1,2] ?_|refine fctI fun hf=>?_|refine twI (fun hc=>?_) fun hc=>?_);exact DVR
theorem any_bad {r : List Rec} (h : ∀ y, y ∈ r -> recB y = true) : (r.any fun y => !recB y) = false := by
  rw [List.any_eq_false];intro y hy;rw [h y hy]; decide
theorem hv_parts {n : Net} {s : List Sect} {l : List Rule} {x : Sta} (hv : (netB n && staB n x && catB s && rulesB l) = true) : netB n = true /\ (netB n && staB n x) = true /\ catB s = true /\ rulesB l = true := by
  obtain ⟨a, b, c, d⟩ := hv_of hv;exact ⟨a, by rw [a, b]; rfl, c, d⟩
theorem replay_f (n : Net) (s : List Sect) (l : List Rule) (x : Sta) (r : List Rec) (m : Nat) (no : netOk n) (co : catOk s) (lo : rulOk l) (so : staOk x) (hv : (netB n && staB n x && catB s && rulesB l) = true) (hr : r.length <= 10) (ho : ∀ y, y ∈ r -> recOk y) (hb : ∀ y, y ∈ r -> recB y = true) (h14 : n.nodes.length <= 14) :
    Pu 11 [netD n, sectL s, ruleL l, staD x, recs r] m (.tup [staL (repL n s l ⟨x, [], 0⟩ r).ss, li (repL n s l ⟨x, [], 0⟩ r).e]) := by
  obtain ⟨nb, h2, h3, h4⟩ := hv_parts hv;obtain ⟨_, sb, _, _⟩ := hv_of hv;have k1 := fun m => netValid_f n m no
  have k2 := fun m => cat_f s m co
  have k3 := fun m => rulesV_f l m lo
  have k4 := fun m => staValid_f n x m no so
  have k5 := fun m => conRec_f 44 (fun y => !recB y) r m (by omega) (fun y hy m => rwrong_f y m (ho y hy))
  rw [nb] at k1;rw [h2] at k4;rw [h3] at k2;rw [h4] at k3;rw [any_bad hb] at k5;have l3 := (lensB_of (staB_in nb sb).1).2.2.1;have hnl := netB_len nb;have k6 := fun m => cloneI_f x.set m (by omega)
  have e1 : ¬ (10000 : Int) < (r.length : Int) := by omega
  have hin := repK_in (l := l) nb no co sb hb;(have:=NeI e1);refine pcN 109 [.tmp 10,.tmp 11] [44,45] Tryz.func11 rfl [344] ?_;(repeat' first|refine stW [0,1,2,3,4,5,8,10,11,12,13,15,16,17,18,20,21,46,54,55,56,57,61,62,72,84,100] ?_|refine fctI fun hf=>?_|refine twI (fun hc=>?_) fun hc=>?_);(refine sF 296 ?_);(refine sN 13 31 4 ?_);clear k1 k2 k3 k4 k5 k6;refine loop_swp [1, 2, 5, 8, 13, 54, 55, 56] [0, 8, 344] 352 (fun q A H => ∃ i : Nat, i <= r.length /\ q = r.length - i /\ (repK n s l x r i).e = 0 /\ A = [(1, sectL s), (2, ruleL l), (5, .ptr 0 0), (8, .ptr 8 0), (13, .gl 344), (54, recs r), (55, li r.length), (56, li i)] /\ H = [(0, .blk 25 (netC n)), (8, .blk 31 (staC (repK n s l x r i).now)), (344, staLt (repK n s l x r i).ss)]) (by omega) ?_ ?_ ?_
  · rintro q A H ⟨i, g1, g2, g3, rfl, rfl⟩;exact SDD
  · refine ⟨_, 0, by omega, rfl, rfl, ?_, ?_⟩
    · exact DVR
    · exact DVR
  rintro q A H ⟨i, g1, g2, g3, rfl, rfl⟩;by_cases hi : i < r.length
  case neg =>
    obtain rfl : i = r.length := by omega
    have hi3 : ¬ ((r.length : Int) < (r.length : Int)) := by omega
    rw [repK_all] at g3 ⊢;rw [g3];generalize repL n s l ⟨x, [], 0⟩ r = R at *
    (have:=NeI hi3);clear hin;(repeat' first|refine stW [0,1,2,3,4,5,8,10,11,12,13,15,16,17,18,20,21,46,54,55,56,57,61,62,72,84,100] ?_|refine fctI fun hf=>?_|refine twI (fun hc=>?_) fun hc=>?_);exact DVR
  have hi3 : (i : Int) < (r.length : Int) := by omega
  have R := hin i (by omega) g3;have hy := hb _ (getD_mem hi);have hyo := ho _ (getD_mem hi);have hnx := repK_next (n := n) (s := s) (l := l) (x := x) hi;have hbad := fun h => repK_bad (n := n) (s := s) (l := l) (x := x) (show i + 1 <= r.length from hi) h
  have sbn := R.sb;have hsl := R.len;have h3n := (lensB_of (staB_in nb sbn).1).2.2.1;clear hin R;(have:=NeI hi);(have:=NeI hi3);generalize hKN : repK n s l x r (i + 1) = KN at *
  generalize repK n s l x r i = S at *
  generalize hYY : r.getD i default = y at *
  rcases recB_kind hy with hk | hk | hk
  · rw [rep1_step g3 hk] at hnx;have k6 := fun m => CStep_f n s l S.now y.inflows y.seconds m no co lo (staOk_of nb sbn) hyo.1 h14
    have hk2 : ¬ y.kind = 2 := by omega
    generalize stepC n s l S.now y.inflows y.seconds = SR at *
    obtain ⟨s1, s2, s3⟩ := SR;subst hYY;(have:=NeI hk);(have:=NeI hk2);by_cases hs : s3 = 0
    · rw [if_pos hs] at hnx;subst hs;clear hbad;(repeat' first|refine stW [0,1,2,3,4,5,8,10,11,12,13,15,16,17,18,20,21,46,54,55,56,57,61,62,72,84,100] ?_|refine fctI fun hf=>?_|refine twI (fun hc=>?_) fun hc=>?_);(refine lN [0, 8, 344] ?_);exact ⟨_, by omega, i + 1, by omega, rfl, by rw [hKN, hnx], rfl, by rw [hKN, hnx] <;> rfl⟩
    · rw [if_neg hs] at hnx;rw [hbad (by rw [hnx]; exact hs), hnx];(have:=NeI hs);(repeat' first|refine stW [0,1,2,3,4,5,8,10,11,12,13,15,16,17,18,20,21,46,54,55,56,57,61,62,72,84,100] ?_|refine fctI fun hf=>?_|refine twI (fun hc=>?_) fun hc=>?_);exact DVR
  · rw [rep1_set g3 hk] at hnx;have hk1 : ¬ y.kind = 1 := by omega
    have k7 := fun m => netLink_f n y.link m no nb
    have hlx := lix_lt n.links y.link;generalize linkIx n.links y.link = LX at *
    have k8 := fun m => cloneI_f S.now.set m (by omega)
    subst hYY;(have:=NeI hk);(have:=NeI hk1);by_cases hx : LX < 0
    · rw [if_pos hx] at hnx;rw [hbad (by rw [hnx]; intro h; cases h), hnx];rw [if_neg (by omega)] at k7;(repeat' first|refine stW [0,1,2,3,4,5,8,10,11,12,13,15,16,17,18,20,21,46,54,55,56,57,61,62,72,84,100] ?_|refine fctI fun hf=>?_|refine twI (fun hc=>?_) fun hc=>?_);exact DVR
    · rw [if_neg hx] at hnx;rw [if_pos (by omega)] at k7;obtain ⟨K, rfl⟩ : ∃ K : Nat, LX = (K : Int) := ⟨LX.toNat, by omega⟩;rw [Int.toNat_natCast] at hnx;have hK : K < S.now.set.length := by omega
      have hK3 : (K : Int) < (S.now.set.length : Int) := by omega
      clear hbad hx;(have:=NeI hK);(have:=NeI hK3);(repeat' first|refine stW [0,1,2,3,4,5,8,10,11,12,13,15,16,17,18,20,21,46,54,55,56,57,61,62,72,84,100] ?_|refine fctI fun hf=>?_|refine twI (fun hc=>?_) fun hc=>?_);rw [show List.take 2 (staC S.now) ++ [DV.gl 528] ++ List.drop 3 (staC S.now) = [ints S.now.vol, ints S.now.pon, .gl 528, bools S.now.on] from rfl];(repeat' first|(show SWp _ _ _ (.region 24 _ _) _ _ _ _;refine (stop_in ?_))|refine stW [0,1,2,3,4,5,8,10,11,12,13,15,16,17,18,20,21,46,54,55,56,57,61,62,72,84,100] ?_|refine fctI fun hf=>?_|refine twI (fun hc=>?_) fun hc=>?_);refine stop_out ?_;(refine sF 528 ?_);(repeat' first|refine stW [0,1,2,3,4,5,8,10,11,12,13,15,16,17,18,20,21,46,54,55,56,57,61,62,72,84,100] ?_|refine fctI fun hf=>?_|refine twI (fun hc=>?_) fun hc=>?_);(refine lN [0, 8, 344] ?_);exact ⟨_, by omega, i + 1, by omega, rfl, by rw [hKN, hnx], rfl, by rw [hKN, hnx] <;> rfl⟩
  · rw [rep1_word hk] at hnx;have hk1 : ¬ y.kind = 1 := by unfold isWord at hk; rw [Bool.or_eq_true, decide_eq_true_eq, decide_eq_true_eq] at hk; omega
    have hk2 : ¬ y.kind = 2 := by unfold isWord at hk; rw [Bool.or_eq_true, decide_eq_true_eq, decide_eq_true_eq] at hk; omega
    subst hYY;(have:=NeI hk1);(have:=NeI hk2);clear hbad;(repeat' first|refine stW [0,1,2,3,4,5,8,10,11,12,13,15,16,17,18,20,21,46,54,55,56,57,61,62,72,84,100] ?_|refine fctI fun hf=>?_|refine twI (fun hc=>?_) fun hc=>?_);(refine lN [0, 8, 344] ?_);exact ⟨_, by omega, i + 1, by omega, rfl, by rw [hKN, hnx]; exact g3, rfl, by rw [hKN, hnx] <;> rfl⟩

end Go.Proofs.YtgpllheklfbfhaaGreat
