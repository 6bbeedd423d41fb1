/-
  Contracts of functions of the program, over the engine.
  No condition.
-/
import Derived.Test.YthacnhidipeckaaGreatCZCZD
import Derived.Test.YthacnhidipeckaaGreatCZEZFZ9
import Derived.Test.YthacnhidipeckaaGreatCY21Y23N2Z3Z4Z5Z6ZAZB
import Derived.Test.YthacnhidipeckaaGreatCY9Y10Y12Y8Y14
import Derived.Test.YthacnhidipeckaaGreatCT16T15T18T20Y0Y5Y1
namespace Go.Proofs.YthacnhidipeckaaGreat
open Go.Eng
set_option linter.all false
attribute [local irreducible] DCallsG SWp Fct CallQ XCallQ LCallQ XLCallQ drun xrun
set_option maxHeartbeats 1000000 in
theorem idxSta_f (g : FuncId) (p : Sta -> Bool) (l : List (Sta)) (m : Nat) (hl : l.length <= 281474976710656) (hg : ∀ x, x ∈ l -> ∀ m, DCalls Tryz.prog g [staD x] (hget []) m (lb (p x)) (hget [])) :
    DCalls Tryz.prog 131 [staL l, .clo g []] (hget []) m (li (idxI p l)) (hget []) := by
  refine pureC (n := 19) (rs := [.tmp 4]) (ts := [3]) Tryz.func131 rfl (by decide) [] (by (exact SD)) ?_;(repeat' (first|refine swp_seq [0,1,4,5,7,8,9,16] ?_|refine st2 ?_|refine fctI fun hf=>?_|(show CondG ..;first|refine cBG (fun hc=>?_) (fun hc=>?_)|refine cUG ?_ ?_)));refine loop_swp [0, 1, 7, 8] [] 0 (fun q A H => ∃ i : Nat, i <= l.length /\ q = l.length - i /\ (l.take i).any p = false /\ A = [(0, staL l), (1, .clo g []), (7, li l.length), (8, li i)] /\ H = []) (by omega) ?_ ?_ ?_
  · rintro q A H ⟨i, h1, h2, h3, rfl, rfl⟩;exact SDD
  · refine ⟨_, 0, by omega, rfl, rfl, ?_, ?_⟩
    · exact DVR
    · exact DVR
  · rintro q A H ⟨i, h1, h2, h3, rfl, rfl⟩;(repeat' (first|refine swp_seq [0,1,4,5,7,8,9,16] ?_|refine st2 ?_|(show CallQ ..;first|refine cQ (fun hcc=>(hg _ (getD_mem SC) _)) ?_|(refine lP ?_;refine lQ (fun hcc m=>(hg _ (getD_mem SC) _)) ?_))|refine fctI fun hf=>?_|(show CondG ..;first|refine cBG (fun hc=>?_) (fun hc=>?_)|refine cUG ?_ ?_)))
    · (refine DVQ ?_);rw [idxI_hit h3 (by omega) (by assumption)]
    · (refine lN [] ?_);exact ⟨_, by omega, i + 1, by omega, rfl, any_step h3 (by omega) (by assumption), rfl, rfl⟩
    · (refine DVQ ?_);rw [List.take_of_length_le (by omega)] at h3;rw [idxI_none h3]
theorem conSta_f (g : FuncId) (p : Sta -> Bool) (l : List (Sta)) (m : Nat) (hl : l.length <= 281474976710656) (hg : ∀ x, x ∈ l -> ∀ m, DCalls Tryz.prog g [staD x] (hget []) m (lb (p x)) (hget [])) :
    DCalls Tryz.prog 76 [staL l, .clo g []] (hget []) m (lb (l.any p)) (hget []) := by
  refine pureC (n := 9) (rs := [.tmp 4]) (ts := [4]) Tryz.func76 rfl (by decide) [] (by (exact SD)) ?_;(repeat' (first|refine swp_seq [0,1,4] ?_|refine st2 ?_|(show CallQ ..;first|refine cQ (fun hcc=>(idxSta_f g p l _ hl hg)) ?_|(refine lP ?_;refine lQ (fun hcc m=>(idxSta_f g p l _ hl hg)) ?_))|refine fctI fun hf=>?_|(show CondG ..;first|refine cBG (fun hc=>?_) (fun hc=>?_)|refine cUG ?_ ?_)));(refine DVQ ?_);rw [idxI_any]
theorem sta_vol {n : Net} {s : Sta} (nb : netB n = true) (sb : staB n s = true) : s.vol.length = n.nodes.length /\ ∀ i, i < n.nodes.length -> 0 <= s.vol.getD i default /\ s.vol.getD i default <= 1125899906842624 := by
  obtain ⟨h1, h2, _⟩ := staB_in nb sb;refine ⟨(lensB_of h1).1, fun i hi => ?_⟩;have h := h2 i hi;have hc := capN_in nb hi;unfold okSN at h;simp only [Bool.and_eq_true] at h;have := btwB_in h.1.1;omega
section
variable {n : Net} {l : List Sect} {infl : List Infl} {names : List ByteArray} {sec : Int} {s : Sta}
structure TwoRuns (n : Net) (l : List Sect) (s : Sta) (infl : List Infl) (sec : Int) (i k : Nat) (A B : List Sta × List Ledg × Int) : Prop where
  bad : ¬ A.2.2 = 0 -> A.1 = [] /\ (B.2.2 = 0 ∨ B.2.2 = A.2.2)
  e : A.2.2 = 0 -> B.2.2 = 0
  la : A.2.2 = 0 -> A.1.length = i + k /\ A.2.1.length = i + k /\ B.1.length = i /\ B.2.1.length = i
  t1 : A.2.2 = 0 -> A.1.take i = B.1 /\ A.2.1.take i = B.2.1
  mid : A.2.2 = 0 -> ∀ mid, mid = (if 0 < i then B.1.getD (i - 1) default else s) -> staOk mid /\ runR n l mid (infl.map (cutI i)) sec (k : Int) = (A.1.drop i, A.2.1.drop i, 0)
end
def few3 (s : Sect) : Bool := decide (30 < s.area.length) || decide (30 < s.conv.length) || decide (50 < s.name.size)
def few30 (s : Sta) : Bool := decide (30 < s.vol.length) || decide (30 < s.pon.length) || decide (30 < s.set.length) || decide (30 < s.on.length)
def few37 (n : Net) (l : List Sect) (ss : List Sta) : Bool :=
  if 12 < n.nodes.length ∨ 16 < n.links.length ∨ 12 < l.length ∨ l.any few3 = true then false else !(ss.any few30)
theorem few1_f (s : Sect) (m : Nat) (hs : sectOk s) : DCalls Tryz.prog 75 [sectD s] (hget []) m (lb (few3 s)) (hget []) := by
  obtain ⟨h1, h2, h3, ⟨h4, _⟩, h5, _⟩ := hs;refine pureC (n := 19) (rs := [.tmp 2]) (ts := [4]) Tryz.func75 rfl (by decide) [] (by (exact SD)) ?_;(repeat' (first|refine swp_seq [0,1,2] ?_|refine st2 ?_|refine fctI fun hf=>?_|(show CondG ..;first|refine cBG (fun hc=>?_) (fun hc=>?_)|refine cUG ?_ ?_)));(refine DVQ ?_);refine lbC ?_;unfold few3; grind
theorem few2_f (s : Sta) (m : Nat) (hs : staOk s) : DCalls Tryz.prog 77 [staD s] (hget []) m (lb (few30 s)) (hget []) := by
  obtain ⟨⟨h1, _⟩, ⟨h2, _⟩, ⟨h3, _⟩, h4⟩ := hs;refine pureC (n := 25) (rs := [.tmp 2]) (ts := [4]) Tryz.func77 rfl (by decide) [] (by (exact SD)) ?_;(repeat' (first|refine swp_seq [0,1,2] ?_|refine st2 ?_|refine fctI fun hf=>?_|(show CondG ..;first|refine cBG (fun hc=>?_) (fun hc=>?_)|refine cUG ?_ ?_)));(refine DVQ ?_);refine lbC ?_;unfold few30; grind
set_option maxHeartbeats 4000000 in
theorem few_f (n : Net) (l : List Sect) (ss : List Sta) (m : Nat) (no : netOk n) (co : catOk l) (hs : ss.length <= 281474976710656 /\ ∀ x, x ∈ ss -> staOk x) : DCalls Tryz.prog 24 [netD n, sectL l, staL ss] (hget []) m (lb (few37 n l ss)) (hget []) := by
  obtain ⟨hs1, hs2⟩ := hs;have c1 := fun m => conSect_f 75 few3 l m co.1 (fun x hx m => few1_f x m (co.2 x hx))
  have c2 := fun m => conSta_f 77 few30 ss m hs1 (fun x hx m => few2_f x m (hs2 x hx))
  have h1 := no.1.1;have h2 := no.2.1;have h3 := co.1;unfold few37;generalize l.any few3 = A at *
  generalize ss.any few30 = B at *
  by_cases n1 : (12 : Int) < (n.nodes.length : Int)
  · rw [if_pos (.inl (by omega))];(have:=NeI n1);refine pureC (n := 29) (rs := [.tmp 6]) (ts := [4]) Tryz.func24 rfl (by decide) [] (by (exact SD)) ?_;(repeat' (first|refine swp_seq [0,1,2,3,6,25] ?_|refine st2 ?_|refine fctI fun hf=>?_|(show CondG ..;first|refine cBG (fun hc=>?_) (fun hc=>?_)|refine cUG ?_ ?_)));exact DVR
  by_cases n2 : (16 : Int) < (n.links.length : Int)
  · rw [if_pos (.inr (.inl (by omega)))];(have:=NeI n1);(have:=NeI n2);refine pureC (n := 29) (rs := [.tmp 6]) (ts := [4]) Tryz.func24 rfl (by decide) [] (by (exact SD)) ?_;(repeat' (first|refine swp_seq [0,1,2,3,6,25] ?_|refine st2 ?_|refine fctI fun hf=>?_|(show CondG ..;first|refine cBG (fun hc=>?_) (fun hc=>?_)|refine cUG ?_ ?_)));exact DVR
  by_cases n3 : (12 : Int) < (l.length : Int)
  · rw [if_pos (.inr (.inr (.inl (by omega))))];(have:=NeI n1);(have:=NeI n2);(have:=NeI n3);refine pureC (n := 29) (rs := [.tmp 6]) (ts := [4]) Tryz.func24 rfl (by decide) [] (by (exact SD)) ?_;(repeat' (first|refine swp_seq [0,1,2,3,6,25] ?_|refine st2 ?_|refine fctI fun hf=>?_|(show CondG ..;first|refine cBG (fun hc=>?_) (fun hc=>?_)|refine cUG ?_ ?_)));exact DVR
  (have:=NeI n1);(have:=NeI n2);(have:=NeI n3);cases A
  · rw [if_neg (by simp; omega)];refine pureC (n := 29) (rs := [.tmp 6]) (ts := [4]) Tryz.func24 rfl (by decide) [] (by (exact SD)) ?_;(repeat' (first|refine swp_seq [0,1,2,3,6,25] ?_|refine st2 ?_|(show CallQ ..;first|refine cQ (fun hcc=>(by first | exact c1 _ | exact c2 _)) ?_|(refine lP ?_;refine lQ (fun hcc m=>(by first | exact c1 _ | exact c2 _)) ?_))|refine fctI fun hf=>?_|(show CondG ..;first|refine cBG (fun hc=>?_) (fun hc=>?_)|refine cUG ?_ ?_)));exact DVR
  · rw [if_pos (.inr (.inr (.inr rfl)))];refine pureC (n := 29) (rs := [.tmp 6]) (ts := [4]) Tryz.func24 rfl (by decide) [] (by (exact SD)) ?_;(repeat' (first|refine swp_seq [0,1,2,3,6,25] ?_|refine st2 ?_|(show CallQ ..;first|refine cQ (fun hcc=>(by first | exact c1 _)) ?_|(refine lP ?_;refine lQ (fun hcc m=>(by first | exact c1 _)) ?_))|refine fctI fun hf=>?_|(show CondG ..;first|refine cBG (fun hc=>?_) (fun hc=>?_)|refine cUG ?_ ?_)));exact DVR
theorem few37_t {n : Net} {l : List Sect} {ss : List Sta} (h : few37 n l ss = true) : n.nodes.length <= 12 /\ n.links.length <= 16 /\ l.length <= 12 /\ ss.any few30 = false := by
  unfold few37 at h;split at h
  · cases h
  next h2 =>
  refine ⟨by omega, by omega, by omega, ?_⟩;simpa using h

end Go.Proofs.YthacnhidipeckaaGreat
