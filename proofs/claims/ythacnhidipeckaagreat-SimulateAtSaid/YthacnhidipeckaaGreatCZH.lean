/-
  Contracts of functions of the program, over the engine.
  No condition.
-/
import Derived.Test.YthacnhidipeckaaGreatCZGZIZKZJ0
namespace Go.Proofs.YthacnhidipeckaaGreat
open Go.Eng
set_option linter.all false
attribute [local irreducible] DCallsG SWp Fct CallQ XCallQ LCallQ XLCallQ drun xrun
theorem AtR_len {infl : List Infl} {names : List ByteArray} {k : Int} (hn : names.length <= 281474976710656) : (AtR infl names k).1.length <= 281474976710656 := by
  unfold AtR
  split
  · exact Nat.zero_le _
  split
  · exact Nat.zero_le _
  unfold atR
  split
  · rw [atL_len]; exact hn
  · exact Nat.zero_le _
set_option maxRecDepth 20000 in
set_option maxHeartbeats 16000000 in
theorem lawAt_f (infl : List Infl) (names : List ByteArray) (k : Int) (m : Nat) (hi : infl.length <= 281474976710656 /\ ∀ x, x ∈ infl -> inflOk x) (hn : names.length <= 281474976710656) :
    DCalls Tryz.prog 5 [inflL infl, strs names, li k] (hget []) m (lb true) (hget []) := by
  have cs := fun m => short_f infl m hi
  cases hs : shortB infl <;> simp only [hs] at cs
  · refine pureC (n := 57) (rs := [.tmp 6]) (ts := [4]) Tryz.func5 rfl (by decide) [] (by (exact SD)) ?_
    (repeat' (first|refine swp_seq [0,1,2,6,7,8,9,10,12,34] ?_|refine st2 ?_|(show CallQ ..;first|refine cQ (fun hcc=>(by first | exact awake37_f _ | exact cs _)) ?_|(refine lP ?_;refine lQ (fun hcc m=>(by first | exact awake37_f _ | exact cs _)) ?_))|refine fctI fun hf=>?_|(show CondG ..;first|refine cBG (fun hc=>?_) (fun hc=>?_)|refine cUG ?_ ?_)))
    exact DVR
  have c1 := fun m => At_f infl names k m hi hn
  have c2 := fun m => rAt37_f infl names k m hi hn
  have cl := @AtR_len infl names k hn
  have c3 := fun m => eqlInt_f (AtR infl names k).1 (AtR infl names k).1 m cl cl
  rw [decide_eq_true rfl] at c3
  generalize (AtR infl names k).1 = L at *
  generalize (AtR infl names k).2 = e at *
  have cn := fun m => conStr_f 29 (fun s => decide (50 < s.size)) names m hn (fun s _ m => at1_f s m)
  have he : e = e := rfl
  (have := Nonempty.intro he)
  by_cases n1 : (20 : Int) < (names.length : Int)
  · (have := Nonempty.intro n1)
    by_cases n2 : (names.length : Int) <= 1000
    · (have := Nonempty.intro n2)
      refine pureC (n := 57) (rs := [.tmp 6]) (ts := [4]) Tryz.func5 rfl (by decide) [] (by (exact SD)) ?_
      (repeat' (first|refine swp_seq [0,1,2,6,7,8,9,10,12,34] ?_|refine st2 ?_|(show CallQ ..;first|refine cQ (fun hcc=>(by first | exact awake37_f _ | exact cs _)) ?_|(refine lP ?_;refine lQ (fun hcc m=>(by first | exact awake37_f _ | exact cs _)) ?_))|refine fctI fun hf=>?_|(show CondG ..;first|refine cBG (fun hc=>?_) (fun hc=>?_)|refine cUG ?_ ?_)))
      exact DVR
    · (have := Nonempty.intro n2)
      by_cases n3 : (1010 : Int) < (names.length : Int)
      · (have := Nonempty.intro n3)
        refine pureC (n := 57) (rs := [.tmp 6]) (ts := [4]) Tryz.func5 rfl (by decide) [] (by (exact SD)) ?_
        (repeat' (first|refine swp_seq [0,1,2,6,7,8,9,10,12,34] ?_|refine st2 ?_|(show CallQ ..;first|refine cQ (fun hcc=>(by first | exact awake37_f _ | exact cs _)) ?_|(refine lP ?_;refine lQ (fun hcc m=>(by first | exact awake37_f _ | exact cs _)) ?_))|refine fctI fun hf=>?_|(show CondG ..;first|refine cBG (fun hc=>?_) (fun hc=>?_)|refine cUG ?_ ?_)))
        exact DVR
      · (have := Nonempty.intro n3)
        cases hB : (names.any fun s => decide (50 < s.size)) <;> simp only [hB] at cn
        · refine pureC (n := 57) (rs := [.tmp 6]) (ts := [4]) Tryz.func5 rfl (by decide) [] (by (exact SD)) ?_
          (repeat' (first|refine swp_seq [0,1,2,6,7,8,9,10,12,34] ?_|refine st2 ?_|(show CallQ ..;first|refine cQ (fun hcc=>(by first | exact awake37_f _ | exact cs _ | exact cn _ | exact c1 _ | exact c2 _ | exact c3 _)) ?_|(refine lP ?_;refine lQ (fun hcc m=>(by first | exact awake37_f _ | exact cs _ | exact cn _ | exact c1 _ | exact c2 _ | exact c3 _)) ?_))|refine fctI fun hf=>?_|(show CondG ..;first|refine cBG (fun hc=>?_) (fun hc=>?_)|refine cUG ?_ ?_)))
          exact DVR
        · refine pureC (n := 57) (rs := [.tmp 6]) (ts := [4]) Tryz.func5 rfl (by decide) [] (by (exact SD)) ?_
          (repeat' (first|refine swp_seq [0,1,2,6,7,8,9,10,12,34] ?_|refine st2 ?_|(show CallQ ..;first|refine cQ (fun hcc=>(by first | exact awake37_f _ | exact cs _ | exact cn _)) ?_|(refine lP ?_;refine lQ (fun hcc m=>(by first | exact awake37_f _ | exact cs _ | exact cn _)) ?_))|refine fctI fun hf=>?_|(show CondG ..;first|refine cBG (fun hc=>?_) (fun hc=>?_)|refine cUG ?_ ?_)))
          exact DVR
  · have n3 : ¬ (1010 : Int) < (names.length : Int) := by omega
    (have := Nonempty.intro n1)
    (have := Nonempty.intro n3)
    cases hB : (names.any fun s => decide (50 < s.size)) <;> simp only [hB] at cn
    · refine pureC (n := 57) (rs := [.tmp 6]) (ts := [4]) Tryz.func5 rfl (by decide) [] (by (exact SD)) ?_
      (repeat' (first|refine swp_seq [0,1,2,6,7,8,9,10,12,34] ?_|refine st2 ?_|(show CallQ ..;first|refine cQ (fun hcc=>(by first | exact awake37_f _ | exact cs _ | exact cn _ | exact c1 _ | exact c2 _ | exact c3 _)) ?_|(refine lP ?_;refine lQ (fun hcc m=>(by first | exact awake37_f _ | exact cs _ | exact cn _ | exact c1 _ | exact c2 _ | exact c3 _)) ?_))|refine fctI fun hf=>?_|(show CondG ..;first|refine cBG (fun hc=>?_) (fun hc=>?_)|refine cUG ?_ ?_)))
      exact DVR
    · refine pureC (n := 57) (rs := [.tmp 6]) (ts := [4]) Tryz.func5 rfl (by decide) [] (by (exact SD)) ?_
      (repeat' (first|refine swp_seq [0,1,2,6,7,8,9,10,12,34] ?_|refine st2 ?_|(show CallQ ..;first|refine cQ (fun hcc=>(by first | exact awake37_f _ | exact cs _ | exact cn _)) ?_|(refine lP ?_;refine lQ (fun hcc m=>(by first | exact awake37_f _ | exact cs _ | exact cn _)) ?_))|refine fctI fun hf=>?_|(show CondG ..;first|refine cBG (fun hc=>?_) (fun hc=>?_)|refine cUG ?_ ?_)))
      exact DVR

end Go.Proofs.YthacnhidipeckaaGreat
