/-
  Contracts of functions of the program, over the engine.
  No condition.
-/
import Derived.Test.YthacnhidipeckaaGreatCZGZIZKZJ0
import Derived.Test.YthacnhidipeckaaGreatCZEZFZ9
namespace Go.Proofs.YthacnhidipeckaaGreat
open Go.Eng
set_option linter.all false
attribute [local irreducible] DCallsG SWp Fct CallQ XCallQ LCallQ XLCallQ drun xrun
class AddOk (a b : Int) (q : outParam Int) : Prop where
  out : IntKind.i64.wrap (a + b) = q
theorem add_ok {a b q : Int} [h : AddOk a b q] : IntKind.i64.wrap (a + b) = q := h.out
attribute [local push_cast] add_ok
theorem peak_rows {n : Net} {ss : List Sta} (nb : netB n = true) (hall : ∀ s, s ∈ ss -> staB n s = true) {j : Nat} (hj : j < ss.length) : ((levsL n ss).getD j default).length = n.nodes.length /\ ∀ i, i < n.nodes.length -> (n.nodes.getD i default).inv <= ((levsL n ss).getD j default).getD i default /\ ((levsL n ss).getD j default).getD i default <= (n.nodes.getD i default).gnd /\ ((levsL n ss).getD j default).getD i default <= (peaksL n ss ss.length).getD i default := by
  rw [levsL_at n ss hj]
  refine ⟨rng_len _ _, fun i hi => ?_⟩
  have h1 := levelI_in (netB_node nb hi) ((sta_vol nb (hall _ (getD_mem hj))).2 i hi).1
  have h2 := peak_ge (n := n) (ss := ss) (i := i) (j := j) ss.length hj
  rw [peaks_at hi]
  have e : (levelsL n (ss.getD j default).vol).getD i default = levelI (n.nodes.getD i default) ((ss.getD j default).vol.getD i default) := rng_at hi
  rw [e] at h2 ⊢
  exact ⟨h1.1, h1.2, h2⟩
theorem peak_some {n : Net} {ss : List Sta} (hz : ¬ ss.length = 0) {i : Nat} (hi : i < n.nodes.length) : ((levsL n ss).any fun v => decide (v.getD i default = (peaksL n ss ss.length).getD i default)) = true := by
  obtain ⟨j, hj, e⟩ := peak_hit (n := n) (ss := ss) (i := i) ss.length
  have hj : j < ss.length := by omega
  refine any_yes (j := j) (by rw [show (levsL n ss).length = ss.length from List.length_map ..]; exact hj) (decide_eq_true ?_)
  rw [levsL_at n ss hj, peaks_at hi, e]
theorem any_take {α : Type} [Inhabited α] (p : α -> Bool) {l : List α} {i : Nat} (h : i < l.length) : (l.take (i + 1)).any p = ((l.take i).any p || p (l.getD i default)) := by
  rw [List.take_succ_eq_append_getElem h, List.any_append, List.getD_eq_getElem?_getD, List.getElem?_eq_getElem h]
  simp
set_option maxRecDepth 20000 in
set_option maxHeartbeats 32000000 in
theorem simpeaks_f (n : Net) (ss : List Sta) (m : Nat) (no : netOk n) (hs : ss.length <= 281474976710656 /\ ∀ x, x ∈ ss -> staOk x) : DCalls Tryz.prog 8 [netD n, staL ss] (hget []) m (lb true) (hget []) := by
  have cf := fun m => few_f n [] ss m no ⟨by simp, fun x hx => by cases hx⟩ hs
  cases hf : few37 n [] ss <;> simp only [hf] at cf
  · refine pureC (n := 169) (rs := [.tmp 4]) (ts := [4]) Tryz.func8 rfl (by decide) [] (by (exact SD)) ?_
    (repeat' (first|refine swp_seq [0,1,2,4,5,6,7,8,9,10,11,13,14,15,16,18,27,45,68,70,71,72,73,77,78,79,80,117,132,153,155,156,157,167] ?_|refine st2 ?_|(show CallQ ..;first|refine cQ (fun hcc=>(by first | exact awake37_f _ | exact cf _)) ?_|(refine lP ?_;refine lQ (fun hcc m=>(by first | exact awake37_f _ | exact cf _)) ?_))|(show XCallQ ..;first|refine xQ (fun hcc=>(by first | exact awake37_f _ | exact cf _)) ?_|(refine xlP ?_;refine xlQ (fun hcc m=>(by first | exact awake37_f _ | exact cf _)) ?_))|refine fctI fun hf=>?_|(show CondG ..;first|refine cBG (fun hc=>?_) (fun hc=>?_)|refine cUG ?_ ?_)))
    exact DVR
  obtain ⟨f1, f2, _, f4⟩ := few37_t hf
  by_cases n20 : (20 : Int) < (ss.length : Int)
  · (have := Nonempty.intro n20)
    refine pureC (n := 169) (rs := [.tmp 4]) (ts := [4]) Tryz.func8 rfl (by decide) [] (by (exact SD)) ?_
    (repeat' (first|refine swp_seq [0,1,2,4,5,6,7,8,9,10,11,13,14,15,16,18,27,45,68,70,71,72,73,77,78,79,80,117,132,153,155,156,157,167] ?_|refine st2 ?_|(show CallQ ..;first|refine cQ (fun hcc=>(by first | exact awake37_f _ | exact cf _)) ?_|(refine lP ?_;refine lQ (fun hcc m=>(by first | exact awake37_f _ | exact cf _)) ?_))|(show XCallQ ..;first|refine xQ (fun hcc=>(by first | exact awake37_f _ | exact cf _)) ?_|(refine xlP ?_;refine xlQ (fun hcc m=>(by first | exact awake37_f _ | exact cf _)) ?_))|refine fctI fun hf=>?_|(show CondG ..;first|refine cBG (fun hc=>?_) (fun hc=>?_)|refine cUG ?_ ?_)))
    exact DVR
  have cl := fun m => sLevels_f n ss m no hs
  have cp := fun m => sPeaks_f n ss m no hs
  by_cases h0 : (LevsR n ss).2 = 0
  case neg =>
    rw [show PeaksR n ss = ([], (LevsR n ss).2) from if_pos h0] at cp
    have h14 : ¬ (LevsR n ss).2 = 14 := by
      unfold LevsR
      split
      · show ¬ (1 : Int) = 14; decide
      split
      · show ¬ (4 : Int) = 14; decide
      · show ¬ (0 : Int) = 14; decide
    generalize (LevsR n ss).2 = e at *
    generalize (LevsR n ss).1 = L at *
    (have := Nonempty.intro n20)
    (have := Nonempty.intro h0)
    (have := Nonempty.intro h14)
    refine pureC (n := 169) (rs := [.tmp 4]) (ts := [4]) Tryz.func8 rfl (by decide) [] (by (exact SD)) ?_
    (repeat' (first|refine swp_seq [0,1,2,4,5,6,7,8,9,10,11,13,14,15,16,18,27,45,68,70,71,72,73,77,78,79,80,117,132,153,155,156,157,167] ?_|refine st2 ?_|(show CallQ ..;first|refine cQ (fun hcc=>(by first | exact awake37_f _ | exact cf _ | exact cl _ | exact cp _)) ?_|(refine lP ?_;refine lQ (fun hcc m=>(by first | exact awake37_f _ | exact cf _ | exact cl _ | exact cp _)) ?_))|(show XCallQ ..;first|refine xQ (fun hcc=>(by first | exact awake37_f _ | exact cf _ | exact cl _ | exact cp _)) ?_|(refine xlP ?_;refine xlQ (fun hcc m=>(by first | exact awake37_f _ | exact cf _ | exact cl _ | exact cp _)) ?_))|refine fctI fun hf=>?_|(show CondG ..;first|refine cBG (fun hc=>?_) (fun hc=>?_)|refine cUG ?_ ?_)))
    exact DVR
  obtain ⟨nb, hall, h10, eL⟩ := LevsR_0 h0
  rw [show PeaksR n ss = if ss.length = 0 then ([], 14) else (peaksL n ss ss.length, 0) from if_neg (fun c => c h0)] at cp
  rw [h0, eL] at cl
  have hLl : (levsL n ss).length = ss.length := List.length_map ..
  by_cases hz : ss.length = 0
  · rw [if_pos hz] at cp
    generalize levsL n ss = L at *
    (have := Nonempty.intro n20)
    refine pureC (n := 169) (rs := [.tmp 4]) (ts := [4]) Tryz.func8 rfl (by decide) [] (by (exact SD)) ?_
    (repeat' (first|refine swp_seq [0,1,2,4,5,6,7,8,9,10,11,13,14,15,16,18,27,45,68,70,71,72,73,77,78,79,80,117,132,153,155,156,157,167] ?_|refine st2 ?_|(show CallQ ..;first|refine cQ (fun hcc=>(by first | exact awake37_f _ | exact cf _ | exact cl _ | exact cp _)) ?_|(refine lP ?_;refine lQ (fun hcc m=>(by first | exact awake37_f _ | exact cf _ | exact cl _ | exact cp _)) ?_))|(show XCallQ ..;first|refine xQ (fun hcc=>(by first | exact awake37_f _ | exact cf _ | exact cl _ | exact cp _)) ?_|(refine xlP ?_;refine xlQ (fun hcc m=>(by first | exact awake37_f _ | exact cf _ | exact cl _ | exact cp _)) ?_))|refine fctI fun hf=>?_|(show CondG ..;first|refine cBG (fun hc=>?_) (fun hc=>?_)|refine cUG ?_ ?_)))
    exact DVR
  rw [if_neg hz] at cp
  have hpre : (ss.take (1 + ss.length / 2)).length = 1 + ss.length / 2 := by rw [List.length_take]; omega
  have c0 : (LevsR n (ss.take (1 + ss.length / 2))) = (levsL n (ss.take (1 + ss.length / 2)), 0) := by
    unfold LevsR
    rw [if_neg, if_neg (by omega)]
    rintro (h | h)
    · rw [nb] at h; cases h
    · obtain ⟨s, hs2, e⟩ := List.any_eq_true.1 h
      rw [nb, hall s (List.mem_of_mem_take hs2)] at e; cases e
  have cq := fun m => sPeaks_f n (ss.take (1 + ss.length / 2)) m no ⟨by omega, fun x hx => hs.2 x (List.mem_of_mem_take hx)⟩
  rw [show PeaksR n (ss.take (1 + ss.length / 2)) = (peaksL n ss (1 + ss.length / 2), 0) by
    unfold PeaksR
    rw [c0, if_neg (fun c => c rfl), if_neg (by omega), hpre]
    unfold peaksL
    congr 1
    exact List.map_congr_left fun i _ => peak_take (by omega) _ (Nat.le_refl _)] at cq
  obtain ⟨H, hH⟩ : ∃ H : Nat, ss.length / 2 = H := ⟨_, rfl⟩
  obtain ⟨K, hK⟩ : ∃ K : Nat, 1 + H = K := ⟨_, rfl⟩
  rw [hH, hK] at cq hpre
  haveI : DivOk (ss.length : Int) 2 (H : Int) := ⟨by rw [Int.tdiv_eq_ediv_of_nonneg (by omega), i64w (by omega)]; omega⟩
  haveI : AddOk 1 (H : Int) (K : Int) := ⟨by rw [i64w (by omega)]; omega⟩
  have hKs : (K : Int) <= (ss.length : Int) := by omega
  have hrow := fun j hj => peak_rows (n := n) (ss := ss) nb hall (j := j) hj
  have hhit := fun i hi => peak_some (n := n) (ss := ss) hz (i := i) hi
  have hPl : (peaksL n ss ss.length).length = n.nodes.length := peaks_len
  have hQl : (peaksL n ss K).length = n.nodes.length := peaks_len
  have hQP : ∀ i, i < n.nodes.length -> ¬ (peaksL n ss ss.length).getD i default < (peaksL n ss K).getD i default := fun i hi => by
    rw [peaks_at hi, peaks_at hi]
    have := peak_mono (n := n) (ss := ss) (i := i) (j := K) ss.length (by omega)
    omega
  clear hall c0
  generalize levsL n ss = L at *
  generalize peaksL n ss ss.length = P at *
  generalize peaksL n ss K = Q at *
  have e1 : (L.length : Int) = (ss.length : Int) := by omega
  have e3 : (P.length : Int) = (n.nodes.length : Int) := by omega
  have e4 : (Q.length : Int) = (P.length : Int) := by omega
  (have := Nonempty.intro n20)
  (have := Nonempty.intro e1)
  (have := Nonempty.intro e3)
  (have := Nonempty.intro e4)
  (have := Nonempty.intro hKs)
  refine pureC (n := 169) (rs := [.tmp 4]) (ts := [4]) Tryz.func8 rfl (by decide) [] (by (exact SD)) ?_
  (repeat' (first|refine swp_seq [0,1,2,4,5,6,7,8,9,10,11,13,14,15,16,18,27,45,68,70,71,72,73,77,78,79,80,117,132,153,155,156,157,167] ?_|refine st2 ?_|(show CallQ ..;first|refine cQ (fun hcc=>(by first | exact awake37_f _ | exact cf _ | exact cl _ | exact cp _)) ?_|(refine lP ?_;refine lQ (fun hcc m=>(by first | exact awake37_f _ | exact cf _ | exact cl _ | exact cp _)) ?_))|(show XCallQ ..;first|refine xQ (fun hcc=>(by first | exact awake37_f _ | exact cf _ | exact cl _ | exact cp _)) ?_|(refine xlP ?_;refine xlQ (fun hcc m=>(by first | exact awake37_f _ | exact cf _ | exact cl _ | exact cp _)) ?_))|refine fctI fun hf=>?_|(show CondG ..;first|refine cBG (fun hc=>?_) (fun hc=>?_)|refine cUG ?_ ?_)))
  refine loop_swp [1, 2, 5, 7, 70, 71, 72] [0] 416 (fun q A H => ∃ i : Nat, i <= n.nodes.length /\ q = n.nodes.length - i /\ A = [(1, staL ss), (2, .ptr 0 0), (5, intss L), (7, ints P), (70, nodeL n.nodes), (71, li n.nodes.length), (72, li i)] /\ H = [(0, .blk 25 (netC n))]) (by omega) ?_ ?_ ?_
  · rintro q A H ⟨i, g1, g2, rfl, rfl⟩
    exact ⟨by (exact SD), by (exact SD)⟩
  · refine ⟨_, 0, by omega, rfl, ?_, ?_⟩
    · exact DVR
    · exact DVR
  rintro q A H ⟨i, g1, g2, rfl, rfl⟩
  by_cases hi : i < n.nodes.length
  · have hi3 : (i : Int) < (n.nodes.length : Int) := by omega
    have hiP : i < P.length := by omega
    have hit := hhit i hi
    (have := Nonempty.intro hi)
    (have := Nonempty.intro hi3)
    (have := Nonempty.intro hiP)
    (repeat' (first|refine swp_seq [0,1,2,4,5,6,7,8,9,10,11,13,14,15,16,18,27,45,68,70,71,72,73,77,78,79,80,117,132,153,155,156,157,167] ?_|refine st2 ?_|refine fctI fun hf=>?_|(show CondG ..;first|refine cBG (fun hc=>?_) (fun hc=>?_)|refine cUG ?_ ?_)))
    refine loop_swp [1, 2, 5, 7, 9, 10, 11, 70, 71, 72, 77, 78, 79] [0, 448] 504 (fun q A H => ∃ j : Nat, j <= L.length /\ q = L.length - j /\ A = [(1, staL ss), (2, .ptr 0 0), (5, intss L), (7, ints P), (9, li i), (10, .ptr 448 0), (11, lb ((L.take j).any fun v => decide (v.getD i default = P.getD i default))), (70, nodeL n.nodes), (71, li n.nodes.length), (72, li i), (77, intss L), (78, li L.length), (79, li j)] /\ H = [(0, .blk 25 (netC n)), (448, .blk 46 (nodeC (n.nodes.getD i default)))]) (by omega) ?_ ?_ ?_
    · rintro q A H ⟨j, k1, k2, rfl, rfl⟩
      exact ⟨by (exact SD), by (exact SD)⟩
    · refine ⟨_, 0, by omega, rfl, ?_, ?_⟩
      · exact DVR
      · exact DVR
    rintro q A H ⟨j, k1, k2, rfl, rfl⟩
    by_cases hj : j < L.length
    · have hj3 : (j : Int) < (L.length : Int) := by omega
      obtain ⟨v1, v2⟩ := hrow j (by omega)
      obtain ⟨b1, b2, b3⟩ := v2 i hi
      have hnx := any_take (fun v : List Int => decide (v.getD i default = P.getD i default)) hj
      clear hrow hhit hQP v2
      generalize (L.take j).any (fun v => decide (v.getD i default = P.getD i default)) = RJ at *
      (have := Nonempty.intro hj)
      (have := Nonempty.intro hj3)
      have hiV : i < (L.getD j default).length := by omega
      have v3 : ((L.getD j default).length : Int) = (n.nodes.length : Int) := by omega
      have b4 : ¬ (L.getD j default).getD i default < (n.nodes.getD i default).inv := by omega
      have b5 : ¬ (n.nodes.getD i default).gnd < (L.getD j default).getD i default := by omega
      have b6 : ¬ P.getD i default < (L.getD j default).getD i default := by omega
      (have := Nonempty.intro hiV)
      (have := Nonempty.intro v3)
      (have := Nonempty.intro b4)
      (have := Nonempty.intro b5)
      (have := Nonempty.intro b6)
      by_cases he : (L.getD j default).getD i default = P.getD i default
      · rw [decide_eq_true he, Bool.or_true] at hnx
        (have := Nonempty.intro he)
        cases RJ
        · (repeat' (first|refine swp_seq [0,1,2,4,5,6,7,8,9,10,11,13,14,15,16,18,27,45,68,70,71,72,73,77,78,79,80,117,132,153,155,156,157,167] ?_|refine st2 ?_|refine fctI fun hf=>?_|(show CondG ..;first|refine cBG (fun hc=>?_) (fun hc=>?_)|refine cUG ?_ ?_)))
          (refine lN [0, 448] ?_)
          exact ⟨_, by omega, j + 1, by omega, rfl, by rw [hnx] <;> rfl, rfl⟩
        · (repeat' (first|refine swp_seq [0,1,2,4,5,6,7,8,9,10,11,13,14,15,16,18,27,45,68,70,71,72,73,77,78,79,80,117,132,153,155,156,157,167] ?_|refine st2 ?_|refine fctI fun hf=>?_|(show CondG ..;first|refine cBG (fun hc=>?_) (fun hc=>?_)|refine cUG ?_ ?_)))
          (refine lN [0, 448] ?_)
          exact ⟨_, by omega, j + 1, by omega, rfl, by rw [hnx] <;> rfl, rfl⟩
      · rw [decide_eq_false he, Bool.or_false] at hnx
        (have := Nonempty.intro he)
        cases RJ
        · (repeat' (first|refine swp_seq [0,1,2,4,5,6,7,8,9,10,11,13,14,15,16,18,27,45,68,70,71,72,73,77,78,79,80,117,132,153,155,156,157,167] ?_|refine st2 ?_|refine fctI fun hf=>?_|(show CondG ..;first|refine cBG (fun hc=>?_) (fun hc=>?_)|refine cUG ?_ ?_)))
          (refine lN [0, 448] ?_)
          exact ⟨_, by omega, j + 1, by omega, rfl, by rw [hnx] <;> rfl, rfl⟩
        · (repeat' (first|refine swp_seq [0,1,2,4,5,6,7,8,9,10,11,13,14,15,16,18,27,45,68,70,71,72,73,77,78,79,80,117,132,153,155,156,157,167] ?_|refine st2 ?_|refine fctI fun hf=>?_|(show CondG ..;first|refine cBG (fun hc=>?_) (fun hc=>?_)|refine cUG ?_ ?_)))
          (refine lN [0, 448] ?_)
          exact ⟨_, by omega, j + 1, by omega, rfl, by rw [hnx] <;> rfl, rfl⟩
    obtain rfl : j = L.length := by omega
    have hj3 : ¬ ((L.length : Int) < (L.length : Int)) := by omega
    rw [List.take_length, hit]
    (have := Nonempty.intro hj3)
    clear hrow hhit hQP
    (repeat' (first|refine swp_seq [0,1,2,4,5,6,7,8,9,10,11,13,14,15,16,18,27,45,68,70,71,72,73,77,78,79,80,117,132,153,155,156,157,167] ?_|refine st2 ?_|refine fctI fun hf=>?_|(show CondG ..;first|refine cBG (fun hc=>?_) (fun hc=>?_)|refine cUG ?_ ?_)))
    (refine lN [0] ?_)
    exact ⟨_, by omega, i + 1, by omega, rfl, rfl, rfl⟩
  obtain rfl : i = n.nodes.length := by omega
  have hi3 : ¬ ((n.nodes.length : Int) < (n.nodes.length : Int)) := by omega
  (have := Nonempty.intro hi3)
  clear hrow hhit
  (repeat' (first|refine swp_seq [0,1,2,4,5,6,7,8,9,10,11,13,14,15,16,18,27,45,68,70,71,72,73,77,78,79,80,117,132,153,155,156,157,167] ?_|refine st2 ?_|(show CallQ ..;first|refine cQ (fun hcc=>(by first | exact cq _)) ?_|(refine lP ?_;refine lQ (fun hcc m=>(by first | exact cq _)) ?_))|(show XCallQ ..;first|refine xQ (fun hcc=>(by first | exact cq _)) ?_|(refine xlP ?_;refine xlQ (fun hcc m=>(by first | exact cq _)) ?_))|refine fctI fun hf=>?_|(show CondG ..;first|refine cBG (fun hc=>?_) (fun hc=>?_)|refine cUG ?_ ?_)))
  refine loop_swp [7, 14, 155, 156] [] 1 (fun q A H => ∃ i : Nat, i <= n.nodes.length /\ q = n.nodes.length - i /\ A = [(7, ints P), (14, ints Q), (155, li n.nodes.length), (156, li i)] /\ H = []) (by omega) ?_ ?_ ?_
  · rintro q A H ⟨i, g1, g2, rfl, rfl⟩
    exact ⟨by (exact SD), by (exact SD)⟩
  · refine ⟨_, 0, by omega, rfl, ?_, ?_⟩
    · rw [<- hQl]; exact DVR
    · exact DVR
  rintro q A H ⟨i, g1, g2, rfl, rfl⟩
  by_cases hi : i < n.nodes.length
  · have hi4 : (i : Int) < (n.nodes.length : Int) := by omega
    have hiP : i < P.length := by omega
    have hiQ : i < Q.length := by omega
    have hqp := hQP i hi
    (have := Nonempty.intro hi4)
    (have := Nonempty.intro hiP)
    (have := Nonempty.intro hiQ)
    (have := Nonempty.intro hqp)
    clear hQP
    (repeat' (first|refine swp_seq [0,1,2,4,5,6,7,8,9,10,11,13,14,15,16,18,27,45,68,70,71,72,73,77,78,79,80,117,132,153,155,156,157,167] ?_|refine st2 ?_|refine fctI fun hf=>?_|(show CondG ..;first|refine cBG (fun hc=>?_) (fun hc=>?_)|refine cUG ?_ ?_)))
    (refine lN [] ?_)
    exact ⟨_, by omega, i + 1, by omega, rfl, rfl, rfl⟩
  obtain rfl : i = n.nodes.length := by omega
  clear hQP
  (repeat' (first|refine swp_seq [0,1,2,4,5,6,7,8,9,10,11,13,14,15,16,18,27,45,68,70,71,72,73,77,78,79,80,117,132,153,155,156,157,167] ?_|refine st2 ?_|refine fctI fun hf=>?_|(show CondG ..;first|refine cBG (fun hc=>?_) (fun hc=>?_)|refine cUG ?_ ?_)))
  exact DVR

end Go.Proofs.YthacnhidipeckaaGreat
