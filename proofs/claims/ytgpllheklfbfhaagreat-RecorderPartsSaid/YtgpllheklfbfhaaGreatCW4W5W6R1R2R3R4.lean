/-
  Contracts of functions of the program, over the engine.
  No condition.
-/
import Derived.Test.YtgpllheklfbfhaaGreatCKSK1K2K3K5K4W0W1W2W3
import Derived.Test.YtgpllheklfbfhaaGreatCN0N1NBNmT1T2T2eT3
namespace Go.Proofs.YtgpllheklfbfhaaGreat
open Go.Eng
set_option linter.all false
attribute [local irreducible] DCallsG SWp Fct CallQ XCallQ LCallQ XLCallQ drun xrun
set_option maxHeartbeats 64000000

theorem placed_f (hi lo : Nat) (m : Nat) (h1 : hi < 72057594037927936) (h2 : lo < 18446744073709551616) : Pu 231 [nmD hi lo false] m (.tup [wdD (hi * 16 + lo / 1152921504606846976) (lo % 1152921504606846976), li 0]) := by
  have h0 : ¬ ((72057594037927936 : Int) < (hi : Int)) := by omega
  have h3 : ¬ ((hi : Int) = 72057594037927936) := by omega
  (have:=NeI h0);(have:=NeI h3);have e1 := shl_four hi (by omega);have e2 := shr_60 lo;have e3 := or_four hi (lo / 1152921504606846976) (by omega) (by omega);have e4 := mask60 (lo : Int);have e5 : (lo : Int) % 1152921504606846976 = ((lo % 1152921504606846976 : Nat) : Int) := by omega
  have b1 : hi * 16 + lo / 1152921504606846976 < 9223372036854775808 := by omega
  have b2 : lo % 1152921504606846976 < 9223372036854775808 := by omega
  refine pcN 56 [.cell 2 246,.tmp 3] [246,45] Tryz.func231 rfl [] ?_;(repeat' first|(show SWp _ _ _ (.seq (.block 0 _) _) _ _ _ _;refine (stop_in ?_))|(show SWp _ _ _ (.region _ _ true) _ _ _ _;refine xG mixed [16] ?_)|refine stW [0,1,2,3,4,5,23,37,44] ?_|refine fctI fun hf=>?_|refine twI (fun hc=>?_) fun hc=>?_);refine stop_out ?_;rw [e1, e2, e3, e4, e5];generalize hi * 16 + lo / 1152921504606846976 = H at *
  generalize lo % 1152921504606846976 = L at *
  repeat rw [i64w (by omega)]
  (repeat' first|(show SWp _ _ _ (.region _ _ true) _ _ _ _;refine xG mixed [16] ?_)|refine stW [0,1,2,3,4,5,23,37,44] ?_|refine fctI fun hf=>?_|refine twI (fun hc=>?_) fun hc=>?_);exact DVR
theorem valid_f (h l : Nat) (m : Nat) (h1 : h < 1152921504606846976) (h2 : l < 1152921504606846976) : Pu 232 [wdD h l] m (lb true) := by
  have a1 : (-1152921504606846976 : Int) <= (h : Int) := by omega
  have a2 : (h : Int) < 1152921504606846976 := by omega
  have a3 : (0 : Int) <= (l : Int) := by omega
  have a4 : (l : Int) < 1152921504606846976 := by omega
  (have:=NeI a1);(have:=NeI a2);(have:=NeI a3);(have:=NeI a4);refine pcN 21 [.tmp 2] [4] Tryz.func232 rfl [] ?_;(repeat' first|refine stW [0,1,2] ?_|refine fctI fun hf=>?_|refine twI (fun hc=>?_) fun hc=>?_);exact DVR
theorem value_f (h l : Nat) (m : Nat) (h1 : h < 1152921504606846976) (h2 : l < 1152921504606846976) : Pu 234 [wdD h l] m (nmD (h / 16) (h % 16 * 1152921504606846976 + l) false) := by
  have a1 : (0 : Int) <= (h : Int) := by omega
  (have:=NeI a1);have e1 := shr_four h;have e2 := shl_60 h;have e3 := or_top (h % 16) l h2 (by omega);have e4 := u64n l (by omega);refine pcN 37 [.cell 2 213] [213] Tryz.func234 rfl [] ?_;(repeat' first|(show SWp _ _ _ (.seq (.region 3 _ _) _) _ _ _ _;refine (stop_in ?_))|refine stW [0,1,2,3,4,5,6,16] ?_|(show CallQ ..;first|refine cQ (fun hcc=>(by first | exact size_f _ _ (by omega))) ?_|(refine lP ?_;refine lQ (fun hcc m=>(by first | exact size_f _ _ (by omega))) ?_))|refine fctI fun hf=>?_|refine twI (fun hc=>?_) fun hc=>?_);refine stop_out ?_;rw [e1, e2];generalize h / 16 = H at *
  generalize hY : h % 16 = Y at *
  have hY16 : Y < 16 := by omega
  obtain ⟨X, hX⟩ : ∃ X, Y * 1152921504606846976 = X := ⟨_, rfl⟩;rw [hX] at e3 ⊢;(repeat' first|refine stW [0,1,2,3,4,5,6,16] ?_|refine fctI fun hf=>?_|refine twI (fun hc=>?_) fun hc=>?_);(refine DVQ ?_);rw [e4, e3]; rfl
theorem minus0_f (m : Nat) : Pu 235 [nmD 0 0 false] m (nmD 0 0 false) := by
  have cs := fun m => signedT_f 0 0 m
  refine pcN 11 [.cell 2 213] [213] Tryz.func235 rfl [] ?_;(repeat' first|refine stW [0,1,2] ?_|refine fctI fun hf=>?_|refine twI (fun hc=>?_) fun hc=>?_);exact DVR
theorem minus_f (hi lo : Nat) (m : Nat) (h : 0 < hi ∨ 0 < lo) : Pu 235 [nmD hi lo false] m (nmD hi lo true) := by
  have cs := fun m => signedT_f hi lo m
  have e : (decide (0 < hi) || decide (0 < lo)) = true := by
    rcases h with h | h
    · rw [decide_eq_true h]; rfl
    · rw [decide_eq_true h, Bool.or_true]
  rw [e] at cs;refine pcN 11 [.cell 2 213] [213] Tryz.func235 rfl [] ?_;(repeat' first|refine stW [0,1,2] ?_|refine fctI fun hf=>?_|refine twI (fun hc=>?_) fun hc=>?_);exact DVR
theorem signedI_f (x y : Int) (m : Nat) : Pu 193 [lv (.int .u64 x), lv (.int .u64 y), lb false] m (.agg [lv (.int .u64 x), lv (.int .u64 y), lb false]) := by
  refine pcN 19 [.cell 6 213] [213] Tryz.func193 rfl [] ?_;(repeat' first|refine stW [0,1,2,6] ?_|refine fctI fun hf=>?_|refine twI (fun hc=>?_) fun hc=>?_);exact DVR
theorem sum0_f (hi lo : Nat) (m : Nat) (h1 : hi < 18446744073709551616) (h2 : lo < 18446744073709551616) : Pu 233 [nmD hi lo false, nmD 0 0 false] m (nmD hi lo false) := by
  have ca := fun m => add64_f lo 0 m h2 (by omega)
  have e1 : (lo + 0) % 18446744073709551616 = lo := by omega
  have e2 : (lo + 0) / 18446744073709551616 = 0 := by omega
  rw [e1, e2] at ca;have e3 : IntKind.u64.wrap (IntKind.u64.wrap ((hi : Int) + 0) + 0) = hi := by rw [u64w, u64w]; omega
  refine pcN 73 [.cell 4 213] [213] Tryz.func233 rfl [] ?_;(repeat' first|refine stW [0,1,2,3,4,5,6,7,8,13,51] ?_|(show CallQ ..;first|refine cQ (fun hcc=>(by exact signedI_f _ _ _)) ?_|(refine lP ?_;refine lQ (fun hcc m=>(by exact signedI_f _ _ _)) ?_))|refine fctI fun hf=>?_|refine twI (fun hc=>?_) fun hc=>?_);(refine DVQ ?_);rw [e3]; rfl
theorem sum_f (h1 l1 h2 l2 : Nat) (m : Nat) (a1 : h1 < 18446744073709551616) (a2 : l1 < 18446744073709551616) (a3 : h2 < 18446744073709551616) (a4 : l2 < 18446744073709551616) (hle : h2 * 18446744073709551616 + l2 <= h1 * 18446744073709551616 + l1) :
    Pu 233 [nmD h1 l1 false, nmD h2 l2 true] m (nmD (h1 - h2 - if l1 < l2 then 1 else 0) ((l1 + 18446744073709551616 - l2) % 18446744073709551616) false) := by
  have c1 : ¬ ((h1 : Int) < (h2 : Int)) := by omega
  (have:=NeI c1);have cs := fun m => sub64_f l1 l2 m a2 a4
  have e3 : IntKind.u64.wrap (IntKind.u64.wrap ((h1 : Int) - (h2 : Int)) - ((if l1 < l2 then 1 else 0 : Nat) : Int)) = ((h1 - h2 - if l1 < l2 then 1 else 0 : Nat) : Int) := by
    rw [u64w, u64w];split <;> omega
  by_cases c2 : (h1 : Int) = (h2 : Int)
  · have c3 : ¬ ((l1 : Int) < (l2 : Int)) := by omega
    (have:=NeI c2);(have:=NeI c3);generalize (if l1 < l2 then 1 else 0) = br at *
    generalize (l1 + 18446744073709551616 - l2) % 18446744073709551616 = lo at *
    refine pcN 73 [.cell 4 213] [213] Tryz.func233 rfl [] ?_;(repeat' first|refine stW [0,1,2,3,4,5,6,7,8,13,51] ?_|(show CallQ ..;first|refine cQ (fun hcc=>(by exact signedI_f _ _ _)) ?_|(refine lP ?_;refine lQ (fun hcc m=>(by exact signedI_f _ _ _)) ?_))|refine fctI fun hf=>?_|refine twI (fun hc=>?_) fun hc=>?_);(refine DVQ ?_);rw [e3]; rfl
  · (have:=NeI c2);generalize (if l1 < l2 then 1 else 0) = br at *
    generalize (l1 + 18446744073709551616 - l2) % 18446744073709551616 = lo at *
    refine pcN 73 [.cell 4 213] [213] Tryz.func233 rfl [] ?_;(repeat' first|refine stW [0,1,2,3,4,5,6,7,8,13,51] ?_|(show CallQ ..;first|refine cQ (fun hcc=>(by exact signedI_f _ _ _)) ?_|(refine lP ?_;refine lQ (fun hcc m=>(by exact signedI_f _ _ _)) ?_))|refine fctI fun hf=>?_|refine twI (fun hc=>?_) fun hc=>?_);(refine DVQ ?_);rw [e3]; rfl
theorem value_v (h l hi lo : Nat) (m : Nat) (h1 : h < 1152921504606846976) (h2 : l < 1152921504606846976) (e : h * 1152921504606846976 + l = hi * 18446744073709551616 + lo) (h3 : lo < 18446744073709551616) : Pu 234 [wdD h l] m (nmD hi lo false) := by
  have e1 : hi = h / 16 := by omega
  have e2 : lo = h % 16 * 1152921504606846976 + l := by omega
  rw [e1, e2];exact value_f h l m h1 h2
theorem placed_v (h l hi lo : Nat) (m : Nat) (h1 : h < 1152921504606846976) (h2 : l < 1152921504606846976) (e : h * 1152921504606846976 + l = hi * 18446744073709551616 + lo) (h3 : lo < 18446744073709551616) : Pu 231 [nmD hi lo false] m (.tup [wdD h l, li 0]) := by
  have e1 : h = hi * 16 + lo / 1152921504606846976 := by omega
  have e2 : l = lo % 1152921504606846976 := by omega
  rw [e1, e2];exact placed_f hi lo m (by omega) h3
theorem sum_v (h1 l1 h2 l2 h3 l3 : Nat) (m : Nat) (a1 : h1 < 18446744073709551616) (a2 : l1 < 18446744073709551616) (a3 : h2 < 18446744073709551616) (a4 : l2 < 18446744073709551616) (a5 : l3 < 18446744073709551616)
    (hV : h1 * 18446744073709551616 + l1 = h2 * 18446744073709551616 + l2 + (h3 * 18446744073709551616 + l3)) : Pu 233 [nmD h1 l1 false, nmD h2 l2 true] m (nmD h3 l3 false) := by
  have e1 : h3 = (h1 - h2 - if l1 < l2 then 1 else 0) := by split <;> omega
  have e2 : l3 = (l1 + 18446744073709551616 - l2) % 18446744073709551616 := by omega
  rw [e1, e2];exact sum_f h1 l1 h2 l2 m a1 a2 a3 a4 (by omega)
theorem split60 (h l : Nat) (hh : h < 1152921504606846976) (hl : l < 1152921504606846976) : ∃ hi lo, h * 1152921504606846976 + l = hi * 18446744073709551616 + lo /\ lo < 18446744073709551616 /\ hi < 72057594037927936 := ⟨h / 16, h % 16 * 1152921504606846976 + l, by omega, by omega, by omega⟩
theorem hi64 {M x y : Nat} (e : M = x * 18446744073709551616 + y) (h : y < 18446744073709551616) : M / 18446744073709551616 = x /\ M % 18446744073709551616 = y := by omega
theorem product_f (a b h l : Nat) (m : Nat) (ha : a < 9223372036854775808) (hb : b < 9223372036854775808) (hM : a * b = h * 1152921504606846976 + l) (hl : l < 1152921504606846976) (hh : h < 1152921504606846976) :
    Pu 228 [li a, li b] m (.tup [wdD h l, li 0]) := by
  have ct := fun m => times_f a b m ha hb
  obtain ⟨x, y, p1, p2, p3⟩ := split60 h l hh hl;have e := hi64 (hM.trans p1) p2;rw [e.1, e.2] at ct;have cp := fun m => placed_v h l x y m hh hl p1 p2
  clear hM e p1;refine pcN 12 [.cell 4 246,.tmp 5] [246,45] Tryz.func228 rfl [] ?_;(repeat' first|refine stW [0,1,4,5] ?_|refine fctI fun hf=>?_|refine twI (fun hc=>?_) fun hc=>?_);exact DVR
theorem wsub_s {x1 y1 x2 y2 x3 y3 h1 l1 h2 l2 h3 l3 : Nat} (hV : h1 * 1152921504606846976 + l1 = h2 * 1152921504606846976 + l2 + (h3 * 1152921504606846976 + l3)) (p1 : h1 * 1152921504606846976 + l1 = x1 * 18446744073709551616 + y1) (q1 : h2 * 1152921504606846976 + l2 = x2 * 18446744073709551616 + y2) (r1 : h3 * 1152921504606846976 + l3 = x3 * 18446744073709551616 + y3) :
    x1 * 18446744073709551616 + y1 = x2 * 18446744073709551616 + y2 + (x3 * 18446744073709551616 + y3) := by rw [<- p1, <- q1, <- r1]; exact hV
theorem int_v (h l V : Nat) (m : Nat) (hh : h < 8) (hl : l < 1152921504606846976) (e : h * 1152921504606846976 + l = V) : Pu 230 [wdD h l] m (.tup [li V, li 0]) := by
  have hb : V < 9223372036854775808 := by omega
  have cv := fun m => value_v h l 0 V m (by omega) hl (by omega) (by omega)
  have cw := fun m => whole_f V m hb
  clear e;refine pcN 20 [.tmp 2,.tmp 3] [3,45] Tryz.func230 rfl [] ?_;(repeat' first|refine stW [0,1,2,3,4,7,12] ?_|(show CallQ ..;first|refine cQ (fun hcc=>(by first | exact valid_f _ _ _ (by omega) hl | exact cw _)) ?_|(refine lP ?_;refine lQ (fun hcc m=>(by first | exact valid_f _ _ _ (by omega) hl | exact cw _)) ?_))|refine fctI fun hf=>?_|refine twI (fun hc=>?_) fun hc=>?_);exact DVR
theorem wsub_f (h1 l1 h2 l2 h3 l3 : Nat) (m : Nat) (a1 : h1 < 1152921504606846976) (a2 : l1 < 1152921504606846976) (b1 : h2 < 1152921504606846976) (b2 : l2 < 1152921504606846976) (c1 : h3 < 1152921504606846976) (c2 : l3 < 1152921504606846976)
    (hV : h1 * 1152921504606846976 + l1 = h2 * 1152921504606846976 + l2 + (h3 * 1152921504606846976 + l3)) : Pu 229 [wdD h1 l1, wdD h2 l2] m (.tup [wdD h3 l3, li 0]) := by
  obtain ⟨x1, y1, p1, p2, p3⟩ := split60 h1 l1 a1 a2;obtain ⟨x2, y2, q1, q2, q3⟩ := split60 h2 l2 b1 b2;obtain ⟨x3, y3, r1, r2, r3⟩ := split60 h3 l3 c1 c2;have cv1 := fun m => value_v h1 l1 x1 y1 m a1 a2 p1 p2
  have cv2 := fun m => value_v h2 l2 x2 y2 m b1 b2 q1 q2
  have cv3 := fun m => valid_f h1 l1 m a1 a2
  have cv4 := fun m => valid_f h2 l2 m b1 b2
  have cp := fun m => placed_v h3 l3 x3 y3 m c1 c2 r1 r2
  have hS := wsub_s hV p1 q1 r1;clear hV p1 q1 r1;by_cases hz : x2 = 0 /\ y2 = 0
  · obtain ⟨rfl, rfl⟩ := hz;have z1 : x1 = x3 := by omega
    have z2 : y1 = y3 := by omega
    have cs := fun m => sum0_f x1 y1 m (by omega) p2
    have cm := fun m => minus0_f m
    rw [<- z1, <- z2] at cp;clear hS z1 z2;refine pcN 24 [.cell 4 246,.tmp 5] [246,45] Tryz.func229 rfl [] ?_;(repeat' first|(show SWp _ _ _ (.region _ _ true) _ _ _ _;refine xG mixed [16, 1000001, 1000003, 1000004, 1000005, 1000006] ?_)|refine stW [0,1,2,3,4,5,13] ?_|refine fctI fun hf=>?_|refine twI (fun hc=>?_) fun hc=>?_);exact DVR
  · have cm := fun m => minus_f x2 y2 m (by omega)
    have cs := fun m => sum_v x1 y1 x2 y2 x3 y3 m (by omega) p2 (by omega) q2 r2 hS
    clear hS;refine pcN 24 [.cell 4 246,.tmp 5] [246,45] Tryz.func229 rfl [] ?_;(repeat' first|(show SWp _ _ _ (.region _ _ true) _ _ _ _;refine xG mixed [16, 1000001, 1000003, 1000004, 1000005, 1000006] ?_)|refine stW [0,1,2,3,4,5,13] ?_|refine fctI fun hf=>?_|refine twI (fun hc=>?_) fun hc=>?_);exact DVR
attribute [push_cast] Int.add_sub_cancel
def knX (t : List Knot) (x : Int) : Nat := t.findIdx fun k => decide (x <= k.x)
def floorT (t : List Knot) (x : Int) : Int :=
  if (knX t x < t.length /\ (t.getD (knX t x) default).x = x) ∨ knX t x = 0 then (t.getD (knX t x) default).y
  else if knX t x = t.length then (t.getD (knX t x - 1) default).y
  else (t.getD (knX t x - 1) default).y + ((t.getD (knX t x) default).y - (t.getD (knX t x - 1) default).y) * (x - (t.getD (knX t x - 1) default).x) / ((t.getD (knX t x) default).x - (t.getD (knX t x - 1) default).x)
theorem fitsB_iff {n : Int} (h : fitsB n = true) : -1125899906842624 <= n /\ n <= 1125899906842624 := by
  unfold fitsB at h; simpa using h
theorem tab_in {t : List Knot} (h : tabB t = true) : 1 <= t.length /\ t.length <= 100 /\ (∀ i, i < t.length -> (-1125899906842624 <= (t.getD i default).x /\ (t.getD i default).x <= 1125899906842624) /\ (-1125899906842624 <= (t.getD i default).y /\ (t.getD i default).y <= 1125899906842624)) /\
    ∀ i, i + 1 < t.length -> (t.getD i default).x < (t.getD (i + 1) default).x /\ (t.getD i default).y <= (t.getD (i + 1) default).y := by
  unfold tabB at h;simp only [Bool.and_eq_true, decide_eq_true_eq, List.all_eq_true, List.mem_range] at h;obtain ⟨⟨h1, h2⟩, h3⟩ := h;refine ⟨h1, h2, fun i hi => ?_, fun i hi => ?_⟩
  · have := h3 i hi;unfold tabR at this;simp only [Bool.and_eq_true] at this;exact ⟨fitsB_iff this.1.1, fitsB_iff this.1.2⟩
  · have := h3 (i + 1) hi;unfold tabR at this;simp only [Bool.and_eq_true, Bool.or_eq_true, decide_eq_true_eq, Nat.add_sub_cancel] at this;rcases this.2 with h | h
    · omega
    · exact h
theorem tab_mono2 {t : List Knot} (h : tabB t = true) : ∀ j i, i <= j -> j < t.length -> (t.getD i default).x <= (t.getD j default).x /\ (t.getD i default).y <= (t.getD j default).y := by
  intro j;induction j with
  | zero =>
    intro i hi hj;have e : i = 0 := by omega
    rw [e]; exact ⟨Int.le_refl _, Int.le_refl _⟩
  | succ j ih =>
    intro i hi hj;by_cases e : i = j + 1
    · subst e; exact ⟨Int.le_refl _, Int.le_refl _⟩
    · have h1 := ih i (by omega) (by omega);have h2 := (tab_in h).2.2.2 j hj;omega
theorem knX_le (t : List Knot) (x : Int) : knX t x <= t.length := List.findIdx_le_length
theorem knX_lo {t : List Knot} {x : Int} {j : Nat} (hj : j < knX t x) : (t.getD j default).x < x := by
  have hl : j < t.length := Nat.lt_of_lt_of_le hj (knX_le t x);have h1 := List.not_of_lt_findIdx hj;have e : t.getD j default = t[j] := by rw [List.getD_eq_getElem?_getD, List.getElem?_eq_getElem hl]; rfl
  rw [e];have h2 := of_decide_eq_false h1;omega
theorem knX_hi {t : List Knot} {x : Int} {j : Nat} (h : tabB t = true) (hj : knX t x <= j) (hl : j < t.length) : x <= (t.getD j default).x := by
  have hk : knX t x < t.length := by omega
  have h1 := List.findIdx_getElem (xs := t) (p := fun k : Knot => decide (x <= k.x)) (w := hk);have h2 := tab_mono2 h j (knX t x) hj hl;have e : (t.getD (knX t x) default) = t[knX t x] := by rw [List.getD_eq_getElem?_getD, List.getElem?_eq_getElem hk]; rfl
  rw [e] at h2;have : x <= t[knX t x].x := of_decide_eq_true h1;omega
theorem half_n (s : Nat) (h : s < 9223372036854775808) : IntKind.i64.wrap ((IntKind.u64.wrap (s : Int)).fdiv (2 ^ min 1 IntKind.u64.bits)) = ((s / 2 : Nat) : Int) := by
  have e : s / 2 ^ 1 = s / 2 := rfl;rw [u64n s (by omega), shr64 s 1 (by omega), e];exact i64w (by omega)
theorem cmpI_lt {a x : Int} (h : a < x) : cmpI a x = -1 := if_pos h
theorem cmpI_ge {a x : Int} (h : ¬ a < x) : ¬ cmpI a x < 0 := by
  unfold cmpI; rw [if_neg h]; split <;> omega
theorem cmpI_eq (a x : Int) : decide (cmpI a x = 0) = decide (a = x) := by
  unfold cmpI;split
  · rw [decide_eq_false (by omega), decide_eq_false (by omega)]
  · split
    · rw [decide_eq_false (by omega), decide_eq_false (by omega)]
    · rw [decide_eq_true (by omega), decide_eq_true (by omega)]
set_option maxRecDepth 20000 in
theorem bin_f (t : List Knot) (x : Int) (m : Nat) (h : tabB t = true) : Pu 226 [knotL t, li x, .clo 227 []] m (.tup [li (knX t x), lb (decide (knX t x < t.length /\ (t.getD (knX t x) default).x = x))]) := by
  have hlen := (tab_in h).2.1;have hk := knX_le t x;have hlo := fun j => knX_lo (t := t) (x := x) (j := j)
  have hhi := fun j => knX_hi (t := t) (x := x) (j := j) h
  generalize knX t x = k at *
  refine pcN 49 [.tmp 6,.tmp 7] [3,4] Tryz.func226 rfl [] ?_;(repeat' first|(show SWp _ _ _ (.seq (.block 0 _) _) _ _ _ _;refine (stop_in ?_))|refine stW [0,1,2,6,7,8,9,10,11,17,31] ?_|refine fctI fun hf=>?_|refine twI (fun hc=>?_) fun hc=>?_);refine stop_out ?_;refine swp_mid [0, 1, 2, 8, 9] [] 0 (fun A H => A = [(0, knotL t), (1, li x), (2, .clo 227 []), (8, li t.length), (9, li k)] /\ H = []) (by omega) ?_ ?_ ?_
  · rintro A H ⟨rfl, rfl⟩;exact SDD
  · (repeat' first|refine stW [0,1,2,6,7,8,9,10,11,17,31] ?_|refine fctI fun hf=>?_|refine twI (fun hc=>?_) fun hc=>?_);refine loop_swp [0, 1, 2, 8, 9, 10] [] 0 (fun q A H => ∃ i j : Nat, i <= k /\ k <= j /\ j <= t.length /\ q = j - i /\ A = [(0, knotL t), (1, li x), (2, .clo 227 []), (8, li t.length), (9, li i), (10, li j)] /\ H = []) (by omega) ?_ ?_ ?_
    · rintro q A H ⟨i, j, g1, g2, g3, g4, rfl, rfl⟩;exact SDD
    · refine ⟨_, 0, t.length, by omega, by omega, by omega, rfl, ?_, ?_⟩
      · exact DVR
      · exact DVR
    rintro q A H ⟨i, j, g1, g2, g3, g4, rfl, rfl⟩;by_cases hij : (i : Int) < (j : Int)
    · (have:=NeI hij);(repeat' first|(show SWp _ _ _ (.seq (.region 5 _ _) _) _ _ _ _;refine (stop_in ?_))|refine stW [0,1,2,6,7,8,9,10,11,17,31] ?_|refine fctI fun hf=>?_|refine twI (fun hc=>?_) fun hc=>?_);refine stop_out ?_;have eS : ((i : Int) + (j : Int)) = ((i + j : Nat) : Int) := by omega
      rw [eS, half_n (i + j) (by omega)];obtain ⟨mm, hmm⟩ : ∃ mm, (i + j) / 2 = mm := ⟨_, rfl⟩;rw [hmm];have hm1 : i <= mm /\ mm < j := by omega
      clear eS hmm;have hml : mm < t.length := by omega
      have hml3 : (mm : Int) < (t.length : Int) := by omega
      (have:=NeI hml);(have:=NeI hml3);have cm := fun m => cmp_f (t.getD mm default) x m
      by_cases hx : (t.getD mm default).x < x
      · rw [cmpI_lt hx] at cm;have hkm : mm < k := Nat.lt_of_not_le fun q => by have := hhi mm q hml; omega
        (repeat' first|refine stW [0,1,2,6,7,8,9,10,11,17,31] ?_|refine fctI fun hf=>?_|refine twI (fun hc=>?_) fun hc=>?_);(refine lN [] ?_);exact ⟨_, by omega, mm + 1, j, by omega, g2, g3, rfl, rfl, rfl⟩
      · have hc0 := cmpI_ge hx;generalize cmpI (t.getD mm default).x x = cc at *
        (have:=NeI hc0);have hkm : k <= mm := Nat.le_of_not_lt fun q => hx (hlo mm q)
        (repeat' first|refine stW [0,1,2,6,7,8,9,10,11,17,31] ?_|refine fctI fun hf=>?_|refine twI (fun hc=>?_) fun hc=>?_);(refine lN [] ?_);exact ⟨_, by omega, i, mm, g1, hkm, by omega, rfl, rfl, rfl⟩
    · (have:=NeI hij);(repeat' first|refine stW [0,1,2,6,7,8,9,10,11,17,31] ?_|refine fctI fun hf=>?_|refine twI (fun hc=>?_) fun hc=>?_);have hik : i = k := by omega
      subst hik;exact midK_normal (A2 := [(0, knotL t), (1, li x), (2, .clo 227 []), (8, li t.length), (9, li i)]) (H2 := []) (by exact DVR) (by exact DVR) ⟨rfl, rfl⟩
  rintro A H ⟨rfl, rfl⟩;by_cases hkl : k < t.length
  · have hkl3 : (k : Int) < (t.length : Int) := by omega
    (have:=NeI hkl);(have:=NeI hkl3);have cm := fun m => cmp_f (t.getD k default) x m
    have e : decide (k < t.length /\ (t.getD k default).x = x) = decide (cmpI (t.getD k default).x x = 0) := by
      rw [cmpI_eq, decide_eq_decide]; exact ⟨fun q => q.2, fun q => ⟨hkl, q⟩⟩
    rw [e];(repeat' first|refine stW [0,1,2,6,7,8,9,10,11,17,31] ?_|refine fctI fun hf=>?_|refine twI (fun hc=>?_) fun hc=>?_);(refine DVQ ?_);rfl
  · have hkl3 : ¬ ((k : Int) < (t.length : Int)) := by omega
    (have:=NeI hkl3);have e : decide (k < t.length /\ (t.getD k default).x = x) = false := decide_eq_false fun q => hkl q.1
    rw [e];(repeat' first|refine stW [0,1,2,6,7,8,9,10,11,17,31] ?_|refine fctI fun hf=>?_|refine twI (fun hc=>?_) fun hc=>?_);exact DVR
theorem cut60 (M : Nat) (h : M < 1329227995784915872903807060280344576) : ∃ h l, M = h * 1152921504606846976 + l /\ l < 1152921504606846976 /\ h < 1152921504606846976 := ⟨M / 1152921504606846976, M % 1152921504606846976, by omega, by omega, by omega⟩
set_option maxRecDepth 20000 in
theorem piece_f (t : List Knot) (x : Int) (m : Nat) (h : tabB t = true) (hx : i64ok x) : ∃ r d : Int, ∀ m, Pu 225 [knotL t, li x] m (.tup [li (floorT t x), li r, li d]) := by
  have cb := fun m => bin_f t x m h
  have hlen := tab_in h;have hk := knX_le t x;have hlo := fun j => knX_lo (t := t) (x := x) (j := j)
  have hhi := fun j => knX_hi (t := t) (x := x) (j := j) h
  unfold floorT;generalize knX t x = k at *
  by_cases hf : k < t.length /\ (t.getD k default).x = x
  · rw [decide_eq_true hf] at cb;rw [if_pos (.inl hf)];have hkl := hf.1;(have:=NeI hkl);refine ⟨0, 1, fun m => ?_⟩;refine pcN 110 [.tmp 4,.tmp 5,.tmp 6] [3,3,3] Tryz.func225 rfl [] ?_;(repeat' first|refine stW [0,1,4,5,6,7,8,9,10,11,12,13,16,18,20,28,39] ?_|refine fctI fun hf=>?_|refine twI (fun hc=>?_) fun hc=>?_);exact DVR
  rw [decide_eq_false hf] at cb;by_cases hk0 : (k : Int) = 0
  · obtain rfl : k = 0 := by omega
    have hkl : 0 < t.length := by omega
    (have:=NeI hkl);rw [if_pos (.inr rfl)];refine ⟨0, 1, fun m => ?_⟩;refine pcN 110 [.tmp 4,.tmp 5,.tmp 6] [3,3,3] Tryz.func225 rfl [] ?_;(repeat' first|refine stW [0,1,4,5,6,7,8,9,10,11,12,13,16,18,20,28,39] ?_|refine fctI fun hf=>?_|refine twI (fun hc=>?_) fun hc=>?_);exact DVR
  rw [if_neg (by rintro (q | q); exact hf q; omega)];obtain ⟨j, rfl⟩ : ∃ j, k = j + 1 := ⟨k - 1, by omega⟩;rw [Nat.add_sub_cancel];have hjl : j < t.length := by omega
  have hk1 : ¬ ((j : Int) + 1 = 0) := by omega
  (have:=NeI hk1);(have:=NeI hjl);by_cases hkn : (j : Int) + 1 = (t.length : Int)
  · (have:=NeI hkn);rw [if_pos (by omega)];refine ⟨0, 1, fun m => ?_⟩;refine pcN 110 [.tmp 4,.tmp 5,.tmp 6] [3,3,3] Tryz.func225 rfl [] ?_;(repeat' first|refine stW [0,1,4,5,6,7,8,9,10,11,12,13,16,18,20,28,39] ?_|refine fctI fun hf=>?_|refine twI (fun hc=>?_) fun hc=>?_);exact DVR
  (have:=NeI hkn);rw [if_neg (by omega)];have hjl1 : j + 1 < t.length := by omega
  (have:=NeI hjl1);have b0 := hlen.2.2.1 j hjl;have b1 := hlen.2.2.1 (j + 1) hjl1;have b2 := hlen.2.2.2 j hjl1;have b3 := hlo j (by omega);have b4 : x < (t.getD (j + 1) default).x := by
    have := hhi (j + 1) (Nat.le_refl _) hjl1;have : ¬ (t.getD (j + 1) default).x = x := fun q => hf ⟨hjl1, q⟩
    omega
  clear hf hlo hhi hlen hk0;obtain ⟨U, hU⟩ : ∃ U : Nat, (t.getD (j + 1) default).y - (t.getD j default).y = (U : Int) := ⟨((t.getD (j + 1) default).y - (t.getD j default).y).toNat, by omega⟩;obtain ⟨W, hW⟩ : ∃ W : Nat, x - (t.getD j default).x = (W : Int) := ⟨(x - (t.getD j default).x).toNat, by omega⟩;obtain ⟨D, hD⟩ : ∃ D : Nat, (t.getD (j + 1) default).x - (t.getD j default).x = (D : Int) := ⟨((t.getD (j + 1) default).x - (t.getD j default).x).toNat, by omega⟩;have hD0 : 0 < D := by omega
  have hWD : W < D := by omega
  have hU1 : U <= 2251799813685248 := by omega
  have hD1 : D <= 2251799813685248 := by omega
  have hUW : U * W <= U * D := Nat.mul_le_mul_left U (by omega);have hQU : U * W / D <= U := by
    rw [Nat.div_le_iff_le_mul_add_pred hD0];rw [Nat.mul_comm D U]; omega
  have hUW2 : U * W <= 2251799813685248 * 2251799813685248 := Nat.mul_le_mul hU1 (by omega);have hdm := Nat.div_add_mod (U * W) D;have hRD := Nat.mod_lt (U * W) hD0;have hQ : (U : Int) * (W : Int) / (D : Int) = ((U * W / D : Nat) : Int) := by rw [Int.natCast_ediv, Int.natCast_mul]
  have eQ : (t.getD (j + 1) default).y - (t.getD j default).y = (U : Int) /\ x - (t.getD j default).x = (W : Int) /\ (t.getD (j + 1) default).x - (t.getD j default).x = (D : Int) := ⟨hU, hW, hD⟩;rw [hU, hW, hD, hQ];clear hQ;obtain ⟨Q, hQ⟩ : ∃ Q, U * W / D = Q := ⟨_, rfl⟩;obtain ⟨R, hR⟩ : ∃ R, U * W % D = R := ⟨_, rfl⟩;rw [hQ] at hQU hdm ⊢;rw [hR] at hdm hRD;have cs := fun m => scale_f U W D Q R m (by omega) (by omega) (by omega) hdm.symm hRD (by omega)
  obtain ⟨h1, l1, p1, p2, p3⟩ : ∃ h l, U * W = h * 1152921504606846976 + l /\ l < 1152921504606846976 /\ h < 1152921504606846976 := cut60 _ (Nat.lt_of_le_of_lt hUW2 (by decide));obtain ⟨h2, l2, q1, q2, q3⟩ : ∃ h l, D * Q = h * 1152921504606846976 + l /\ l < 1152921504606846976 /\ h < 1152921504606846976 := cut60 _ (Nat.lt_of_le_of_lt (Nat.le_trans (Nat.le.intro hdm) hUW2) (by decide));have c1 := fun m => product_f U W h1 l1 m (by omega) (by omega) p1 p2 p3
  have c2 := fun m => product_f Q D h2 l2 m (by omega) (by omega) (by rw [Nat.mul_comm]; exact q1) q2 q3
  have c3 := fun m => wsub_f h1 l1 h2 l2 0 R m p3 p2 q3 q2 (by omega) (by omega) (by omega)
  have c4 := fun m => int_v 0 R R m (by omega) (by omega) (by rw [Nat.zero_mul, Nat.zero_add])
  generalize qtR Q R true = QQ at *
  clear hdm hQ hR p1 q1 hUW hUW2;refine ⟨R, D, fun m => ?_⟩;refine pcN 110 [.tmp 4,.tmp 5,.tmp 6] [3,3,3] Tryz.func225 rfl [] ?_;(repeat' first|(show SWp _ _ _ (.seq (.region 8 _ _) _) _ _ _ _;refine (stop_in ?_))|(show SWp _ _ _ (.region _ _ true) _ _ _ _;refine xG mixed [248, 256] ?_)|refine stW [0,1,4,5,6,7,8,9,10,11,12,13,16,18,20,28,39] ?_|refine fctI fun hf=>?_|refine twI (fun hc=>?_) fun hc=>?_);refine stop_out ?_;rw [eQ.1, eQ.2.1, eQ.2.2];(repeat' first|refine stW [0,1,4,5,6,7,8,9,10,11,12,13,16,18,20,28,39] ?_|refine fctI fun hf=>?_|refine twI (fun hc=>?_) fun hc=>?_);exact DVR
theorem floor_f (t : List Knot) (x : Int) (m : Nat) (h : tabB t = true) (hx : i64ok x) : Pu 220 [knotL t, li x] m (.tup [li (floorT t x), li 0]) := by
  obtain ⟨r, d, cp⟩ := piece_f t x m h hx;have ht := fun m => tab_f t m (by have := (tab_in h).2.1; omega)
  rw [h] at ht;generalize floorT t x = F at *
  refine pcN 20 [.tmp 4,.tmp 5] [3,45] Tryz.func220 rfl [] ?_;(repeat' first|refine stW [0,1,4,5,6,11] ?_|refine fctI fun hf=>?_|refine twI (fun hc=>?_) fun hc=>?_);exact DVR
theorem floorT_in {t : List Knot} {x : Int} (h : tabB t = true) : (t.getD 0 default).y <= floorT t x /\ floorT t x <= (t.getD (t.length - 1) default).y := by
  have h1 := (tab_in h).1;have hk := knX_le t x;have hm := tab_mono2 h;unfold floorT;split
  · next q =>
    by_cases hkl : knX t x < t.length
    · exact ⟨(hm _ 0 (Nat.zero_le _) hkl).2, (hm (t.length - 1) _ (by omega) (by omega)).2⟩
    · have : knX t x = 0 := by
        rcases q with q | q
        · exact absurd q.1 hkl
        · exact q
      omega
  · next q =>
    split
    · next e =>
      rw [e];exact ⟨(hm (t.length - 1) 0 (Nat.zero_le _) (by omega)).2, Int.le_refl _⟩
    · next e =>
      have hk0 : 0 < knX t x := Nat.pos_of_ne_zero fun z => q (.inr z)
      have hkl : knX t x < t.length := by omega
      have a1 := knX_lo (t := t) (x := x) (j := knX t x - 1) (by omega);have a2 := knX_hi (t := t) (x := x) h (Nat.le_refl _) hkl;have a3 := hm (knX t x) (knX t x - 1) (by omega) hkl;have a4 := hm (knX t x - 1) 0 (Nat.zero_le _) (by omega);have a5 := hm (t.length - 1) (knX t x) (by omega) (by omega);generalize (t.getD (knX t x) default) = kb at *
      generalize (t.getD (knX t x - 1) default) = ka at *
      have hU : 0 <= kb.y - ka.y := by omega
      have hD : 0 < kb.x - ka.x := by omega
      have c1 : 0 <= (kb.y - ka.y) * (x - ka.x) / (kb.x - ka.x) := Int.ediv_nonneg (Int.mul_nonneg hU (by omega)) (by omega);have c2 : (kb.y - ka.y) * (x - ka.x) / (kb.x - ka.x) <= kb.y - ka.y := by
        have := Int.mul_le_mul_of_nonneg_left (show x - ka.x <= kb.x - ka.x by omega) hU
        calc (kb.y - ka.y) * (x - ka.x) / (kb.x - ka.x) <= (kb.y - ka.y) * (kb.x - ka.x) / (kb.x - ka.x) := Int.ediv_le_ediv hD this
          _ = kb.y - ka.y := Int.mul_ediv_cancel _ (by omega)
      omega
theorem div_step {X top a b q r bit a2 : Nat} (hX : X = top * 340282366920938463463374607431768211456 + a) (ht : top = b * q + r) (ha : 2 * a = bit * 340282366920938463463374607431768211456 + a2) : 2 * X = (b * (2 * q) + (2 * r + bit)) * 340282366920938463463374607431768211456 + a2 := by
  have e : b * (2 * q) = 2 * (b * q) := by rw [<- Nat.mul_assoc, Nat.mul_comm b 2, Nat.mul_assoc]
  rw [e, hX, ht];generalize b * q = t at *
  omega
theorem dbl_cut (h l bit : Nat) (hh : h < 18446744073709551616) (hl : l < 18446744073709551616) (hb : h / 9223372036854775808 = bit) : ∃ h2 l2, 2 * (h * 18446744073709551616 + l) + 0 = bit * 340282366920938463463374607431768211456 + (h2 * 18446744073709551616 + l2) /\ h2 < 18446744073709551616 /\ l2 < 18446744073709551616 :=
  ⟨2 * h - bit * 18446744073709551616 + l / 9223372036854775808, 2 * l % 18446744073709551616, by omega, by omega, by omega⟩
theorem top_le {A X top a i : Nat} (hi : i <= 128) (hX : X = A * 2 ^ i) (e : X = top * 340282366920938463463374607431768211456 + a) : top <= A := by
  have h1 : 2 ^ i <= 2 ^ 128 := Nat.pow_le_pow_right (by decide) hi;have h2 : A * 2 ^ i <= A * 2 ^ 128 := Nat.mul_le_mul_left A h1;have h3 : (2 : Nat) ^ 128 = 340282366920938463463374607431768211456 := by decide
  rw [h3] at h2;rw [<- hX] at h2;omega
structure DvI (A b i h l q r : Nat) : Prop where
  hh : h < 18446744073709551616
  hl : l < 18446744073709551616
  hr : r < b
  hb : b < 4611686018427387904
  hA : A < b * 4611686018427387904
  hq : q < 4611686018427387904
  ex : ∃ X, X = A * 2 ^ i /\ X = (b * q + r) * 340282366920938463463374607431768211456 + (h * 18446744073709551616 + l)
theorem DvI.init {A b h l : Nat} (hh : h < 18446744073709551616) (hl : l < 18446744073709551616) (hb : 0 < b /\ b < 4611686018427387904) (hA : A < b * 4611686018427387904) (e : h * 18446744073709551616 + l = A) : DvI A b 0 h l 0 0 :=
  ⟨hh, hl, hb.1, hb.2, hA, by decide, A, by rw [Nat.pow_zero, Nat.mul_one], by rw [Nat.mul_zero]; omega⟩
theorem q_lt {A b q r : Nat} (h : b * q + r <= A) (hA : A < b * 4611686018427387904) : q < 4611686018427387904 :=
  Nat.lt_of_mul_lt_mul_left (a := b) (Nat.lt_of_le_of_lt (Nat.le_trans (Nat.le_add_right _ _) h) hA)
theorem sub_back {b q t : Nat} (h : b <= t) : b * (q + 1) + (t - b) = b * q + t := by rw [Nat.mul_add, Nat.mul_one]; omega
theorem DvI.step {A b i h l q r : Nat} (I : DvI A b i h l q r) (hi : i < 128) : ∃ h2 l2 bit r2 q2 : Nat, (h : Int).fdiv (2 ^ min 63 IntKind.u64.bits) = (bit : Int) /\ bit <= 1 /\ h2 < 18446744073709551616 /\ l2 < 18446744073709551616 /\
    2 * (h * 18446744073709551616 + l) + 0 = bit * 340282366920938463463374607431768211456 + (h2 * 18446744073709551616 + l2) /\ 2 * r + bit = r2 /\ 2 * q = q2 /\ r2 < 9223372036854775808 /\ q2 < 9223372036854775808 /\
    (r2 < b -> DvI A b (i + 1) h2 l2 q2 r2) /\ (¬ r2 < b -> DvI A b (i + 1) h2 l2 (q2 + 1) (r2 - b)) := by
  obtain ⟨hh, hl, hr, hb, hA, hq, X, e1, e2⟩ := I;obtain ⟨bit, hbit⟩ : ∃ bit, h / 9223372036854775808 = bit := ⟨_, rfl⟩;obtain ⟨h2, l2, hs2, hh2, hl2⟩ := dbl_cut h l bit hh hl hbit;have hb1 : bit <= 1 := by clear e1 e2 hs2; omega
  have hr3 : 2 * r + bit < 9223372036854775808 := by clear e1 e2 hs2 hbit; omega
  have hq3 : 2 * q < 9223372036854775808 := by clear e1 e2 hs2 hbit; omega
  have hfd : (h : Int).fdiv (2 ^ min 63 IntKind.u64.bits) = (bit : Int) := by rw [<- hbit]; exact shr64 h 63 (by decide)
  have hs3 := hs2;rw [Nat.add_zero] at hs3;have hstep := div_step (a2 := h2 * 18446744073709551616 + l2) e2 rfl hs3;have hX2 : 2 * X = A * 2 ^ (i + 1) := by rw [e1, Nat.pow_succ, <- Nat.mul_assoc A, Nat.mul_comm 2]
  have htop := top_le (i := i + 1) (by omega) hX2 hstep;have hq2 := q_lt htop hA;refine ⟨h2, l2, bit, 2 * r + bit, 2 * q, hfd, hb1, hh2, hl2, hs2, rfl, rfl, hr3, hq3, fun hlt => ?_, fun hlt => ?_⟩
  · exact ⟨hh2, hl2, hlt, hb, hA, hq2, 2 * X, hX2, hstep⟩
  · have e3 : b * (2 * q + 1) + (2 * r + bit - b) = b * (2 * q) + (2 * r + bit) := sub_back (Nat.le_of_not_lt hlt);refine ⟨hh2, hl2, by clear e1 e2 hs2 hstep hX2 htop e3; omega, hb, hA, q_lt (r := 2 * r + bit - b) (by rw [e3]; exact htop) hA, 2 * X, hX2, by rw [e3]; exact hstep⟩
theorem DvI.fin {A b h l q r : Nat} (I : DvI A b 128 h l q r) : A = b * q + r /\ r < b := by
  obtain ⟨hh, hl, hr, hb, hA, hq, X, e1, e2⟩ := I;refine ⟨?_, hr⟩;have h3 : (2 : Nat) ^ 128 = 340282366920938463463374607431768211456 := by decide
  rw [h3] at e1;rw [e1] at e2;generalize b * q + r = t at *
  omega
attribute [push_cast] Int.zero_fdiv
end Go.Proofs.YtgpllheklfbfhaaGreat
