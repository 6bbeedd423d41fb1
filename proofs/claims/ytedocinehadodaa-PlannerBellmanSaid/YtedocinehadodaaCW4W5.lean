/-
  Contracts of functions of the program, over the engine.
  No condition.
-/
import Derived.Test.YtedocinehadodaaCW0W1W2W3
namespace Go.Proofs.Ytedocinehadodaa
open Go.Eng
set_option linter.all false
attribute [local irreducible] DCallsG SWp Fct CallQ XCallQ LCallQ XLCallQ drun xrun

set_option maxHeartbeats 4000000 in
theorem placed_f (hi lo : Nat) (m : Nat) (h1 : hi < 72057594037927936) (h2 : lo < 18446744073709551616) : DCalls Try.prog 110 [nmD hi lo false] (hget []) m (.tup [wdD (hi * 16 + lo / 1152921504606846976) (lo % 1152921504606846976), li 0]) (hget []) := by
  have h0 : ¬ ((72057594037927936 : Int) < (hi : Int)) := by omega
  have h3 : ¬ ((hi : Int) = 72057594037927936) := by omega
  (have := Nonempty.intro h0)
  (have := Nonempty.intro h3)
  have e1 := shl_four hi (by omega)
  have e2 := shr_60 lo
  have e3 := or_four hi (lo / 1152921504606846976) (by omega) (by omega)
  have e4 := mask60 (lo : Int)
  have e5 : (lo : Int) % 1152921504606846976 = ((lo % 1152921504606846976 : Nat) : Int) := by omega
  have b1 : hi * 16 + lo / 1152921504606846976 < 9223372036854775808 := by omega
  have b2 : lo % 1152921504606846976 < 9223372036854775808 := by omega
  refine pureC (n := 56) (rs := [.cell 2 119, .tmp 3]) (ts := [119, 29]) Try.func110 rfl (by decide) [] (by (exact SD)) ?_
  (repeat' (first | (show SWp _ _ _ (.seq (.block 0 _) _) _ _ _ _; refine (stop_in ?_)) | refine swp_seq [0, 1, 2, 3, 4, 5, 23, 37, 44] ?_ | (show SWp _ _ _ (.region _ _ true) _ _ _ _; refine xG mixed [16] ?_) | refine st2 ?_ | (show CallQ ..; first | refine cQ (fun hcc => (by fail)) ?_ | (refine lP ?_; refine lQ (fun hcc m => (by fail)) ?_)) | (show XCallQ ..; first | refine xQ (fun hcc => (by fail)) ?_ | (refine xlP ?_; refine xlQ (fun hcc m => (by fail)) ?_)) | (show Fct ..; refine fctI (fun hf => ?_)) | (show SWp _ _ _ (.cond _ _ _) _ _ _ _; first | refine cB (fun hc => ?_) (fun hc => ?_) | refine cU ?_ ?_)))
  refine stop_out ?_
  rw [e1, e2, e3, e4, e5]
  generalize hi * 16 + lo / 1152921504606846976 = H at *
  generalize lo % 1152921504606846976 = L at *
  repeat rw [i64w (by omega)]
  (repeat' (first | refine swp_seq [0, 1, 2, 3, 4, 5, 23, 37, 44] ?_ | (show SWp _ _ _ (.region _ _ true) _ _ _ _; refine xG mixed [16] ?_) | refine st2 ?_ | (show Fct ..; refine fctI (fun hf => ?_)) | (show SWp _ _ _ (.cond _ _ _) _ _ _ _; first | refine cB (fun hc => ?_) (fun hc => ?_) | refine cU ?_ ?_)))
  exact DVR
theorem valid_f (h l : Nat) (m : Nat) (h1 : h < 1152921504606846976) (h2 : l < 1152921504606846976) : DCalls Try.prog 111 [wdD h l] (hget []) m (lb true) (hget []) := by
  have a1 : (-1152921504606846976 : Int) ≤ (h : Int) := by omega
  have a2 : (h : Int) < 1152921504606846976 := by omega
  have a3 : (0 : Int) ≤ (l : Int) := by omega
  have a4 : (l : Int) < 1152921504606846976 := by omega
  (have := Nonempty.intro a1)
  (have := Nonempty.intro a2)
  (have := Nonempty.intro a3)
  (have := Nonempty.intro a4)
  refine pureC (n := 21) (rs := [.tmp 2]) (ts := [4]) Try.func111 rfl (by decide) [] (by (exact SD)) ?_
  (repeat' (first | refine swp_seq [0, 1, 2] ?_ | refine st2 ?_ | (show Fct ..; refine fctI (fun hf => ?_)) | (show SWp _ _ _ (.cond _ _ _) _ _ _ _; first | refine cB (fun hc => ?_) (fun hc => ?_) | refine cU ?_ ?_)))
  exact DVR
set_option maxHeartbeats 4000000 in
theorem value_f (h l : Nat) (m : Nat) (h1 : h < 1152921504606846976) (h2 : l < 1152921504606846976) : DCalls Try.prog 113 [wdD h l] (hget []) m (nmD (h / 16) (h % 16 * 1152921504606846976 + l) false) (hget []) := by
  have a1 : (0 : Int) ≤ (h : Int) := by omega
  (have := Nonempty.intro a1)
  have e1 := shr_four h
  have e2 := shl_60 h
  have e3 := or_top (h % 16) l h2 (by omega)
  have e4 := u64n l (by omega)
  refine pureC (n := 37) (rs := [.cell 2 138]) (ts := [138]) Try.func113 rfl (by decide) [] (by (exact SD)) ?_
  (repeat' (first | (show SWp _ _ _ (.seq (.region 3 _ _) _) _ _ _ _; refine (stop_in ?_)) | refine swp_seq [0, 1, 2, 3, 4, 5, 6, 16] ?_ | refine st2 ?_ | (show CallQ ..; first | refine cQ (fun hcc => (by first | exact size_f _ _ (by omega))) ?_ | (refine lP ?_; refine lQ (fun hcc m => (by first | exact size_f _ _ (by omega))) ?_)) | (show Fct ..; refine fctI (fun hf => ?_)) | (show SWp _ _ _ (.cond _ _ _) _ _ _ _; first | refine cB (fun hc => ?_) (fun hc => ?_) | refine cU ?_ ?_)))
  refine stop_out ?_
  rw [e1, e2]
  generalize h / 16 = H at *
  generalize hY : h % 16 = Y at *
  have hY16 : Y < 16 := by omega
  obtain ⟨X, hX⟩ : ∃ X, Y * 1152921504606846976 = X := ⟨_, rfl⟩
  rw [hX] at e3 ⊢
  (repeat' (first | refine swp_seq [0, 1, 2, 3, 4, 5, 6, 16] ?_ | refine st2 ?_ | (show Fct ..; refine fctI (fun hf => ?_)) | (show SWp _ _ _ (.cond _ _ _) _ _ _ _; first | refine cB (fun hc => ?_) (fun hc => ?_) | refine cU ?_ ?_)))
  (refine DVQ ?_)
  rw [e4, e3]; rfl
theorem minus0_f (m : Nat) : DCalls Try.prog 114 [nmD 0 0 false] (hget []) m (nmD 0 0 false) (hget []) := by
  have cs := fun m => signedT_f 0 0 m
  refine pureC (n := 11) (rs := [.cell 2 138]) (ts := [138]) Try.func114 rfl (by decide) [] (by (exact SD)) ?_
  (repeat' (first | refine swp_seq [0, 1, 2] ?_ | refine st2 ?_ | (show CallQ ..; first | refine cQ (fun hcc => (by first | exact cs _)) ?_ | (refine lP ?_; refine lQ (fun hcc m => (by first | exact cs _)) ?_)) | (show Fct ..; refine fctI (fun hf => ?_)) | (show SWp _ _ _ (.cond _ _ _) _ _ _ _; first | refine cB (fun hc => ?_) (fun hc => ?_) | refine cU ?_ ?_)))
  exact DVR
theorem minus_f (hi lo : Nat) (m : Nat) (h : 0 < hi ∨ 0 < lo) : DCalls Try.prog 114 [nmD hi lo false] (hget []) m (nmD hi lo true) (hget []) := by
  have cs := fun m => signedT_f hi lo m
  have e : (decide (0 < hi) || decide (0 < lo)) = true := by
    rcases h with h | h
    · rw [decide_eq_true h]; rfl
    · rw [decide_eq_true h, Bool.or_true]
  rw [e] at cs
  refine pureC (n := 11) (rs := [.cell 2 138]) (ts := [138]) Try.func114 rfl (by decide) [] (by (exact SD)) ?_
  (repeat' (first | refine swp_seq [0, 1, 2] ?_ | refine st2 ?_ | (show CallQ ..; first | refine cQ (fun hcc => (by first | exact cs _)) ?_ | (refine lP ?_; refine lQ (fun hcc m => (by first | exact cs _)) ?_)) | (show Fct ..; refine fctI (fun hf => ?_)) | (show SWp _ _ _ (.cond _ _ _) _ _ _ _; first | refine cB (fun hc => ?_) (fun hc => ?_) | refine cU ?_ ?_)))
  exact DVR
theorem signedI_f (x y : Int) (m : Nat) : DCalls Try.prog 134 [lv (.int .u64 x), lv (.int .u64 y), lb false] (hget []) m (.agg [lv (.int .u64 x), lv (.int .u64 y), lb false]) (hget []) := by
  refine pureC (n := 19) (rs := [.cell 6 138]) (ts := [138]) Try.func134 rfl (by decide) [] (by (exact SD)) ?_
  (repeat' (first | refine swp_seq [0, 1, 2, 6] ?_ | refine st2 ?_ | (show Fct ..; refine fctI (fun hf => ?_)) | (show SWp _ _ _ (.cond _ _ _) _ _ _ _; first | refine cB (fun hc => ?_) (fun hc => ?_) | refine cU ?_ ?_)))
  exact DVR
set_option maxHeartbeats 4000000 in
theorem sum0_f (hi lo : Nat) (m : Nat) (h1 : hi < 18446744073709551616) (h2 : lo < 18446744073709551616) : DCalls Try.prog 112 [nmD hi lo false, nmD 0 0 false] (hget []) m (nmD hi lo false) (hget []) := by
  have ca := fun m => add64_f lo 0 m h2 (by omega)
  have e1 : (lo + 0) % 18446744073709551616 = lo := by omega
  have e2 : (lo + 0) / 18446744073709551616 = 0 := by omega
  rw [e1, e2] at ca
  have e3 : IntKind.u64.wrap (IntKind.u64.wrap ((hi : Int) + 0) + 0) = hi := by rw [u64w, u64w]; omega
  refine pureC (n := 73) (rs := [.cell 4 138]) (ts := [138]) Try.func112 rfl (by decide) [] (by (exact SD)) ?_
  (repeat' (first | refine swp_seq [0, 1, 2, 3, 4, 5, 6, 7, 8, 13, 51] ?_ | refine st2 ?_ | (show CallQ ..; first | refine cQ (fun hcc => (by first | exact ca _ | exact signedI_f _ _ _)) ?_ | (refine lP ?_; refine lQ (fun hcc m => (by first | exact ca _ | exact signedI_f _ _ _)) ?_)) | (show Fct ..; refine fctI (fun hf => ?_)) | (show SWp _ _ _ (.cond _ _ _) _ _ _ _; first | refine cB (fun hc => ?_) (fun hc => ?_) | refine cU ?_ ?_)))
  (refine DVQ ?_)
  rw [e3]; rfl
set_option maxHeartbeats 4000000 in
theorem sum_f (h1 l1 h2 l2 : Nat) (m : Nat) (a1 : h1 < 18446744073709551616) (a2 : l1 < 18446744073709551616) (a3 : h2 < 18446744073709551616) (a4 : l2 < 18446744073709551616) (hle : h2 * 18446744073709551616 + l2 ≤ h1 * 18446744073709551616 + l1) :
    DCalls Try.prog 112 [nmD h1 l1 false, nmD h2 l2 true] (hget []) m (nmD (h1 - h2 - if l1 < l2 then 1 else 0) ((l1 + 18446744073709551616 - l2) % 18446744073709551616) false) (hget []) := by
  have c1 : ¬ ((h1 : Int) < (h2 : Int)) := by omega
  (have := Nonempty.intro c1)
  have cs := fun m => sub64_f l1 l2 m a2 a4
  have e3 : IntKind.u64.wrap (IntKind.u64.wrap ((h1 : Int) - (h2 : Int)) - ((if l1 < l2 then 1 else 0 : Nat) : Int)) = ((h1 - h2 - if l1 < l2 then 1 else 0 : Nat) : Int) := by
    rw [u64w, u64w]
    split <;> omega
  by_cases c2 : (h1 : Int) = (h2 : Int)
  · have c3 : ¬ ((l1 : Int) < (l2 : Int)) := by omega
    (have := Nonempty.intro c2)
    (have := Nonempty.intro c3)
    generalize (if l1 < l2 then 1 else 0) = br at *
    generalize (l1 + 18446744073709551616 - l2) % 18446744073709551616 = lo at *
    refine pureC (n := 73) (rs := [.cell 4 138]) (ts := [138]) Try.func112 rfl (by decide) [] (by (exact SD)) ?_
    (repeat' (first | refine swp_seq [0, 1, 2, 3, 4, 5, 6, 7, 8, 13, 51] ?_ | refine st2 ?_ | (show CallQ ..; first | refine cQ (fun hcc => (by first | exact cs _ | exact signedI_f _ _ _)) ?_ | (refine lP ?_; refine lQ (fun hcc m => (by first | exact cs _ | exact signedI_f _ _ _)) ?_)) | (show Fct ..; refine fctI (fun hf => ?_)) | (show SWp _ _ _ (.cond _ _ _) _ _ _ _; first | refine cB (fun hc => ?_) (fun hc => ?_) | refine cU ?_ ?_)))
    (refine DVQ ?_)
    rw [e3]; rfl
  · (have := Nonempty.intro c2)
    generalize (if l1 < l2 then 1 else 0) = br at *
    generalize (l1 + 18446744073709551616 - l2) % 18446744073709551616 = lo at *
    refine pureC (n := 73) (rs := [.cell 4 138]) (ts := [138]) Try.func112 rfl (by decide) [] (by (exact SD)) ?_
    (repeat' (first | refine swp_seq [0, 1, 2, 3, 4, 5, 6, 7, 8, 13, 51] ?_ | refine st2 ?_ | (show CallQ ..; first | refine cQ (fun hcc => (by first | exact cs _ | exact signedI_f _ _ _)) ?_ | (refine lP ?_; refine lQ (fun hcc m => (by first | exact cs _ | exact signedI_f _ _ _)) ?_)) | (show Fct ..; refine fctI (fun hf => ?_)) | (show SWp _ _ _ (.cond _ _ _) _ _ _ _; first | refine cB (fun hc => ?_) (fun hc => ?_) | refine cU ?_ ?_)))
    (refine DVQ ?_)
    rw [e3]; rfl
theorem value_v (h l hi lo : Nat) (m : Nat) (h1 : h < 1152921504606846976) (h2 : l < 1152921504606846976) (e : h * 1152921504606846976 + l = hi * 18446744073709551616 + lo) (h3 : lo < 18446744073709551616) : DCalls Try.prog 113 [wdD h l] (hget []) m (nmD hi lo false) (hget []) := by
  have e1 : hi = h / 16 := by omega
  have e2 : lo = h % 16 * 1152921504606846976 + l := by omega
  rw [e1, e2]
  exact value_f h l m h1 h2
theorem placed_v (h l hi lo : Nat) (m : Nat) (h1 : h < 1152921504606846976) (h2 : l < 1152921504606846976) (e : h * 1152921504606846976 + l = hi * 18446744073709551616 + lo) (h3 : lo < 18446744073709551616) : DCalls Try.prog 110 [nmD hi lo false] (hget []) m (.tup [wdD h l, li 0]) (hget []) := by
  have e1 : h = hi * 16 + lo / 1152921504606846976 := by omega
  have e2 : l = lo % 1152921504606846976 := by omega
  rw [e1, e2]
  exact placed_f hi lo m (by omega) h3
theorem sum_v (h1 l1 h2 l2 h3 l3 : Nat) (m : Nat) (a1 : h1 < 18446744073709551616) (a2 : l1 < 18446744073709551616) (a3 : h2 < 18446744073709551616) (a4 : l2 < 18446744073709551616) (a5 : l3 < 18446744073709551616)
    (hV : h1 * 18446744073709551616 + l1 = h2 * 18446744073709551616 + l2 + (h3 * 18446744073709551616 + l3)) : DCalls Try.prog 112 [nmD h1 l1 false, nmD h2 l2 true] (hget []) m (nmD h3 l3 false) (hget []) := by
  have e1 : h3 = (h1 - h2 - if l1 < l2 then 1 else 0) := by split <;> omega
  have e2 : l3 = (l1 + 18446744073709551616 - l2) % 18446744073709551616 := by omega
  rw [e1, e2]
  exact sum_f h1 l1 h2 l2 m a1 a2 a3 a4 (by omega)
theorem split60 (h l : Nat) (hh : h < 1152921504606846976) (hl : l < 1152921504606846976) : ∃ hi lo, h * 1152921504606846976 + l = hi * 18446744073709551616 + lo ∧ lo < 18446744073709551616 ∧ hi < 72057594037927936 := ⟨h / 16, h % 16 * 1152921504606846976 + l, by omega, by omega, by omega⟩
theorem hi64 {M x y : Nat} (e : M = x * 18446744073709551616 + y) (h : y < 18446744073709551616) : M / 18446744073709551616 = x ∧ M % 18446744073709551616 = y := by omega
set_option maxHeartbeats 4000000 in
theorem product_f (a b h l : Nat) (m : Nat) (ha : a < 9223372036854775808) (hb : b < 9223372036854775808) (hM : a * b = h * 1152921504606846976 + l) (hl : l < 1152921504606846976) (hh : h < 1152921504606846976) :
    DCalls Try.prog 98 [li a, li b] (hget []) m (.tup [wdD h l, li 0]) (hget []) := by
  have ct := fun m => times_f a b m ha hb
  obtain ⟨x, y, p1, p2, p3⟩ := split60 h l hh hl
  have e := hi64 (hM.trans p1) p2
  rw [e.1, e.2] at ct
  have cp := fun m => placed_v h l x y m hh hl p1 p2
  clear hM e p1
  refine pureC (n := 12) (rs := [.cell 4 119, .tmp 5]) (ts := [119, 29]) Try.func98 rfl (by decide) [] (by (exact SD)) ?_
  (repeat' (first | refine swp_seq [0, 1, 4, 5] ?_ | refine st2 ?_ | (show CallQ ..; first | refine cQ (fun hcc => (by first | exact ct _ | exact cp _)) ?_ | (refine lP ?_; refine lQ (fun hcc m => (by first | exact ct _ | exact cp _)) ?_)) | (show Fct ..; refine fctI (fun hf => ?_)) | (show SWp _ _ _ (.cond _ _ _) _ _ _ _; first | refine cB (fun hc => ?_) (fun hc => ?_) | refine cU ?_ ?_)))
  exact DVR
theorem wsub_s {x1 y1 x2 y2 x3 y3 h1 l1 h2 l2 h3 l3 : Nat} (hV : h1 * 1152921504606846976 + l1 = h2 * 1152921504606846976 + l2 + (h3 * 1152921504606846976 + l3)) (p1 : h1 * 1152921504606846976 + l1 = x1 * 18446744073709551616 + y1) (q1 : h2 * 1152921504606846976 + l2 = x2 * 18446744073709551616 + y2) (r1 : h3 * 1152921504606846976 + l3 = x3 * 18446744073709551616 + y3) :
    x1 * 18446744073709551616 + y1 = x2 * 18446744073709551616 + y2 + (x3 * 18446744073709551616 + y3) := by rw [← p1, ← q1, ← r1]; exact hV
set_option maxHeartbeats 4000000 in
theorem int_v (h l V : Nat) (m : Nat) (hh : h < 8) (hl : l < 1152921504606846976) (e : h * 1152921504606846976 + l = V) : DCalls Try.prog 100 [wdD h l] (hget []) m (.tup [li V, li 0]) (hget []) := by
  have hb : V < 9223372036854775808 := by omega
  have cv := fun m => value_v h l 0 V m (by omega) hl (by omega) (by omega)
  have cw := fun m => whole_f V m hb
  clear e
  refine pureC (n := 20) (rs := [.tmp 2, .tmp 3]) (ts := [3, 29]) Try.func100 rfl (by decide) [] (by (exact SD)) ?_
  (repeat' (first | refine swp_seq [0, 1, 2, 3, 4, 7, 12] ?_ | refine st2 ?_ | (show CallQ ..; first | refine cQ (fun hcc => (by first | exact valid_f _ _ _ (by omega) hl | exact cv _ | exact cw _)) ?_ | (refine lP ?_; refine lQ (fun hcc m => (by first | exact valid_f _ _ _ (by omega) hl | exact cv _ | exact cw _)) ?_)) | (show Fct ..; refine fctI (fun hf => ?_)) | (show SWp _ _ _ (.cond _ _ _) _ _ _ _; first | refine cB (fun hc => ?_) (fun hc => ?_) | refine cU ?_ ?_)))
  exact DVR
set_option maxHeartbeats 4000000 in
theorem wsub_f (h1 l1 h2 l2 h3 l3 : Nat) (m : Nat) (a1 : h1 < 1152921504606846976) (a2 : l1 < 1152921504606846976) (b1 : h2 < 1152921504606846976) (b2 : l2 < 1152921504606846976) (c1 : h3 < 1152921504606846976) (c2 : l3 < 1152921504606846976)
    (hV : h1 * 1152921504606846976 + l1 = h2 * 1152921504606846976 + l2 + (h3 * 1152921504606846976 + l3)) : DCalls Try.prog 99 [wdD h1 l1, wdD h2 l2] (hget []) m (.tup [wdD h3 l3, li 0]) (hget []) := by
  obtain ⟨x1, y1, p1, p2, p3⟩ := split60 h1 l1 a1 a2
  obtain ⟨x2, y2, q1, q2, q3⟩ := split60 h2 l2 b1 b2
  obtain ⟨x3, y3, r1, r2, r3⟩ := split60 h3 l3 c1 c2
  have cv1 := fun m => value_v h1 l1 x1 y1 m a1 a2 p1 p2
  have cv2 := fun m => value_v h2 l2 x2 y2 m b1 b2 q1 q2
  have cv3 := fun m => valid_f h1 l1 m a1 a2
  have cv4 := fun m => valid_f h2 l2 m b1 b2
  have cp := fun m => placed_v h3 l3 x3 y3 m c1 c2 r1 r2
  have hS := wsub_s hV p1 q1 r1
  clear hV p1 q1 r1
  by_cases hz : x2 = 0 ∧ y2 = 0
  · obtain ⟨rfl, rfl⟩ := hz
    have z1 : x1 = x3 := by omega
    have z2 : y1 = y3 := by omega
    have cs := fun m => sum0_f x1 y1 m (by omega) p2
    have cm := fun m => minus0_f m
    rw [← z1, ← z2] at cp
    clear hS z1 z2
    refine pureC (n := 24) (rs := [.cell 4 119, .tmp 5]) (ts := [119, 29]) Try.func99 rfl (by decide) [] (by (exact SD)) ?_
    (repeat' (first | refine swp_seq [0, 1, 2, 3, 4, 5, 13] ?_ | (show SWp _ _ _ (.region _ _ true) _ _ _ _; refine xG mixed [16, 1000001, 1000003, 1000004, 1000005, 1000006] ?_) | refine st2 ?_ | (show CallQ ..; first | refine cQ (fun hcc => (by first | exact cv1 _ | exact cv2 _ | exact cv3 _ | exact cv4 _ | exact cm _ | exact cs _ | exact cp _)) ?_ | (refine lP ?_; refine lQ (fun hcc m => (by first | exact cv1 _ | exact cv2 _ | exact cv3 _ | exact cv4 _ | exact cm _ | exact cs _ | exact cp _)) ?_)) | (show XCallQ ..; first | refine xQ (fun hcc => (by first | exact cv1 _ | exact cv2 _ | exact cv3 _ | exact cv4 _ | exact cm _ | exact cs _ | exact cp _)) ?_ | (refine xlP ?_; refine xlQ (fun hcc m => (by first | exact cv1 _ | exact cv2 _ | exact cv3 _ | exact cv4 _ | exact cm _ | exact cs _ | exact cp _)) ?_)) | (show Fct ..; refine fctI (fun hf => ?_)) | (show SWp _ _ _ (.cond _ _ _) _ _ _ _; first | refine cB (fun hc => ?_) (fun hc => ?_) | refine cU ?_ ?_)))
    exact DVR
  · have cm := fun m => minus_f x2 y2 m (by omega)
    have cs := fun m => sum_v x1 y1 x2 y2 x3 y3 m (by omega) p2 (by omega) q2 r2 hS
    clear hS
    refine pureC (n := 24) (rs := [.cell 4 119, .tmp 5]) (ts := [119, 29]) Try.func99 rfl (by decide) [] (by (exact SD)) ?_
    (repeat' (first | refine swp_seq [0, 1, 2, 3, 4, 5, 13] ?_ | (show SWp _ _ _ (.region _ _ true) _ _ _ _; refine xG mixed [16, 1000001, 1000003, 1000004, 1000005, 1000006] ?_) | refine st2 ?_ | (show CallQ ..; first | refine cQ (fun hcc => (by first | exact cv1 _ | exact cv2 _ | exact cv3 _ | exact cv4 _ | exact cm _ | exact cs _ | exact cp _)) ?_ | (refine lP ?_; refine lQ (fun hcc m => (by first | exact cv1 _ | exact cv2 _ | exact cv3 _ | exact cv4 _ | exact cm _ | exact cs _ | exact cp _)) ?_)) | (show XCallQ ..; first | refine xQ (fun hcc => (by first | exact cv1 _ | exact cv2 _ | exact cv3 _ | exact cv4 _ | exact cm _ | exact cs _ | exact cp _)) ?_ | (refine xlP ?_; refine xlQ (fun hcc m => (by first | exact cv1 _ | exact cv2 _ | exact cv3 _ | exact cv4 _ | exact cm _ | exact cs _ | exact cp _)) ?_)) | (show Fct ..; refine fctI (fun hf => ?_)) | (show SWp _ _ _ (.cond _ _ _) _ _ _ _; first | refine cB (fun hc => ?_) (fun hc => ?_) | refine cU ?_ ?_)))
    exact DVR

end Go.Proofs.Ytedocinehadodaa
