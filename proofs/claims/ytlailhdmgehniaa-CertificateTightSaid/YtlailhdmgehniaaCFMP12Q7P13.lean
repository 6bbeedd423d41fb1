/-
  Contracts of functions of the program, over the engine.
  No condition.
-/
import Derived.Test.YtlailhdmgehniaaCW2W3W4W5W6
import Derived.Test.YtlailhdmgehniaaCQ0P11Q2Q3
namespace Go.Proofs.Ytlailhdmgehniaa
open Go.Eng
set_option linter.all false
attribute [local irreducible] DCallsG SWp Fct CallQ XCallQ LCallQ XLCallQ drun xrun

theorem floorT_hi {t : List Knot} {x : Int} (h : tabB t = true) (hk : knX t x < t.length) : floorT t x ≤ (t.getD (knX t x) default).y := by
  unfold floorT
  split
  · exact Int.le_refl _
  · next q =>
    split
    · omega
    · have hk0 : 0 < knX t x := Nat.pos_of_ne_zero fun z => q (.inr z)
      have a1 := knX_lo (t := t) (x := x) (j := knX t x - 1) (by omega)
      have a2 := knX_hi (t := t) (x := x) h (Nat.le_refl _) hk
      have a3 := tab_mono2 h (knX t x) (knX t x - 1) (by omega) hk
      generalize (t.getD (knX t x) default) = kb at *
      generalize (t.getD (knX t x - 1) default) = ka at *
      have hU : 0 ≤ kb.y - ka.y := by omega
      have hD : 0 < kb.x - ka.x := by omega
      have c2 : (kb.y - ka.y) * (x - ka.x) / (kb.x - ka.x) ≤ kb.y - ka.y := by
        have := Int.mul_le_mul_of_nonneg_left (show x - ka.x ≤ kb.x - ka.x by omega) hU
        calc (kb.y - ka.y) * (x - ka.x) / (kb.x - ka.x) ≤ (kb.y - ka.y) * (kb.x - ka.x) / (kb.x - ka.x) := Int.ediv_le_ediv hD this
          _ = kb.y - ka.y := Int.mul_ediv_cancel _ (by omega)
      omega
theorem floorT_lo {t : List Knot} {x : Int} {i : Nat} (h : tabB t = true) (hi : i < knX t x) : (t.getD i default).y ≤ floorT t x := by
  have hk := knX_le t x
  unfold floorT
  split
  · next q =>
    rcases q with q | q
    · exact (tab_mono2 h _ i (by omega) q.1).2
    · omega
  · next q =>
    split
    · next e => exact (tab_mono2 h _ i (by omega) (by omega)).2
    · next e =>
      have a1 := knX_lo (t := t) (x := x) (j := knX t x - 1) (by omega)
      have a2 := knX_hi (t := t) (x := x) h (Nat.le_refl _) (by omega)
      have a3 := tab_mono2 h (knX t x) (knX t x - 1) (by omega) (by omega)
      have a4 := tab_mono2 h (knX t x - 1) i (by omega) (by omega)
      generalize (t.getD (knX t x) default) = kb at *
      generalize (t.getD (knX t x - 1) default) = ka at *
      have hU : 0 ≤ kb.y - ka.y := by omega
      have hD : 0 < kb.x - ka.x := by omega
      have c1 : 0 ≤ (kb.y - ka.y) * (x - ka.x) / (kb.x - ka.x) := Int.ediv_nonneg (Int.mul_nonneg hU (by omega)) (by omega)
      omega
theorem floorT_mono {t : List Knot} {x y : Int} (h : tabB t = true) (hxy : x ≤ y) : floorT t x ≤ floorT t y := by
  have hl := (tab_in h).1
  have lx := knX_le t x
  have ly := knX_le t y
  have hkk : knX t x ≤ knX t y := by
    refine Nat.le_of_not_lt fun hlt => ?_
    have h1 := knX_lo hlt
    have h2 := knX_hi (x := y) h (Nat.le_refl _) (show knX t y < t.length by omega)
    omega
  rcases Nat.lt_or_ge (knX t x) (knX t y) with hlt | hge
  · exact Int.le_trans (floorT_hi h (by omega)) (floorT_lo h hlt)
  have e : knX t x = knX t y := by omega
  by_cases hk : knX t y < t.length
  · by_cases hy : (t.getD (knX t y) default).x = y
    · have e1 : floorT t y = (t.getD (knX t y) default).y := by unfold floorT; rw [if_pos (.inl ⟨hk, hy⟩)]
      rw [e1, ← e]
      exact floorT_hi h (by omega)
    · have h2 := knX_hi (x := y) h (Nat.le_refl _) hk
      have h3 : ¬ (t.getD (knX t y) default).x = x := by omega
      by_cases h0 : knX t y = 0
      · have e1 : floorT t y = (t.getD (knX t y) default).y := by unfold floorT; rw [if_pos (.inr h0)]
        have e2 : floorT t x = (t.getD (knX t x) default).y := by unfold floorT; rw [if_pos (.inr (by omega))]
        rw [e1, e2, e]; exact Int.le_refl _
      · have a1 := knX_lo (t := t) (x := x) (j := knX t x - 1) (by omega)
        have a3 := tab_mono2 h (knX t y) (knX t y - 1) (by omega) hk
        unfold floorT
        rw [e] at a1 ⊢
        rw [if_neg (fun q => q.elim (fun q => h3 q.2) h0), if_neg (show ¬ knX t y = t.length by omega), if_neg (fun q => q.elim (fun q => hy q.2) h0), if_neg (show ¬ knX t y = t.length by omega)]
        generalize (t.getD (knX t y) default) = kb at *
        generalize (t.getD (knX t y - 1) default) = ka at *
        have hU : 0 ≤ kb.y - ka.y := by omega
        have hD : 0 < kb.x - ka.x := by omega
        have := Int.ediv_le_ediv hD (Int.mul_le_mul_of_nonneg_left (show x - ka.x ≤ y - ka.x by omega) hU)
        omega
  · have e1 : knX t y = t.length := by omega
    have e2 : knX t x = t.length := by omega
    unfold floorT
    rw [e1, e2]
    have n1 : ∀ z : Int, ¬ ((t.length < t.length ∧ (t.getD t.length default).x = z) ∨ t.length = 0) := fun z q => by omega
    rw [if_neg (n1 x), if_pos rfl, if_neg (n1 y), if_pos rfl]
    exact Int.le_refl _
def pairI (f : Int → Option Int) (row : List Int) (i : Nat) : List Int := (row.take i).flatMap fun z => [z, (f z).getD (-1)]
theorem pairI_next (f : Int → Option Int) {row : List Int} {i : Nat} (h : i < row.length) : pairI f row (i + 1) = pairI f row i ++ [row.getD i default, (f (row.getD i default)).getD (-1)] := by
  unfold pairI
  rw [take_snoc h, List.flatMap_append]; simp
theorem pairI_len (f : Int → Option Int) {row : List Int} : ∀ i, i ≤ row.length → (pairI f row i).length = 2 * i
  | 0, _ => by simp [pairI]
  | i + 1, h => by rw [pairI_next f (by omega), List.length_append, pairI_len f i (by omega)]; simp; omega
def lineV (p : Plan) (j : Nat) : List Int := pairI (vO p (p.inf.length - j)) (rowI p 0 p.start j) (rowI p 0 p.start j).length
def valuesR (p : Plan) : List (List Int) × Int :=
  if planB p = false then ([], 1) else if fewA p 0 p.start p.inf.length = false then ([], 6) else ((List.range (p.inf.length + 1)).map (lineV p), 0)
def bestP (p : Plan) (s v : Int) : Int × Int :=
  if planB p = false then (0, 1) else if ¬ ((0 ≤ s ∧ s ≤ (p.inf.length : Int) - 1) ∧ p.res ≤ v ∧ v ≤ p.cap) then (0, 2)
  else if fewA p s.toNat v (p.inf.length - s.toNat) = false then (0, 6)
  else match bestO p s.toNat v (vO p (p.inf.length - (s.toNat + 1))) with
    | none => (0, 12)
    | some a => (p.rel.getD a.1 default, 0)
theorem app_ilp (l : List (List Int)) (r : List Int) : rows ilRow l ++ [[.p (.dat 1 (r.map inRow))]] = rows ilRow (l ++ [r]) := by simp [rows, ilRow]
theorem app_in2 (l : List Int) (v c : Int) : rows inRow l ++ [[.p (.lit (.int .i64 v))], [.p (.lit (.int .i64 c))]] = rows inRow (l ++ [v, c]) := by simp [rows, inRow]
attribute [push_cast] app_in2
set_option maxRecDepth 20000 in
set_option maxHeartbeats 16000000 in
theorem values45_f (p : Plan) (m : Nat) (hq : planOk p) : DCalls Try.prog 16 [planD p] (hget []) m (.tup [.p (.dat 1 ((valuesR p).1.map ilRow)), li (valuesR p).2]) (hget []) := by
  cases hp : planB p
  · rw [show valuesR p = ([], 1) by unfold valuesR; rw [if_pos hp]]
    have ct := fun m => tank_no p m hq hp
    refine pureC (n := 71) (rs := [.tmp 2, .tmp 3]) (ts := [29, 30]) Try.func16 rfl (by decide) [] (by (exact SD)) ?_
    (repeat' (first | refine swp_seq [0, 1, 2, 3, 4, 5, 6, 7, 8, 9, 10, 11, 13, 14, 15, 22, 31, 35, 36, 37, 38, 42, 43, 44, 45, 58] ?_ | refine st2 ?_ | (show CallQ ..; first | refine cQ (fun hcc => (by first | exact ct _)) ?_ | (refine lP ?_; refine lQ (fun hcc m => (by first | exact ct _)) ?_)) | (show Fct ..; refine fctI (fun hf => ?_)) | (show SWp _ _ _ (.cond _ _ _) _ _ _ _; first | refine cB (fun hc => ?_) (fun hc => ?_) | refine cU ?_ ?_)))
    exact DVR
  unfold valuesR
  rw [if_neg (by rw [hp]; decide)]
  have hin := planB_in hp
  have ct := fun m => tank_f p m hq hp
  have cr := fun m => reach_f p 0 p.start m hp (by omega) hin.2.2.1
  have hrr : reachR p 0 p.start = if fewA p 0 p.start p.inf.length then (rowsN p 0 p.start p.inf.length, true) else ([], false) := rfl
  rw [hrr] at cr
  clear hrr
  cases hf : fewA p 0 p.start p.inf.length
  · rw [if_pos rfl]
    simp only [hf, Bool.false_eq_true, if_false] at cr
    refine pureC (n := 71) (rs := [.tmp 2, .tmp 3]) (ts := [29, 30]) Try.func16 rfl (by decide) [] (by (exact SD)) ?_
    (repeat' (first | refine swp_seq [0, 1, 2, 3, 4, 5, 6, 7, 8, 9, 10, 11, 13, 14, 15, 22, 31, 35, 36, 37, 38, 42, 43, 44, 45, 58] ?_ | refine st2 ?_ | (show CallQ ..; first | refine cQ (fun hcc => (by first | exact ct _)) ?_ | (refine lP ?_; refine lQ (fun hcc m => (by first | exact ct _)) ?_)) | (show Fct ..; refine fctI (fun hf => ?_)) | (show SWp _ _ _ (.cond _ _ _) _ _ _ _; first | refine cB (fun hc => ?_) (fun hc => ?_) | refine cU ?_ ?_)))
    (refine cQT [32] (fun hcc => (cr _)) ?_)
    (repeat' (first | refine swp_seq [0, 1, 2, 3, 4, 5, 6, 7, 8, 9, 10, 11, 13, 14, 15, 22, 31, 35, 36, 37, 38, 42, 43, 44, 45, 58] ?_ | refine st2 ?_ | (show Fct ..; refine fctI (fun hf => ?_)) | (show SWp _ _ _ (.cond _ _ _) _ _ _ _; first | refine cB (fun hc => ?_) (fun hc => ?_) | refine cU ?_ ?_)))
    exact DVR
  rw [if_neg (by decide)]
  simp only [hf, if_true] at cr
  have cv := fun m => val_f p 0 p.start p.inf.length m hp (by omega) hin.2.2.1 hf
  have hxl := valsX_len p 0 p.start p.inf.length
  have hxg := fun i => @valsX_get p 0 p.start p.inf.length i
  have hrl := rowsN_len p 0 p.start p.inf.length
  have hrg := rowsN_get p 0 p.start p.inf.length
  have hlk : ∀ j, j ≤ p.inf.length → ∀ z, z ∈ rowI p 0 p.start j → (valsD p 0 (rowsN p 0 p.start p.inf.length) (p.inf.length - j)).lookup z = vO p (p.inf.length - j) z := fun j hj z hz => by
    rw [valsD_look (s := 0) (v := p.start) (N := p.inf.length) (by omega) _ (by omega), show p.inf.length - (p.inf.length - j) = j by omega, if_pos hz]
  have hfl : ∀ j, j ≤ p.inf.length → (rowI p 0 p.start j).length ≤ 4000 := fun j hj => rowI_len (n := j) (by
    unfold fewA at hf ⊢
    rw [List.all_eq_true] at hf ⊢
    intro x hx
    exact hf x (List.mem_range.2 (by have := List.mem_range.1 hx; omega)))
  have hil := hin.2.2.2.1
  generalize rowsN p 0 p.start p.inf.length = RS at *
  generalize valsX p 0 p.start p.inf.length = XS at *
  have hxr : ∀ j, j < p.inf.length + 1 → RS.getD j default = rowI p 0 p.start j := fun j hj => hrg j (by omega)
  have hvx : ∀ j, j < p.inf.length + 1 → ∀ z, z ∈ rowI p 0 p.start j → hasI (XS.getD j default) z = (vO p (p.inf.length - j) z).isSome ∧ valI (XS.getD j default) z = (vO p (p.inf.length - j) z).getD 0 := fun j hj z hz => by
    rw [hasI_eq, valI_eq, hxg j hj, hlk j (by omega) z hz]; exact ⟨rfl, rfl⟩
  clear hxg hlk hrg
  refine pureC (n := 71) (rs := [.tmp 2, .tmp 3]) (ts := [29, 30]) Try.func16 rfl (by decide) [248] (by (exact SD)) ?_
  (repeat' (first | refine swp_seq [0, 1, 2, 3, 4, 5, 6, 7, 8, 9, 10, 11, 13, 14, 15, 22, 31, 35, 36, 37, 38, 42, 43, 44, 45, 58] ?_ | refine st2 ?_ | (show CallQ ..; first | refine cQ (fun hcc => (by first | exact ct _)) ?_ | (refine lP ?_; refine lQ (fun hcc m => (by first | exact ct _)) ?_)) | (show Fct ..; refine fctI (fun hf => ?_)) | (show SWp _ _ _ (.cond _ _ _) _ _ _ _; first | refine cB (fun hc => ?_) (fun hc => ?_) | refine cU ?_ ?_)))
  (refine cQT [32] (fun hcc => (cr _)) ?_)
  (repeat' (first | refine swp_seq [0, 1, 2, 3, 4, 5, 6, 7, 8, 9, 10, 11, 13, 14, 15, 22, 31, 35, 36, 37, 38, 42, 43, 44, 45, 58] ?_ | refine st2 ?_ | (show Fct ..; refine fctI (fun hf => ?_)) | (show SWp _ _ _ (.cond _ _ _) _ _ _ _; first | refine cB (fun hc => ?_) (fun hc => ?_) | refine cU ?_ ?_)))
  (refine cQT [32] (fun hcc => (cv _)) ?_)
  (repeat' (first | refine swp_seq [0, 1, 2, 3, 4, 5, 6, 7, 8, 9, 10, 11, 13, 14, 15, 22, 31, 35, 36, 37, 38, 42, 43, 44, 45, 58] ?_ | refine st2 ?_ | (show Fct ..; refine fctI (fun hf => ?_)) | (show SWp _ _ _ (.cond _ _ _) _ _ _ _; first | refine cB (fun hc => ?_) (fun hc => ?_) | refine cU ?_ ?_)))
  (refine sN 8 22 1 ?_)
  refine loop_swp [6, 7, 8, 35, 36, 37] [0, 32, 248] 249 (fun q A H => ∃ (i : Nat), i ≤ p.inf.length + 1 ∧ q = p.inf.length + 1 - i ∧ A = [(6, .p (.dat 1 (RS.map ilRow))), (7, .p (.dat 1 (XS.map valRow))), (8, .gl 248), (35, .p (.dat 1 (RS.map ilRow))), (36, li RS.length), (37, li i)] ∧ H = [(0, .blk 26 (planC p)), (32, .blk 73 (tkC p (ints (p.rel.map (floorT p.pen))))), (248, .lst 22 1 (rows ilRow ((List.range i).map (lineV p))))]) (by omega) ?_ ?_ ?_
  · rintro q A H ⟨i, g1, g2, rfl, rfl⟩
    exact ⟨by (exact SD), by (exact SD)⟩
  · refine ⟨_, 0, by omega, rfl, ?_, ?_⟩
    · exact DVR
    · exact DVR
  rintro q A H ⟨i, g1, g2, rfl, rfl⟩
  by_cases hi : i < p.inf.length + 1
  · have hi2 : i < RS.length := by omega
    have hi3 : (i : Int) < (RS.length : Int) := by omega
    have hi4 : i < XS.length := by omega
    have hxi := hxr i hi
    have hvi := hvx i hi
    have hfi := hfl i (by omega)
    have hln : (List.range (i + 1)).map (lineV p) = (List.range i).map (lineV p) ++ [lineV p i] := by rw [List.range_succ, List.map_append]; rfl
    have hle : lineV p i = pairI (vO p (p.inf.length - i)) (rowI p 0 p.start i) (rowI p 0 p.start i).length := rfl
    have hpn := fun j => @pairI_next (vO p (p.inf.length - i)) (rowI p 0 p.start i) j
    have hpl := fun j => @pairI_len (vO p (p.inf.length - i)) (rowI p 0 p.start i) j
    generalize vO p (p.inf.length - i) = f at *
    generalize hLS : (List.range i).map (lineV p) = LS at *
    have hLl : LS.length = i := by rw [← hLS]; simp
    rw [← hxi] at hle hvi hfi hpn hpl
    (have := Nonempty.intro hi2)
    (have := Nonempty.intro hi3)
    (have := Nonempty.intro hi4)
    (repeat' (first | refine swp_seq [0, 1, 2, 3, 4, 5, 6, 7, 8, 9, 10, 11, 13, 14, 15, 22, 31, 35, 36, 37, 38, 42, 43, 44, 45, 58] ?_ | refine st2 ?_ | (show Fct ..; refine fctI (fun hf => ?_)) | (show SWp _ _ _ (.cond _ _ _) _ _ _ _; first | refine cB (fun hc => ?_) (fun hc => ?_) | refine cU ?_ ?_)))
    (refine sN 11 3 1 ?_)
    generalize RS.getD i default = row at *
    refine loop_swp [6, 7, 8, 9, 11, 35, 36, 37, 42, 43, 44] [0, 32, 248, 329] 330 (fun q A H => ∃ (j : Nat), j ≤ row.length ∧ q = row.length - j ∧ A = [(6, .p (.dat 1 (RS.map ilRow))), (7, .p (.dat 1 (XS.map valRow))), (8, .gl 248), (9, li i), (11, .gl 329), (35, .p (.dat 1 (RS.map ilRow))), (36, li RS.length), (37, li i), (42, ints row), (43, li row.length), (44, li j)] ∧ H = [(0, .blk 26 (planC p)), (32, .blk 73 (tkC p (ints (p.rel.map (floorT p.pen))))), (248, .lst 22 1 (rows ilRow LS)), (329, inLt (pairI f row j))]) (by omega) ?_ ?_ ?_
    · rintro q A H ⟨j, k1, k2, rfl, rfl⟩
      exact ⟨by (exact SD), by (exact SD)⟩
    · refine ⟨_, 0, by omega, rfl, ?_, ?_⟩
      · exact DVR
      · exact DVR
    rintro q A H ⟨j, k1, k2, rfl, rfl⟩
    by_cases hj : j < row.length
    · have hj3 : (j : Int) < (row.length : Int) := by omega
      have hpj := hpn j hj
      have hplj := hpl j (by omega)
      have hvj := hvi (row.getD j default) (getD_mem hj)
      generalize pairI f row j = PJ at *
      (have := Nonempty.intro hj)
      (have := Nonempty.intro hj3)
      cases hfj : f (row.getD j default) with
      | none =>
        rw [hfj] at hvj hpj
        have hh : hasI (XS.getD i default) (row.getD j default) = false := hvj.1
        have hpj : pairI f row (j + 1) = PJ ++ [row.getD j default, -1] := hpj
        (have := Nonempty.intro hh)
        (repeat' (first | refine swp_seq [0, 1, 2, 3, 4, 5, 6, 7, 8, 9, 10, 11, 13, 14, 15, 22, 31, 35, 36, 37, 38, 42, 43, 44, 45, 58] ?_ | refine st2 ?_ | (show Fct ..; refine fctI (fun hf => ?_)) | (show SWp _ _ _ (.cond _ _ _) _ _ _ _; first | refine cB (fun hc => ?_) (fun hc => ?_) | refine cU ?_ ?_)))
        rw [← hpj]
        (refine lN [0, 32, 248, 329] ?_)
        exact ⟨_, by omega, j + 1, by omega, rfl, rfl, rfl⟩
      | some c =>
        rw [hfj] at hvj hpj
        have hh : hasI (XS.getD i default) (row.getD j default) = true := hvj.1
        have hpj : pairI f row (j + 1) = PJ ++ [row.getD j default, valI (XS.getD i default) (row.getD j default)] := by rw [hvj.2]; exact hpj
        (have := Nonempty.intro hh)
        (repeat' (first | refine swp_seq [0, 1, 2, 3, 4, 5, 6, 7, 8, 9, 10, 11, 13, 14, 15, 22, 31, 35, 36, 37, 38, 42, 43, 44, 45, 58] ?_ | refine st2 ?_ | (show Fct ..; refine fctI (fun hf => ?_)) | (show SWp _ _ _ (.cond _ _ _) _ _ _ _; first | refine cB (fun hc => ?_) (fun hc => ?_) | refine cU ?_ ?_)))
        rw [← hpj]
        (refine lN [0, 32, 248, 329] ?_)
        exact ⟨_, by omega, j + 1, by omega, rfl, rfl, rfl⟩
    · obtain rfl : j = row.length := by omega
      have hj3 : ¬ (row.length : Int) < (row.length : Int) := by omega
      (have := Nonempty.intro hj3)
      rw [← hle]
      have hplj := hpl row.length (by omega)
      rw [← hle] at hplj
      generalize lineV p i = LV at *
      (repeat' (first | (show SWp _ _ _ (.region 21 _ _) _ _ _ _; refine (stop_in ?_)) | refine swp_seq [0, 1, 2, 3, 4, 5, 6, 7, 8, 9, 10, 11, 13, 14, 15, 22, 31, 35, 36, 37, 38, 42, 43, 44, 45, 58] ?_ | refine st2 ?_ | (show CallQ ..; first | refine cQ (fun hcc => (by fail)) ?_ | (refine lP ?_; refine lQ (fun hcc m => (by fail)) ?_)) | (show Fct ..; refine fctI (fun hf => ?_)) | (show SWp _ _ _ (.cond _ _ _) _ _ _ _; first | refine cB (fun hc => ?_) (fun hc => ?_) | refine cU ?_ ?_)))
      refine stop_out ?_
      (refine sF 329 ?_)
      (repeat' (first | refine swp_seq [0, 1, 2, 3, 4, 5, 6, 7, 8, 9, 10, 11, 13, 14, 15, 22, 31, 35, 36, 37, 38, 42, 43, 44, 45, 58] ?_ | refine st2 ?_ | (show Fct ..; refine fctI (fun hf => ?_)) | (show SWp _ _ _ (.cond _ _ _) _ _ _ _; first | refine cB (fun hc => ?_) (fun hc => ?_) | refine cU ?_ ?_)))
      rw [app_ilp, ← hln]
      (refine lN [0, 32, 248] ?_)
      exact ⟨_, by omega, i + 1, by omega, rfl, rfl, rfl⟩
  · obtain rfl : i = p.inf.length + 1 := by omega
    have hi3 : ¬ ((p.inf.length : Int) + 1 < (RS.length : Int)) := by omega
    (have := Nonempty.intro hi3)
    (repeat' (first | refine swp_seq [0, 1, 2, 3, 4, 5, 6, 7, 8, 9, 10, 11, 13, 14, 15, 22, 31, 35, 36, 37, 38, 42, 43, 44, 45, 58] ?_ | refine st2 ?_ | (show Fct ..; refine fctI (fun hf => ?_)) | (show SWp _ _ _ (.cond _ _ _) _ _ _ _; first | refine cB (fun hc => ?_) (fun hc => ?_) | refine cU ?_ ?_)))
    exact DVR
theorem rel_asc {p : Plan} (hp : planB p = true) {i j : Nat} (hij : i < j) (hj : j < p.rel.length) : p.rel.getD i default < p.rel.getD j default := by
  have hs : ∀ k, k + 1 < p.rel.length → p.rel.getD k default < p.rel.getD (k + 1) default := fun k hk => by
    have h := hp
    unfold planB at h
    simp only [Bool.and_eq_true, List.all_eq_true, List.mem_range] at h
    have := h.1.2 (k + 1) hk
    unfold relR at this
    simp only [Bool.and_eq_true, Bool.or_eq_true, decide_eq_true_eq] at this
    rcases this.2 with h | h
    · omega
    · simpa using h
  have key : ∀ d, i + d + 1 < p.rel.length → p.rel.getD i default < p.rel.getD (i + d + 1) default := fun d => by
    induction d with
    | zero => intro h; exact hs i h
    | succ d ih =>
      intro h
      have h1 := ih (by omega)
      have h2 := hs (i + d + 1) (by omega)
      rw [show i + (d + 1) + 1 = i + d + 1 + 1 by omega]
      omega
  have := key (j - i - 1) (by omega)
  rwa [show i + (j - i - 1) + 1 = j by omega] at this
def schB (p : Plan) (rs : List Int) : Prop := rs.length = p.inf.length ∧ ∀ i, i < rs.length → ∃ j, j < p.rel.length ∧ p.rel.getD j default = rs.getD i default
theorem schB_any {p : Plan} {rs : List Int} (h : schB p rs) : (rs.any fun r => !p.rel.any (eqB r)) = false := by
  rw [List.any_eq_false]
  intro r hr
  obtain ⟨i, hi, e⟩ := mem_getD (d := default) hr
  obtain ⟨j, hj, e2⟩ := h.2 i hi
  have : p.rel.any (eqB r) = true := List.any_eq_true.2 ⟨_, getD_mem hj, by rw [e2, e]; exact decide_eq_true rfl⟩
  simp [this]
theorem costR_sch {p : Plan} {rs : List Int} (hp : planB p = true) (h : schB p rs) : costR p rs = match pathC p rs rs.length with
    | none => (0, [], 27)
    | some a => (a.1, volsC p rs rs.length, 0) := by
  unfold costR
  rw [if_neg (by rw [hp]; decide), if_neg (fun k => k h.1), if_neg (by rw [schB_any h]; decide)]
  cases pathC p rs rs.length <;> rfl
theorem path_some {p : Plan} {rs : List Int} {a : Int × Int} : ∀ n, pathC p rs n = some a → ∀ i, i ≤ n → ∃ b, pathC p rs i = some b := fun n h i hi => by
  cases h2 : pathC p rs i with
  | none => rw [path_none h2 n hi] at h; cases h
  | some b => exact ⟨b, rfl⟩
theorem path_inC {p : Plan} {rs : List Int} (hp : planB p = true) : ∀ i {s v : Int}, pathC p rs i = some (s, v) → p.res ≤ v ∧ v ≤ p.cap
  | 0, s, v, h => by
    have e : (0, p.start) = (s, v) := Option.some.inj h
    obtain ⟨-, rfl⟩ := Prod.mk.inj e
    exact (planB_in hp).2.2.1
  | i + 1, s, v, h => by
    obtain ⟨⟨s0, v0⟩, h0⟩ := path_some (i + 1) h i (by omega)
    rw [path_next h0] at h
    split at h
    · next hpo =>
      have e := Option.some.inj h
      obtain ⟨-, rfl⟩ := Prod.mk.inj e
      exact aft_in hp hpo
    · cases h
theorem path_ge {p : Plan} {rs : List Int} (h : schB p rs) {c v : Int} (hc : pathC p rs p.inf.length = some (c, v)) : ∀ d, d ≤ p.inf.length → ∀ s w, pathC p rs (p.inf.length - d) = some (s, w) → ∃ x, vO p d w = some x ∧ s + x ≤ c
  | 0, _, s, w, hw => by
    rw [Nat.sub_zero, hc] at hw
    obtain ⟨rfl, rfl⟩ := Prod.mk.inj (Option.some.inj hw)
    exact ⟨0, rfl, by omega⟩
  | d + 1, hd, s, w, hw => by
    obtain ⟨j, hj, e⟩ := h.2 (p.inf.length - (d + 1)) (by rw [h.1]; omega)
    have hn := path_next hw
    rw [show p.inf.length - (d + 1) + 1 = p.inf.length - d by omega] at hn
    obtain ⟨⟨s2, w2⟩, h2⟩ := path_some p.inf.length hc (p.inf.length - d) (by omega)
    rw [h2] at hn
    split at hn
    · next hpo =>
      obtain ⟨rfl, rfl⟩ := Prod.mk.inj (Option.some.inj hn)
      obtain ⟨x, hx, hle⟩ := path_ge h hc d (by omega) _ _ h2
      rw [← e] at hpo hx hle
      obtain ⟨j2, c2, h3, h4, _⟩ := bestU_le p.rel.length j x hj hpo hx
      have h3 : bestO p (p.inf.length - (d + 1)) w (vO p d) = some (j2, c2) := h3
      exact ⟨c2, by rw [vO, h3]; rfl, by omega⟩
    · cases hn
theorem sch_ge {p : Plan} {rs : List Int} (h : schB p rs) {c v : Int} (hc : pathC p rs p.inf.length = some (c, v)) : ∃ x, vO p p.inf.length p.start = some x ∧ x ≤ c := by
  obtain ⟨x, h1, h2⟩ := path_ge h hc p.inf.length (Nat.le_refl _) 0 p.start (by rw [Nat.sub_self]; rfl)
  exact ⟨x, h1, by omega⟩
theorem goV_pre (p : Plan) (i : Nat) : ∀ n, i < n → (goV p n).1.getD i default = p.rel.getD (chN p i (goV p i).2) default
  | 0, h => by omega
  | n + 1, h => by
    rw [goV]
    have hl := goV_len p n
    by_cases e : i = n
    · subst e
      rw [List.getD_eq_getElem?_getD, List.getElem?_append_right (by omega), hl, Nat.sub_self]; rfl
    · rw [List.getD_eq_getElem?_getD, List.getElem?_append_left (by omega), ← List.getD_eq_getElem?_getD]
      exact goV_pre p i n (by omega)
theorem goV_ok {p : Plan} {c : Int} (h : vO p p.inf.length p.start = some c) : ∀ i, i ≤ p.inf.length → ∃ x, vO p (p.inf.length - i) (goV p i).2 = some x ∧ pathC p (goV p p.inf.length).1 i = some (c - x, (goV p i).2)
  | 0, _ => ⟨c, by rw [Nat.sub_zero]; exact h, by rw [show c - c = 0 by omega]; rfl⟩
  | i + 1, hi => by
    obtain ⟨x, h1, h2⟩ := goV_ok h i (by omega)
    obtain ⟨h3, h4, h5, y, h6, h7⟩ := ch_some (by omega : i < p.inf.length) h1
    refine ⟨y, h6, ?_⟩
    rw [path_next h2, goV_pre p i _ (by omega), if_pos h5, goV]
    rw [show c - x + costI p i (goV p i).2 (p.rel.getD (chN p i (goV p i).2) default) = c - y by omega]
theorem goV_sch {p : Plan} {c : Int} (h : vO p p.inf.length p.start = some c) : schB p (goV p p.inf.length).1 := by
  refine ⟨goV_len p _, fun i hi => ?_⟩
  rw [goV_len] at hi
  obtain ⟨x, h1, _⟩ := goV_ok h i (by omega)
  obtain ⟨_, h4, _⟩ := ch_some hi h1
  exact ⟨_, h4, (goV_pre p i _ hi).symm⟩
theorem goV_cost {p : Plan} {c : Int} (h : vO p p.inf.length p.start = some c) : pathC p (goV p p.inf.length).1 p.inf.length = some (c, (goV p p.inf.length).2) := by
  obtain ⟨x, h1, h2⟩ := goV_ok h p.inf.length (Nat.le_refl _)
  rw [Nat.sub_self] at h1
  obtain rfl : x = 0 := by simpa [vO, eq_comm] using h1
  rw [h2, show c - 0 = c by omega]
theorem path_same {p : Plan} {a b : List Int} : ∀ i, (∀ j, j < i → a.getD j default = b.getD j default) → pathC p a i = pathC p b i
  | 0, _ => rfl
  | i + 1, h => by
    rw [pathC, pathC, path_same i (fun j hj => h j (by omega)), h i (by omega)]
theorem sch_first {p : Plan} (hp : planB p = true) {rs : List Int} (h : schB p rs) {c v : Int} (hc : pathC p rs p.inf.length = some (c, v)) (hv : vO p p.inf.length p.start = some c) {i : Nat} (hi : i < p.inf.length)
    (hs : ∀ j, j < i → rs.getD j default = (goV p p.inf.length).1.getD j default) : ¬ rs.getD i default < (goV p p.inf.length).1.getD i default := by
  intro hlt
  obtain ⟨x, h1, h2⟩ := goV_ok hv i (by omega)
  obtain ⟨h3, h4, h5, y, h6, h7⟩ := ch_some hi h1
  rw [← path_same i hs] at h2
  obtain ⟨j, hj, e⟩ := h.2 i (by rw [h.1]; exact hi)
  have hn := path_next h2
  obtain ⟨⟨s2, w2⟩, hq⟩ := path_some p.inf.length hc (i + 1) (by omega)
  rw [hq] at hn
  split at hn
  · next hpo =>
    obtain ⟨rfl, rfl⟩ := Prod.mk.inj (Option.some.inj hn)
    obtain ⟨z, hz, hle⟩ := path_ge h hc (p.inf.length - (i + 1)) (by omega) _ _ (by rw [show p.inf.length - (p.inf.length - (i + 1)) = i + 1 by omega]; exact hq)
    rw [← e] at hpo hz hle hlt
    obtain ⟨j2, c2, k1, k2, k3⟩ := bestU_le p.rel.length j z hj hpo hz
    have k1 : bestO p i (goV p i).2 (vO p (p.inf.length - (i + 1))) = some (j2, c2) := k1
    rw [h3] at k1
    obtain ⟨rfl, rfl⟩ := Prod.mk.inj (Option.some.inj k1)
    rw [goV_pre p i _ hi] at hlt
    have : j < chN p i (goV p i).2 := by
      rcases Nat.lt_trichotomy j (chN p i (goV p i).2) with k | k | k
      · exact k
      · rw [k] at hlt; omega
      · have := rel_asc hp k hj; omega
    have := k3 this
    omega
  · cases hn
def sumI (l : List Int) : Nat → Int
  | 0 => 0
  | i + 1 => sumI l i + l.getD i default
theorem sumI_in {p : Plan} (hp : planB p = true) : ∀ i, i ≤ p.inf.length → 0 ≤ sumI p.inf i ∧ sumI p.inf i ≤ (i : Int) * 1099511627776
  | 0, _ => by simp [sumI]
  | i + 1, hi => by
    have ih := sumI_in hp i (by omega)
    have := (planB_in hp).2.2.2.2.2.2.2.1 i (by omega)
    rw [sumI]
    omega
def relP (p : Plan) : Int := (p.inf.length : Int) * floorT p.pen (p.rel.getD 0 default) + p.wei * max 0 (p.start - p.cap - (p.inf.length : Int) * p.rel.getD (p.rel.length - 1) default + sumI p.inf p.inf.length)
def relxR (p : Plan) : Int × Int := if planB p = false then (0, 1) else (relP p, 0)
end Go.Proofs.Ytlailhdmgehniaa
