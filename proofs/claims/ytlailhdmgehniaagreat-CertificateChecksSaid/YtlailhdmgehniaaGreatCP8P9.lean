/-
  Contracts of functions of the program, over the engine.
  No condition.
-/
import Derived.Test.YtlailhdmgehniaaGreatCP5P6P7
namespace Go.Proofs.YtlailhdmgehniaaGreat
open Go.Eng
set_option linter.all false
attribute [local irreducible] DCallsG SWp Fct CallQ XCallQ LCallQ XLCallQ drun xrun

def insV : List (Int × Int) → Int → Int → List (Int × Int)
  | [], k, c => [(k, c)]
  | e :: l, k, c => if k = e.1 then (k, c) :: l else e :: insV l k c
theorem intE_nil : intE [] = [] := by unfold intE; rfl
theorem intE_cons (e : Int × Int) (l : List (Int × Int)) : intE (e :: l) = (.int .i64 e.1, li e.2) :: intE l := by unfold intE; rfl
theorem intE_set (k c : Int) : ∀ l : List (Int × Int), mset (intE l) (.int .i64 k) (.p (.lit (.int .i64 c))) = intE (insV l k c)
  | [] => by rw [intE_nil, insV, intE_cons, intE_nil]; rfl
  | e :: l => by
    rw [intE_cons, mset, insV]
    by_cases h : k = e.1
    · rw [if_pos (show vkey (.int .i64 k) (.int .i64 e.1) = true by simp [vkey, h]), if_pos h, intE_cons]; rfl
    · rw [if_neg (show ¬ vkey (.int .i64 k) (.int .i64 e.1) = true by simp [vkey, h]), if_neg h, intE_cons, intE_set k c l]
theorem intE_mem {l : List (Int × Int)} {e : Value × DV} (h : e ∈ intE l) : ∃ z c, e = (.int .i64 z, li c) := by
  unfold intE at h
  obtain ⟨x, _, rfl⟩ := List.mem_map.1 h
  exact ⟨_, _, rfl⟩
theorem intE_uses (U : Nat → Prop) (l : List (Int × Int)) : DV.usesL U ((intE l).map (·.2)) = True :=
  propext ⟨fun _ => trivial, fun _ => usesL_iff.2 fun d hd => by
    obtain ⟨e, he, rfl⟩ := List.mem_map.1 hd
    obtain ⟨z, c, rfl⟩ := intE_mem he
    trivial⟩
theorem intE_same (f : DV → DV) (hf : ∀ n, f (li n) = li n) (l : List (Int × Int)) : (intE l).map (fun e => (e.1, f e.2)) = intE l := by
  unfold intE; rw [List.map_map]
  exact List.map_congr_left fun e _ => by simp only [Function.comp, hf]
theorem intE_mp (r : Nat → Nat) (l : List (Int × Int)) : (intE l).map (fun e => (e.1, e.2.mp r)) = intE l := intE_same (DV.mp r) (fun _ => rfl) l
theorem intE_ren (o n : Nat) (l : List (Int × Int)) : (intE l).map (fun e => (e.1, e.2.ren o n)) = intE l := intE_same (DV.ren o n) (fun _ => rfl) l
theorem intE_frz (o : Nat) (x : FV) (l : List (Int × Int)) : (intE l).map (fun e => (e.1, e.2.frz o x)) = intE l := intE_same (DV.frz o x) (fun _ => rfl) l
theorem pvL_p : ∀ l : List PV, pvL (l.map DV.p) = some l
  | [] => rfl
  | x :: l => by rw [List.map_cons, pvL, pvL_p l]; rfl
theorem intE_fv (l : List (Int × Int)) : HV.fv (.map (intE l)) = some (.mp (l.map fun e => .int .i64 e.1) (l.map fun e => .lit (.int .i64 e.2))) := by
  have e1 : (intE l).map (·.2) = (l.map fun e => PV.lit (.int .i64 e.2)).map DV.p := by unfold intE; rw [List.map_map, List.map_map]; rfl
  have e2 : (intE l).map (·.1) = l.map fun e => (.int .i64 e.1 : Value) := by unfold intE; rw [List.map_map]; rfl
  simp only [HV.fv]
  rw [e1, e2, pvL_p]; rfl
theorem mapE_eq (l : List (Int × Int)) : PV.map (l.map fun e => .int .i64 e.1) (l.map fun e => .lit (.int .i64 e.2)) = mapE l := by unfold mapE; rfl
attribute [push_cast] intE_set intE_uses intE_mp intE_ren intE_frz
def lastN (row : List Int) (i : Nat) : List (Int × Int) := (List.range i).foldl (fun l j => insV l (row.getD j default) 0) []
def lineN (p : Plan) (k : Nat) (row : List Int) (nx : List (Int × Int)) (i : Nat) : List (Int × Int) :=
  (List.range i).foldl (fun l j => if (bestI p k (row.getD j default) nx).2.2 then insV l (row.getD j default) (bestI p k (row.getD j default) nx).2.1 else l) []
def valsD (p : Plan) (s : Nat) (rs : List (List Int)) : Nat → List (Int × Int)
  | 0 => lastN (rs.getD (rs.length - 1) default) (rs.getD (rs.length - 1) default).length
  | d + 1 => lineN p (s + (rs.length - 1 - (d + 1))) (rs.getD (rs.length - 1 - (d + 1)) default) (valsD p s rs d) (rs.getD (rs.length - 1 - (d + 1)) default).length
theorem lastN_next (row : List Int) (i : Nat) : lastN row (i + 1) = insV (lastN row i) (row.getD i default) 0 := by
  unfold lastN; rw [List.range_succ, List.foldl_append]; rfl
theorem lineN_next (p : Plan) (k : Nat) (row : List Int) (nx : List (Int × Int)) (i : Nat) : lineN p k row nx (i + 1) = if (bestI p k (row.getD i default) nx).2.2 then insV (lineN p k row nx i) (row.getD i default) (bestI p k (row.getD i default) nx).2.1 else lineN p k row nx i := by
  unfold lineN; rw [List.range_succ, List.foldl_append]; rfl
def one (x : PV) : List PV := [x]
def nilP : PV := .lit (.map none)
def outL (a : Nat) (d : DV) (X : List PV) : List (List DV) := rows one (List.replicate a nilP) ++ [d] :: rows one X
theorem outL_start (L : Nat) (d : DV) : (List.replicate (L + 1) [DV.p (.lit (.map none))]).set L [d] = outL L d [] := by
  rw [List.replicate_succ', List.set_append_right _ _ (by simp)]; simp [outL, rows, one, nilP]
def valRow (l : List (Int × Int)) : List PV := [mapE l]
theorem set_last {α} (L : Nat) (a x : α) : (List.replicate (L + 1) a).set L x = List.replicate L a ++ [x] := by
  rw [List.replicate_succ', List.set_append_right _ _ (by simp)]; simp
theorem out_get (a : Nat) (r : List DV) (X : List (List DV)) : (rows one (List.replicate a nilP) ++ r :: X).getD a [] = r := by
  rw [List.getD_eq_getElem?_getD, List.getElem?_append_right (by simp [rows])]; simp [rows]
theorem out_set (a : Nat) (r r2 : List DV) (X : List (List DV)) : (rows one (List.replicate a nilP) ++ r :: X).set a r2 = rows one (List.replicate a nilP) ++ r2 :: X := by
  rw [List.set_append_right _ _ (by simp [rows])]; simp [rows]
theorem out_frz (R : List PV) (o : Nat) (l : List (Int × Int)) (X : List PV) : (rows one R ++ [DV.mref o] :: rows one X).map (DV.frzL o (.mp (l.map fun e => .int .i64 e.1) (l.map fun e => .lit (.int .i64 e.2)))) = rows one R ++ rows one (mapE l :: X) := by
  rw [List.map_append, List.map_cons, frz_rows, frz_rows, ← mapE_eq]
  simp [DV.frzL, DV.frz, rows, one]
def doneX (p : Plan) (s : Nat) (rs : List (List Int)) (d : Nat) : List PV := (List.range (d + 1)).map fun t => mapE (valsD p s rs (d - t))
theorem doneX_next (p : Plan) (s : Nat) (rs : List (List Int)) (d : Nat) : doneX p s rs (d + 1) = mapE (valsD p s rs (d + 1)) :: doneX p s rs d := by
  unfold doneX
  rw [List.range_succ_eq_map, List.map_cons, List.map_map]
  congr 1
  exact List.map_congr_left fun t _ => by simp only [Function.comp, Nat.succ_eq_add_one, Nat.add_sub_add_right]
theorem rep_last (b : Nat) : rows one (List.replicate (b + 1) nilP) = rows one (List.replicate b nilP) ++ [[.p nilP]] := by
  rw [List.replicate_succ']; simp [rows, one]
theorem doneX_len (p : Plan) (s : Nat) (rs : List (List Int)) (d : Nat) : (doneX p s rs d).length = d + 1 := by simp [doneX]
theorem doneX_zero (p : Plan) (s : Nat) (rs : List (List Int)) (d : Nat) : (rows one (doneX p s rs d))[0]? = some [.p (mapE (valsD p s rs d))] := by
  simp [doneX, rows, one]
theorem out_next (a : Nat) (r : List DV) (p : Plan) (s : Nat) (rs : List (List Int)) (d : Nat) : (rows one (List.replicate a nilP) ++ r :: rows one (doneX p s rs d)).getD (a + 1) [] = [.p (mapE (valsD p s rs d))] := by
  rw [List.getD_eq_getElem?_getD, List.getElem?_append_right (by simp [rows]), show a + 1 - (rows one (List.replicate a nilP)).length = 0 + 1 by simp [rows], List.getElem?_cons_succ, doneX_zero]; rfl
attribute [push_cast] out_get out_set List.length_replicate out_next doneX_len
set_option maxRecDepth 20000 in
set_option maxHeartbeats 16000000 in
theorem values_f (p : Plan) (s : Nat) (rs : List (List Int)) (m : Nat) (hp : planB p = true) (h1 : 1 ≤ rs.length) (h2 : s + (rs.length - 1) ≤ p.inf.length) (hrl : ∀ r, r ∈ rs → r.length ≤ 4000) (hri : ∀ r, r ∈ rs → inCap p r) (hvv : ∀ d, d < rs.length → ∀ z, 0 ≤ valI (valsD p s rs d) z ∧ valI (valsD p s rs d) z ≤ 900000000000000000) :
    DCalls Tryz.prog 27 [.ptr 0 0, li s, .p (.dat 1 (rs.map ilRow))] (hget (tkH p)) m (.p (.dat 1 ((List.range rs.length).map fun i => valRow (valsD p s rs (rs.length - 1 - i))))) (hget (tkH p)) := by
  have hin := planB_in hp
  have hil := hin.2.2.2.1
  obtain ⟨L, hL⟩ : ∃ L, rs.length = L + 1 := ⟨rs.length - 1, by omega⟩
  have hL1 : (rs.length : Int) - 1 = (L : Int) := by omega
  have hLl : L < rs.length := by omega
  have hlast := hrl _ (getD_mem hLl)
  (have := Nonempty.intro hLl)
  refine contract (n := 85) (rs := [.tmp 6]) (ts := [61]) Tryz.func27 rfl (by decide) 1 1 [25] [] [] (.p (.dat 1 ((List.range rs.length).map fun i => valRow (valsD p s rs (rs.length - 1 - i))))) (tkH p) (by (exact SD)) (by (exact SD)) ?_
  (repeat' (first | refine swp_seq [0, 1, 2, 6, 7, 8, 10, 11, 13, 15, 16, 30, 31, 32, 33, 45, 55, 56, 57, 58, 76] ?_ | refine st2 ?_ | (show Fct ..; refine fctI (fun hf => ?_)) | (show SWp _ _ _ (.cond _ _ _) _ _ _ _; first | refine cB (fun hc => ?_) (fun hc => ?_) | refine cU ?_ ?_)))
  have hsetl : ∀ (x : DV), (List.replicate rs.length [DV.p (.lit (.map none))]).set (rs.length - 1) [x] = outL L x [] := fun x => by rw [hL]; exact outL_start L x
  have hLr : rs.length - 1 = L := by omega
  refine loop_swp [0, 1, 2, 7, 8, 30, 31, 32] [0, 25, 89] 90 (fun q A H => ∃ i : Nat, i ≤ (rs.getD (rs.length - 1) default).length ∧ q = (rs.getD (rs.length - 1) default).length - i ∧ A = [(0, .ptr 0 0), (1, li s), (2, .p (.dat 1 (rs.map ilRow))), (7, .gl 25), (8, li L), (30, ints (rs.getD (rs.length - 1) default)), (31, li (rs.getD (rs.length - 1) default).length), (32, li i)] ∧ H = [(0, .blk 85 (tkC p (ints (p.rel.map (floorT p.pen))))), (25, .lst 64 1 (rows one (List.replicate L nilP) ++ [[.mref 89]])), (89, .map (intE (lastN (rs.getD (rs.length - 1) default) i)))]) (by omega) ?_ ?_ ?_
  · rintro q A H ⟨i, g1, g2, rfl, rfl⟩
    exact ⟨by (exact SD), by (exact SD)⟩
  · refine ⟨_, 0, by omega, rfl, ?_, ?_⟩
    · rw [← hL1]
      exact DVR
    · rw [show lastN (rs.getD (rs.length - 1) default) 0 = [] from rfl, intE_nil, show rows one (List.replicate L nilP) ++ [[DV.mref 89]] = outL L (.mref 89) [] from rfl, ← hsetl (.mref 89)]
      have e5 : ∀ d, d :: List.drop 1 ((List.replicate rs.length [DV.p (.lit (.map none))]).getD (rs.length - 1) []) = [d] := fun d => by
        rw [hL, List.getD_eq_getElem?_getD, List.getElem?_replicate, if_pos (by omega)]; rfl
      rw [e5]
      rfl
  rintro q A H ⟨i, g1, g2, rfl, rfl⟩
  generalize hrw : rs.getD (rs.length - 1) default = row at *
  by_cases hi : i < row.length
  · have hi3 : (i : Int) < (row.length : Int) := by omega
    have hln := lastN_next row i
    (have := Nonempty.intro hi)
    (have := Nonempty.intro hi3)
    (repeat' (first | refine swp_seq [0, 1, 2, 6, 7, 8, 10, 11, 13, 15, 16, 30, 31, 32, 33, 45, 55, 56, 57, 58, 76] ?_ | refine st2 ?_ | (show Fct ..; refine fctI (fun hf => ?_)) | (show SWp _ _ _ (.cond _ _ _) _ _ _ _; first | refine cB (fun hc => ?_) (fun hc => ?_) | refine cU ?_ ?_)))
    rw [← hln]
    (refine lN [0, 25, 89] ?_)
    exact ⟨_, by omega, i + 1, by omega, rfl, rfl, rfl⟩
  obtain rfl : i = row.length := by omega
  have hi3 : ¬ (row.length : Int) < (row.length : Int) := by omega
  (have := Nonempty.intro hi3)
  have hfv := intE_fv (lastN row row.length)
  generalize hln : lastN row row.length = LN at *
  refine sF 89 (v := .map (intE LN)) (x := .mp (LN.map fun e => .int .i64 e.1) (LN.map fun e => .lit (.int .i64 e.2))) ?_ (hx := intE_fv LN)
  rw [show rows one (List.replicate L nilP) ++ [[DV.mref 89]] = rows one (List.replicate L nilP) ++ [DV.mref 89] :: rows one [] from rfl, out_frz, show [mapE LN] = doneX p s rs 0 from by rw [← hln, ← hrw]; rfl]
  (repeat' (first | refine swp_seq [0, 1, 2, 6, 7, 8, 10, 11, 13, 15, 16, 30, 31, 32, 33, 45, 55, 56, 57, 58, 76] ?_ | refine st2 ?_ | (show Fct ..; refine fctI (fun hf => ?_)) | (show SWp _ _ _ (.cond _ _ _) _ _ _ _; first | refine cB (fun hc => ?_) (fun hc => ?_) | refine cU ?_ ?_)))
  refine loop_swp [0, 1, 2, 7, 11] [0, 25] 90 (fun q A H => ∃ a d : Nat, a + d = L ∧ q = a ∧ A = [(0, .ptr 0 0), (1, li s), (2, .p (.dat 1 (rs.map ilRow))), (7, .gl 25), (11, li ((a : Int) - 1))] ∧ H = [(0, .blk 85 (tkC p (ints (p.rel.map (floorT p.pen))))), (25, .lst 64 1 (rows one (List.replicate a nilP) ++ rows one (doneX p s rs d)))]) (by omega) ?_ ?_ ?_
  · rintro q A H ⟨i, d, g1, g2, rfl, rfl⟩
    exact ⟨by (exact SD), by (exact SD)⟩
  · refine ⟨_, L, 0, by omega, rfl, ?_, ?_⟩
    · exact DVR
    · exact DVR
  rintro q A H ⟨a, d, g1, g2, rfl, rfl⟩
  by_cases ha : 1 ≤ a
  · obtain ⟨b, rfl⟩ : ∃ b, a = b + 1 := ⟨a - 1, by omega⟩
    have hb0 : (0 : Int) ≤ (b : Int) := by omega
    have hb1 : ((b + 1 : Nat) : Int) - 1 = (b : Int) := by omega
    have hbl : b < rs.length := by omega
    have hsb : s + b < p.inf.length := by omega
    have hrb := hrl _ (getD_mem hbl)
    rw [rep_last, hb1, show ∀ (X Y Z : List (List DV)), X ++ Y ++ Z = X ++ (Y ++ Z) from fun X Y Z => List.append_assoc X Y Z, show ∀ (r : List DV) (Z : List (List DV)), [r] ++ Z = r :: Z from fun _ _ => rfl]
    have hri2 := hri _ (getD_mem hbl)
    have hvd : valsD p s rs (d + 1) = lineN p (s + b) (rs.getD b default) (valsD p s rs d) (rs.getD b default).length := by
      rw [valsD, show rs.length - 1 - (d + 1) = b by omega]
    have hdx := doneX_next p s rs d
    rw [hvd] at hdx
    (have := Nonempty.intro hbl)
    (have := Nonempty.intro hb0)
    (repeat' (first | refine swp_seq [0, 1, 2, 6, 7, 8, 10, 11, 13, 15, 16, 30, 31, 32, 33, 45, 55, 56, 57, 58, 76] ?_ | refine st2 ?_ | (show Fct ..; refine fctI (fun hf => ?_)) | (show SWp _ _ _ (.cond _ _ _) _ _ _ _; first | refine cB (fun hc => ?_) (fun hc => ?_) | refine cU ?_ ?_)))
    generalize rs.getD b default = row at *
    refine loop_swp [0, 1, 2, 7, 11, 55, 56, 57] [0, 25, 122] 194 (fun q A H => ∃ i : Nat, i ≤ row.length ∧ q = row.length - i ∧ A = [(0, .ptr 0 0), (1, li s), (2, .p (.dat 1 (rs.map ilRow))), (7, .gl 25), (11, li b), (55, ints row), (56, li row.length), (57, li i)] ∧ H = [(0, .blk 85 (tkC p (ints (p.rel.map (floorT p.pen))))), (25, .lst 64 1 (rows one (List.replicate b nilP) ++ [DV.mref 122] :: rows one (doneX p s rs d))), (122, .map (intE (lineN p (s + b) row (valsD p s rs d) i)))]) (by omega) ?_ ?_ ?_
    · rintro q A H ⟨i, g1, g2, rfl, rfl⟩
      exact ⟨by (exact SD), by (exact SD)⟩
    · refine ⟨_, 0, by omega, rfl, ?_, ?_⟩
      · exact DVR
      · rw [show lineN p (s + b) row (valsD p s rs d) 0 = [] from rfl, intE_nil]
        exact DVR
    rintro q A H ⟨i, g1, g2, rfl, rfl⟩
    by_cases hi : i < row.length
    · have hi3 : (i : Int) < (row.length : Int) := by omega
      have hln := lineN_next p (s + b) row (valsD p s rs d) i
      (have := Nonempty.intro hi)
      (have := Nonempty.intro hi3)
      (repeat' (first | refine swp_seq [0, 1, 2, 6, 7, 8, 10, 11, 13, 15, 16, 30, 31, 32, 33, 45, 55, 56, 57, 58, 76] ?_ | refine st2 ?_ | (show Fct ..; refine fctI (fun hf => ?_)) | (show SWp _ _ _ (.cond _ _ _) _ _ _ _; first | refine cB (fun hc => ?_) (fun hc => ?_) | refine cU ?_ ?_)))
      have hvi : 0 ≤ row.getD i default ∧ row.getD i default ≤ 1099511627776 := by
        have h5 := hri2 _ (getD_mem hi)
        have h6 := hin.2.1
        have h7 := hin.1
        omega
      have cs := fun m => best_f p (s + b) (row.getD i default) (valsD p s rs d) m hp hsb hvi (hvv d (by omega))
      cases hpo : (bestI p (s + b) (row.getD i default) (valsD p s rs d)).2.2
      · rw [hpo, if_neg (by decide)] at hln
        rw [hpo] at cs
        (refine cQT [0] (fun hcc => (cs _)) ?_)
        (repeat' (first | refine swp_seq [0, 1, 2, 6, 7, 8, 10, 11, 13, 15, 16, 30, 31, 32, 33, 45, 55, 56, 57, 58, 76] ?_ | refine st2 ?_ | (show Fct ..; refine fctI (fun hf => ?_)) | (show SWp _ _ _ (.cond _ _ _) _ _ _ _; first | refine cB (fun hc => ?_) (fun hc => ?_) | refine cU ?_ ?_)))
        rw [← hln]
        (refine lN [0, 25, 122] ?_)
        exact ⟨_, by omega, i + 1, by omega, rfl, rfl, rfl⟩
      · rw [hpo, if_pos rfl] at hln
        rw [hpo] at cs
        (refine cQT [0] (fun hcc => (cs _)) ?_)
        (repeat' (first | refine swp_seq [0, 1, 2, 6, 7, 8, 10, 11, 13, 15, 16, 30, 31, 32, 33, 45, 55, 56, 57, 58, 76] ?_ | refine st2 ?_ | (show Fct ..; refine fctI (fun hf => ?_)) | (show SWp _ _ _ (.cond _ _ _) _ _ _ _; first | refine cB (fun hc => ?_) (fun hc => ?_) | refine cU ?_ ?_)))
        rw [← hln]
        (refine lN [0, 25, 122] ?_)
        exact ⟨_, by omega, i + 1, by omega, rfl, rfl, rfl⟩
    obtain rfl : i = row.length := by omega
    have hi3 : ¬ (row.length : Int) < (row.length : Int) := by omega
    (have := Nonempty.intro hi3)
    generalize lineN p (s + b) row (valsD p s rs d) row.length = LN at *
    (repeat' (first | (show SWp _ _ _ (.region 11 _ _) _ _ _ _; refine (stop_in ?_)) | refine swp_seq [0, 1, 2, 6, 7, 8, 10, 11, 13, 15, 16, 30, 31, 32, 33, 45, 55, 56, 57, 58, 76] ?_ | refine st2 ?_ | (show CallQ ..; first | refine cQ (fun hcc => (by fail)) ?_ | (refine lP ?_; refine lQ (fun hcc m => (by fail)) ?_)) | (show Fct ..; refine fctI (fun hf => ?_)) | (show SWp _ _ _ (.cond _ _ _) _ _ _ _; first | refine cB (fun hc => ?_) (fun hc => ?_) | refine cU ?_ ?_)))
    refine stop_out ?_
    refine sF 122 (v := .map (intE LN)) (x := .mp (LN.map fun e => .int .i64 e.1) (LN.map fun e => .lit (.int .i64 e.2))) ?_ (hx := intE_fv LN)
    rw [out_frz, ← hdx]
    (repeat' (first | refine swp_seq [0, 1, 2, 6, 7, 8, 10, 11, 13, 15, 16, 30, 31, 32, 33, 45, 55, 56, 57, 58, 76] ?_ | refine st2 ?_ | (show Fct ..; refine fctI (fun hf => ?_)) | (show SWp _ _ _ (.cond _ _ _) _ _ _ _; first | refine cB (fun hc => ?_) (fun hc => ?_) | refine cU ?_ ?_)))
    (refine lN [0, 25] ?_)
    exact ⟨_, by omega, b, d + 1, by omega, rfl, rfl, by rw [rows_app]⟩
  · obtain rfl : a = 0 := by omega
    obtain rfl : d = L := by omega
    rw [show (List.range rs.length).map (fun i => valRow (valsD p s rs (rs.length - 1 - i))) = (doneX p s rs d).map one from by rw [hL]; unfold doneX; rw [List.map_map]; rfl]
    (repeat' (first | refine swp_seq [0, 1, 2, 6, 7, 8, 10, 11, 13, 15, 16, 30, 31, 32, 33, 45, 55, 56, 57, 58, 76] ?_ | refine st2 ?_ | (show Fct ..; refine fctI (fun hf => ?_)) | (show SWp _ _ _ (.cond _ _ _) _ _ _ _; first | refine cB (fun hc => ?_) (fun hc => ?_) | refine cU ?_ ?_)))
    exact DVR

end Go.Proofs.YtlailhdmgehniaaGreat
