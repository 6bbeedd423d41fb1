/-
  Contracts of functions of the program, over the engine.
  No condition.
-/
import Derived.Test.YtlailhdmgehniaaCP4P5P6P7
namespace Go.Proofs.Ytlailhdmgehniaa
open Go.Eng
set_option linter.all false
attribute [local irreducible] DCallsG SWp Fct CallQ XCallQ LCallQ XLCallQ drun xrun

def insV : List (Int × Int) → Int → Int → List (Int × Int)
  | [], k, c => [(k, c)]
  | e :: l, k, c => if k = e.1 then (k, c) :: l else e :: insV l k c
theorem intE_nil : intE [] = [] := by unfold intE; rfl
theorem intE_cons (e : Int × Int) (l : List (Int × Int)) : intE (e :: l) = (.int .i64 e.1, li e.2) :: intE l := by unfold intE; rfl
theorem intE_set (k c : Int) : ∀ l : List (Int × Int), mset (intE l) (.int .i64 k) (.p (.lit (.int .i64 c))) = intE (insV l k c)
  | [] => by rw [intE_nil, insV, intE_cons, intE_nil]; rfl
  | e :: l => by
    rw [intE_cons, mset, insV]
    by_cases h : k = e.1
    · rw [if_pos (show vkey (.int .i64 k) (.int .i64 e.1) = true by simp [vkey, h]), if_pos h, intE_cons]; rfl
    · rw [if_neg (show ¬ vkey (.int .i64 k) (.int .i64 e.1) = true by simp [vkey, h]), if_neg h, intE_cons, intE_set k c l]
theorem intE_mem {l : List (Int × Int)} {e : Value × DV} (h : e ∈ intE l) : ∃ z c, e = (.int .i64 z, li c) := by
  unfold intE at h
  obtain ⟨x, _, rfl⟩ := List.mem_map.1 h
  exact ⟨_, _, rfl⟩
theorem intE_uses (U : Nat → Prop) (l : List (Int × Int)) : DV.usesL U ((intE l).map (·.2)) = True :=
  propext ⟨fun _ => trivial, fun _ => usesL_iff.2 fun d hd => by
    obtain ⟨e, he, rfl⟩ := List.mem_map.1 hd
    obtain ⟨z, c, rfl⟩ := intE_mem he
    trivial⟩
theorem intE_same (f : DV → DV) (hf : ∀ n, f (li n) = li n) (l : List (Int × Int)) : (intE l).map (fun e => (e.1, f e.2)) = intE l := by
  unfold intE; rw [List.map_map]
  exact List.map_congr_left fun e _ => by simp only [Function.comp, hf]
theorem intE_mp (r : Nat → Nat) (l : List (Int × Int)) : (intE l).map (fun e => (e.1, e.2.mp r)) = intE l := intE_same (DV.mp r) (fun _ => rfl) l
theorem intE_ren (o n : Nat) (l : List (Int × Int)) : (intE l).map (fun e => (e.1, e.2.ren o n)) = intE l := intE_same (DV.ren o n) (fun _ => rfl) l
theorem intE_frz (o : Nat) (x : FV) (l : List (Int × Int)) : (intE l).map (fun e => (e.1, e.2.frz o x)) = intE l := intE_same (DV.frz o x) (fun _ => rfl) l
theorem pvL_p : ∀ l : List PV, pvL (l.map DV.p) = some l
  | [] => rfl
  | x :: l => by rw [List.map_cons, pvL, pvL_p l]; rfl
theorem intE_fv (l : List (Int × Int)) : HV.fv (.map (intE l)) = some (.mp (l.map fun e => .int .i64 e.1) (l.map fun e => .lit (.int .i64 e.2))) := by
  have e1 : (intE l).map (·.2) = (l.map fun e => PV.lit (.int .i64 e.2)).map DV.p := by unfold intE; rw [List.map_map, List.map_map]; rfl
  have e2 : (intE l).map (·.1) = l.map fun e => (.int .i64 e.1 : Value) := by unfold intE; rw [List.map_map]; rfl
  simp only [HV.fv]
  rw [e1, e2, pvL_p]; rfl
theorem mapE_eq (l : List (Int × Int)) : PV.map (l.map fun e => .int .i64 e.1) (l.map fun e => .lit (.int .i64 e.2)) = mapE l := by unfold mapE; rfl
attribute [push_cast] intE_set intE_uses intE_mp intE_ren intE_frz
def lastN (row : List Int) (i : Nat) : List (Int × Int) := (List.range i).foldl (fun l j => insV l (row.getD j default) 0) []
def lineN (p : Plan) (k : Nat) (row : List Int) (nx : List (Int × Int)) (i : Nat) : List (Int × Int) :=
  (List.range i).foldl (fun l j => if (bestI p k (row.getD j default) nx).2.2 then insV l (row.getD j default) (bestI p k (row.getD j default) nx).2.1 else l) []
def valsD (p : Plan) (s : Nat) (rs : List (List Int)) : Nat → List (Int × Int)
  | 0 => lastN (rs.getD (rs.length - 1) default) (rs.getD (rs.length - 1) default).length
  | d + 1 => lineN p (s + (rs.length - 1 - (d + 1))) (rs.getD (rs.length - 1 - (d + 1)) default) (valsD p s rs d) (rs.getD (rs.length - 1 - (d + 1)) default).length
theorem lastN_next (row : List Int) (i : Nat) : lastN row (i + 1) = insV (lastN row i) (row.getD i default) 0 := by
  unfold lastN; rw [List.range_succ, List.foldl_append]; rfl
theorem lineN_next (p : Plan) (k : Nat) (row : List Int) (nx : List (Int × Int)) (i : Nat) : lineN p k row nx (i + 1) = if (bestI p k (row.getD i default) nx).2.2 then insV (lineN p k row nx i) (row.getD i default) (bestI p k (row.getD i default) nx).2.1 else lineN p k row nx i := by
  unfold lineN; rw [List.range_succ, List.foldl_append]; rfl
def one (x : PV) : List PV := [x]
def nilP : PV := .lit (.map none)
def outL (a : Nat) (d : DV) (X : List PV) : List (List DV) := rows one (List.replicate a nilP) ++ [d] :: rows one X
theorem outL_start (L : Nat) (d : DV) : (List.replicate (L + 1) [DV.p (.lit (.map none))]).set L [d] = outL L d [] := by
  rw [List.replicate_succ', List.set_append_right _ _ (by simp)]; simp [outL, rows, one, nilP]
def valRow (l : List (Int × Int)) : List PV := [mapE l]
theorem set_last {α} (L : Nat) (a x : α) : (List.replicate (L + 1) a).set L x = List.replicate L a ++ [x] := by
  rw [List.replicate_succ', List.set_append_right _ _ (by simp)]; simp
theorem out_get (a : Nat) (r : List DV) (X : List (List DV)) : (rows one (List.replicate a nilP) ++ r :: X).getD a [] = r := by
  rw [List.getD_eq_getElem?_getD, List.getElem?_append_right (by simp [rows])]; simp [rows]
theorem out_set (a : Nat) (r r2 : List DV) (X : List (List DV)) : (rows one (List.replicate a nilP) ++ r :: X).set a r2 = rows one (List.replicate a nilP) ++ r2 :: X := by
  rw [List.set_append_right _ _ (by simp [rows])]; simp [rows]
theorem out_frz (R : List PV) (o : Nat) (l : List (Int × Int)) (X : List PV) : (rows one R ++ [DV.mref o] :: rows one X).map (DV.frzL o (.mp (l.map fun e => .int .i64 e.1) (l.map fun e => .lit (.int .i64 e.2)))) = rows one R ++ rows one (mapE l :: X) := by
  rw [List.map_append, List.map_cons, frz_rows, frz_rows, ← mapE_eq]
  simp [DV.frzL, DV.frz, rows, one]
def doneX (p : Plan) (s : Nat) (rs : List (List Int)) (d : Nat) : List PV := (List.range (d + 1)).map fun t => mapE (valsD p s rs (d - t))
theorem doneX_next (p : Plan) (s : Nat) (rs : List (List Int)) (d : Nat) : doneX p s rs (d + 1) = mapE (valsD p s rs (d + 1)) :: doneX p s rs d := by
  unfold doneX
  rw [List.range_succ_eq_map, List.map_cons, List.map_map]
  congr 1
  exact List.map_congr_left fun t _ => by simp only [Function.comp, Nat.succ_eq_add_one, Nat.add_sub_add_right]
theorem rep_last (b : Nat) : rows one (List.replicate (b + 1) nilP) = rows one (List.replicate b nilP) ++ [[.p nilP]] := by
  rw [List.replicate_succ']; simp [rows, one]
theorem doneX_len (p : Plan) (s : Nat) (rs : List (List Int)) (d : Nat) : (doneX p s rs d).length = d + 1 := by simp [doneX]
theorem doneX_zero (p : Plan) (s : Nat) (rs : List (List Int)) (d : Nat) : (rows one (doneX p s rs d))[0]? = some [.p (mapE (valsD p s rs d))] := by
  simp [doneX, rows, one]
theorem out_next (a : Nat) (r : List DV) (p : Plan) (s : Nat) (rs : List (List Int)) (d : Nat) : (rows one (List.replicate a nilP) ++ r :: rows one (doneX p s rs d)).getD (a + 1) [] = [.p (mapE (valsD p s rs d))] := by
  rw [List.getD_eq_getElem?_getD, List.getElem?_append_right (by simp [rows]), show a + 1 - (rows one (List.replicate a nilP)).length = 0 + 1 by simp [rows], List.getElem?_cons_succ, doneX_zero]; rfl
attribute [push_cast] out_get out_set List.length_replicate out_next doneX_len
set_option maxRecDepth 20000 in
set_option maxHeartbeats 16000000 in
theorem values_f (p : Plan) (s : Nat) (rs : List (List Int)) (m : Nat) (hp : planB p = true) (h1 : 1 ≤ rs.length) (h2 : s + (rs.length - 1) ≤ p.inf.length) (hrl : ∀ r, r ∈ rs → r.length ≤ 4000) (hri : ∀ r, r ∈ rs → inCap p r) (hvv : ∀ d, d < rs.length → ∀ z, 0 ≤ valI (valsD p s rs d) z ∧ valI (valsD p s rs d) z ≤ 900000000000000000) :
    DCalls Try.prog 21 [.ptr 0 0, li s, .p (.dat 1 (rs.map ilRow))] (hget (tkH p)) m (.p (.dat 1 ((List.range rs.length).map fun i => valRow (valsD p s rs (rs.length - 1 - i))))) (hget (tkH p)) := by
  have hin := planB_in hp
  have hil := hin.2.2.2.1
  obtain ⟨L, hL⟩ : ∃ L, rs.length = L + 1 := ⟨rs.length - 1, by omega⟩
  have hL1 : (rs.length : Int) - 1 = (L : Int) := by omega
  have hLl : L < rs.length := by omega
  have hlast := hrl _ (getD_mem hLl)
  (have := Nonempty.intro hLl)
  refine contract (n := 85) (rs := [.tmp 6]) (ts := [52]) Try.func21 rfl (by decide) 1 1 [25] [] [] (.p (.dat 1 ((List.range rs.length).map fun i => valRow (valsD p s rs (rs.length - 1 - i))))) (tkH p) (by (exact SD)) (by (exact SD)) ?_
  (repeat' (first | refine swp_seq [0, 1, 2, 6, 7, 8, 10, 11, 13, 15, 16, 30, 31, 32, 33, 45, 55, 56, 57, 58, 76] ?_ | refine st2 ?_ | (show Fct ..; refine fctI (fun hf => ?_)) | (show SWp _ _ _ (.cond _ _ _) _ _ _ _; first | refine cB (fun hc => ?_) (fun hc => ?_) | refine cU ?_ ?_)))
  have hsetl : ∀ (x : DV), (List.replicate rs.length [DV.p (.lit (.map none))]).set (rs.length - 1) [x] = outL L x [] := fun x => by rw [hL]; exact outL_start L x
  have hLr : rs.length - 1 = L := by omega
  refine loop_swp [0, 1, 2, 7, 8, 30, 31, 32] [0, 25, 89] 90 (fun q A H => ∃ i : Nat, i ≤ (rs.getD (rs.length - 1) default).length ∧ q = (rs.getD (rs.length - 1) default).length - i ∧ A = [(0, .ptr 0 0), (1, li s), (2, .p (.dat 1 (rs.map ilRow))), (7, .gl 25), (8, li L), (30, ints (rs.getD (rs.length - 1) default)), (31, li (rs.getD (rs.length - 1) default).length), (32, li i)] ∧ H = [(0, .blk 73 (tkC p (ints (p.rel.map (floorT p.pen))))), (25, .lst 55 1 (rows one (List.replicate L nilP) ++ [[.mref 89]])), (89, .map (intE (lastN (rs.getD (rs.length - 1) default) i)))]) (by omega) ?_ ?_ ?_
  · rintro q A H ⟨i, g1, g2, rfl, rfl⟩
    exact ⟨by (exact SD), by (exact SD)⟩
  · refine ⟨_, 0, by omega, rfl, ?_, ?_⟩
    · rw [← hL1]
      exact DVR
    · rw [show lastN (rs.getD (rs.length - 1) default) 0 = [] from rfl, intE_nil, show rows one (List.replicate L nilP) ++ [[DV.mref 89]] = outL L (.mref 89) [] from rfl, ← hsetl (.mref 89)]
      have e5 : ∀ d, d :: List.drop 1 ((List.replicate rs.length [DV.p (.lit (.map none))]).getD (rs.length - 1) []) = [d] := fun d => by
        rw [hL, List.getD_eq_getElem?_getD, List.getElem?_replicate, if_pos (by omega)]; rfl
      rw [e5]
      rfl
  rintro q A H ⟨i, g1, g2, rfl, rfl⟩
  generalize hrw : rs.getD (rs.length - 1) default = row at *
  by_cases hi : i < row.length
  · have hi3 : (i : Int) < (row.length : Int) := by omega
    have hln := lastN_next row i
    (have := Nonempty.intro hi)
    (have := Nonempty.intro hi3)
    (repeat' (first | refine swp_seq [0, 1, 2, 6, 7, 8, 10, 11, 13, 15, 16, 30, 31, 32, 33, 45, 55, 56, 57, 58, 76] ?_ | refine st2 ?_ | (show Fct ..; refine fctI (fun hf => ?_)) | (show SWp _ _ _ (.cond _ _ _) _ _ _ _; first | refine cB (fun hc => ?_) (fun hc => ?_) | refine cU ?_ ?_)))
    rw [← hln]
    (refine lN [0, 25, 89] ?_)
    exact ⟨_, by omega, i + 1, by omega, rfl, rfl, rfl⟩
  obtain rfl : i = row.length := by omega
  have hi3 : ¬ (row.length : Int) < (row.length : Int) := by omega
  (have := Nonempty.intro hi3)
  have hfv := intE_fv (lastN row row.length)
  generalize hln : lastN row row.length = LN at *
  refine sF 89 (v := .map (intE LN)) (x := .mp (LN.map fun e => .int .i64 e.1) (LN.map fun e => .lit (.int .i64 e.2))) ?_ (hx := intE_fv LN)
  rw [show rows one (List.replicate L nilP) ++ [[DV.mref 89]] = rows one (List.replicate L nilP) ++ [DV.mref 89] :: rows one [] from rfl, out_frz, show [mapE LN] = doneX p s rs 0 from by rw [← hln, ← hrw]; rfl]
  (repeat' (first | refine swp_seq [0, 1, 2, 6, 7, 8, 10, 11, 13, 15, 16, 30, 31, 32, 33, 45, 55, 56, 57, 58, 76] ?_ | refine st2 ?_ | (show Fct ..; refine fctI (fun hf => ?_)) | (show SWp _ _ _ (.cond _ _ _) _ _ _ _; first | refine cB (fun hc => ?_) (fun hc => ?_) | refine cU ?_ ?_)))
  refine loop_swp [0, 1, 2, 7, 11] [0, 25] 90 (fun q A H => ∃ a d : Nat, a + d = L ∧ q = a ∧ A = [(0, .ptr 0 0), (1, li s), (2, .p (.dat 1 (rs.map ilRow))), (7, .gl 25), (11, li ((a : Int) - 1))] ∧ H = [(0, .blk 73 (tkC p (ints (p.rel.map (floorT p.pen))))), (25, .lst 55 1 (rows one (List.replicate a nilP) ++ rows one (doneX p s rs d)))]) (by omega) ?_ ?_ ?_
  · rintro q A H ⟨i, d, g1, g2, rfl, rfl⟩
    exact ⟨by (exact SD), by (exact SD)⟩
  · refine ⟨_, L, 0, by omega, rfl, ?_, ?_⟩
    · exact DVR
    · exact DVR
  rintro q A H ⟨a, d, g1, g2, rfl, rfl⟩
  by_cases ha : 1 ≤ a
  · obtain ⟨b, rfl⟩ : ∃ b, a = b + 1 := ⟨a - 1, by omega⟩
    have hb0 : (0 : Int) ≤ (b : Int) := by omega
    have hb1 : ((b + 1 : Nat) : Int) - 1 = (b : Int) := by omega
    have hbl : b < rs.length := by omega
    have hsb : s + b < p.inf.length := by omega
    have hrb := hrl _ (getD_mem hbl)
    rw [rep_last, hb1, show ∀ (X Y Z : List (List DV)), X ++ Y ++ Z = X ++ (Y ++ Z) from fun X Y Z => List.append_assoc X Y Z, show ∀ (r : List DV) (Z : List (List DV)), [r] ++ Z = r :: Z from fun _ _ => rfl]
    have hri2 := hri _ (getD_mem hbl)
    have hvd : valsD p s rs (d + 1) = lineN p (s + b) (rs.getD b default) (valsD p s rs d) (rs.getD b default).length := by
      rw [valsD, show rs.length - 1 - (d + 1) = b by omega]
    have hdx := doneX_next p s rs d
    rw [hvd] at hdx
    (have := Nonempty.intro hbl)
    (have := Nonempty.intro hb0)
    (repeat' (first | refine swp_seq [0, 1, 2, 6, 7, 8, 10, 11, 13, 15, 16, 30, 31, 32, 33, 45, 55, 56, 57, 58, 76] ?_ | refine st2 ?_ | (show Fct ..; refine fctI (fun hf => ?_)) | (show SWp _ _ _ (.cond _ _ _) _ _ _ _; first | refine cB (fun hc => ?_) (fun hc => ?_) | refine cU ?_ ?_)))
    generalize rs.getD b default = row at *
    refine loop_swp [0, 1, 2, 7, 11, 55, 56, 57] [0, 25, 122] 194 (fun q A H => ∃ i : Nat, i ≤ row.length ∧ q = row.length - i ∧ A = [(0, .ptr 0 0), (1, li s), (2, .p (.dat 1 (rs.map ilRow))), (7, .gl 25), (11, li b), (55, ints row), (56, li row.length), (57, li i)] ∧ H = [(0, .blk 73 (tkC p (ints (p.rel.map (floorT p.pen))))), (25, .lst 55 1 (rows one (List.replicate b nilP) ++ [DV.mref 122] :: rows one (doneX p s rs d))), (122, .map (intE (lineN p (s + b) row (valsD p s rs d) i)))]) (by omega) ?_ ?_ ?_
    · rintro q A H ⟨i, g1, g2, rfl, rfl⟩
      exact ⟨by (exact SD), by (exact SD)⟩
    · refine ⟨_, 0, by omega, rfl, ?_, ?_⟩
      · exact DVR
      · rw [show lineN p (s + b) row (valsD p s rs d) 0 = [] from rfl, intE_nil]
        exact DVR
    rintro q A H ⟨i, g1, g2, rfl, rfl⟩
    by_cases hi : i < row.length
    · have hi3 : (i : Int) < (row.length : Int) := by omega
      have hln := lineN_next p (s + b) row (valsD p s rs d) i
      (have := Nonempty.intro hi)
      (have := Nonempty.intro hi3)
      (repeat' (first | refine swp_seq [0, 1, 2, 6, 7, 8, 10, 11, 13, 15, 16, 30, 31, 32, 33, 45, 55, 56, 57, 58, 76] ?_ | refine st2 ?_ | (show Fct ..; refine fctI (fun hf => ?_)) | (show SWp _ _ _ (.cond _ _ _) _ _ _ _; first | refine cB (fun hc => ?_) (fun hc => ?_) | refine cU ?_ ?_)))
      have hvi : 0 ≤ row.getD i default ∧ row.getD i default ≤ 1099511627776 := by
        have h5 := hri2 _ (getD_mem hi)
        have h6 := hin.2.1
        have h7 := hin.1
        omega
      have cs := fun m => best_f p (s + b) (row.getD i default) (valsD p s rs d) m hp hsb hvi (hvv d (by omega))
      cases hpo : (bestI p (s + b) (row.getD i default) (valsD p s rs d)).2.2
      · rw [hpo, if_neg (by decide)] at hln
        rw [hpo] at cs
        (refine cQT [0] (fun hcc => (cs _)) ?_)
        (repeat' (first | refine swp_seq [0, 1, 2, 6, 7, 8, 10, 11, 13, 15, 16, 30, 31, 32, 33, 45, 55, 56, 57, 58, 76] ?_ | refine st2 ?_ | (show Fct ..; refine fctI (fun hf => ?_)) | (show SWp _ _ _ (.cond _ _ _) _ _ _ _; first | refine cB (fun hc => ?_) (fun hc => ?_) | refine cU ?_ ?_)))
        rw [← hln]
        (refine lN [0, 25, 122] ?_)
        exact ⟨_, by omega, i + 1, by omega, rfl, rfl, rfl⟩
      · rw [hpo, if_pos rfl] at hln
        rw [hpo] at cs
        (refine cQT [0] (fun hcc => (cs _)) ?_)
        (repeat' (first | refine swp_seq [0, 1, 2, 6, 7, 8, 10, 11, 13, 15, 16, 30, 31, 32, 33, 45, 55, 56, 57, 58, 76] ?_ | refine st2 ?_ | (show Fct ..; refine fctI (fun hf => ?_)) | (show SWp _ _ _ (.cond _ _ _) _ _ _ _; first | refine cB (fun hc => ?_) (fun hc => ?_) | refine cU ?_ ?_)))
        rw [← hln]
        (refine lN [0, 25, 122] ?_)
        exact ⟨_, by omega, i + 1, by omega, rfl, rfl, rfl⟩
    obtain rfl : i = row.length := by omega
    have hi3 : ¬ (row.length : Int) < (row.length : Int) := by omega
    (have := Nonempty.intro hi3)
    generalize lineN p (s + b) row (valsD p s rs d) row.length = LN at *
    (repeat' (first | (show SWp _ _ _ (.region 11 _ _) _ _ _ _; refine (stop_in ?_)) | refine swp_seq [0, 1, 2, 6, 7, 8, 10, 11, 13, 15, 16, 30, 31, 32, 33, 45, 55, 56, 57, 58, 76] ?_ | refine st2 ?_ | (show CallQ ..; first | refine cQ (fun hcc => (by fail)) ?_ | (refine lP ?_; refine lQ (fun hcc m => (by fail)) ?_)) | (show Fct ..; refine fctI (fun hf => ?_)) | (show SWp _ _ _ (.cond _ _ _) _ _ _ _; first | refine cB (fun hc => ?_) (fun hc => ?_) | refine cU ?_ ?_)))
    refine stop_out ?_
    refine sF 122 (v := .map (intE LN)) (x := .mp (LN.map fun e => .int .i64 e.1) (LN.map fun e => .lit (.int .i64 e.2))) ?_ (hx := intE_fv LN)
    rw [out_frz, ← hdx]
    (repeat' (first | refine swp_seq [0, 1, 2, 6, 7, 8, 10, 11, 13, 15, 16, 30, 31, 32, 33, 45, 55, 56, 57, 58, 76] ?_ | refine st2 ?_ | (show Fct ..; refine fctI (fun hf => ?_)) | (show SWp _ _ _ (.cond _ _ _) _ _ _ _; first | refine cB (fun hc => ?_) (fun hc => ?_) | refine cU ?_ ?_)))
    (refine lN [0, 25] ?_)
    exact ⟨_, by omega, b, d + 1, by omega, rfl, rfl, by rw [rows_app]⟩
  · obtain rfl : a = 0 := by omega
    obtain rfl : d = L := by omega
    rw [show (List.range rs.length).map (fun i => valRow (valsD p s rs (rs.length - 1 - i))) = (doneX p s rs d).map one from by rw [hL]; unfold doneX; rw [List.map_map]; rfl]
    (repeat' (first | refine swp_seq [0, 1, 2, 6, 7, 8, 10, 11, 13, 15, 16, 30, 31, 32, 33, 45, 55, 56, 57, 58, 76] ?_ | refine st2 ?_ | (show Fct ..; refine fctI (fun hf => ?_)) | (show SWp _ _ _ (.cond _ _ _) _ _ _ _; first | refine cB (fun hc => ?_) (fun hc => ?_) | refine cU ?_ ?_)))
    exact DVR
theorem insV_look (k c z : Int) : ∀ l : List (Int × Int), (insV l k c).lookup z = if z = k then some c else l.lookup z
  | [] => by
    rw [insV, List.lookup_cons]
    by_cases h : z = k
    · simp [h]
    · have h2 : (z == k) = false := by simpa using h
      rw [h2, if_neg h]
  | e :: l => by
    rw [insV]
    by_cases hk : k = e.1
    · rw [if_pos hk, List.lookup_cons, List.lookup_cons, ← hk]
      by_cases h : z = k
      · simp [h]
      · have h2 : (z == k) = false := by simpa using h
        rw [h2, if_neg h]
    · rw [if_neg hk, List.lookup_cons, List.lookup_cons, insV_look k c z l]
      by_cases h : z = e.1
      · have h2 : (z == e.1) = true := by simpa using h
        have h3 : ¬ z = k := fun q => hk (q.symm.trans h)
        rw [h2]
        show some e.2 = if z = k then some c else some e.2
        rw [if_neg h3]
      · have h2 : (z == e.1) = false := by simpa using h
        rw [h2]
theorem valI_eq (l : List (Int × Int)) (k : Int) : valI l k = (l.lookup k).getD 0 := by unfold valI; rfl
theorem hasI_eq (l : List (Int × Int)) (k : Int) : hasI l k = (l.lookup k).isSome := by unfold hasI; rfl
def bestF (p : Plan) (k : Nat) (v : Int) (f : Int → Option Int) (stx : Option (Nat × Int)) (i : Nat) : Option (Nat × Int) :=
  if possB p k v (p.rel.getD i default) then
    match f (aftI p k v (p.rel.getD i default)), stx with
    | none, stx => stx
    | some c, none => some (i, costI p k v (p.rel.getD i default) + c)
    | some c, some (j, b) => if costI p k v (p.rel.getD i default) + c < b then some (i, costI p k v (p.rel.getD i default) + c) else some (j, b)
  else stx
def bestU (p : Plan) (k : Nat) (v : Int) (f : Int → Option Int) (n : Nat) : Option (Nat × Int) := (List.range n).foldl (bestF p k v f) none
def bestO (p : Plan) (k : Nat) (v : Int) (f : Int → Option Int) : Option (Nat × Int) := bestU p k v f p.rel.length
def stO : Option (Nat × Int) → Int × Int × Bool
  | none => (0, 0, false)
  | some (i, c) => ((i : Int), c, true)
theorem bestU_next (p : Plan) (k : Nat) (v : Int) (f : Int → Option Int) (n : Nat) : bestU p k v f (n + 1) = bestF p k v f (bestU p k v f n) n := by
  unfold bestU; rw [List.range_succ, List.foldl_append]; rfl
theorem bestS_stO (p : Plan) (k : Nat) (v : Int) (l : List (Int × Int)) (stx : Option (Nat × Int)) (i : Nat) : bestS p k v l (stO stx) i = stO (bestF p k v (fun z => l.lookup z) stx i) := by
  unfold bestS bestF
  rw [hasI_eq, valI_eq]
  dsimp only
  generalize aftI p k v (p.rel.getD i default) = w
  generalize costI p k v (p.rel.getD i default) = c
  generalize l.lookup w = o
  cases possB p k v (p.rel.getD i default)
  · simp
  · cases o with
    | none => simp
    | some x =>
      cases stx with
      | none => simp [stO]
      | some a =>
        obtain ⟨j, b⟩ := a
        by_cases h : c + x < b <;> simp [stO, h]
theorem bestN_stO (p : Plan) (k : Nat) (v : Int) (l : List (Int × Int)) : ∀ n, bestN p k v l n = stO (bestU p k v (fun z => l.lookup z) n)
  | 0 => rfl
  | n + 1 => by rw [bestN_next, bestU_next, bestN_stO p k v l n, bestS_stO]
theorem bestI_stO (p : Plan) (k : Nat) (v : Int) (l : List (Int × Int)) : bestI p k v l = stO (bestO p k v (fun z => l.lookup z)) := bestN_stO p k v l _
theorem bestU_congr {p : Plan} {k : Nat} {v : Int} {f g : Int → Option Int} : ∀ n, (∀ i, i < n → possB p k v (p.rel.getD i default) = true → f (aftI p k v (p.rel.getD i default)) = g (aftI p k v (p.rel.getD i default))) → bestU p k v f n = bestU p k v g n
  | 0, _ => rfl
  | n + 1, h => by
    rw [bestU_next, bestU_next, bestU_congr n (fun i hi => h i (by omega))]
    unfold bestF
    cases hp : possB p k v (p.rel.getD n default)
    · rfl
    · rw [h n (by omega) hp]
theorem bestU_some {p : Plan} {k : Nat} {v : Int} {f : Int → Option Int} : ∀ n {i : Nat} {c : Int}, bestU p k v f n = some (i, c) → i < n ∧ possB p k v (p.rel.getD i default) = true ∧ ∃ x, f (aftI p k v (p.rel.getD i default)) = some x ∧ c = costI p k v (p.rel.getD i default) + x
  | 0, i, c, h => by simp [bestU] at h
  | n + 1, i, c, h => by
    rw [bestU_next] at h
    have ih := fun {i c} => @bestU_some p k v f n i c
    unfold bestF at h
    generalize bestU p k v f n = stx at *
    cases hp : possB p k v (p.rel.getD n default)
    · rw [hp] at h
      have := ih h
      exact ⟨by omega, this.2⟩
    · rw [hp, if_pos rfl] at h
      cases hf : f (aftI p k v (p.rel.getD n default)) with
      | none =>
        rw [hf] at h
        have := ih h
        exact ⟨by omega, this.2⟩
      | some x =>
        rw [hf] at h
        cases stx with
        | none =>
          simp only [Option.some.injEq, Prod.mk.injEq] at h
          obtain ⟨rfl, rfl⟩ := h
          exact ⟨by omega, hp, x, hf, rfl⟩
        | some a =>
          obtain ⟨j, b⟩ := a
          simp only at h
          split at h
          · simp only [Option.some.injEq, Prod.mk.injEq] at h
            obtain ⟨rfl, rfl⟩ := h
            exact ⟨by omega, hp, x, hf, rfl⟩
          · have := ih h
            exact ⟨by omega, this.2⟩
theorem bestU_le {p : Plan} {k : Nat} {v : Int} {f : Int → Option Int} : ∀ n (i : Nat) (x : Int), i < n → possB p k v (p.rel.getD i default) = true → f (aftI p k v (p.rel.getD i default)) = some x → ∃ j c, bestU p k v f n = some (j, c) ∧ c ≤ costI p k v (p.rel.getD i default) + x ∧ (i < j → c < costI p k v (p.rel.getD i default) + x)
  | 0, i, x, h, _, _ => by omega
  | n + 1, i, x, h, hp, hf => by
    rw [bestU_next]
    by_cases hi : i = n
    · subst hi
      unfold bestF
      rw [hp, if_pos rfl, hf]
      have hs := fun {j c} => @bestU_some p k v f i j c
      generalize bestU p k v f i = stx at *
      cases stx with
      | none => exact ⟨_, _, rfl, by omega, by omega⟩
      | some a =>
        obtain ⟨j, b⟩ := a
        have := (hs rfl).1
        simp only
        split
        · exact ⟨_, _, rfl, by omega, by omega⟩
        · exact ⟨_, _, rfl, by omega, by omega⟩
    · obtain ⟨j, c, h1, h2, h3⟩ := bestU_le n i x (by omega) hp hf
      have hj := (bestU_some n h1).1
      rw [h1]
      unfold bestF
      split
      · cases f (aftI p k v (p.rel.getD n default)) with
        | none => exact ⟨j, c, rfl, h2, h3⟩
        | some c2 =>
          dsimp only
          split
          · exact ⟨_, _, rfl, by omega, by omega⟩
          · exact ⟨_, _, rfl, h2, h3⟩
      · exact ⟨j, c, rfl, h2, h3⟩
def vO (p : Plan) : Nat → Int → Option Int
  | 0, _ => some 0
  | d + 1, v => (bestO p (p.inf.length - (d + 1)) v (vO p d)).map (·.2)
theorem vO_in {p : Plan} (hp : planB p = true) : ∀ d, d ≤ p.inf.length → ∀ v, (p.res ≤ v ∧ v ≤ p.cap) → ∀ c, vO p d v = some c → 0 ≤ c ∧ c ≤ (d : Int) * 4398046511104000
  | 0, _, v, _, c, h => by
    have : c = 0 := by simpa [vO, eq_comm] using h
    omega
  | d + 1, hd, v, hv, c, h => by
    have hin := planB_in hp
    rw [vO] at h
    obtain ⟨⟨i, c2⟩, h1, h2⟩ := Option.map_eq_some_iff.1 h
    obtain ⟨h3, h4, x, h5, h6⟩ := bestU_some _ h1
    have ih := vO_in hp d (by omega) _ (aft_in hp h4) x h5
    have hc := cost_in hp (k := p.inf.length - (d + 1)) (by omega) (v := v) (by omega) h3
    dsimp only at h2
    omega
theorem stepsN_mem {p : Plan} {k : Nat} {v : Int} {s : List Int} {w : Int} : ∀ i, w ∈ stepsN p k v s i ↔ w ∈ s ∨ ∃ j, j < i ∧ possB p k v (p.rel.getD j default) = true ∧ w = aftI p k v (p.rel.getD j default)
  | 0 => by
    show w ∈ s ↔ _
    exact ⟨.inl, fun h => h.elim id fun ⟨j, h, _⟩ => by omega⟩
  | i + 1 => by
    rw [stepsN_next]
    have ih := @stepsN_mem p k v s w i
    split
    · next hp =>
      rw [insI_mem, ih]
      constructor
      · rintro ((h | ⟨j, h, h2⟩) | h)
        · exact .inl h
        · exact .inr ⟨j, by omega, h2⟩
        · exact .inr ⟨i, by omega, hp, h⟩
      · rintro (h | ⟨j, h, h2, h3⟩)
        · exact .inl (.inl h)
        · by_cases e : j = i
          · subst e; exact .inr h3
          · exact .inl (.inr ⟨j, by omega, h2, h3⟩)
    · next hp =>
      rw [ih]
      constructor
      · rintro (h | ⟨j, h, h2⟩)
        · exact .inl h
        · exact .inr ⟨j, by omega, h2⟩
      · rintro (h | ⟨j, h, h2, h3⟩)
        · exact .inl h
        · by_cases e : j = i
          · subst e; exact absurd h2 hp
          · exact .inr ⟨j, by omega, h2, h3⟩
theorem nextN_mem {p : Plan} {k : Nat} {row : List Int} {w : Int} : ∀ i, w ∈ nextN p k row i ↔ ∃ n, n < i ∧ ∃ j, j < p.rel.length ∧ possB p k (row.getD n default) (p.rel.getD j default) = true ∧ w = aftI p k (row.getD n default) (p.rel.getD j default)
  | 0 => by
    rw [show nextN p k row 0 = [] from rfl]
    exact ⟨fun h => by simp at h, fun ⟨n, h, _⟩ => by omega⟩
  | i + 1 => by
    rw [nextN_next, stepsN_mem, nextN_mem i]
    constructor
    · rintro (⟨n, h, h2⟩ | h)
      · exact ⟨n, by omega, h2⟩
      · exact ⟨i, by omega, h⟩
    · rintro ⟨n, h, h2⟩
      by_cases e : n = i
      · subst e; exact .inr h2
      · exact .inl ⟨n, by omega, h2⟩
theorem mem_getD {α} {l : List α} {x d : α} (h : x ∈ l) : ∃ n, n < l.length ∧ l.getD n d = x := by
  obtain ⟨n, hn, e⟩ := List.mem_iff_getElem.1 h
  exact ⟨n, hn, by rw [List.getD_eq_getElem?_getD, List.getElem?_eq_getElem hn, e]; rfl⟩
theorem row_step {p : Plan} {s : Nat} {v : Int} {n : Nat} {z : Int} {j : Nat} (hz : z ∈ rowI p s v n) (hj : j < p.rel.length) (hp : possB p (s + n) z (p.rel.getD j default) = true) : aftI p (s + n) z (p.rel.getD j default) ∈ rowI p s v (n + 1) := by
  rw [rowI_next, srtI_mem]
  obtain ⟨i, hi, e⟩ := mem_getD (d := default) hz
  exact (nextN_mem _).2 ⟨i, hi, j, hj, by rw [e]; exact hp, by rw [e]⟩
theorem rowsN_get (p : Plan) (s : Nat) (v : Int) : ∀ n j, j ≤ n → (rowsN p s v n).getD j default = rowI p s v j
  | 0, j, h => by
    obtain rfl : j = 0 := by omega
    rfl
  | n + 1, j, h => by
    by_cases e : j = n + 1
    · subst e; rfl
    · rw [rowsN, List.getD_eq_getElem?_getD, List.getElem?_append_left (by rw [rowsN_len]; omega), ← List.getD_eq_getElem?_getD]
      exact rowsN_get p s v n j (by omega)
theorem rowsN_row (p : Plan) (s : Nat) (v : Int) (n : Nat) {r : List Int} (h : r ∈ rowsN p s v n) : ∃ j, j ≤ n ∧ r = rowI p s v j := by
  obtain ⟨j, hj, e⟩ := mem_getD (d := default) h
  rw [rowsN_len] at hj
  exact ⟨j, by omega, by rw [← e, rowsN_get p s v n j (by omega)]⟩
theorem lastN_look (row : List Int) (z : Int) : ∀ i, i ≤ row.length → (lastN row i).lookup z = if z ∈ row.take i then some 0 else none
  | 0, _ => by simp [lastN]
  | i + 1, h => by
    rw [lastN_next, insV_look, lastN_look row z i (by omega), take_snoc (by omega : i < row.length)]
    simp only [List.mem_append, List.mem_singleton]
    by_cases h1 : z = row.getD i default
    · rw [if_pos h1, if_pos (.inr h1)]
    · rw [if_neg h1]
      by_cases h2 : z ∈ row.take i
      · rw [if_pos h2, if_pos (.inl h2)]
      · rw [if_neg h2, if_neg (fun h => h.elim h2 h1)]
theorem lineN_look (p : Plan) (k : Nat) (row : List Int) (nx : List (Int × Int)) (z : Int) : ∀ i, i ≤ row.length → (lineN p k row nx i).lookup z = if z ∈ row.take i then (bestO p k z (fun z => nx.lookup z)).map (·.2) else none
  | 0, _ => by simp [lineN]
  | i + 1, h => by
    rw [lineN_next, take_snoc (by omega : i < row.length)]
    have ih := lineN_look p k row nx z i (by omega)
    rw [bestI_stO]
    simp only [List.mem_append, List.mem_singleton]
    by_cases h1 : z = row.getD i default
    · have e : (if z ∈ row.take i ∨ z = row.getD i default then (bestO p k z (fun z => nx.lookup z)).map (·.2) else none) = (bestO p k z (fun z => nx.lookup z)).map (·.2) := if_pos (.inr h1)
      rw [e, ← h1]
      cases hb : bestO p k z (fun z => nx.lookup z) with
      | none =>
        rw [hb] at ih
        show List.lookup z (lineN p k row nx i) = none
        rw [ih]
        split <;> rfl
      | some a =>
        show List.lookup z (insV (lineN p k row nx i) z (stO (some a)).2.1) = some a.2
        rw [insV_look, if_pos rfl]; rfl
    · have e : (if z ∈ row.take i ∨ z = row.getD i default then (bestO p k z (fun z => nx.lookup z)).map (·.2) else none) = if z ∈ row.take i then (bestO p k z (fun z => nx.lookup z)).map (·.2) else none := by
        by_cases h2 : z ∈ row.take i
        · rw [if_pos h2, if_pos (.inl h2)]
        · rw [if_neg h2, if_neg (fun h => h.elim h2 h1)]
      rw [e, ← ih]
      split
      · rw [insV_look, if_neg h1]
      · rfl
theorem valsD_look {p : Plan} {s : Nat} {v : Int} {N : Nat} (hN : s + N = p.inf.length) : ∀ d, d ≤ N → ∀ z, (valsD p s (rowsN p s v N) d).lookup z = if z ∈ rowI p s v (N - d) then vO p d z else none
  | 0, _, z => by
    rw [valsD, lastN_look _ _ _ (Nat.le_refl _), List.take_length, rowsN_len, rowsN_get p s v N _ (by omega)]; rfl
  | d + 1, hd, z => by
    rw [valsD, lineN_look _ _ _ _ _ _ (Nat.le_refl _), List.take_length, rowsN_len, rowsN_get p s v N _ (by omega)]
    rw [show N + 1 - 1 - (d + 1) = N - (d + 1) by omega]
    by_cases hz : z ∈ rowI p s v (N - (d + 1))
    · rw [if_pos hz, if_pos hz, vO, show p.inf.length - (d + 1) = s + (N - (d + 1)) by omega]
      congr 1
      refine bestU_congr _ fun i hi hp => ?_
      have hm := row_step hz hi hp
      rw [show N - (d + 1) + 1 = N - d by omega] at hm
      rw [valsD_look hN d (by omega), if_pos hm]
    · rw [if_neg hz, if_neg hz]
theorem valsD_in {p : Plan} {s : Nat} {v : Int} {N : Nat} (hp : planB p = true) (hv : p.res ≤ v ∧ v ≤ p.cap) (hN : s + N = p.inf.length) {d : Nat} (hd : d ≤ N) (z : Int) : 0 ≤ valI (valsD p s (rowsN p s v N) d) z ∧ valI (valsD p s (rowsN p s v N) d) z ≤ 900000000000000000 := by
  rw [valI_eq, valsD_look hN d hd]
  have hin := planB_in hp
  split
  · next hz =>
    cases h : vO p d z with
    | none => exact ⟨by decide, by decide⟩
    | some c =>
      have := vO_in hp d (by omega) z (rowI_in hp hv _ z hz) c h
      show 0 ≤ c ∧ c ≤ 900000000000000000
      omega
  · exact ⟨by decide, by decide⟩
def putI : List Int → Int → List Int
  | [], n => [n]
  | a :: l, n => if a < n then a :: putI l n else if a = n then a :: l else n :: a :: l
theorem putI_mem {n z : Int} : ∀ {l : List Int}, z ∈ putI l n ↔ z ∈ l ∨ z = n
  | [] => by simp [putI]
  | a :: l => by
    rw [putI]
    split
    · rw [List.mem_cons, putI_mem, List.mem_cons, or_assoc]
    · split
      · next h =>
        subst h
        exact ⟨.inl, fun h => h.elim id fun e => e ▸ List.mem_cons_self ..⟩
      · simp only [List.mem_cons]
        constructor
        · rintro (h | h | h)
          · exact .inr h
          · exact .inl (.inl h)
          · exact .inl (.inr h)
        · rintro ((h | h) | h)
          · exact .inr (.inl h)
          · exact .inr (.inr h)
          · exact .inl h
theorem putI_asc {n : Int} : ∀ {l : List Int}, l.Pairwise (· < ·) → (putI l n).Pairwise (· < ·)
  | [], _ => by simp [putI]
  | a :: l, h => by
    obtain ⟨h1, h2⟩ := List.pairwise_cons.1 h
    rw [putI]
    split
    · next hlt =>
      refine List.pairwise_cons.2 ⟨fun z hz => ?_, putI_asc h2⟩
      rcases putI_mem.1 hz with hz | rfl
      · exact h1 z hz
      · exact hlt
    · split
      · exact h
      · refine List.pairwise_cons.2 ⟨fun z hz => ?_, h⟩
        rcases List.mem_cons.1 hz with rfl | hz
        · omega
        · have := h1 z hz; omega
theorem putI_len (n : Int) : ∀ l : List Int, (putI l n).length ≤ l.length + 1
  | [] => by simp [putI]
  | a :: l => by
    rw [putI]
    have := putI_len n l
    split
    · simp only [List.length_cons]; omega
    · split
      · simp only [List.length_cons]; omega
      · simp only [List.length_cons]; omega
theorem asc_ext : ∀ {l k : List Int}, l.Pairwise (· < ·) → k.Pairwise (· < ·) → (∀ z, z ∈ l ↔ z ∈ k) → l = k
  | [], [], _, _, _ => rfl
  | [], b :: k, _, _, h => absurd ((h b).2 (List.mem_cons_self ..)) (by simp)
  | a :: l, [], _, _, h => absurd ((h a).1 (List.mem_cons_self ..)) (by simp)
  | a :: l, b :: k, hl, hk, h => by
    obtain ⟨l1, l2⟩ := List.pairwise_cons.1 hl
    obtain ⟨k1, k2⟩ := List.pairwise_cons.1 hk
    have e : a = b := by
      rcases List.mem_cons.1 ((h a).1 (List.mem_cons_self ..)) with e | ha
      · exact e
      · rcases List.mem_cons.1 ((h b).2 (List.mem_cons_self ..)) with e | hb
        · exact e.symm
        · have := l1 b hb; have := k1 a ha; omega
    subst e
    congr 1
    refine asc_ext l2 k2 fun z => ?_
    have hz := h z
    simp only [List.mem_cons] at hz
    constructor
    · intro h1
      rcases hz.1 (.inr h1) with e | h2
      · have := l1 z h1; omega
      · exact h2
    · intro h1
      rcases hz.2 (.inr h1) with e | h2
      · have := k1 z h1; omega
      · exact h2
theorem putI_at {n : Int} : ∀ {l : List Int} {k : Nat}, k ≤ l.length → (∀ j, j < k → l.getD j default < n) → (k < l.length → n ≤ l.getD k default) → putI l n = if k < l.length ∧ l.getD k default = n then l else l.take k ++ n :: l.drop k
  | [], k, hk, _, _ => by
    obtain rfl : k = 0 := by simpa using hk
    simp [putI]
  | a :: l, 0, _, _, h2 => by
    have h3 : n ≤ a := h2 (by simp)
    rw [putI, if_neg (by omega)]
    by_cases e : a = n
    · rw [if_pos e, if_pos ⟨by simp, e⟩]
    · rw [if_neg e, if_neg (fun h => e h.2)]; rfl
  | a :: l, k + 1, hk, h1, h2 => by
    have h3 : a < n := h1 0 (by omega)
    rw [putI, if_pos h3, putI_at (k := k) (by simpa using hk) (fun j hj => h1 (j + 1) (by omega)) (fun h => h2 (by simpa using h))]
    by_cases e : k < l.length ∧ l.getD k default = n
    · rw [if_pos e, if_pos (show k + 1 < (a :: l).length ∧ (a :: l).getD (k + 1) default = n from ⟨by simpa using e.1, e.2⟩)]
    · rw [if_neg e, if_neg (fun h : k + 1 < (a :: l).length ∧ (a :: l).getD (k + 1) default = n => e ⟨by simpa using h.1, h.2⟩)]
      rfl
theorem insI_nodup {s : List Int} {w : Int} (h : s.Nodup) : (insI s w).Nodup := by
  unfold insI
  split
  · exact h
  · next hn =>
    rw [List.nodup_append]
    refine ⟨h, by simp, fun a ha b hb => ?_⟩
    rw [List.mem_singleton] at hb
    subst hb
    exact fun e => hn (e ▸ ha)
theorem stepsN_nodup {p : Plan} {k : Nat} {v : Int} {s : List Int} (hs : s.Nodup) : ∀ i, (stepsN p k v s i).Nodup
  | 0 => hs
  | i + 1 => by
    rw [stepsN_next]
    split
    · exact insI_nodup (stepsN_nodup hs i)
    · exact stepsN_nodup hs i
theorem nextN_nodup {p : Plan} {k : Nat} {row : List Int} : ∀ i, (nextN p k row i).Nodup
  | 0 => by simp [nextN]
  | i + 1 => by rw [nextN_next]; exact stepsN_nodup (nextN_nodup i) _
theorem srtI_asc {l : List Int} (h : l.Nodup) : (srtI l).Pairwise (· < ·) := by
  have h1 : (srtI l).Pairwise fun x y => decide (x ≤ y) = true := List.pairwise_mergeSort (fun a b c h1 h2 => by simp only [decide_eq_true_eq] at *; omega) (fun a b => by simp only [Bool.or_eq_true, decide_eq_true_eq]; omega) l
  have h2 : (srtI l).Nodup := (List.mergeSort_perm l _).nodup_iff.2 h
  refine List.Pairwise.imp₂ (R := fun x y => decide (x ≤ y) = true) (S := fun x y => x ≠ y) (fun a b h1 h2 => ?_) h1 h2
  have := of_decide_eq_true h1
  omega
theorem srtI_ins {s : List Int} {w : Int} (h : s.Nodup) : srtI (insI s w) = putI (srtI s) w :=
  asc_ext (srtI_asc (insI_nodup h)) (putI_asc (srtI_asc h)) fun z => by rw [srtI_mem, insI_mem, putI_mem, srtI_mem]
theorem srtI_nil : srtI [] = [] := by
  have := srtI_len []
  exact List.eq_nil_of_length_eq_zero (by simpa using this)
theorem rowI_asc (p : Plan) (s : Nat) (v : Int) (n : Nat) : (rowI p s v n).Pairwise (· < ·) := by
  cases n with
  | zero => simp [rowI, rowsN]
  | succ n => rw [rowI_next]; exact srtI_asc (nextN_nodup _)
def srtS (p : Plan) (k : Nat) (row : List Int) (i r : Nat) : List Int := srtI (stepsN p k (row.getD i default) (nextN p k row i) r)
theorem srtS_next (p : Plan) (k : Nat) (row : List Int) (i r : Nat) : srtS p k row i (r + 1) = if possB p k (row.getD i default) (p.rel.getD r default) then putI (srtS p k row i r) (aftI p k (row.getD i default) (p.rel.getD r default)) else srtS p k row i r := by
  unfold srtS
  rw [stepsN_next]
  split
  · exact srtI_ins (stepsN_nodup (nextN_nodup i) r)
  · rfl
theorem srtS_row (p : Plan) (k : Nat) (row : List Int) (i : Nat) : srtS p k row i p.rel.length = srtI (nextN p k row (i + 1)) := by unfold srtS; rw [nextN_next]
theorem srtS_zero (p : Plan) (k : Nat) (row : List Int) (i : Nat) : srtS p k row i 0 = srtI (nextN p k row i) := rfl
def posI (l : List Int) (n : Int) : Nat := l.countP fun z => decide (z < n)

end Go.Proofs.Ytlailhdmgehniaa
