/-
  Contracts of functions of the program, over the engine.
  No condition.
-/
import Derived.Test.YtlailhdmgehniaaCP8P9P10Q1
import Derived.Test.YtlailhdmgehniaaCS5S6S7S8S9S10
import Derived.Test.YtlailhdmgehniaaCR5R6R7R8R9
namespace Go.Proofs.Ytlailhdmgehniaa
open Go.Eng
set_option linter.all false
attribute [local irreducible] DCallsG SWp Fct CallQ XCallQ LCallQ XLCallQ drun xrun

def sumsN : List Int → Nat → List Int
  | [], 0 => [0]
  | [], _ + 1 => []
  | _ :: _, 0 => [0]
  | a :: l, n + 1 => (sumsN (a :: l) n).map (a + ·) ++ sumsN l (n + 1)
theorem sumsN_zero : ∀ l : List Int, sumsN l 0 = [0]
  | [] => by rw [sumsN]
  | _ :: _ => by rw [sumsN]
def cntN : Nat → Nat → Nat
  | 0, 0 => 1
  | 0, _ + 1 => 0
  | _ + 1, 0 => 1
  | l + 1, n + 1 => cntN (l + 1) n + cntN l (n + 1)
theorem sumsN_len : ∀ (l : List Int) (n : Nat), (sumsN l n).length = cntN l.length n
  | [], 0 => by simp [sumsN, cntN]
  | [], _ + 1 => by simp [sumsN, cntN]
  | _ :: _, 0 => by simp [sumsN, cntN]
  | a :: l, n + 1 => by
    rw [sumsN, List.length_append, List.length_map, sumsN_len (a :: l) n, sumsN_len l (n + 1), List.length_cons, cntN]
theorem sumsN_add : ∀ (l : List Int) (n : Nat) (x r : Int), x ∈ sumsN l n → r ∈ l → x + r ∈ sumsN l (n + 1)
  | [], _, _, _, _, h => by simp at h
  | a :: l, 0, x, r, h, hr => by
    rw [sumsN] at h
    obtain rfl : x = 0 := by simpa using h
    rw [sumsN, sumsN]
    rcases List.mem_cons.1 hr with rfl | hr
    · simp
    · refine List.mem_append_right _ ?_
      exact sumsN_add l 0 0 r (by rw [sumsN_zero]; simp) hr
  | a :: l, n + 1, x, r, h, hr => by
    rw [sumsN] at h ⊢
    rcases List.mem_cons.1 hr with e | hr
    · subst e
      refine List.mem_append_left _ (List.mem_map.2 ⟨x, ?_, by omega⟩)
      rw [sumsN]; exact h
    · rcases List.mem_append.1 h with h | h
      · obtain ⟨y, hy, rfl⟩ := List.mem_map.1 h
        refine List.mem_append_left _ (List.mem_map.2 ⟨y + r, ?_, by omega⟩)
        exact sumsN_add (a :: l) n y r hy (List.mem_cons_of_mem _ hr)
      · exact List.mem_append_right _ (sumsN_add l (n + 1) x r h hr)
def infJ (p : Plan) (k : Nat) : Nat → Int
  | 0 => 0
  | j + 1 => infJ p k j + p.inf.getD (k - (j + 1)) default
theorem infJ_next (p : Plan) (k : Nat) : ∀ j, infJ p (k + 1) (j + 1) = infJ p k j + p.inf.getD k default
  | 0 => by simp [infJ]
  | j + 1 => by
    rw [infJ, infJ_next p k j, infJ, show k + 1 - (j + 1 + 1) = k - (j + 1) by omega]; omega
def covJ (p : Plan) (s : Nat) (v : Int) (t j : Nat) : List Int := (sumsN p.rel j).map fun x => (if j = t then v else p.cap) + infJ p (s + t) j - x
def covL (p : Plan) (s : Nat) (v : Int) (t : Nat) : Nat → List Int
  | 0 => []
  | n + 1 => covL p s v t n ++ covJ p s v t n
theorem covL_mem {p : Plan} {s : Nat} {v : Int} {t : Nat} {w : Int} : ∀ {n}, w ∈ covL p s v t n ↔ ∃ j, j < n ∧ w ∈ covJ p s v t j
  | 0 => by simp [covL]
  | n + 1 => by
    rw [covL, List.mem_append, covL_mem]
    constructor
    · rintro (⟨j, h, h2⟩ | h)
      · exact ⟨j, by omega, h2⟩
      · exact ⟨n, by omega, h⟩
    · rintro ⟨j, h, h2⟩
      by_cases e : j = n
      · subst e; exact .inr h2
      · exact .inl ⟨j, by omega, h2⟩
def cntL (l : Nat) : Nat → Nat
  | 0 => 0
  | n + 1 => cntL l n + cntN l n
theorem covL_len (p : Plan) (s : Nat) (v : Int) (t : Nat) : ∀ n, (covL p s v t n).length = cntL p.rel.length n
  | 0 => rfl
  | n + 1 => by rw [covL, List.length_append, covL_len p s v t n, covJ, List.length_map, sumsN_len, cntL]
theorem cov_step {p : Plan} {s : Nat} {v : Int} {t : Nat} {w : Int} {i : Nat} (hw : w ∈ covL p s v t (t + 1)) (hi : i < p.rel.length) : aftI p (s + t) w (p.rel.getD i default) ∈ covL p s v (t + 1) (t + 1 + 1) := by
  obtain ⟨j, hj, h⟩ := covL_mem.1 hw
  unfold covJ at h
  obtain ⟨x, hx, rfl⟩ := List.mem_map.1 h
  by_cases hc : p.cap < leftI p (s + t) ((if j = t then v else p.cap) + infJ p (s + t) j - x) (p.rel.getD i default)
  · have e : aftI p (s + t) ((if j = t then v else p.cap) + infJ p (s + t) j - x) (p.rel.getD i default) = p.cap := if_pos hc
    rw [e]
    refine covL_mem.2 ⟨0, by omega, ?_⟩
    unfold covJ
    rw [sumsN_zero]
    simp [infJ]
  · have e : aftI p (s + t) ((if j = t then v else p.cap) + infJ p (s + t) j - x) (p.rel.getD i default) = leftI p (s + t) ((if j = t then v else p.cap) + infJ p (s + t) j - x) (p.rel.getD i default) := if_neg hc
    rw [e]
    refine covL_mem.2 ⟨j + 1, by omega, ?_⟩
    unfold covJ
    refine List.mem_map.2 ⟨x + p.rel.getD i default, sumsN_add _ _ _ _ hx (getD_mem hi), ?_⟩
    rw [← Nat.add_assoc, infJ_next]
    unfold leftI
    have e2 : (if j + 1 = t + 1 then v else p.cap) = if j = t then v else p.cap := by
      by_cases e : j = t
      · rw [if_pos e, if_pos (by omega)]
      · rw [if_neg e, if_neg (by omega)]
    rw [e2]
    omega
theorem rowI_cov (p : Plan) (s : Nat) (v : Int) : ∀ n z, z ∈ rowI p s v n → z ∈ covL p s v n (n + 1)
  | 0, z, h => by
    have : z = v := by simpa [rowI, rowsN] using h
    subst this
    refine covL_mem.2 ⟨0, by omega, ?_⟩
    unfold covJ
    rw [sumsN_zero]
    simp [infJ]
  | n + 1, z, h => by
    rw [rowI_next, srtI_mem] at h
    obtain ⟨i, hi, j, hj, hp, rfl⟩ := (nextN_mem _).1 h
    exact cov_step (rowI_cov p s v n _ (getD_mem hi)) hj
theorem nodup_len : ∀ {l k : List Int}, l.Nodup → (∀ z, z ∈ l → z ∈ k) → l.length ≤ k.length
  | [], _, _, _ => by simp
  | a :: l, k, h, hs => by
    obtain ⟨h1, h2⟩ := List.nodup_cons.1 h
    have ha := hs a (List.mem_cons_self ..)
    have := nodup_len (k := k.erase a) h2 fun z hz => by
      have hne : z ≠ a := fun e => h1 (e ▸ hz)
      exact (List.mem_erase_of_ne hne).2 (hs z (List.mem_cons_of_mem _ hz))
    rw [List.length_erase_of_mem ha] at this
    have hpos := List.length_pos_of_mem ha
    rw [List.length_cons]
    omega
theorem cntN_mono : ∀ {l k n : Nat}, l ≤ k → cntN l n ≤ cntN k n
  | 0, 0, _, _ => Nat.le_refl _
  | 0, k + 1, 0, _ => by simp [cntN]
  | 0, k + 1, n + 1, _ => by simp [cntN]
  | l + 1, 0, _, h => by omega
  | l + 1, k + 1, 0, _ => by simp [cntN]
  | l + 1, k + 1, n + 1, h => by
    rw [cntN, cntN]
    have := @cntN_mono (l + 1) (k + 1) n h
    have := @cntN_mono l k (n + 1) (by omega)
    omega
theorem cntL_mono : ∀ {l k n : Nat}, l ≤ k → cntL l n ≤ cntL k n
  | _, _, 0, _ => Nat.le_refl _
  | l, k, n + 1, h => by
    rw [cntL, cntL]
    have := @cntL_mono l k n h
    have := @cntN_mono l k n h
    omega
theorem cntL_up (l : Nat) : ∀ {n m : Nat}, n ≤ m → cntL l n ≤ cntL l m
  | n, 0, h => by obtain rfl : n = 0 := by omega
                  exact Nat.le_refl _
  | n, m + 1, h => by
    by_cases e : n = m + 1
    · rw [e]; exact Nat.le_refl _
    · have := cntL_up l (n := n) (m := m) (by omega)
      rw [cntL]; omega
theorem few_all {p : Plan} {s : Nat} {v : Int} {N : Nat} (hr : p.rel.length ≤ 5) (hN : N ≤ 8) : fewA p s v N = true := by
  unfold fewA
  rw [List.all_eq_true]
  intro n hn
  have hn := List.mem_range.1 hn
  unfold fewB45
  have h1 : (nextI p (s + n) (rowI p s v n)).length ≤ (covL p s v (n + 1) (n + 1 + 1)).length := nodup_len (nextN_nodup _) fun z hz => by
    refine rowI_cov p s v (n + 1) z ?_
    rw [rowI_next, srtI_mem]; exact hz
  rw [covL_len] at h1
  have h2 := @cntL_mono p.rel.length 5 (n + 1 + 1) hr
  have h3 := cntL_up 5 (show n + 1 + 1 ≤ 9 by omega)
  have h4 : cntL 5 9 = 1287 := by simp [cntL, cntN]
  exact decide_eq_true (by omega)
def valsX (p : Plan) (s : Nat) (v : Int) (N : Nat) : List (List (Int × Int)) := (List.range (N + 1)).map fun i => valsD p s (rowsN p s v N) (N - i)
theorem valsX_len (p : Plan) (s : Nat) (v : Int) (N : Nat) : (valsX p s v N).length = N + 1 := by simp [valsX]
theorem valsX_get (p : Plan) (s : Nat) (v : Int) (N : Nat) {i : Nat} (h : i < N + 1) : (valsX p s v N).getD i default = valsD p s (rowsN p s v N) (N - i) := by
  unfold valsX
  rw [List.getD_eq_getElem?_getD, List.getElem?_map, List.getElem?_range h]; rfl
theorem val_f (p : Plan) (s : Nat) (v : Int) (N : Nat) (m : Nat) (hp : planB p = true) (hN : s + N = p.inf.length) (hv : p.res ≤ v ∧ v ≤ p.cap) (hf : fewA p s v N = true) :
    DCalls Try.prog 21 [.ptr 0 0, li s, .p (.dat 1 ((rowsN p s v N).map ilRow))] (hget (tkH p)) m (.p (.dat 1 ((valsX p s v N).map valRow))) (hget (tkH p)) := by
  have hl := rowsN_len p s v N
  have h := values_f p s (rowsN p s v N) m hp (by omega) (by omega) (fun r hr => by
      obtain ⟨j, hj, rfl⟩ := rowsN_row p s v N hr
      refine rowI_len (n := j) ?_
      unfold fewA at hf ⊢
      rw [List.all_eq_true] at hf ⊢
      intro x hx
      exact hf x (List.mem_range.2 (by have := List.mem_range.1 hx; omega)))
    (fun r hr => by
      obtain ⟨j, hj, rfl⟩ := rowsN_row p s v N hr
      exact rowI_in hp hv j)
    (fun d hd z => valsD_in hp hv hN (by omega) z)
  have e : (List.range (rowsN p s v N).length).map (fun i => valRow (valsD p s (rowsN p s v N) ((rowsN p s v N).length - 1 - i))) = (valsX p s v N).map valRow := by
    unfold valsX
    rw [List.map_map, hl]; rfl
  rw [e] at h
  exact h
theorem bestI_row {p : Plan} {s : Nat} {v : Int} {N : Nat} (hN : s + N = p.inf.length) {j : Nat} (hj : j < N) {z : Int} (hz : z ∈ rowI p s v j) : bestI p (s + j) z (valsD p s (rowsN p s v N) (N - (j + 1))) = stO (bestO p (s + j) z (vO p (N - (j + 1)))) := by
  rw [bestI_stO]
  congr 1
  refine bestU_congr _ fun i hi hp => ?_
  rw [valsD_look hN _ (by omega), show N - (N - (j + 1)) = j + 1 by omega, if_pos (row_step hz hi hp)]
theorem pmap_vr (l : List (Int × Int)) : pmap ((valRow l).getD 0 default) = some (intE l) := mapE_pm l
theorem valRow_len (l : List (Int × Int)) : (valRow l).length = 1 := rfl
theorem valRow_get (l : List (Int × Int)) : (valRow l).getD 0 default = mapE l := rfl
attribute [push_cast] pmap_vr valRow_len valRow_get
def chN (p : Plan) (i : Nat) (v : Int) : Nat := match bestO p i v (vO p (p.inf.length - (i + 1))) with
  | none => 0
  | some a => a.1
def goV (p : Plan) : Nat → List Int × Int
  | 0 => ([], p.start)
  | i + 1 => ((goV p i).1 ++ [p.rel.getD (chN p i (goV p i).2) default], aftI p i (goV p i).2 (p.rel.getD (chN p i (goV p i).2) default))
theorem goV_len (p : Plan) : ∀ i, (goV p i).1.length = i
  | 0 => rfl
  | i + 1 => by rw [goV, List.length_append, goV_len p i]; rfl
def solR (p : Plan) : Int × List Int × Int :=
  if planB p = false then (0, [], 1) else if fewA p 0 p.start p.inf.length = false then (0, [], 6)
  else match vO p p.inf.length p.start with
    | none => (0, [], 12)
    | some c => (c, (goV p p.inf.length).1, 0)
theorem ch_some {p : Plan} {i : Nat} {v c : Int} (hi : i < p.inf.length) (h : vO p (p.inf.length - i) v = some c) :
    bestO p i v (vO p (p.inf.length - (i + 1))) = some (chN p i v, c) ∧ chN p i v < p.rel.length ∧ possB p i v (p.rel.getD (chN p i v) default) = true ∧ ∃ x, vO p (p.inf.length - (i + 1)) (aftI p i v (p.rel.getD (chN p i v) default)) = some x ∧ c = costI p i v (p.rel.getD (chN p i v) default) + x := by
  rw [show p.inf.length - i = (p.inf.length - (i + 1)) + 1 by omega, vO, show p.inf.length - (p.inf.length - (i + 1) + 1) = i by omega] at h
  obtain ⟨⟨k, c2⟩, h1, h2⟩ := Option.map_eq_some_iff.1 h
  have h2 : c2 = c := h2
  subst h2
  have e : chN p i v = k := by unfold chN; rw [h1]
  rw [e]
  exact ⟨h1, bestU_some _ h1⟩
set_option maxRecDepth 20000 in
set_option maxHeartbeats 16000000 in
theorem solve_f (p : Plan) (m : Nat) (hq : planOk p) : DCalls Try.prog 8 [planD p] (hget []) m (.tup [li (solR p).1, ints (solR p).2.1, li (solR p).2.2]) (hget []) := by
  cases hp : planB p
  · rw [show solR p = (0, [], 1) by unfold solR; rw [if_pos hp]]
    have ct := fun m => tank_no p m hq hp
    refine pureC (n := 85) (rs := [.tmp 2, .tmp 3, .tmp 4]) (ts := [3, 22, 30]) Try.func8 rfl (by decide) [] (by (exact SD)) ?_
    (repeat' (first | refine swp_seq [0, 1, 2, 3, 4, 5, 6, 7, 8, 9, 10, 11, 20, 29, 43, 48, 49, 50] ?_ | refine st2 ?_ | (show CallQ ..; first | refine cQ (fun hcc => (by first | exact ct _)) ?_ | (refine lP ?_; refine lQ (fun hcc m => (by first | exact ct _)) ?_)) | (show XCallQ ..; first | refine xQ (fun hcc => (by first | exact ct _)) ?_ | (refine xlP ?_; refine xlQ (fun hcc m => (by first | exact ct _)) ?_)) | (show Fct ..; refine fctI (fun hf => ?_)) | (show SWp _ _ _ (.cond _ _ _) _ _ _ _; first | refine cB (fun hc => ?_) (fun hc => ?_) | refine cU ?_ ?_)))
    exact DVR
  unfold solR
  rw [if_neg (by rw [hp]; decide)]
  have hin := planB_in hp
  have ct := fun m => tank_f p m hq hp
  have cr := fun m => reach_f p 0 p.start m hp (by omega) hin.2.2.1
  have hrr : reachR p 0 p.start = if fewA p 0 p.start p.inf.length then (rowsN p 0 p.start p.inf.length, true) else ([], false) := rfl
  rw [hrr] at cr
  clear hrr
  cases hf : fewA p 0 p.start p.inf.length
  · rw [if_pos rfl]
    simp only [hf, Bool.false_eq_true, if_false] at cr
    refine pureC (n := 85) (rs := [.tmp 2, .tmp 3, .tmp 4]) (ts := [3, 22, 30]) Try.func8 rfl (by decide) [] (by (exact SD)) ?_
    (repeat' (first | refine swp_seq [0, 1, 2, 3, 4, 5, 6, 7, 8, 9, 10, 11, 20, 29, 43, 48, 49, 50] ?_ | refine st2 ?_ | (show CallQ ..; first | refine cQ (fun hcc => (by first | exact ct _)) ?_ | (refine lP ?_; refine lQ (fun hcc m => (by first | exact ct _)) ?_)) | (show XCallQ ..; first | refine xQ (fun hcc => (by first | exact ct _)) ?_ | (refine xlP ?_; refine xlQ (fun hcc m => (by first | exact ct _)) ?_)) | (show Fct ..; refine fctI (fun hf => ?_)) | (show SWp _ _ _ (.cond _ _ _) _ _ _ _; first | refine cB (fun hc => ?_) (fun hc => ?_) | refine cU ?_ ?_)))
    (refine cQT [40] (fun hcc => (cr _)) ?_)
    (repeat' (first | refine swp_seq [0, 1, 2, 3, 4, 5, 6, 7, 8, 9, 10, 11, 20, 29, 43, 48, 49, 50] ?_ | refine st2 ?_ | (show Fct ..; refine fctI (fun hf => ?_)) | (show SWp _ _ _ (.cond _ _ _) _ _ _ _; first | refine cB (fun hc => ?_) (fun hc => ?_) | refine cU ?_ ?_)))
    exact DVR
  rw [if_neg (by decide)]
  simp only [hf, if_true] at cr
  have cv := fun m => val_f p 0 p.start p.inf.length m hp (by omega) hin.2.2.1 hf
  have hxl := valsX_len p 0 p.start p.inf.length
  have hx0 := valsX_get p 0 p.start p.inf.length (i := 0) (by omega)
  have h0l : 0 < (valsX p 0 p.start p.inf.length).length := by omega
  have hlk : ∀ z, (valsD p 0 (rowsN p 0 p.start p.inf.length) (p.inf.length - 0)).lookup z = _ := valsD_look (s := 0) (v := p.start) (N := p.inf.length) (by omega) (p.inf.length - 0) (by omega)
  have hlk := hlk p.start
  rw [if_pos (by rw [Nat.sub_zero, Nat.sub_self]; simp [rowI, rowsN]), Nat.sub_zero] at hlk
  have hh := hasI_eq (valsD p 0 (rowsN p 0 p.start p.inf.length) p.inf.length) p.start
  have hvv := valI_eq (valsD p 0 (rowsN p 0 p.start p.inf.length) p.inf.length) p.start
  rw [hlk] at hh hvv
  rw [Nat.sub_zero] at hx0
  rw [← hx0] at hh hvv hlk
  cases hvo : vO p p.inf.length p.start with
  | none =>
    rw [hvo] at hh
    have hh : hasI ((valsX p 0 p.start p.inf.length).getD 0 default) p.start = false := hh
    generalize rowsN p 0 p.start p.inf.length = RS at *
    generalize valsX p 0 p.start p.inf.length = XS at *
    (have := Nonempty.intro h0l)
    (have := Nonempty.intro hh)
    refine pureC (n := 85) (rs := [.tmp 2, .tmp 3, .tmp 4]) (ts := [3, 22, 30]) Try.func8 rfl (by decide) [] (by (exact SD)) ?_
    (repeat' (first | refine swp_seq [0, 1, 2, 3, 4, 5, 6, 7, 8, 9, 10, 11, 20, 29, 43, 48, 49, 50] ?_ | refine st2 ?_ | (show CallQ ..; first | refine cQ (fun hcc => (by first | exact ct _)) ?_ | (refine lP ?_; refine lQ (fun hcc m => (by first | exact ct _)) ?_)) | (show XCallQ ..; first | refine xQ (fun hcc => (by first | exact ct _)) ?_ | (refine xlP ?_; refine xlQ (fun hcc m => (by first | exact ct _)) ?_)) | (show Fct ..; refine fctI (fun hf => ?_)) | (show SWp _ _ _ (.cond _ _ _) _ _ _ _; first | refine cB (fun hc => ?_) (fun hc => ?_) | refine cU ?_ ?_)))
    (refine cQT [40] (fun hcc => (cr _)) ?_)
    (repeat' (first | refine swp_seq [0, 1, 2, 3, 4, 5, 6, 7, 8, 9, 10, 11, 20, 29, 43, 48, 49, 50] ?_ | refine st2 ?_ | (show Fct ..; refine fctI (fun hf => ?_)) | (show SWp _ _ _ (.cond _ _ _) _ _ _ _; first | refine cB (fun hc => ?_) (fun hc => ?_) | refine cU ?_ ?_)))
    (refine cQT [40] (fun hcc => (cv _)) ?_)
    (repeat' (first | refine swp_seq [0, 1, 2, 3, 4, 5, 6, 7, 8, 9, 10, 11, 20, 29, 43, 48, 49, 50] ?_ | refine st2 ?_ | (show Fct ..; refine fctI (fun hf => ?_)) | (show SWp _ _ _ (.cond _ _ _) _ _ _ _; first | refine cB (fun hc => ?_) (fun hc => ?_) | refine cU ?_ ?_)))
    exact DVR
  | some c =>
    rw [hvo] at hh hvv
    have hh : hasI ((valsX p 0 p.start p.inf.length).getD 0 default) p.start = true := hh
    have hvv : valI ((valsX p 0 p.start p.inf.length).getD 0 default) p.start = c := hvv
    have hxg := fun i => @valsX_get p 0 p.start p.inf.length i
    have hbr := fun j (hj : j < p.inf.length) z hz => @bestI_row p 0 p.start p.inf.length (by omega) j hj z hz
    have hrs := fun n z j hz hj hp => @row_step p 0 p.start n z j hz hj hp
    have hri := @rowI_in p 0 p.start hp hin.2.2.1
    have hfc := fun d => vO_in hp d
    have hil := hin.2.2.2.1
    have hvin := fun d (hd : d ≤ p.inf.length) z => @valsD_in p 0 p.start p.inf.length hp hin.2.2.1 (by omega) d hd z
    generalize rowsN p 0 p.start p.inf.length = RS at *
    generalize valsX p 0 p.start p.inf.length = XS at *
    (have := Nonempty.intro h0l)
    (have := Nonempty.intro hh)
    refine pureC (n := 85) (rs := [.tmp 2, .tmp 3, .tmp 4]) (ts := [3, 22, 30]) Try.func8 rfl (by decide) [384] (by (exact SD)) ?_
    (repeat' (first | refine swp_seq [0, 1, 2, 3, 4, 5, 6, 7, 8, 9, 10, 11, 20, 29, 43, 48, 49, 50] ?_ | refine st2 ?_ | (show CallQ ..; first | refine cQ (fun hcc => (by first | exact ct _)) ?_ | (refine lP ?_; refine lQ (fun hcc m => (by first | exact ct _)) ?_)) | (show XCallQ ..; first | refine xQ (fun hcc => (by first | exact ct _)) ?_ | (refine xlP ?_; refine xlQ (fun hcc m => (by first | exact ct _)) ?_)) | (show Fct ..; refine fctI (fun hf => ?_)) | (show SWp _ _ _ (.cond _ _ _) _ _ _ _; first | refine cB (fun hc => ?_) (fun hc => ?_) | refine cU ?_ ?_)))
    (refine cQT [40] (fun hcc => (cr _)) ?_)
    (repeat' (first | refine swp_seq [0, 1, 2, 3, 4, 5, 6, 7, 8, 9, 10, 11, 20, 29, 43, 48, 49, 50] ?_ | refine st2 ?_ | (show Fct ..; refine fctI (fun hf => ?_)) | (show SWp _ _ _ (.cond _ _ _) _ _ _ _; first | refine cB (fun hc => ?_) (fun hc => ?_) | refine cU ?_ ?_)))
    (refine cQT [40] (fun hcc => (cv _)) ?_)
    (repeat' (first | refine swp_seq [0, 1, 2, 3, 4, 5, 6, 7, 8, 9, 10, 11, 20, 29, 43, 48, 49, 50] ?_ | refine st2 ?_ | (show Fct ..; refine fctI (fun hf => ?_)) | (show SWp _ _ _ (.cond _ _ _) _ _ _ _; first | refine cB (fun hc => ?_) (fun hc => ?_) | refine cU ?_ ?_)))
    rw [hvv]
    (refine sN 3 3 1 ?_)
    refine loop_swp [1, 2, 3, 5, 8, 9, 48, 49] [0, 40, 384] 385 (fun q A H => ∃ (i : Nat) (v x : Int), i ≤ p.inf.length ∧ q = p.inf.length - i ∧ goV p i = (((goV p i).1), v) ∧ v ∈ rowI p 0 p.start i ∧ vO p (p.inf.length - i) v = some x ∧ A = [(1, .ptr 0 0), (2, li c), (3, .gl 384), (5, .ptr 40 0), (8, .p (.dat 1 (XS.map valRow))), (9, li v), (48, li p.inf.length), (49, li i)] ∧ H = [(0, .blk 26 (planC p)), (40, .blk 73 (tkC p (ints (p.rel.map (floorT p.pen))))), (384, inLt (goV p i).1)]) (by omega) ?_ ?_ ?_
    · rintro q A H ⟨i, v, x, g1, g2, g3, g4, g5, rfl, rfl⟩
      exact ⟨by (exact SD), by (exact SD)⟩
    · refine ⟨_, 0, p.start, c, by omega, rfl, rfl, by simp [rowI, rowsN], by rw [Nat.sub_zero]; exact hvo, ?_, ?_⟩
      · exact DVR
      · exact DVR
    rintro q A H ⟨i, v, x, g1, g2, g3, g4, g5, rfl, rfl⟩
    by_cases hi : i < p.inf.length
    · have hi3 : (i : Int) < (p.inf.length : Int) := by omega
      obtain ⟨h3, h4, h5, y, h6, h7⟩ := ch_some hi g5
      have hb := hbr i hi v g4
      rw [Nat.zero_add, h3] at hb
      have hx1 := hxg (i + 1) (by omega)
      have hgo : goV p (i + 1) = ((goV p i).1 ++ [p.rel.getD (chN p i v) default], aftI p i v (p.rel.getD (chN p i v) default)) := by rw [goV, g3]
      have hst := hrs i v (chN p i v) g4 h4 (by rw [Nat.zero_add]; exact h5)
      rw [Nat.zero_add] at hst
      have hvi : 0 ≤ v ∧ v ≤ 1099511627776 := by
        have h5 := hri i v g4
        have h6 := hin.2.1
        have h7 := hin.1
        omega
      have cb := fun m => best_f p i v (XS.getD (i + 1) default) m hp hi hvi (by rw [hx1]; exact fun z => hvin _ (by omega) z)
      rw [hx1, hb] at cb
      rw [← hx1] at cb
      have cs := fun m => step_yes p i (chN p i v) v m hp hi h4 hvi h5
      have hxi : i + 1 < XS.length := by omega
      have hgl := goV_len p i
      generalize (goV p i).1 = GO at *
      generalize chN p i v = K at *
      generalize aftI p i v (p.rel.getD K default) = W at *
      generalize costI p i v (p.rel.getD K default) = CO at *
      (have := Nonempty.intro hi)
      (have := Nonempty.intro hi3)
      (have := Nonempty.intro hxi)
      (have := Nonempty.intro h4)
      simp only [stO] at cb
      (repeat' (first | refine swp_seq [0, 1, 2, 3, 4, 5, 6, 7, 8, 9, 10, 11, 20, 29, 43, 48, 49, 50] ?_ | refine st2 ?_ | (show Fct ..; refine fctI (fun hf => ?_)) | (show SWp _ _ _ (.cond _ _ _) _ _ _ _; first | refine cB (fun hc => ?_) (fun hc => ?_) | refine cU ?_ ?_)))
      (refine cQT [40] (fun hcc => (cb _)) ?_)
      (repeat' (first | refine swp_seq [0, 1, 2, 3, 4, 5, 6, 7, 8, 9, 10, 11, 20, 29, 43, 48, 49, 50] ?_ | refine st2 ?_ | (show Fct ..; refine fctI (fun hf => ?_)) | (show SWp _ _ _ (.cond _ _ _) _ _ _ _; first | refine cB (fun hc => ?_) (fun hc => ?_) | refine cU ?_ ?_)))
      (refine cQT [40] (fun hcc => (cs _)) ?_)
      (repeat' (first | refine swp_seq [0, 1, 2, 3, 4, 5, 6, 7, 8, 9, 10, 11, 20, 29, 43, 48, 49, 50] ?_ | refine st2 ?_ | (show Fct ..; refine fctI (fun hf => ?_)) | (show SWp _ _ _ (.cond _ _ _) _ _ _ _; first | refine cB (fun hc => ?_) (fun hc => ?_) | refine cU ?_ ?_)))
      (refine lN [0, 40, 384] ?_)
      exact ⟨_, by omega, i + 1, W, y, by omega, rfl, by rw [hgo], hst, h6, rfl, by rw [hgo]⟩
    obtain rfl : i = p.inf.length := by omega
    have hi3 : ¬ ((p.inf.length : Int) < (p.inf.length : Int)) := by omega
    (have := Nonempty.intro hi3)
    (repeat' (first | refine swp_seq [0, 1, 2, 3, 4, 5, 6, 7, 8, 9, 10, 11, 20, 29, 43, 48, 49, 50] ?_ | refine st2 ?_ | (show Fct ..; refine fctI (fun hf => ?_)) | (show SWp _ _ _ (.cond _ _ _) _ _ _ _; first | refine cB (fun hc => ?_) (fun hc => ?_) | refine cU ?_ ?_)))
    exact DVR
theorem srtS_len (p : Plan) (k : Nat) (row : List Int) (i r : Nat) : (srtS p k row i r).length ≤ i * p.rel.length + r := by
  unfold srtS
  rw [srtI_len]
  have h1 := stepsN_len p k (row.getD i default) (nextN p k row i) r
  have h2 := nextN_len p k row i
  omega
theorem app_ilq (l : List (List Int)) (r : List Int) : rows ilRow l ++ [[.p (.dat 1 (r.map inRow))]] = rows ilRow (l ++ [r]) := by simp [rows, ilRow]
theorem put_end (l : List Int) (n : Int) {i : Nat} (h : i ≤ l.length) : l.take i ++ [n] ++ (l.drop i).take (l.length - i) = l.take i ++ n :: l.drop i := by
  have e : (l.drop i).take (l.length - i) = l.drop i := List.take_of_length_le (by rw [List.length_drop]; omega)
  rw [e, List.append_assoc]; rfl
theorem half_f (a b : Nat) : ((a : Int) + (b : Int)).tdiv 2 = (((a + b) / 2 : Nat) : Int) := by
  rw [Int.tdiv_eq_ediv_of_nonneg (by omega)]; omega
theorem asc_lt {l : List Int} (h : l.Pairwise (· < ·)) {i j : Nat} (hij : i < j) (hj : j < l.length) : l.getD i default < l.getD j default := by
  have := (List.pairwise_iff_getElem.1 h) i j (by omega) hj hij
  rw [List.getD_eq_getElem?_getD, List.getD_eq_getElem?_getD, List.getElem?_eq_getElem (by omega), List.getElem?_eq_getElem hj]
  exact this
def chI (p : Plan) : Option (Nat × Int) → Int × Int
  | none => (-1, -1)
  | some (i, c) => (p.rel.getD i default, c)
def cstI (f : Int → Option Int) (row : List Int) : List Int := row.map fun z => (f z).getD (-1)
theorem cstI_get (f : Int → Option Int) (row : List Int) {j : Nat} (hj : j < row.length) : (cstI f row).getD j default = (f (row.getD j default)).getD (-1) := by
  unfold cstI
  rw [List.getD_eq_getElem?_getD, List.getD_eq_getElem?_getD, List.getElem?_map, List.getElem?_eq_getElem hj]; rfl
theorem cstI_len (f : Int → Option Int) (row : List Int) : (cstI f row).length = row.length := by simp [cstI]
end Go.Proofs.Ytlailhdmgehniaa
