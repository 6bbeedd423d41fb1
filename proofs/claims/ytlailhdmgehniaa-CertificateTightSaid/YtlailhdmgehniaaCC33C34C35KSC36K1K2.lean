/-
  Contracts of functions of the program, over the engine.
  No condition.
-/
import Derived.Test.YtlailhdmgehniaaCC25C29C30C31C32
import Derived.Test.YtlailhdmgehniaaCC0C1C2C3
namespace Go.Proofs.Ytlailhdmgehniaa
open Go.Eng
set_option linter.all false
attribute [local irreducible] DCallsG SWp Fct CallQ XCallQ LCallQ XLCallQ drun xrun

def rowC (p : Plan) (r : List Int) (k : Nat) : Bool := decide (p.res ≤ r.getD k default) && decide (r.getD k default ≤ p.cap) && (decide (k = 0) || decide (r.getD (k - 2) default < r.getD k default)) && decide (-1 ≤ r.getD (k + 1) default) && decide (r.getD (k + 1) default ≤ 1152921504606846976)
def rowB (p : Plan) (r : List Int) : Bool := decide (r.length % 2 = 0) && (List.range (r.length / 2)).all fun j => rowC p r (2 * j)
def shapedB (p : Plan) (l : List (List Int)) : Bool := decide (l.length = p.inf.length + 1) && l.all (rowB p)
theorem tmod2z (n : Nat) : ((n : Int).tmod 2 = 0) ↔ n % 2 = 0 := by rw [Int.tmod_eq_emod_of_nonneg (by omega)]; omega
set_option maxRecDepth 20000 in
set_option maxHeartbeats 8000000 in
theorem shaped_f (p : Plan) (l : List (List Int)) (m : Nat) (hp : planOk p) (hl : rowsOk l) (hi2 : p.inf.length ≤ 1048576) : DCalls Try.prog 35 [planD p, intss l] (hget []) m (lb (shapedB p l)) (hget []) := by
  have h1 := hl.1
  by_cases hn : (l.length : Int) = (p.inf.length : Int) + 1
  case neg =>
    (have := Nonempty.intro hn)
    rw [show shapedB p l = false by unfold shapedB; rw [decide_eq_false (by omega)]; rfl]
    refine pureC (n := 74) (rs := [.tmp 4]) (ts := [4]) Try.func35 rfl (by decide) [] (by (exact SD)) ?_
    (repeat' (first | refine swp_seq [0, 1, 2, 4, 6, 7, 8, 9, 16, 17, 18, 19, 20, 26, 30, 72] ?_ | refine st2 ?_ | (show Fct ..; refine fctI (fun hf => ?_)) | (show SWp _ _ _ (.cond _ _ _) _ _ _ _; first | refine cB (fun hc => ?_) (fun hc => ?_) | refine cU ?_ ?_)))
    exact DVR
  (have := Nonempty.intro hn)
  have hS : shapedB p l = l.all (rowB p) := by unfold shapedB; rw [decide_eq_true (by omega)]; rfl
  rw [hS]
  refine pureC (n := 74) (rs := [.tmp 4]) (ts := [4]) Try.func35 rfl (by decide) [] (by (exact SD)) ?_
  (repeat' (first | refine swp_seq [0, 1, 2, 4, 6, 7, 8, 9, 16, 17, 18, 19, 20, 26, 30, 72] ?_ | refine st2 ?_ | (show Fct ..; refine fctI (fun hf => ?_)) | (show SWp _ _ _ (.cond _ _ _) _ _ _ _; first | refine cB (fun hc => ?_) (fun hc => ?_) | refine cU ?_ ?_)))
  refine loop_swp [2, 17, 18, 19] [0] 1 (fun q A H => ∃ i : Nat, i ≤ l.length ∧ q = l.length - i ∧ (∀ j, j < i → rowB p (l.getD j default) = true) ∧ A = [(2, .ptr 0 0), (17, intss l), (18, li l.length), (19, li i)] ∧ H = [(0, .blk 26 (planC p))]) (by omega) ?_ ?_ ?_
  · rintro q A H ⟨i, g1, g2, g3, rfl, rfl⟩
    exact ⟨by (exact SD), by (exact SD)⟩
  · refine ⟨_, 0, by omega, rfl, by omega, ?_, ?_⟩
    · exact DVR
    · exact DVR
  rintro q A H ⟨i, g1, g2, g3, rfl, rfl⟩
  by_cases hi : i < l.length
  · have hi3 : (i : Int) < (l.length : Int) := by omega
    (have := Nonempty.intro hi3)
    (have := Nonempty.intro hi)
    have hr := rows_len hl hi
    have hret : rowB p (l.getD i default) = false → l.all (rowB p) = false := fun h => List.all_eq_false.2 ⟨_, getD_mem hi, by rw [h]; decide⟩
    by_cases ho : (l.getD i default).length % 2 = 0
    case neg =>
      have h9 : ¬ (((l.getD i default).length : Int).tmod 2 = 0) := fun e => ho ((tmod2z _).1 e)
      (have := Nonempty.intro h9)
      rw [hret (by unfold rowB; rw [decide_eq_false ho]; rfl)]
      (repeat' (first | refine swp_seq [0, 1, 2, 4, 6, 7, 8, 9, 16, 17, 18, 19, 20, 26, 30, 72] ?_ | refine st2 ?_ | (show Fct ..; refine fctI (fun hf => ?_)) | (show SWp _ _ _ (.cond _ _ _) _ _ _ _; first | refine cB (fun hc => ?_) (fun hc => ?_) | refine cU ?_ ?_)))
      exact DVR
    have h9 : ((l.getD i default).length : Int).tmod 2 = 0 := (tmod2z _).2 ho
    (have := Nonempty.intro h9)
    have hB : rowB p (l.getD i default) = (List.range ((l.getD i default).length / 2)).all fun j => rowC p (l.getD i default) (2 * j) := by unfold rowB; rw [decide_eq_true ho]; rfl
    (repeat' (first | refine swp_seq [0, 1, 2, 4, 6, 7, 8, 9, 16, 17, 18, 19, 20, 26, 30, 72] ?_ | refine st2 ?_ | (show Fct ..; refine fctI (fun hf => ?_)) | (show SWp _ _ _ (.cond _ _ _) _ _ _ _; first | refine cB (fun hc => ?_) (fun hc => ?_) | refine cU ?_ ?_)))
    refine loop_swp [2, 6, 7, 17, 18, 19] [0] 1 (fun q A H => ∃ j k : Nat, k = 2 * j ∧ k ≤ (l.getD i default).length ∧ q = (l.getD i default).length - k ∧ (∀ i2, i2 < j → rowC p (l.getD i default) (2 * i2) = true) ∧ A = [(2, .ptr 0 0), (6, ints (l.getD i default)), (7, li k), (17, intss l), (18, li l.length), (19, li i)] ∧ H = [(0, .blk 26 (planC p))]) (by omega) ?_ ?_ ?_
    · rintro q A H ⟨j, k, hk, g1, g2, g3, rfl, rfl⟩
      exact ⟨by (exact SD), by (exact SD)⟩
    · refine ⟨_, 0, 0, rfl, by omega, rfl, by omega, ?_, ?_⟩
      · exact DVR
      · exact DVR
    rintro q A H ⟨j, k, hk, f1, f2, f3, rfl, rfl⟩
    by_cases hj : k < (l.getD i default).length
    · have hj3 : (k : Int) < ((l.getD i default).length : Int) := by omega
      (have := Nonempty.intro hj3)
      have hj5 : k + 1 < (l.getD i default).length := by omega
      (have := Nonempty.intro hj5)
      have hjl : j < (l.getD i default).length / 2 := by omega
      (repeat' (first | refine swp_seq [0, 1, 2, 4, 6, 7, 8, 9, 16, 17, 18, 19, 20, 26, 30, 72] ?_ | refine st2 ?_ | (show Fct ..; refine fctI (fun hf => ?_)) | (show SWp _ _ _ (.cond _ _ _) _ _ _ _; first | refine cB (fun hc => ?_) (fun hc => ?_) | refine cU ?_ ?_)))
      · rw [hret (by rw [hB]; exact rall_false (f := fun j => rowC p (l.getD i default) (2 * j)) hjl (by show rowC p (l.getD i default) (2 * j) = false; rw [← hk]; unfold rowC; grind))]
        exact DVR
      · (refine lN [0] ?_)
        exact ⟨_, by omega, j + 1, k + 2, by omega, by omega, rfl, fun i2 hi2 => by
          by_cases e : i2 = j
          · subst e; rw [← hk]; unfold rowC; grind
          · exact f3 i2 (by omega), rfl, rfl⟩
    have hj3 : ¬ ((k : Int) < ((l.getD i default).length : Int)) := by omega
    (have := Nonempty.intro hj3)
    (repeat' (first | refine swp_seq [0, 1, 2, 4, 6, 7, 8, 9, 16, 17, 18, 19, 20, 26, 30, 72] ?_ | refine st2 ?_ | (show Fct ..; refine fctI (fun hf => ?_)) | (show SWp _ _ _ (.cond _ _ _) _ _ _ _; first | refine cB (fun hc => ?_) (fun hc => ?_) | refine cU ?_ ?_)))
    (refine lN [0] ?_)
    exact ⟨_, by omega, i + 1, by omega, rfl, fun j2 hj2 => by
      by_cases e : j2 = i
      · rw [e, hB]; exact rall_true (f := fun j => rowC p (l.getD i default) (2 * j)) fun i2 hi2 => f3 i2 (by omega)
      · exact g3 j2 (by omega), rfl, rfl⟩
  have hi3 : ¬ ((i : Int) < (l.length : Int)) := by omega
  (have := Nonempty.intro hi3)
  have hall : l.all (rowB p) = true := List.all_eq_true.2 fun r hr => by
    obtain ⟨j, hj, rfl⟩ := List.mem_iff_getElem.1 hr
    have := g3 j (by omega)
    rwa [List.getD_eq_getElem?_getD, List.getElem?_eq_getElem hj] at this
  rw [hall]
  (repeat' (first | refine swp_seq [0, 1, 2, 4, 6, 7, 8, 9, 16, 17, 18, 19, 20, 26, 30, 72] ?_ | refine st2 ?_ | (show Fct ..; refine fctI (fun hf => ?_)) | (show SWp _ _ _ (.cond _ _ _) _ _ _ _; first | refine cB (fun hc => ?_) (fun hc => ?_) | refine cU ?_ ?_)))
  exact DVR
def givenE (p : Plan) (l : List (List Int)) : Int := if planB p = false then 1 else if l.any bigB = true then 4 else if shapedB p l = false then 25 else 0
theorem planB_sz {p : Plan} (h : planB p = true) : p.inf.length ≤ 200 ∧ p.rel.length ≤ 20 := by
  unfold planB headB at h
  simp only [Bool.and_eq_true, decide_eq_true_eq] at h
  omega
theorem given_f (p : Plan) (l : List (List Int)) (m : Nat) (hp : planOk p) (hl : rowsOk l) : DCalls Try.prog 17 [planD p, intss l] (hget []) m (li (givenE p l)) (hget []) := by
  have h1 := hl.1
  have cv := fun m => pValid_f p m hp
  cases hv : planB p <;> simp only [hv] at cv
  · rw [show givenE p l = 1 by unfold givenE; rw [if_pos hv]]
    refine pureC (n := 17) (rs := [.tmp 4]) (ts := [30]) Try.func17 rfl (by decide) [] (by (exact SD)) ?_
    (repeat' (first | refine swp_seq [0, 1, 2, 4, 5, 9, 12] ?_ | refine st2 ?_ | (show CallQ ..; first | refine cQ (fun hcc => (cv _)) ?_ | (refine lP ?_; refine lQ (fun hcc m => (cv _)) ?_)) | (show Fct ..; refine fctI (fun hf => ?_)) | (show SWp _ _ _ (.cond _ _ _) _ _ _ _; first | refine cB (fun hc => ?_) (fun hc => ?_) | refine cU ?_ ?_)))
    exact DVR
  have hsz := planB_sz hv
  have cb := fun m => conInts_f 34 bigB l m h1 (fun x hx m => long_f x m (hl.2 x hx).1)
  cases hb : l.any bigB <;> simp only [hb] at cb
  · have cs := fun m => shaped_f p l m hp hl (by omega)
    cases hs : shapedB p l <;> simp only [hs] at cs
    · rw [show givenE p l = 25 by unfold givenE; rw [if_neg (by rw [hv]; decide), if_neg (by rw [hb]; decide), if_pos hs]]
      refine pureC (n := 17) (rs := [.tmp 4]) (ts := [30]) Try.func17 rfl (by decide) [] (by (exact SD)) ?_
      (repeat' (first | refine swp_seq [0, 1, 2, 4, 5, 9, 12] ?_ | refine st2 ?_ | (show CallQ ..; first | refine cQ (fun hcc => (by first | exact cv _ | exact cb _ | exact cs _)) ?_ | (refine lP ?_; refine lQ (fun hcc m => (by first | exact cv _ | exact cb _ | exact cs _)) ?_)) | (show Fct ..; refine fctI (fun hf => ?_)) | (show SWp _ _ _ (.cond _ _ _) _ _ _ _; first | refine cB (fun hc => ?_) (fun hc => ?_) | refine cU ?_ ?_)))
      exact DVR
    · rw [show givenE p l = 0 by unfold givenE; rw [if_neg (by rw [hv]; decide), if_neg (by rw [hb]; decide), if_neg (by rw [hs]; decide)]]
      refine pureC (n := 17) (rs := [.tmp 4]) (ts := [30]) Try.func17 rfl (by decide) [] (by (exact SD)) ?_
      (repeat' (first | refine swp_seq [0, 1, 2, 4, 5, 9, 12] ?_ | refine st2 ?_ | (show CallQ ..; first | refine cQ (fun hcc => (by first | exact cv _ | exact cb _ | exact cs _)) ?_ | (refine lP ?_; refine lQ (fun hcc m => (by first | exact cv _ | exact cb _ | exact cs _)) ?_)) | (show Fct ..; refine fctI (fun hf => ?_)) | (show SWp _ _ _ (.cond _ _ _) _ _ _ _; first | refine cB (fun hc => ?_) (fun hc => ?_) | refine cU ?_ ?_)))
      exact DVR
  · rw [show givenE p l = 4 by unfold givenE; rw [if_neg (by rw [hv]; decide), if_pos hb]]
    refine pureC (n := 17) (rs := [.tmp 4]) (ts := [30]) Try.func17 rfl (by decide) [] (by (exact SD)) ?_
    (repeat' (first | refine swp_seq [0, 1, 2, 4, 5, 9, 12] ?_ | refine st2 ?_ | (show CallQ ..; first | refine cQ (fun hcc => (by first | exact cv _ | exact cb _)) ?_ | (refine lP ?_; refine lQ (fun hcc m => (by first | exact cv _ | exact cb _)) ?_)) | (show Fct ..; refine fctI (fun hf => ?_)) | (show SWp _ _ _ (.cond _ _ _) _ _ _ _; first | refine cB (fun hc => ?_) (fun hc => ?_) | refine cU ?_ ?_)))
    exact DVR
theorem full_self (l : List (List Int)) : fullB l l.length = l.any bigB := by unfold fullB; rw [decide_eq_false (by omega)]; rfl
def Stop (p : Prop) : Prop := p
theorem stop_in {p : Prop} (h : Stop p) : p := h
theorem stop_out {p : Prop} (h : p) : Stop p := h
attribute [irreducible] Stop
section
open Go.Eng
variable {P : Program} {N pin nx : Nat}
def midK (L K : List Nat) (M : LE → LH → Prop) (Q : Exit → LE → LH → Nat → Prop) : Exit → LE → LH → Nat → Prop := fun e A H nx =>
  match e with
  | .normal => M (ekeep A L) (hkeep H K)
  | e => Q e A H nx
theorem midK_normal {L K : List Nat} {M : LE → LH → Prop} {Q : Exit → LE → LH → Nat → Prop} {A A2 : LE} {H H2 : LH} (hA : ekeep A L = A2) (hH : hkeep H K = H2) (h : M A2 H2) : midK L K M Q .normal A H nx := by subst hA hH; exact h
theorem midK_ret {L K : List Nat} {M : LE → LH → Prop} {Q : Exit → LE → LH → Nat → Prop} {A : LE} {H : LH} (h : Q .ret A H nx) : midK L K M Q .ret A H nx := h
theorem midK_exit {L K : List Nat} {M : LE → LH → Prop} {Q : Exit → LE → LH → Nat → Prop} {A : LE} {H : LH} {i : Nat} (h : Q (.exit i) A H nx) : midK L K M Q (.exit i) A H nx := h
theorem swp_mid {x y : Code} {Q : Exit → LE → LH → Nat → Prop} {A : LE} {H : LH} (L K : List Nat) (n0 : Nat) (M : LE → LH → Prop) (hp : pin ≤ n0) (hI : ∀ A H, M A H → usesA n0 A ∧ usesH n0 H)
    (h1 : SWp P N pin x (midK L K M Q) A H nx) (h2 : ∀ A H, M A H → SWp P N pin y Q A H n0) : SWp P N pin (.seq x y) Q A H nx := by
  unfold SWp at h1 h2 ⊢
  intro hp1 B hB a w hS
  refine wp_seq (wp_mono (h1 hp1 B hB a w hS) fun e a' w' ⟨A', H', nx', k1, k2, k3⟩ => ?_)
  cases e with
  | normal =>
    have u := hI _ _ k3
    exact h2 _ _ k3 hp B hB a' w' (k2.reset L K u.1 u.2)
  | _ => exact ⟨A', H', nx', k1, k2, k3⟩
end
attribute [irreducible] midK
theorem toNat_dbl (k : Nat) : (2 * (k : Int)).toNat = 2 * k := by omega
theorem toNat_dbl1 (k : Nat) : (2 * (k : Int) + 1).toNat = 2 * k + 1 := by omega
attribute [push_cast] toNat_dbl toNat_dbl1
def atFrom (l : List Int) (v : Int) : Nat → Nat → Int × Bool
  | 0, _ => (0, false)
  | n + 1, j => if l.getD (2 * j) default = v then (l.getD (2 * j + 1) default, true) else atFrom l v n (j + 1)
def atR (l : List Int) (v : Int) : Int × Bool := atFrom l v (l.length / 2) 0
theorem atFrom_skip (l : List Int) (v : Int) : ∀ (k n j : Nat), k ≤ n → (∀ i, j ≤ i → i < j + k → ¬ l.getD (2 * i) default = v) → atFrom l v n j = atFrom l v (n - k) (j + k)
  | 0, _, _, _, _ => rfl
  | k + 1, 0, _, h, _ => by omega
  | k + 1, n + 1, j, h, hn => by
    rw [atFrom, if_neg (hn j (by omega) (by omega)), atFrom_skip l v k n (j + 1) (by omega) fun i h1 h2 => hn i (by omega) (by omega)]
    congr 1 <;> omega
theorem atR_hit {l : List Int} {v : Int} {j : Nat} (hj : j < l.length / 2) (h1 : ∀ i, i < j → ¬ l.getD (2 * i) default = v) (h2 : l.getD (2 * j) default = v) : atR l v = (l.getD (2 * j + 1) default, true) := by
  unfold atR
  rw [atFrom_skip l v j _ 0 (by omega) fun i _ h => h1 i (by omega), Nat.zero_add]
  obtain ⟨n, hn⟩ : ∃ n, l.length / 2 - j = n + 1 := ⟨l.length / 2 - j - 1, by omega⟩
  rw [hn, atFrom, if_pos h2]
theorem atR_none {l : List Int} {v : Int} (h1 : ∀ i, i < l.length / 2 → ¬ l.getD (2 * i) default = v) : atR l v = (0, false) := by
  unfold atR
  rw [atFrom_skip l v (l.length / 2) _ 0 (Nat.le_refl _) fun i _ h => h1 i (by omega), Nat.sub_self]
  rfl
set_option maxHeartbeats 4000000 in
theorem find_f (l : List Int) (v : Int) (m : Nat) (hl : l.length ≤ 1048576) (he : l.length % 2 = 0) (hs : ∀ i j, i < j → j < l.length / 2 → l.getD (2 * i) default < l.getD (2 * j) default) : DCalls Try.prog 24 [ints l, li v] (hget []) m (.tup [li (atR l v).1, lb (atR l v).2]) (hget []) := by
  have e3 : IntKind.i64.wrap ((l.length : Int).tdiv 2) = ((l.length / 2 : Nat) : Int) := by
    rw [Int.tdiv_eq_ediv_of_nonneg (by omega), i64w (by omega)]; omega
  generalize hn : l.length / 2 = n at *
  refine pureC (n := 49) (rs := [.tmp 4, .tmp 5]) (ts := [3, 4]) Try.func24 rfl (by decide) [] (by (exact SD)) ?_
  (repeat' (first | refine swp_seq [0, 1, 4, 5, 6, 7, 8, 14, 25, 42] ?_ | refine st2 ?_ | (show Fct ..; refine fctI (fun hf => ?_)) | (show SWp _ _ _ (.cond _ _ _) _ _ _ _; first | refine cB (fun hc => ?_) (fun hc => ?_) | refine cU ?_ ?_)))
  rw [e3]
  refine loop_swp [0, 1, 6, 7] [] 0 (fun q A H => ∃ a b : Nat, a ≤ b ∧ b ≤ n ∧ q = b - a ∧ (∀ i, i < a → l.getD (2 * i) default < v) ∧ (∀ i, b ≤ i → i < n → v ≤ l.getD (2 * i) default) ∧ A = [(0, ints l), (1, li v), (6, li a), (7, li b)] ∧ H = []) (by omega) ?_ ?_ ?_
  · rintro q A H ⟨a, b, g1, g2, g3, g4, g5, rfl, rfl⟩
    exact ⟨by (exact SD), by (exact SD)⟩
  · refine ⟨_, 0, n, by omega, by omega, rfl, by omega, by omega, ?_, ?_⟩
    · exact DVR
    · exact DVR
  rintro q A H ⟨a, b, g1, g2, g3, g4, g5, rfl, rfl⟩
  by_cases hab : a < b
  · have hab3 : (a : Int) < (b : Int) := by omega
    (have := Nonempty.intro hab3)
    have eM : IntKind.i64.wrap (((a : Int) + (b : Int)).tdiv 2) = (((a + b) / 2 : Nat) : Int) := by
      rw [Int.tdiv_eq_ediv_of_nonneg (by omega), i64w (by omega)]; omega
    have hM1 : a ≤ (a + b) / 2 ∧ (a + b) / 2 < b := by omega
    generalize (a + b) / 2 = M at *
    have hM2 : 2 * M < l.length := by omega
    (have := Nonempty.intro hM2)
    (repeat' (first | (show SWp _ _ _ (.seq (.region 4 _ _) _) _ _ _ _; refine (stop_in ?_)) | refine swp_seq [0, 1, 4, 5, 6, 7, 8, 14, 25, 42] ?_ | refine st2 ?_ | (show CallQ ..; first | refine cQ (fun hcc => (by fail)) ?_ | (refine lP ?_; refine lQ (fun hcc m => (by fail)) ?_)) | (show Fct ..; refine fctI (fun hf => ?_)) | (show SWp _ _ _ (.cond _ _ _) _ _ _ _; first | refine cB (fun hc => ?_) (fun hc => ?_) | refine cU ?_ ?_)))
    refine stop_out ?_
    rw [eM]
    by_cases hlt : l.getD (2 * M) default < v
    · (have := Nonempty.intro hlt)
      (repeat' (first | refine swp_seq [0, 1, 4, 5, 6, 7, 8, 14, 25, 42] ?_ | refine st2 ?_ | (show Fct ..; refine fctI (fun hf => ?_)) | (show SWp _ _ _ (.cond _ _ _) _ _ _ _; first | refine cB (fun hc => ?_) (fun hc => ?_) | refine cU ?_ ?_)))
      (refine lN [] ?_)
      exact ⟨_, by omega, M + 1, b, by omega, by omega, rfl, fun i hi => by
        by_cases e : i = M
        · rw [e]; exact hlt
        · exact Int.lt_trans (hs i M (by omega) (by omega)) hlt, g5, rfl, rfl⟩
    · (have := Nonempty.intro hlt)
      (repeat' (first | refine swp_seq [0, 1, 4, 5, 6, 7, 8, 14, 25, 42] ?_ | refine st2 ?_ | (show Fct ..; refine fctI (fun hf => ?_)) | (show SWp _ _ _ (.cond _ _ _) _ _ _ _; first | refine cB (fun hc => ?_) (fun hc => ?_) | refine cU ?_ ?_)))
      (refine lN [] ?_)
      exact ⟨_, by omega, a, M, by omega, by omega, rfl, g4, fun i h1 h2 => by
        by_cases e : i = M
        · rw [e]; omega
        · have := hs M i (by omega) (by omega)
          omega, rfl, rfl⟩
  have hab2 : b = a := by omega
  have hab3 : ¬ ((a : Int) < (b : Int)) := by omega
  (have := Nonempty.intro hab3)
  by_cases ha : 2 * a < l.length
  · have ha3 : 2 * (a : Int) < (l.length : Int) := by omega
    (have := Nonempty.intro ha3)
    (have := Nonempty.intro ha)
    have ha1 : 2 * a + 1 < l.length := by omega
    (have := Nonempty.intro ha1)
    by_cases hv : l.getD (2 * a) default = v
    · (have := Nonempty.intro hv)
      rw [atR_hit (by omega : a < l.length / 2) (fun i hi => by have := g4 i hi; omega) hv]
      (repeat' (first | refine swp_seq [0, 1, 4, 5, 6, 7, 8, 14, 25, 42] ?_ | refine st2 ?_ | (show Fct ..; refine fctI (fun hf => ?_)) | (show SWp _ _ _ (.cond _ _ _) _ _ _ _; first | refine cB (fun hc => ?_) (fun hc => ?_) | refine cU ?_ ?_)))
      exact DVR
    · (have := Nonempty.intro hv)
      rw [atR_none fun i hi => by
        by_cases e1 : i < a
        · have := g4 i e1; omega
        · by_cases e2 : i = a
          · rw [e2]; exact hv
          · have q1 := g5 a (by omega) (by omega)
            have q2 := hs a i (by omega) (by omega)
            omega]
      (repeat' (first | refine swp_seq [0, 1, 4, 5, 6, 7, 8, 14, 25, 42] ?_ | refine st2 ?_ | (show Fct ..; refine fctI (fun hf => ?_)) | (show SWp _ _ _ (.cond _ _ _) _ _ _ _; first | refine cB (fun hc => ?_) (fun hc => ?_) | refine cU ?_ ?_)))
      exact DVR
  · have ha3 : ¬ (2 * (a : Int) < (l.length : Int)) := by omega
    (have := Nonempty.intro ha3)
    rw [atR_none fun i hi => by have := g4 i (by omega); omega]
    (repeat' (first | refine swp_seq [0, 1, 4, 5, 6, 7, 8, 14, 25, 42] ?_ | refine st2 ?_ | (show Fct ..; refine fctI (fun hf => ?_)) | (show SWp _ _ _ (.cond _ _ _) _ _ _ _; first | refine cB (fun hc => ?_) (fun hc => ?_) | refine cU ?_ ?_)))
    exact DVR
theorem kn_test {B a b u w q r : Nat} (he : u = q * a + r) : B * r + w < q * b ↔ u * B + w < q * (a * B + b) := by
  have e1 : u * B = q * a * B + r * B := by rw [he, Nat.add_mul]
  have e2 : q * (a * B + b) = q * a * B + q * b := by rw [Nat.mul_add, Nat.mul_assoc]
  rw [e1, e2, Nat.mul_comm B r]
  generalize q * a * B = t
  generalize r * B = s
  generalize q * b = p
  omega
theorem kn_small {B a b u q r : Nat} (hb : b < B) (hu : u < a * B + b) (he : u = q * a + r) (hr : B ≤ r) : q < B := by
  refine Nat.lt_of_not_le fun h => ?_
  have := Nat.mul_le_mul_right a h
  rw [Nat.mul_comm B a] at this
  generalize q * a = t at *
  generalize a * B = s at *
  omega
theorem kn_rest {B a b u w q r : Nat} (hb : b < B) (hu : u < a * B + b) (he : u = q * a + r) (hr : B ≤ r) : ¬ B * r + w < q * b := by
  have hq := kn_small hb hu he hr
  have h1 : q * b ≤ B * B := Nat.mul_le_mul (by omega) (by omega)
  have h2 : B * B ≤ B * r := Nat.mul_le_mul_left B hr
  generalize q * b = p at *
  generalize B * r = s at *
  generalize B * B = t at *
  omega
theorem kn_great {B v u w q : Nat} (hu : u < v) (hw : w < B) (hq : B ≤ q) : u * B + w < q * v := by
  have h1 : (u + 1) * B ≤ v * B := Nat.mul_le_mul_right B hu
  have h2 : B * v ≤ q * v := Nat.mul_le_mul_right v hq
  rw [Nat.add_mul, Nat.one_mul] at h1
  rw [Nat.mul_comm B v] at h2
  generalize u * B = s at *
  generalize v * B = t at *
  generalize q * v = p at *
  omega
theorem kn_first {B a b u w : Nat} (ha : 0 < a) (hw : w < B) : u * B + w < (u / a + 1) * (a * B + b) := by
  have h1 : u + 1 ≤ (u / a + 1) * a := by
    have := Nat.lt_div_mul_add ha (a := u)
    rw [Nat.add_mul, Nat.one_mul]; omega
  have h2 : (u + 1) * B ≤ (u / a + 1) * a * B := Nat.mul_le_mul_right B h1
  rw [Nat.add_mul, Nat.one_mul] at h2
  rw [Nat.mul_add, ← Nat.mul_assoc]
  generalize (u / a + 1) * a * B = t at *
  generalize (u / a + 1) * b = p at *
  generalize u * B = s at *
  omega
theorem kn_most {B a b u : Nat} (hb : b < B) (hB : B ≤ 2 * a) (ha : 0 < a) (hu : u < a * B + b) : u / a ≤ B + 1 := by
  have h2 : u < (B + 2) * a := by
    rw [Nat.add_mul, Nat.mul_comm B a]
    generalize a * B = s at *
    omega
  have := (Nat.div_lt_iff_lt_mul ha).2 h2
  omega
theorem kn_done {v x q : Nat} (h1 : q * v ≤ x) (h2 : x < (q + 1) * v) : x / v = q := by
  have hv : 0 < v := Nat.pos_of_ne_zero fun e => by rw [e, Nat.mul_zero] at h2; exact Nat.not_lt_zero _ h2
  exact Nat.div_eq_of_lt_le h1 h2
theorem kn_two {B v u w z : Nat} (hv : 0 < v) (hz : z < B) (hB : 0 < B) : (u * B + w) / v * B + ((u * B + w) % v * B + z) / v = ((u * B + w) * B + z) / v ∧ ((u * B + w) % v * B + z) % v = ((u * B + w) * B + z) % v := by
  have e : (u * B + w) * B + z = ((u * B + w) % v * B + z) + v * ((u * B + w) / v * B) := by
    have h := Nat.mod_add_div (u * B + w) v
    generalize (u * B + w) / v = q at *
    generalize (u * B + w) % v = r at *
    rw [← h, Nat.add_mul, Nat.mul_assoc]
    generalize v * (q * B) = t
    generalize r * B = s
    omega
  rw [e, Nat.add_mul_div_left _ _ hv, Nat.add_mul_mod_self_left]
  exact ⟨Nat.add_comm _ _, rfl⟩
theorem kn_step {B a b u w q r : Nat} (hb : b < B) (hw : w < B) (hu : u < a * B + b) (he : u = q * a + r) (h : u * B + w < (q + 1) * (a * B + b)) (ht : B ≤ q ∨ B * r + w < q * b) :
    1 ≤ q ∧ u * B + w < (q - 1 + 1) * (a * B + b) ∧ u = (q - 1) * a + (r + a) ∧ (B ≤ r + a → (u * B + w) / (a * B + b) = q - 1) := by
  have h1 : u * B + w < q * (a * B + b) := by
    rcases ht with ht | ht
    · exact kn_great hu hw ht
    · exact (kn_test he).1 ht
  have hq : 1 ≤ q := by
    rcases Nat.eq_zero_or_pos q with e | e
    · rw [e, Nat.zero_mul] at h1; exact absurd h1 (Nat.not_lt_zero _)
    · exact e
  have e1 : q - 1 + 1 = q := by omega
  have e2 : u = (q - 1) * a + (r + a) := by
    have : q * a = (q - 1) * a + a := by rw [← Nat.succ_mul]; congr 1; omega
    omega
  refine ⟨hq, by rw [e1]; exact h1, e2, fun hr => ?_⟩
  refine kn_done (Nat.le_of_not_lt fun h3 => ?_) (by rw [e1]; exact h1)
  exact kn_rest hb hu e2 hr ((kn_test e2).2 h3)
theorem kn_stop {B a b u w q r : Nat} (he : u = q * a + r) (h : u * B + w < (q + 1) * (a * B + b)) (ht : ¬ B * r + w < q * b) : (u * B + w) / (a * B + b) = q :=
  kn_done (Nat.le_of_not_lt fun h3 => ht ((kn_test he).2 h3)) h
theorem kn_lt {B hi lo y : Nat} (h1 : hi < y) (hl : lo < B) : (hi * B + lo) / y < B := by
  rw [Nat.div_lt_iff_lt_mul (by omega)]
  have h2 : (hi + 1) * B ≤ y * B := Nat.mul_le_mul_right B h1
  rw [Nat.add_mul, Nat.one_mul] at h2
  rw [Nat.mul_comm B y]
  generalize hi * B = s at *
  generalize y * B = t at *
  omega
theorem kn_two2 {B v u w z Q R T S : Nat} (hv : 0 < v) (hz : z < B) (hB : 0 < B) (hQ : (u * B + w) / v = Q) (hR : (u * B + w) % v = R) (hT : (R * B + z) / v = T) (hS : (R * B + z) % v = S) : Q * B + T = ((u * B + w) * B + z) / v ∧ S = ((u * B + w) * B + z) % v := by
  subst hQ hR
  have := kn_two (u := u) (w := w) hv hz hB
  rw [hT, hS] at this
  exact this
abbrev lu (n : Nat) : DV := lv (.int .u64 (n : Int))
theorem u64_mask (z : Int) : IntKind.u64.wrap ((BitVec.ofInt IntKind.u64.bits z &&& BitVec.ofInt IntKind.u64.bits 4294967295).toNat : Int) = z % 4294967296 := by
  have e1 : (BitVec.ofInt IntKind.u64.bits z).toNat = (z % 18446744073709551616).toNat := by
    show (BitVec.ofInt 64 _).toNat = _
    rw [BitVec.toNat_ofInt]; rfl
  have e2 : (BitVec.ofInt IntKind.u64.bits (4294967295 : Int)).toNat = 2 ^ 32 - 1 := rfl
  rw [BitVec.toNat_and, e1, e2, Nat.and_two_pow_sub_one_eq_mod, u64w]
  omega
theorem u64_shr (z : Int) : z.fdiv (2 ^ min 32 IntKind.u64.bits) = z / 4294967296 := by
  have : (2 : Int) ^ min 32 IntKind.u64.bits = 4294967296 := rfl
  rw [this, Int.fdiv_eq_ediv_of_nonneg _ (by omega)]
attribute [push_cast] u64_mask u64_shr
theorem mul_hi (x y : Int) (hx : 0 ≤ x ∧ x < 18446744073709551616) (hy : 0 ≤ y ∧ y < 18446744073709551616) :
    (((x / 4294967296 * (y / 4294967296)) % 18446744073709551616 + (((x / 4294967296 * (y % 4294967296)) % 18446744073709551616 + ((x % 4294967296) * (y % 4294967296)) % 18446744073709551616 / 4294967296) % 18446744073709551616) / 4294967296) % 18446744073709551616 +
      (((((x / 4294967296 * (y % 4294967296)) % 18446744073709551616 + ((x % 4294967296) * (y % 4294967296)) % 18446744073709551616 / 4294967296) % 18446744073709551616) % 4294967296 + ((x % 4294967296) * (y / 4294967296)) % 18446744073709551616) % 18446744073709551616) / 4294967296) % 18446744073709551616 = x * y / 18446744073709551616 := by
  have d1 : x = x / 4294967296 * 4294967296 + x % 4294967296 := by omega
  have d2 : y = y / 4294967296 * 4294967296 + y % 4294967296 := by omega
  have b1 : 0 ≤ x / 4294967296 ∧ x / 4294967296 ≤ 4294967295 := by omega
  have b2 : 0 ≤ x % 4294967296 ∧ x % 4294967296 ≤ 4294967295 := by omega
  have b3 : 0 ≤ y / 4294967296 ∧ y / 4294967296 ≤ 4294967295 := by omega
  have b4 : 0 ≤ y % 4294967296 ∧ y % 4294967296 ≤ 4294967295 := by omega
  generalize x / 4294967296 = a at *
  generalize x % 4294967296 = b at *
  generalize y / 4294967296 = c at *
  generalize y % 4294967296 = d at *
  have hm : ∀ p q : Int, 0 ≤ p ∧ p ≤ 4294967295 → 0 ≤ q ∧ q ≤ 4294967295 → 0 ≤ p * q ∧ p * q ≤ 18446744065119617025 := fun p q h1 h2 =>
    ⟨Int.mul_nonneg h1.1 h2.1, Int.le_trans (Int.mul_le_mul h1.2 h2.2 h2.1 (by omega)) (by omega)⟩
  have m1 := hm a c b1 b3
  have m2 := hm a d b1 b4
  have m3 := hm b c b2 b3
  have m4 := hm b d b2 b4
  have e : x * y = a * c * 18446744073709551616 + a * d * 4294967296 + b * c * 4294967296 + b * d := by
    rw [d1, d2]; grind
  rw [e]
  generalize a * c = p at *
  generalize a * d = q at *
  generalize b * c = r at *
  generalize b * d = t at *
  clear e d1 d2 hm
  omega
theorem mul_hi' (x y : Nat) (hx : x < 18446744073709551616) (hy : y < 18446744073709551616) :
    IntKind.u64.wrap (IntKind.u64.wrap (IntKind.u64.wrap ((x : Int) / 4294967296 * ((y : Int) / 4294967296)) + IntKind.u64.wrap (IntKind.u64.wrap ((x : Int) / 4294967296 * ((y : Int) % 4294967296)) + IntKind.u64.wrap ((x : Int) % 4294967296 * ((y : Int) % 4294967296)) / 4294967296) / 4294967296) +
      IntKind.u64.wrap (IntKind.u64.wrap (IntKind.u64.wrap ((x : Int) / 4294967296 * ((y : Int) % 4294967296)) + IntKind.u64.wrap ((x : Int) % 4294967296 * ((y : Int) % 4294967296)) / 4294967296) % 4294967296 + IntKind.u64.wrap ((x : Int) % 4294967296 * ((y : Int) / 4294967296))) / 4294967296) = ((x * y / 18446744073709551616 : Nat) : Int) := by
  simp only [u64w]
  rw [mul_hi x y (by omega) (by omega)]
  rw [← Int.natCast_mul]; omega
theorem mul_lo (x y : Nat) : IntKind.u64.wrap ((x : Int) * (y : Int)) = ((x * y % 18446744073709551616 : Nat) : Int) := by
  rw [u64w, ← Int.natCast_mul]; omega
set_option maxRecDepth 20000 in
set_option maxHeartbeats 8000000 in
theorem mul64_f (x y : Nat) (m : Nat) (hx : x < 18446744073709551616) (hy : y < 18446744073709551616) : DCalls Try.prog 83 [lu x, lu y] (hget []) m (.tup [lu (x * y / 18446744073709551616), lu (x * y % 18446744073709551616)]) (hget []) := by
  refine pureC (n := 51) (rs := [.tmp 4, .tmp 5]) (ts := [103, 103]) Try.func83 rfl (by decide) [] (by (exact SD)) ?_
  (repeat' (first | refine swp_seq [0, 1, 4, 5, 6, 7, 8, 9, 10, 11, 12, 13] ?_ | refine st2 ?_ | (show Fct ..; refine fctI (fun hf => ?_)) | (show SWp _ _ _ (.cond _ _ _) _ _ _ _; first | refine cB (fun hc => ?_) (fun hc => ?_) | refine cU ?_ ?_)))
  rw [mul_hi' x y hx hy, mul_lo x y]
  generalize x * y / 18446744073709551616 = a
  generalize x * y % 18446744073709551616 = b
  exact DVR
theorem div64_f (x y : Nat) (m : Nat) (hx : x < 18446744073709551616) (hy : y < 18446744073709551616) (h0 : 0 < y) : DCalls Try.prog 86 [lu 0, lu x, lu y] (hget []) m (.tup [lu (x / y), lu (x % y)]) (hget []) := by
  have n1 : ¬ ((y : Int) = 0) := by omega
  have n2 : ¬ ((y : Int) ≤ 0) := by omega
  have i0 : (0 : Int) = 0 := rfl
  (have := Nonempty.intro n1)
  (have := Nonempty.intro n2)
  (have := Nonempty.intro i0)
  have e1 : IntKind.u64.wrap ((x : Int).tdiv (y : Int)) = ((x / y : Nat) : Int) := by
    rw [u64w, Int.tdiv_eq_ediv_of_nonneg (by omega), ← Int.natCast_ediv]
    have := Nat.div_le_self x y
    generalize x / y = q at *
    omega
  have e2 : ((x : Int).tmod (y : Int)) = ((x % y : Nat) : Int) := by
    rw [Int.tmod_eq_emod_of_nonneg (by omega)]; rfl
  refine pureC (n := 135) (rs := [.tmp 6, .tmp 7]) (ts := [103, 103]) Try.func86 rfl (by decide) [] (by (exact SD)) ?_
  (repeat' (first | refine swp_seq [0, 1, 2, 6, 7, 8, 9, 10, 11, 12, 13, 14, 15, 16, 17, 18, 20, 24, 27, 78, 85, 113, 120] ?_ | refine st2 ?_ | (show Fct ..; refine fctI (fun hf => ?_)) | (show SWp _ _ _ (.cond _ _ _) _ _ _ _; first | refine cB (fun hc => ?_) (fun hc => ?_) | refine cU ?_ ?_)))
  rw [e1, e2]
  generalize x / y = a
  generalize x % y = b
  exact DVR

end Go.Proofs.Ytlailhdmgehniaa
