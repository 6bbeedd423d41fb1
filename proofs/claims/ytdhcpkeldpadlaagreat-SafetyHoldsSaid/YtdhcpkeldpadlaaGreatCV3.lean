/-
  Contracts of functions of the program, over the engine.
  No condition.
-/
import Derived.Test.YtdhcpkeldpadlaaGreatCU9
import Derived.Test.YtdhcpkeldpadlaaGreatCU2
import Derived.Test.YtdhcpkeldpadlaaGreatCV0
import Derived.Test.YtdhcpkeldpadlaaGreatCV2
import Derived.Test.YtdhcpkeldpadlaaGreatCV1
namespace Go.Proofs.YtdhcpkeldpadlaaGreat
open Go.Eng
set_option linter.all false
attribute [local irreducible] DCallsG SWp Fct CallQ XCallQ LCallQ XLCallQ drun xrun
set_option maxHeartbeats 64000000
set_option maxRecDepth 20000

theorem allStop43 {α : Type} [Inhabited α] {p : α -> Bool} {l : List α} {i : Nat} (h : i < l.length) (e : p (l.getD i default) = false) : l.all p = false := List.all_eq_false.2 ⟨_, getD_mem h, by rw [e]; decide⟩
theorem allGo43 {α : Type} [Inhabited α] {p : α -> Bool} {l : List α} (h : ∀ j, j < l.length -> p (l.getD j default) = true) : l.all p = true := by
  rw [List.all_eq_true];intro x hx;obtain ⟨j, hj, rfl⟩ := List.mem_iff_getElem.1 hx;have := h j hj
  rwa [getD_is hj] at this
def accB (n : Net) (c : List Sect) (l : List Rule) (sec : Int) : Bool :=
  (netB n && catB c && rulesB l) && l.all (knownR n) && (decide (1 <= sec) && decide (sec <= 86400)) && n.nodes.all fun x => !x.prot || (decide (safE n c l x.name sec = 0) && safeI (safM n c l x.name sec) (safS n l x.name))
def accN (n : Net) (c : List Sect) (l : List Rule) (sec : Int) (x : Node) : Bool := !x.prot || (decide (safE n c l x.name sec = 0) && safeI (safM n c l x.name sec) (safS n l x.name))
theorem prot_tank {x : Node} (h : nodeR x = true) (hp : x.prot = true) : x.kind = 2 := by
  unfold nodeR at h;simp only [Bool.and_eq_true] at h;have h2 := h.2;unfold kindB at h2;split at h2
  · next k =>
    rcases k with k | k
    · simp only [Bool.and_eq_true, k, hp] at h2;simp at h2
    · exact k
  · split at h2
    · simp only [Bool.and_eq_true, hp] at h2;simp at h2
    · cases h2
theorem Accepted_f (n : Net) (c : List Sect) (l : List Rule) (sec : Int) (m : Nat) (no : netOk n) (co : catOk c) (lo : rulOk l) :
    Pu 23 [netD n, sectL c, ruleL l, li sec] m (lb (accB n c l sec)) := by
  have k1 := fun m => netValid_f n m no
  have k2 := fun m => cat_f c m co
  have k3 := fun m => rulesV_f l m lo
  have k5 := fun m => tright_f sec m
  change ∀ m, DCalls _ _ _ _ _ (lb (decide (1 <= sec) && decide (sec <= 86400))) _ at k5;unfold accB;cases nb : netB n <;> simp only [nb] at k1
  · rw [Bool.false_and, Bool.false_and, Bool.false_and, Bool.false_and, Bool.false_and];refine pcN 70 [.tmp 8] [4] Tryz.func23 rfl [] ?_;(repeat' first|refine stW [0,1,2,3,4,8,10,11,13,37,39,40,41,42,51,68] ?_|refine fctI fun hf=>?_|refine twI (fun hc=>?_) fun hc=>?_);exact DVR
  cases cb : catB c <;> simp only [cb] at k2
  · rw [Bool.and_false, Bool.false_and, Bool.false_and, Bool.false_and, Bool.false_and];refine pcN 70 [.tmp 8] [4] Tryz.func23 rfl [] ?_;(repeat' first|refine stW [0,1,2,3,4,8,10,11,13,37,39,40,41,42,51,68] ?_|refine fctI fun hf=>?_|refine twI (fun hc=>?_) fun hc=>?_);exact DVR
  cases rb : rulesB l <;> simp only [rb] at k3
  · rw [Bool.and_false, Bool.false_and, Bool.false_and, Bool.false_and];refine pcN 70 [.tmp 8] [4] Tryz.func23 rfl [] ?_;(repeat' first|refine stW [0,1,2,3,4,8,10,11,13,37,39,40,41,42,51,68] ?_|refine fctI fun hf=>?_|refine twI (fun hc=>?_) fun hc=>?_);exact DVR
  have k4 := fun m => suits_f l n m lo no nb
  cases hk : l.all (knownR n) <;> simp only [hk] at k4
  · rw [Bool.and_false, Bool.false_and, Bool.false_and];refine pcN 70 [.tmp 8] [4] Tryz.func23 rfl [] ?_;(repeat' first|refine stW [0,1,2,3,4,8,10,11,13,37,39,40,41,42,51,68] ?_|refine fctI fun hf=>?_|refine twI (fun hc=>?_) fun hc=>?_);exact DVR
  cases hs : (decide (1 <= sec) && decide (sec <= 86400)) <;> simp only [hs] at k5
  · rw [Bool.and_false, Bool.false_and];refine pcN 70 [.tmp 8] [4] Tryz.func23 rfl [] ?_;(repeat' first|refine stW [0,1,2,3,4,8,10,11,13,37,39,40,41,42,51,68] ?_|refine fctI fun hf=>?_|refine twI (fun hc=>?_) fun hc=>?_);exact DVR
  rw [show (true && true && true && true && true) = true from rfl, Bool.true_and];obtain ⟨h300, h400⟩ := netB_len nb;have ni := (netB_iff n).1 nb;show Pu 23 [netD n, sectL c, ruleL l, li sec] m (lb (n.nodes.all (accN n c l sec)));refine pcN 70 [.tmp 8] [4] Tryz.func23 rfl [] ?_;(repeat' first|refine stW [0,1,2,3,4,8,10,11,13,37,39,40,41,42,51,68] ?_|refine fctI fun hf=>?_|refine twI (fun hc=>?_) fun hc=>?_);refine loop_swp [1, 2, 3, 4, 39, 40, 41] [0] 240 (fun q A H => ∃ i : Nat, i <= n.nodes.length /\ q = n.nodes.length - i /\ (∀ j, j < i -> accN n c l sec (n.nodes.getD j default) = true) /\ A = [(1, sectL c), (2, ruleL l), (3, li sec), (4, .ptr 0 0), (39, nodeL n.nodes), (40, li n.nodes.length), (41, li i)] /\ H = [(0, .blk 25 (netC n))]) (by omega) ?_ ?_ ?_
  · rintro q A H ⟨i, g1, g2, g3, rfl, rfl⟩;exact SDD
  · refine ⟨_, 0, by omega, rfl, by omega, ?_, ?_⟩
    · exact DVR
    · exact DVR
  rintro q A H ⟨i, g1, g2, g3, rfl, rfl⟩;by_cases hi : i < n.nodes.length
  · have hi3 : (i : Int) < (n.nodes.length : Int) := by omega
    have k6 := fun m => Safe_f n c l (n.nodes.getD i default).name sec m no co lo
    have hst := allStop43 (p := accN n c l sec) hi;have hnx : accN n c l sec (n.nodes.getD i default) = true -> ∀ j, j < i + 1 -> accN n c l sec (n.nodes.getD j default) = true := fun h j hj => by
      by_cases e : j = i
      · subst e; exact h
      · exact g3 j (by omega)
    have hpk := prot_tank (ni.nr _ (mem_getD hi));have hdef : accN n c l sec (n.nodes.getD i default) = (!(n.nodes.getD i default).prot || (decide (safE n c l (n.nodes.getD i default).name sec = 0) && safeI (safM n c l (n.nodes.getD i default).name sec) (safS n l (n.nodes.getD i default).name))) := rfl;clear g3 k1 k2 k3 k4 k5;(have:=NeI hi);(have:=NeI hi3);cases hp : (n.nodes.getD i default).prot <;> rw [hp] at hdef
    · rw [Bool.not_false, Bool.true_or] at hdef
      replace hnx := hnx hdef
      haveI : ProtAt (n.nodes.getD i default) false := ⟨hp⟩;clear hst hpk k6 hdef;by_cases hkk : (n.nodes.getD i default).kind = 2
      · (have:=NeI hkk);(repeat' first|refine stW [0,1,2,3,4,8,10,11,13,37,39,40,41,42,51,68] ?_|refine fctI fun hf=>?_|refine twI (fun hc=>?_) fun hc=>?_);(refine lN [0] ?_);exact ⟨_, by omega, i + 1, by omega, rfl, hnx, rfl, rfl⟩
      · (have:=NeI hkk);(repeat' first|refine stW [0,1,2,3,4,8,10,11,13,37,39,40,41,42,51,68] ?_|refine fctI fun hf=>?_|refine twI (fun hc=>?_) fun hc=>?_);(refine lN [0] ?_);exact ⟨_, by omega, i + 1, by omega, rfl, hnx, rfl, rfl⟩
    have hkk := hpk hp;haveI : ProtAt (n.nodes.getD i default) true := ⟨hp⟩;rw [Bool.not_true, Bool.false_or] at hdef;(have:=NeI hkk);by_cases hE : safE n c l (n.nodes.getD i default).name sec = 0
    · rw [decide_eq_true hE, Bool.true_and] at hdef;rw [show safR n c l (n.nodes.getD i default).name sec = _ from if_pos hE, hE] at k6;generalize safeI (safM n c l (n.nodes.getD i default).name sec) (safS n l (n.nodes.getD i default).name) = ok at *
      generalize atI (safM n c l (n.nodes.getD i default).name sec) (safS n l (n.nodes.getD i default).name) = B at *
      cases ok
      · rw [hst hdef];clear hst hnx hdef;(repeat' first|refine stW [0,1,2,3,4,8,10,11,13,37,39,40,41,42,51,68] ?_|refine fctI fun hf=>?_|refine twI (fun hc=>?_) fun hc=>?_);exact DVR
      · replace hnx := hnx hdef
        clear hst hdef;(repeat' first|refine stW [0,1,2,3,4,8,10,11,13,37,39,40,41,42,51,68] ?_|refine fctI fun hf=>?_|refine twI (fun hc=>?_) fun hc=>?_);(refine lN [0] ?_);exact ⟨_, by omega, i + 1, by omega, rfl, hnx, rfl, rfl⟩
    · rw [decide_eq_false hE, Bool.false_and] at hdef;rw [hst hdef];rw [show safR n c l (n.nodes.getD i default).name sec = _ from if_neg hE] at k6;generalize safE n c l (n.nodes.getD i default).name sec = E at *
      (have:=NeI hE);clear hst hnx hdef;(repeat' first|refine stW [0,1,2,3,4,8,10,11,13,37,39,40,41,42,51,68] ?_|refine fctI fun hf=>?_|refine twI (fun hc=>?_) fun hc=>?_);exact DVR
  obtain rfl : i = n.nodes.length := by omega
  have hi3 : ¬ ((n.nodes.length : Int) < (n.nodes.length : Int)) := by omega
  rw [allGo43 g3];(have:=NeI hi3);clear g3 k1 k2 k3 k4 k5;(repeat' first|refine stW [0,1,2,3,4,8,10,11,13,37,39,40,41,42,51,68] ?_|refine fctI fun hf=>?_|refine twI (fun hc=>?_) fun hc=>?_);exact DVR
theorem tab_lt {t : List Knot} (h : tabB t = true) {i j : Nat} (hij : i < j) (hj : j < t.length) : (t.getD i default).x < (t.getD j default).x := by
  have h1 := (tab_in h).2.2.2 i (by omega);have h2 := tab_mono2 h j (i + 1) hij hj;omega
theorem mostT_le {t : List Knot} {y z : Int} (h : tabB t = true) (h0 : (t.getD 0 default).y <= y) (hyz : y <= z) : mostT t y <= mostT t z := by
  have hl := (tab_in h).1;rcases idxI_spec (fun a : Knot => decide (y < a.y)) t with ⟨e, q⟩ | ⟨k, e, hk, hp, hm⟩
  · have e2 : mostIx t z = -1 := by
      rcases idxI_spec (fun a : Knot => decide (z < a.y)) t with ⟨e2, _⟩ | ⟨j, _, hj, hp, _⟩
      · exact e2
      · have h1 := of_decide_eq_false (q j hj);have h2 := of_decide_eq_true hp;omega
    have e1 : mostIx t y = -1 := e;unfold mostT;rw [e1, e2]; exact Int.le_refl _
  · have e1 : mostIx t y = (k : Int) := e;have h1 := of_decide_eq_true hp;have hk0 : k ≠ 0 := fun c => by subst c; omega
    obtain ⟨j, rfl⟩ : ∃ j, k = j + 1 := ⟨k - 1, by omega⟩;have h2 := of_decide_eq_false (hm j (by omega));rcases most_at (y := z) h (by omega) with e2 | ⟨i, e2, hi, i1, i2⟩
    · have := (mostT_in h h0).2;rw [show mostT t z = (t.getD (t.length - 1) default).x by unfold mostT; rw [if_pos e2]];exact this
    · have hji : j <= i := by
        refine Nat.le_of_not_lt fun c => ?_
        have := (tab_mono2 h j (i + 1) c (by omega)).2;omega
      have ex : (t.getD j default).x <= (t.getD (j + 1) default).x := (tab_mono2 h (j + 1) j (by omega) hk).1;have up : mostT t y <= (t.getD (j + 1) default).x := by
        unfold mostT;rw [if_neg (by omega), e1, Int.toNat_natCast, Nat.add_sub_cancel];generalize t.getD j default = a at *
        generalize t.getD (j + 1) default = b at *
        have c2 : (y - a.y) * (b.x - a.x) / (b.y - a.y) <= b.x - a.x := by
          have := Int.mul_le_mul_of_nonneg_right (show y - a.y <= b.y - a.y by omega) (show 0 <= b.x - a.x by omega)
          calc (y - a.y) * (b.x - a.x) / (b.y - a.y) <= (b.y - a.y) * (b.x - a.x) / (b.y - a.y) := Int.ediv_le_ediv (by omega) this
            _ = b.x - a.x := Int.mul_ediv_cancel_left _ (by omega)
        omega
      have hz : mostT t z = (t.getD i default).x + (z - (t.getD i default).y) * ((t.getD (i + 1) default).x - (t.getD i default).x) / ((t.getD (i + 1) default).y - (t.getD i default).y) := by
        unfold mostT;rw [if_neg (by omega), e2, Int.toNat_natCast, Nat.add_sub_cancel]
      have ix : (t.getD i default).x <= (t.getD (i + 1) default).x := (tab_mono2 h (i + 1) i (by omega) hi).1;have c1 : 0 <= (z - (t.getD i default).y) * ((t.getD (i + 1) default).x - (t.getD i default).x) / ((t.getD (i + 1) default).y - (t.getD i default).y) := Int.ediv_nonneg (Int.mul_nonneg (by omega) (by omega)) (by omega);by_cases c : j = i
      · subst c;have hy : mostT t y = (t.getD j default).x + (y - (t.getD j default).y) * ((t.getD (j + 1) default).x - (t.getD j default).x) / ((t.getD (j + 1) default).y - (t.getD j default).y) := by
          unfold mostT;rw [if_neg (by omega), e1, Int.toNat_natCast, Nat.add_sub_cancel]
        have := Int.ediv_le_ediv (show 0 < (t.getD (j + 1) default).y - (t.getD j default).y by omega) (Int.mul_le_mul_of_nonneg_right (show y - (t.getD j default).y <= z - (t.getD j default).y by omega) (show 0 <= (t.getD (j + 1) default).x - (t.getD j default).x by omega));omega
      · have := (tab_mono2 h i (j + 1) (by omega) (by omega)).1;omega
theorem knX_is {t : List Knot} {x : Int} (h : tabB t = true) {k : Nat} (hk : k < t.length) (h1 : ∀ j, j < k -> (t.getD j default).x < x) (h2 : x <= (t.getD k default).x) : knX t x = k := by
  have hl := knX_le t x;rcases Nat.lt_trichotomy (knX t x) k with c | c | c
  · have := knX_hi (x := x) h (Nat.le_refl _) (show knX t x < t.length by omega);have := h1 _ c;omega
  · exact c
  · have := knX_lo c;omega
theorem floor_most {t : List Knot} {y : Int} (h : tabB t = true) (h0 : (t.getD 0 default).y <= y) : floorT t (mostT t y) <= y := by
  have hl := (tab_in h).1;rcases idxI_spec (fun a : Knot => decide (y < a.y)) t with ⟨e, q⟩ | ⟨k, e, hk, hp, hm⟩
  · have e1 : mostIx t y = -1 := e;have h1 := of_decide_eq_false (q (t.length - 1) (by omega));have := (floorT_in (x := mostT t y) h).2;omega
  · have e1 : mostIx t y = (k : Int) := e;have h1 := of_decide_eq_true hp;have hk0 : k ≠ 0 := fun c => by subst c; omega
    obtain ⟨j, rfl⟩ : ∃ j, k = j + 1 := ⟨k - 1, by omega⟩;have h2 := of_decide_eq_false (hm j (by omega));have ex := tab_lt h (show j < j + 1 by omega) hk;have hy : mostT t y = (t.getD j default).x + (y - (t.getD j default).y) * ((t.getD (j + 1) default).x - (t.getD j default).x) / ((t.getD (j + 1) default).y - (t.getD j default).y) := by
      unfold mostT;rw [if_neg (by omega), e1, Int.toNat_natCast, Nat.add_sub_cancel]
    have hU : 0 < (t.getD (j + 1) default).y - (t.getD j default).y := by omega
    have hX : 0 < (t.getD (j + 1) default).x - (t.getD j default).x := by omega
    have c1 : 0 <= (y - (t.getD j default).y) * ((t.getD (j + 1) default).x - (t.getD j default).x) / ((t.getD (j + 1) default).y - (t.getD j default).y) := Int.ediv_nonneg (Int.mul_nonneg (by omega) (by omega)) (by omega);have c2 : (y - (t.getD j default).y) * ((t.getD (j + 1) default).x - (t.getD j default).x) / ((t.getD (j + 1) default).y - (t.getD j default).y) < (t.getD (j + 1) default).x - (t.getD j default).x := by
      refine Int.ediv_lt_of_lt_mul hU ?_;rw [Int.mul_comm];exact Int.mul_lt_mul_of_pos_left (show y - (t.getD j default).y < (t.getD (j + 1) default).y - (t.getD j default).y by omega) hX
    have c3 := Int.ediv_mul_le ((y - (t.getD j default).y) * ((t.getD (j + 1) default).x - (t.getD j default).x)) (show (t.getD (j + 1) default).y - (t.getD j default).y ≠ 0 by omega);generalize hQ : (y - (t.getD j default).y) * ((t.getD (j + 1) default).x - (t.getD j default).x) / ((t.getD (j + 1) default).y - (t.getD j default).y) = Q at *
    by_cases cq : Q = 0
    · have ek : knX t (mostT t y) = j := knX_is h (by omega) (fun i hi => by have := tab_lt h hi (by omega); omega) (by omega);have := floorT_hi (x := mostT t y) h (by omega);rw [ek] at this;omega
    · have ek : knX t (mostT t y) = j + 1 := knX_is h (by omega) (fun i hi => by have := tab_mono2 h j i (by omega) (by omega); omega) (by omega);unfold floorT;rw [ek, if_neg (by omega), if_neg (by omega), Nat.add_sub_cancel];rw [hy, show (t.getD j default).x + Q - (t.getD j default).x = Q by omega];have c4 : ((t.getD (j + 1) default).y - (t.getD j default).y) * Q / ((t.getD (j + 1) default).x - (t.getD j default).x) <= y - (t.getD j default).y := by
        have c3 : ((t.getD (j + 1) default).y - (t.getD j default).y) * Q <= (y - (t.getD j default).y) * ((t.getD (j + 1) default).x - (t.getD j default).x) := by rw [Int.mul_comm]; exact c3
        calc _ <= (y - (t.getD j default).y) * ((t.getD (j + 1) default).x - (t.getD j default).x) / ((t.getD (j + 1) default).x - (t.getD j default).x) := Int.ediv_le_ediv hX c3
          _ = y - (t.getD j default).y := Int.mul_ediv_cancel _ (by omega)
      omega
theorem levelI_le {x : Node} {v w : Int} (h : nodeR x = true) (hv : 0 <= v) (hvw : v <= w) : levelI x v <= levelI x w := by
  unfold levelI;by_cases k : x.kind = 3
  · rw [if_pos k, if_pos k]; exact Int.le_refl _
  · rw [if_neg k, if_neg k];have ht := nodeR_tab h k;have := mostT_le (y := v) (z := w) ht.1 (by omega) hvw;omega
theorem vol_level {x : Node} {v : Int} (h : nodeR x = true) (hv : 0 <= v) : volI x (levelI x v) <= v := by
  unfold volI levelI;by_cases k : x.kind = 3
  · rw [if_pos k]; exact hv
  · rw [if_neg k, if_neg k];have ht := nodeR_tab h k;have := floor_most (y := v) ht.1 (by omega);rw [show x.inv + mostT x.shape v - x.inv = mostT x.shape v by omega];exact this
theorem want_from {n : Net} {lv before : List Int} {l : List Rule} {k : Nat} : ∀ i, i <= l.length -> (∃ r, r ∈ l /\ r.lnk = (n.links.getD k default).name /\ holdB n lv r = true /\ r.setg = wantI n lv l before k i) ∨ (wantI n lv l before k i = before.getD k default /\ ∀ j, j < i -> (l.getD j default).lnk = (n.links.getD k default).name -> holdB n lv (l.getD j default) = false)
  | 0, _ => .inr ⟨rfl, fun j hj => by omega⟩
  | i + 1, hi => by
    rw [wantI];by_cases c : (l.getD i default).lnk = (n.links.getD k default).name /\ holdB n lv (l.getD i default) = true
    · rw [if_pos c];exact .inl ⟨_, mem_getD (by omega), c.1, c.2, rfl⟩
    · rw [if_neg c];rcases want_from (n := n) (lv := lv) (before := before) (l := l) (k := k) i (by omega) with q | ⟨q1, q2⟩
      · exact .inl q
      · refine .inr ⟨q1, fun j hj e => ?_⟩;by_cases cj : j = i
        · subst cj;cases hh : holdB n lv (l.getD j default)
          · rfl
          · exact absurd ⟨e, hh⟩ c
        · exact q2 j (by omega) e
theorem set_dom {n : Net} {lv before : List Int} {l : List Rule} {t : ByteArray} (nb : netB n = true) (rb : rulesB l = true) (h : (setR n l lv before).2 = 0) {k : Nat} (hk : k < n.links.length) : (setR n l lv before).1.getD k default <= grI l t (n.links.getD k default).name (lvOf n lv t) := by
  obtain ⟨h1, h2, h3, h4, f, h5⟩ := setR_ok h;have e := setK_want nb h2 (fun j hj => known_lnk h4 hj) (Nat.le_refl _) h5 k hk;have hw := wantI_in (n := n) (l := l) (lv := lv) (before := before) (rang_at h3) (fun j hj => ruleB_set (rulesB_at rb hj)) (show k < before.length by omega) l.length (Nat.le_refl _);rw [e];refine gr_dom hw.2 ?_;rcases want_from (n := n) (lv := lv) (before := before) (l := l) (k := k) l.length (Nat.le_refl _) with q | ⟨_, q⟩
  · exact .inl q
  · refine .inr fun r hr e => ?_
    obtain ⟨j, hj, rfl⟩ := List.mem_iff_getElem.1 hr;have := q j hj;rw [getD_is hj] at this;exact this e
theorem inv_le {n : Net} {s : Sta} {inf : List Int} {c : List Sect} {sec : Int} (S : StepIn n c s inf sec) {q : Nat} (hq : q < n.nodes.length) : (n.nodes.getD q default).inv <= (lvl1 n s inf).getD q default := by
  have h0 := (vS_in S.nb hq (S.inB q hq).1).1;have := levelI_in (netB_node S.nb hq) h0;unfold lvl1 levelsL;rw [rng_at hq];exact this.1
theorem pass_leaves {n : Net} {c a : List Sect} {l : List Rule} {t : ByteArray} (K : TankIn n c l t a) {s : Sta} {inf lv before : List Int} {sec : Int} (S : StepIn n c s inf sec) (hf : fitS n (heldB n s inf) = true) (hset : (setR n l lv before).2 = 0) (hs : s.set = (setR n l lv before).1) {i : Nat} (hi : nodeIx n.nodes t = (i : Int)) : selI (froQ n i) (pasL n c s inf sec) n.links.length <= leavesI (flowsS n c t (setsS l n t (lvOf n lv t)) ((lvl1 n s inf).getD i default)) sec := by
  have E := ends_of S.nb;have W := S.pass hf;have F := S.flows hf;have hin := K.ni;have hiN : i < n.nodes.length := by
    have : nodeIx n.nodes t < n.nodes.length := (idxI_lt _ n.nodes).2;omega
  have h1 : selI (froQ n i) (pasL n c s inf sec) n.links.length <= selI (froQ n i) (wsh n c s inf sec) n.links.length := by
    refine selI_le2 _ fun k hk hp => ?_
    unfold pasL;rw [limR_at hk];exact (lim_in (n := n) (held := heldB n s inf) (w := wsh n c s inf sec) (fun k hk => by rw [E.fro hk]; exact decide_eq_true rfl) (fun i hi => (W.w0 i hi).1) (fun k hk => W.h0 _ (E.f k hk).1) hk).2
  refine Int.le_trans h1 ?_;rw [flowsS_sets];rw [<- sel_leaves n (fun x => flowX n c ((lvl1 n s inf).getD i default) x (grI l t x.name (lvOf n lv t))) sec t ((List.range n.links.length).map fun k => min (flowX n c ((lvl1 n s inf).getD i default) (n.links.getD k default) (grI l t (n.links.getD k default).name (lvOf n lv t)) * sec) 1125899906842624) (froQ n i) (fun k hk => froQ_iff hin hi hk) (fun k hk _ => rng_at hk)];refine selI_le2 _ fun k hk hp => ?_
  rw [rng_at hk];unfold wsh wshL;have hq : 0 <= flowAt n c (lvl1 n s inf) (sta2 n s inf) k /\ flowAt n c (lvl1 n s inf) (sta2 n s inf) k <= 1099511627776 := flowI_in (F.btw hk);rw [rng_at hk, (wishI_in hq S.sc).1];have hfr := (froQ_iff hin hi hk).1 hp;have efr : fromI n k = i := by
    have := E.fro (q := i) hk;rw [hp] at this;exact (of_decide_eq_true this.symm).symm
  have hx : n.links.getD k default ∈ outL n t := List.mem_filter.2 ⟨mem_getD hk, decide_eq_true hfr⟩;have hg := grI_in t (n.links.getD k default).name (lvOf n lv t) (rules_in K.rb);have hnA : nodeA n t = n.nodes.getD i default := by unfold nodeA; rw [hi]; rfl
  have hbt : btwB ((lvl1 n s inf).getD i default) (nodeA n t).inv (nodeA n t).gnd = true := by
    have h0 := (vS_in S.nb hiN (S.inB i hiN).1).1;have := levelI_in (netB_node S.nb hiN) h0;unfold lvl1 levelsL;rw [rng_at hiN, hnA];unfold btwB;simp only [Bool.and_eq_true, decide_eq_true_eq];exact this
  have B2 := out_btw (v := (lvl1 n s inf).getD i default) K.no K.co hin K.ci K.kn hx hbt hg;have B1 := F.btw hk;rw [efr] at B1;have hsd := set_dom (t := t) (lv := lv) (before := before) K.nb K.rb hset hk;have e2 : (sta2 n s inf).set = s.set := rfl;have m1 : flowAt n c (lvl1 n s inf) (sta2 n s inf) k <= flowI n c (n.links.getD k default) ((lvl1 n s inf).getD i default) ((lvl1 n s inf).getD (tillI n k) default) ((sta2 n s inf).set.getD k default).toNat true := by
    unfold flowAt;rw [efr];cases (sta2 n s inf).on.getD k default
    · exact (flowI_off B1).2.1
    · exact Int.le_refl _
  have m2 := flowI_mono B1 B2 (Int.le_refl _) (show (nodeA n (n.links.getD k default).til).inv <= _ from inv_le S (E.t k hk).1) (toNat_mono (by rw [e2, hs]; exact hsd));have := Int.mul_le_mul_of_nonneg_right (Int.le_trans m1 m2) (show 0 <= sec by have := S.sc.1; omega);unfold flowX;omega
theorem cap_res {x : Node} (h : nodeR x = true) (hk : x.kind = 2) (hp : x.prot = true) : x.res <= capN x := by
  unfold nodeR at h;simp only [Bool.and_eq_true] at h;have h2 := h.2;unfold kindB at h2;rw [if_pos (.inr hk), hp, if_pos rfl] at h2;simp only [Bool.and_eq_true, decide_eq_true_eq] at h2;have h3 := h2.2;unfold btwB at h3;simp only [Bool.and_eq_true, decide_eq_true_eq] at h3;unfold capN;rw [if_neg (by omega)];exact h3.2
theorem safe_keeps {n : Net} {c a : List Sect} {l : List Rule} {t : ByteArray} (K : TankIn n c l t a) {s : Sta} {inf before : List Int} {sec : Int} (S : StepIn n c s inf sec) (hf : fitS n (heldB n s inf) = true) (hset : (setR n l (levelsL n s.vol) before).2 = 0) (hs : s.set = (setR n l (levelsL n s.vol) before).1) {i : Nat} (hi : nodeIx n.nodes t = (i : Int)) (hsafe : safeI (safM n c l t sec) (safS n l t) = true) (hres : (nodeA n t).res <= s.vol.getD i default) : (nodeA n t).res <= (stepS n c s inf sec).vol.getD i default := by
  have E := ends_of S.nb;have W := S.pass hf;have hiN : i < n.nodes.length := by
    have : nodeIx n.nodes t < n.nodes.length := (idxI_lt _ n.nodes).2;omega
  have hnA : nodeA n t = n.nodes.getD i default := by unfold nodeA; rw [hi]; rfl
  have ht := tankE_in K.te;have ho : isOut n i = false := by
    unfold isOut;rw [<- hnA];exact decide_eq_false (by omega)
  obtain ⟨_, hn2, _⟩ := staB_in S.nb S.sb;have h2 := hn2 i hiN;unfold okSN btwB volB at h2;simp only [Bool.and_eq_true, decide_eq_true_eq] at h2;have hvl : i < s.vol.length := by
    have := (lensB_of (staB_in S.nb S.sb).1).1;omega
  have hB : (heldB n s inf).getD i default = s.vol.getD i default + s.pon.getD i default + inf.getD i default := by
    rw [heldB_at hiN, ho, if_neg (by decide)];unfold heldA;rw [inH_at hiN, if_pos ⟨hiN, ho⟩, heldL_at s hvl]
  have hir := S.ir i hiN;have hV : (vS n (heldB n s inf)).getD i default = if capN (n.nodes.getD i default) < (heldB n s inf).getD i default then capN (n.nodes.getD i default) else (heldB n s inf).getD i default := vS_at hiN
  have hVge : s.vol.getD i default <= (vS n (heldB n s inf)).getD i default /\ (vS n (heldB n s inf)).getD i default <= (heldB n s inf).getD i default := by
    rw [hV];split <;> omega
  have nr := netB_node S.nb hiN;have hw : (lvl1 n s inf).getD i default = levelI (n.nodes.getD i default) ((vS n (heldB n s inf)).getD i default) := by
    unfold lvl1 levelsL;rw [rng_at hiN]
  have hv : lvOf n (levelsL n s.vol) t = levelI (n.nodes.getD i default) (s.vol.getD i default) := by
    unfold lvOf levelsL;rw [hi, Int.toNat_natCast, rng_at hiN]
  have r0 := K.rs;rw [hnA] at r0 hres ⊢;have pl := pass_leaves K S hf hset hs hi;have hpr : (n.nodes.getD i default).prot = true := by rw [<- hnA]; exact ht.2.2.2.1
  have hk2 : (n.nodes.getD i default).kind = 2 := by rw [<- hnA]; exact ht.2.2.1
  have hcap := cap_res nr hk2 hpr;have hsl := safe_leaves (n := n) (c := c) (l := l) (x := nodeA n t) (vol := volI (nodeA n t)) (sec := sec) (first := levelI (nodeA n t) (nodeA n t).res) (v := lvOf n (levelsL n s.vol) t) (w := (lvl1 n s inf).getD i default)
    (by rw [hv, hnA]; exact levelI_le nr r0.1 hres)
    (by rw [hv, hw]; exact levelI_le nr (by omega) hVge.1)
    (by rw [hw, hnA]; exact (levelI_in nr (by omega)).2) hsafe
  rw [K.nm, hnA] at hsl;have hvw := vol_level (v := (vS n (heldB n s inf)).getD i default) nr (by omega);rw [<- hw] at hvw;have hD : (heldD n c s inf sec).getD i default = (heldB n s inf).getD i default - selI (froQ n i) (pasL n c s inf sec) n.links.length + selI (tilQ n i) (pasL n c s inf sec) n.links.length := by
    unfold heldD;rw [hS_at hiN, if_neg (by omega)];unfold heldC;rw [mvH_at hiN, ho, if_neg (by decide)]
  have hT := selI_nn (P := tilQ n i) (w := pasL n c s inf sec) n.links.length fun k hk => (W.x E hk).1
  show (n.nodes.getD i default).res <= (vS n (heldD n c s inf sec)).getD i default;rw [vS_at hiN];have hO := selI_nn (P := froQ n i) (w := pasL n c s inf sec) n.links.length fun k hk => (W.x E hk).1
  split <;> omega
theorem rsettBad_f (l : List Rule) (n : Net) (lv before : List Int) (m : Nat) (hl : rulOk l) (rb : rulesB l = false) : Pu 21 [ruleL l, netD n, ints lv, ints before] m (.tup [ints [], li 1]) := by
  have c1 := fun m => rulesV_f l m hl
  rw [rb] at c1;refine pcN 160 [.tmp 8,.tmp 9] [31,32] Tryz.func21 rfl [] ?_;(repeat' first|refine stW [0,1,2,3,5,8,9,10,11,12,13,14,15,17,19,21,23,24,25,27,28,29,38,53,58,59,60,61,75,76,77,78,87,88,89,90,101,102,103,104,120,125,126,127,128,134,150] ?_|refine fctI fun hf=>?_|refine twI (fun hc=>?_) fun hc=>?_);exact DVR
theorem accB_at {n : Net} {c : List Sect} {l : List Rule} {sec : Int} (h : accB n c l sec = true) {i : Nat} (hi : i < n.nodes.length) (hp : (n.nodes.getD i default).prot = true) : safE n c l (n.nodes.getD i default).name sec = 0 /\ safeI (safM n c l (n.nodes.getD i default).name sec) (safS n l (n.nodes.getD i default).name) = true := by
  unfold accB at h;rw [Bool.and_eq_true] at h;have h1 := List.all_eq_true.1 h.2 _ (mem_getD hi);rw [hp, Bool.not_true, Bool.false_or, Bool.and_eq_true, decide_eq_true_eq] at h1;exact h1
theorem hol_at {n : Net} {c : List Sect} {l : List Rule} {x : Sta} {inf : List Int} {sec : Int} (no : netOk n) (co : catOk c) (lo : rulOk l) (hset : (setR n l (levelsL n x.vol) x.set).2 = 0) (hst : stepE n c ⟨x.vol, x.pon, (setR n l (levelsL n x.vol) x.set).1, x.on⟩ inf sec = 0) {i : Nat} (hi : i < n.nodes.length) (hE : safE n c l (n.nodes.getD i default).name sec = 0) (hok : safeI (safM n c l (n.nodes.getD i default).name sec) (safS n l (n.nodes.getD i default).name) = true) (hres : (n.nodes.getD i default).res <= x.vol.getD i default) :
    (n.nodes.getD i default).res <= (stepS n c ⟨x.vol, x.pon, (setR n l (levelsL n x.vol) x.set).1, x.on⟩ inf sec).vol.getD i default := by
  obtain ⟨S, hf, _⟩ := stepE_0 no co hst;obtain ⟨_, a, K⟩ := safE_in no co lo hE;have hix : nodeIx n.nodes (n.nodes.getD i default).name = (i : Int) := (idx_nodup Node.name n.nodes).2 K.ni.nu i hi;have hn : nodeA n (n.nodes.getD i default).name = n.nodes.getD i default := by
    show n.nodes.getD (nodeIx n.nodes (n.nodes.getD i default).name).toNat default = _;rw [hix]; rfl
  have := safe_keeps K S hf hset rfl hix hok (by rw [hn]; exact hres);rw [hn] at this;exact this
theorem safhol_f (n : Net) (c : List Sect) (l : List Rule) (x : Sta) (inf : List Int) (sec : Int) (m : Nat) (no : netOk n) (co : catOk c) (lo : rulOk l) (so : staOk x) (hil : inf.length <= 281474976710656) :
    Pu 4 [netD n, sectL c, ruleL l, staD x, ints inf, li sec] m (lb true) := by
  have k0 := fun m => awake43_f m
  have k1 := fun m => large43_f n l m no lo
  have k2 := fun m => many43_f c m co
  cases hL : lgB43 n l <;> simp only [hL] at k1
  case true =>
    refine pcN 173 [.tmp 12] [4] Tryz.func4 rfl [] ?_;(repeat' first|refine stW [0,1,2,3,4,5,6,9,12,13,14,15,16,17,18,20,21,22,23,24,26,28,64,68,77,88,103,110,117,118,119,120,126,146,171] ?_|refine fctI fun hf=>?_|refine twI (fun hc=>?_) fun hc=>?_);exact DVR
  cases hM : maB43 c <;> simp only [hM] at k2
  case true =>
    refine pcN 173 [.tmp 12] [4] Tryz.func4 rfl [] ?_;(repeat' first|refine stW [0,1,2,3,4,5,6,9,12,13,14,15,16,17,18,20,21,22,23,24,26,28,64,68,77,88,103,110,117,118,119,120,126,146,171] ?_|refine fctI fun hf=>?_|refine twI (fun hc=>?_) fun hc=>?_);exact DVR
  by_cases z1 : (12 : Int) < (inf.length : Int)
  · (have:=NeI z1);refine pcN 173 [.tmp 12] [4] Tryz.func4 rfl [] ?_;(repeat' first|refine stW [0,1,2,3,4,5,6,9,12,13,14,15,16,17,18,20,21,22,23,24,26,28,64,68,77,88,103,110,117,118,119,120,126,146,171] ?_|refine fctI fun hf=>?_|refine twI (fun hc=>?_) fun hc=>?_);exact DVR
  (have:=NeI z1);by_cases z2 : (12 : Int) < (x.vol.length : Int)
  · (have:=NeI z2);refine pcN 173 [.tmp 12] [4] Tryz.func4 rfl [] ?_;(repeat' first|refine stW [0,1,2,3,4,5,6,9,12,13,14,15,16,17,18,20,21,22,23,24,26,28,64,68,77,88,103,110,117,118,119,120,126,146,171] ?_|refine fctI fun hf=>?_|refine twI (fun hc=>?_) fun hc=>?_);exact DVR
  (have:=NeI z2);by_cases z3 : (12 : Int) < (x.pon.length : Int)
  · (have:=NeI z3);refine pcN 173 [.tmp 12] [4] Tryz.func4 rfl [] ?_;(repeat' first|refine stW [0,1,2,3,4,5,6,9,12,13,14,15,16,17,18,20,21,22,23,24,26,28,64,68,77,88,103,110,117,118,119,120,126,146,171] ?_|refine fctI fun hf=>?_|refine twI (fun hc=>?_) fun hc=>?_);exact DVR
  (have:=NeI z3);by_cases z4 : (12 : Int) < (x.set.length : Int)
  · (have:=NeI z4);refine pcN 173 [.tmp 12] [4] Tryz.func4 rfl [] ?_;(repeat' first|refine stW [0,1,2,3,4,5,6,9,12,13,14,15,16,17,18,20,21,22,23,24,26,28,64,68,77,88,103,110,117,118,119,120,126,146,171] ?_|refine fctI fun hf=>?_|refine twI (fun hc=>?_) fun hc=>?_);exact DVR
  (have:=NeI z4);by_cases z5 : (12 : Int) < (x.on.length : Int)
  · (have:=NeI z5);refine pcN 173 [.tmp 12] [4] Tryz.func4 rfl [] ?_;(repeat' first|refine stW [0,1,2,3,4,5,6,9,12,13,14,15,16,17,18,20,21,22,23,24,26,28,64,68,77,88,103,110,117,118,119,120,126,146,171] ?_|refine fctI fun hf=>?_|refine twI (fun hc=>?_) fun hc=>?_);exact DVR
  (have:=NeI z5);obtain ⟨b1, b2, b3⟩ := lgB43_in hL;have k3 := fun m => staValid_f n x m no so
  cases hV : (netB n && staB n x) <;> simp only [hV] at k3
  case false =>
    refine pcN 173 [.tmp 12] [4] Tryz.func4 rfl [] ?_;(repeat' first|refine stW [0,1,2,3,4,5,6,9,12,13,14,15,16,17,18,20,21,22,23,24,26,28,64,68,77,88,103,110,117,118,119,120,126,146,171] ?_|refine fctI fun hf=>?_|refine twI (fun hc=>?_) fun hc=>?_);exact DVR
  rw [Bool.and_eq_true] at hV;obtain ⟨nb, sb⟩ := hV;have hsv := sta_vol nb sb;obtain ⟨l1, l2, l3, l4⟩ := lensB_of (staB_in nb sb).1;have k4 := fun m => Levels_f n x.vol m no nb hsv.1 hsv.2
  cases rb : rulesB l
  · have k5 := fun m => rsettBad_f l n (levelsL n x.vol) x.set m lo rb
    generalize levelsL n x.vol = LV at *
    refine pcN 173 [.tmp 12] [4] Tryz.func4 rfl [] ?_;(repeat' first|refine stW [0,1,2,3,4,5,6,9,12,13,14,15,16,17,18,20,21,22,23,24,26,28,64,68,77,88,103,110,117,118,119,120,126,146,171] ?_|refine fctI fun hf=>?_|refine twI (fun hc=>?_) fun hc=>?_);exact DVR
  have k5 := fun m => rsett_f l n (levelsL n x.vol) x.set m lo no nb rb (levelsL_len n x.vol) l3 (sta_rang nb sb)
  have hs' := fun h => setR_sta (l := l) nb sb rb h
  have hhol := fun (h1 : (setR n l (levelsL n x.vol) x.set).2 = 0) (h2 : stepE n c ⟨x.vol, x.pon, (setR n l (levelsL n x.vol) x.set).1, x.on⟩ inf sec = 0) => @hol_at n c l x inf sec no co lo h1 h2
  generalize levelsL n x.vol = LV at *
  generalize setR n l LV x.set = R at *
  obtain ⟨S, e⟩ := R;by_cases h0 : e = 0
  case neg =>
    (have:=NeI h0);clear hs' hhol;refine pcN 173 [.tmp 12] [4] Tryz.func4 rfl [] ?_;(repeat' first|refine stW [0,1,2,3,4,5,6,9,12,13,14,15,16,17,18,20,21,22,23,24,26,28,64,68,77,88,103,110,117,118,119,120,126,146,171] ?_|refine fctI fun hf=>?_|refine twI (fun hc=>?_) fun hc=>?_);exact DVR
  have sb2 := hs' h0;have k6 := fun m => Step_f n c ⟨x.vol, x.pon, S, x.on⟩ inf sec m no co (staOk_of nb sb2) hil (by omega)
  replace hhol := hhol h0
  subst h0;clear hs';have k7 := fun m => Accepted_f n c l sec m no co lo
  have hxv : x.vol.length = n.nodes.length := hsv.1;have htv : (stepS n c ⟨x.vol, x.pon, S, x.on⟩ inf sec).vol.length = n.nodes.length := vS_len _;have hrs : stepR n c ⟨x.vol, x.pon, S, x.on⟩ inf sec = if stepE n c ⟨x.vol, x.pon, S, x.on⟩ inf sec = 0 then (stepS n c ⟨x.vol, x.pon, S, x.on⟩ inf sec, stepL n c ⟨x.vol, x.pon, S, x.on⟩ inf sec, 0) else (zeroS, zeroL, stepE n c ⟨x.vol, x.pon, S, x.on⟩ inf sec) := rfl
  rw [hrs] at k6;by_cases hG : stepE n c ⟨x.vol, x.pon, S, x.on⟩ inf sec = 0
  case neg =>
    rw [if_neg hG] at k6;generalize stepE n c ⟨x.vol, x.pon, S, x.on⟩ inf sec = E at *
    clear hhol hrs k7 hsv hxv htv;(have:=NeI hG);refine pcN 173 [.tmp 12] [4] Tryz.func4 rfl [] ?_;(repeat' first|(show SWp _ _ _ (.seq (.region 15 _ _) _) _ _ _ _;refine (stop_in ?_))|(show SWp _ _ _ (.region _ _ true) _ _ _ _;refine xG mixed [] ?_)|refine stW [0,1,2,3,4,5,6,9,12,13,14,15,16,17,18,20,21,22,23,24,26,28,64,68,77,88,103,110,117,118,119,120,126,146,171] ?_|refine fctI fun hf=>?_|refine twI (fun hc=>?_) fun hc=>?_);refine stop_out ?_;rw [show List.take 2 (staC x) ++ [ints S] ++ List.drop 3 (staC x) = staC ⟨x.vol, x.pon, S, x.on⟩ from rfl];(repeat' first|refine stW [0,1,2,3,4,5,6,9,12,13,14,15,16,17,18,20,21,22,23,24,26,28,64,68,77,88,103,110,117,118,119,120,126,146,171] ?_|refine fctI fun hf=>?_|refine twI (fun hc=>?_) fun hc=>?_);exact DVR
  rw [if_pos hG] at k6
  replace hhol := @hhol hG
  have hacc := @accB_at n c l sec;clear hrs;have hxs : ∀ i, i < n.nodes.length -> i < x.vol.length /\ i < (stepS n c ⟨x.vol, x.pon, S, x.on⟩ inf sec).vol.length := fun i hi => by omega
  have e1 : ((stepS n c ⟨x.vol, x.pon, S, x.on⟩ inf sec).vol.length : Int) = (n.nodes.length : Int) := by omega
  clear hsv hxv htv hG sb sb2 l1 l2 l3 l4;generalize stepS n c ⟨x.vol, x.pon, S, x.on⟩ inf sec = T at *
  generalize stepL n c ⟨x.vol, x.pon, S, x.on⟩ inf sec = W at *
  generalize accB n c l sec = A0 at *
  (have:=NeI e1);refine pcN 173 [.tmp 12] [4] Tryz.func4 rfl [] ?_;(repeat' first|(show SWp _ _ _ (.seq (.region 15 _ _) _) _ _ _ _;refine (stop_in ?_))|(show SWp _ _ _ (.region _ _ true) _ _ _ _;refine xG mixed [] ?_)|refine stW [0,1,2,3,4,5,6,9,12,13,14,15,16,17,18,20,21,22,23,24,26,28,64,68,77,88,103,110,117,118,119,120,126,146,171] ?_|refine fctI fun hf=>?_|refine twI (fun hc=>?_) fun hc=>?_);refine stop_out ?_;rw [show List.take 2 (staC x) ++ [ints S] ++ List.drop 3 (staC x) = staC ⟨x.vol, x.pon, S, x.on⟩ from rfl];(repeat' first|refine stW [0,1,2,3,4,5,6,9,12,13,14,15,16,17,18,20,21,22,23,24,26,28,64,68,77,88,103,110,117,118,119,120,126,146,171] ?_|refine fctI fun hf=>?_|refine twI (fun hc=>?_) fun hc=>?_);clear k0 k1 k2 k3 k4 k5 k6 k7;refine loop_swp [1, 2, 5, 6, 9, 18, 21, 117, 118, 119] [0, 8, 680] 872 (fun q A H => ∃ i : Nat, i <= n.nodes.length /\ q = n.nodes.length - i /\ A = [(1, sectL c), (2, ruleL l), (5, li sec), (6, .ptr 0 0), (9, .ptr 8 0), (18, .ptr 680 0), (21, lb A0), (117, nodeL n.nodes), (118, li n.nodes.length), (119, li i)] /\ H = [(0, .blk 25 (netC n)), (8, .blk 56 (staC x)), (680, .blk 56 (staC T))]) (by omega) ?_ ?_ ?_
  · rintro q A H ⟨i, g1, g2, rfl, rfl⟩;exact SDD
  · refine ⟨_, 0, by omega, rfl, ?_, ?_⟩
    · exact DVR
    · exact DVR
  rintro q A H ⟨i, g1, g2, rfl, rfl⟩;by_cases hi : i < n.nodes.length
  case neg =>
    obtain rfl : i = n.nodes.length := by omega
    have hi3 : ¬ ((n.nodes.length : Int) < (n.nodes.length : Int)) := by omega
    (have:=NeI hi3);clear hhol hacc;(repeat' first|refine stW [0,1,2,3,4,5,6,9,12,13,14,15,16,17,18,20,21,22,23,24,26,28,64,68,77,88,103,110,117,118,119,120,126,146,171] ?_|refine fctI fun hf=>?_|refine twI (fun hc=>?_) fun hc=>?_);exact DVR
  have hi3 : (i : Int) < (n.nodes.length : Int) := by omega
  have k6 := fun m => Safe_f n c l (n.nodes.getD i default).name sec m no co lo
  obtain ⟨hx1, hx2⟩ := hxs i hi;have hx3 : (i : Int) < (x.vol.length : Int) := by omega
  have hx4 : (i : Int) < (T.vol.length : Int) := by omega
  replace hhol := hhol hi
  have hacc := fun h => hacc h hi
  clear hxs;(have:=NeI hi);(have:=NeI hi3);(have:=NeI hx1);(have:=NeI hx2);(have:=NeI hx3);(have:=NeI hx4);cases hp : (n.nodes.getD i default).prot
  · haveI : ProtAt (n.nodes.getD i default) false := ⟨hp⟩;clear hhol hacc k6 hp;(repeat' first|refine stW [0,1,2,3,4,5,6,9,12,13,14,15,16,17,18,20,21,22,23,24,26,28,64,68,77,88,103,110,117,118,119,120,126,146,171] ?_|refine fctI fun hf=>?_|refine twI (fun hc=>?_) fun hc=>?_);(refine lN [0, 8, 680] ?_);exact ⟨_, by omega, i + 1, by omega, rfl, rfl, rfl⟩
  haveI : ProtAt (n.nodes.getD i default) true := ⟨hp⟩
  replace hacc := fun h => hacc h hp
  by_cases hE : safE n c l (n.nodes.getD i default).name sec = 0
  case neg =>
    rw [show safR n c l (n.nodes.getD i default).name sec = _ from if_neg hE] at k6;have ha : A0 = false := by
      cases A0
      · rfl
      · exact absurd (hacc rfl).1 hE
    subst ha;generalize safE n c l (n.nodes.getD i default).name sec = E at *
    (have:=NeI hE);clear hhol hacc hp;(repeat' first|refine stW [0,1,2,3,4,5,6,9,12,13,14,15,16,17,18,20,21,22,23,24,26,28,64,68,77,88,103,110,117,118,119,120,126,146,171] ?_|refine fctI fun hf=>?_|refine twI (fun hc=>?_) fun hc=>?_);(refine lN [0, 8, 680] ?_);exact ⟨_, by omega, i + 1, by omega, rfl, rfl, rfl⟩
  rw [show safR n c l (n.nodes.getD i default).name sec = _ from if_pos hE, hE] at k6
  replace hhol := hhol hE
  replace hacc := fun h => (hacc h).2
  generalize safeI (safM n c l (n.nodes.getD i default).name sec) (safS n l (n.nodes.getD i default).name) = ok at *
  generalize atI (safM n c l (n.nodes.getD i default).name sec) (safS n l (n.nodes.getD i default).name) = B at *
  cases ok
  · have ha : A0 = false := by
      cases A0
      · rfl
      · exact absurd (hacc rfl) (by decide)
    subst ha;clear hhol hacc hp hE;(repeat' first|refine stW [0,1,2,3,4,5,6,9,12,13,14,15,16,17,18,20,21,22,23,24,26,28,64,68,77,88,103,110,117,118,119,120,126,146,171] ?_|refine fctI fun hf=>?_|refine twI (fun hc=>?_) fun hc=>?_);(refine lN [0, 8, 680] ?_);exact ⟨_, by omega, i + 1, by omega, rfl, rfl, rfl⟩
  clear hacc hp hE;by_cases hr : (n.nodes.getD i default).res <= x.vol.getD i default
  · have hr2 : ¬ T.vol.getD i default < (n.nodes.getD i default).res := by
      have := hhol rfl hr;omega
    clear hhol;(have:=NeI hr);(have:=NeI hr2);cases A0;all_goals
      (repeat' first|refine stW [0,1,2,3,4,5,6,9,12,13,14,15,16,17,18,20,21,22,23,24,26,28,64,68,77,88,103,110,117,118,119,120,126,146,171] ?_|refine fctI fun hf=>?_|refine twI (fun hc=>?_) fun hc=>?_);(refine lN [0, 8, 680] ?_);exact ⟨_, by omega, i + 1, by omega, rfl, rfl, rfl⟩
  · clear hhol;(have:=NeI hr);cases A0;all_goals
      (repeat' first|refine stW [0,1,2,3,4,5,6,9,12,13,14,15,16,17,18,20,21,22,23,24,26,28,64,68,77,88,103,110,117,118,119,120,126,146,171] ?_|refine fctI fun hf=>?_|refine twI (fun hc=>?_) fun hc=>?_);(refine lN [0, 8, 680] ?_);exact ⟨_, by omega, i + 1, by omega, rfl, rfl, rfl⟩

end Go.Proofs.YtdhcpkeldpadlaaGreat
