/-
  Contracts of functions of the program, over the engine.
  No condition.
-/
import Derived.Test.YtgpllheklfbfhaaGreatCT12T13T14T2IT16T15T18T20Y0Y5Y1
import Derived.Test.YtgpllheklfbfhaaGreatCL9L10L11L12L16L20RL25L27
import Derived.Test.YtgpllheklfbfhaaGreatCT8T9T9bT9cT9eT10T11
namespace Go.Proofs.YtgpllheklfbfhaaGreat
open Go.Eng
set_option linter.all false
attribute [local irreducible] DCallsG SWp Fct CallQ XCallQ LCallQ XLCallQ drun xrun
set_option maxHeartbeats 64000000

def froQ (n : Net) (q k : Nat) : Bool := decide (nodeIx n.nodes (n.links.getD k default).fro = (q : Int))
theorem outK_suc (n : Net) (q i : Nat) : outK n q (i + 1) = if froQ n q i then outK n q i ++ [(i : Int)] else outK n q i := by
  unfold froQ;rw [outK];by_cases h : nodeIx n.nodes (n.links.getD i default).fro = (q : Int)
  · rw [if_pos h, decide_eq_true h]; rfl
  · rw [if_neg h, decide_eq_false h]; rfl
theorem outK_le (n : Net) (q : Nat) {a : Nat} : ∀ b, a <= b -> (outK n q a).length <= (outK n q b).length
  | 0, h => by rw [Nat.le_zero.1 h]; exact Nat.le_refl _
  | b + 1, h => by
    by_cases e : a = b + 1
    · rw [e]; exact Nat.le_refl _
    · have h1 := outK_le n q (a := a) b (by omega);rw [outK_suc];split
      · rw [List.length_append]; omega
      · exact h1
theorem outK_same (n : Net) (q : Nat) {a : Nat} : ∀ b, a <= b -> (outK n q a).length = (outK n q b).length -> ∀ i, a <= i -> i < b -> froQ n q i = false
  | 0, _, _, i, _, h => by omega
  | b + 1, h, e, i, h1, h2 => by
    have hm := outK_le n q (a := a) b;rw [outK_suc] at e;cases hb : froQ n q b
    · rw [hb, if_neg (by decide)] at e;by_cases hi : i = b
      · rw [hi]; exact hb
      · exact outK_same n q (a := a) b (by omega) e i h1 (by omega)
    · rw [hb, if_pos rfl, List.length_append, List.length_singleton] at e;by_cases ha : a = b + 1
      · omega
      · have := hm (by omega); omega
theorem outK_next (n : Net) (q : Nat) {t : Nat} : ∀ L, t <= L -> (outK n q t).length < (outK n q L).length -> ∃ k : Nat, t <= k /\ k < L /\ (outK n q L).getD (outK n q t).length default = (k : Int) /\ froQ n q k = true /\ (∀ i, t <= i -> i < k -> froQ n q i = false)
  | 0, h, e => by rw [Nat.le_zero.1 h] at e; omega
  | L + 1, h, e => by
    by_cases ht : t = L + 1
    · rw [ht] at e; omega
    · have hm := outK_le n q (a := t) L (by omega);rw [outK_suc] at e ⊢;cases hL : froQ n q L
      · rw [hL, if_neg (by decide)] at e;rw [if_neg (by decide)];obtain ⟨k, h1, h2, h3, h4, h5⟩ := outK_next n q (t := t) L (by omega) e;exact ⟨k, h1, by omega, h3, h4, h5⟩
      · rw [if_pos rfl];by_cases hl : (outK n q t).length < (outK n q L).length
        · obtain ⟨k, h1, h2, h3, h4, h5⟩ := outK_next n q (t := t) L (by omega) hl;refine ⟨k, h1, by omega, ?_, h4, h5⟩;rw [List.getD_eq_getElem?_getD, List.getElem?_append_left hl, <- List.getD_eq_getElem?_getD];exact h3
        · have he : (outK n q t).length = (outK n q L).length := by omega
          refine ⟨L, by omega, by omega, ?_, hL, outK_same n q L (by omega) he⟩;rw [he, List.getD_eq_getElem?_getD, List.getElem?_append_right (Nat.le_refl _), Nat.sub_self]; rfl
theorem outK_hit {n : Net} {q k : Nat} (h : froQ n q k = true) : (outK n q (k + 1)).length = (outK n q k).length + 1 := by
  rw [outK_suc, if_pos h, List.length_append]; rfl
theorem outK_skip (n : Net) (q : Nat) {a : Nat} : ∀ b, a <= b -> (∀ i, a <= i -> i < b -> froQ n q i = false) -> outK n q b = outK n q a
  | 0, h, _ => by rw [Nat.le_zero.1 h]
  | b + 1, h, hP => by
    by_cases e : a = b + 1
    · rw [e]
    · rw [outK_suc, if_neg (by rw [hP b (by omega) (by omega)]; decide), outK_skip n q (a := a) b (by omega) fun i h1 h2 => hP i h1 (by omega)]
def limK (n : Net) (held w : List Int) (k : Nat) : Int := shareI (froQ n (fromI n k)) (held.getD (fromI n k) default) w n.links.length k
def limP (n : Net) (held w : List Int) (q t : Nat) : List Int := (List.range n.links.length).map fun k => if fromI n k < q ∨ fromI n k = q /\ k < t then limK n held w k else w.getD k default
def limR (n : Net) (held w : List Int) : List Int := (List.range n.links.length).map (limK n held w)
theorem limP_len (n : Net) (held w : List Int) (q t : Nat) : (limP n held w q t).length = n.links.length := by simp [limP]
theorem limR_len (n : Net) (held w : List Int) : (limR n held w).length = n.links.length := by simp [limR]
theorem rngm_at {α : Type} [Inhabited α] {f : Nat -> α} {L k : Nat} (hk : k < L) : ((List.range L).map f).getD k default = f k := by
  rw [List.getD_eq_getElem?_getD, List.getElem?_map, List.getElem?_range hk]; rfl
theorem list_ext {a b : List Int} (h1 : a.length = b.length) (h2 : ∀ i, i < a.length -> a.getD i default = b.getD i default) : a = b := by
  refine List.ext_getElem h1 fun i hi hj => ?_
  have := h2 i hi;rw [List.getD_eq_getElem?_getD, List.getD_eq_getElem?_getD, List.getElem?_eq_getElem hi, List.getElem?_eq_getElem hj] at this;exact this
theorem limP_at {n : Net} {held w : List Int} {q t k : Nat} (hk : k < n.links.length) : (limP n held w q t).getD k default = if fromI n k < q ∨ fromI n k = q /\ k < t then limK n held w k else w.getD k default := rngm_at hk
theorem limR_at {n : Net} {held w : List Int} {k : Nat} (hk : k < n.links.length) : (limR n held w).getD k default = limK n held w k := rngm_at hk
theorem limP_start {n : Net} {held w : List Int} (hw : w.length = n.links.length) : limP n held w 0 0 = w :=
  list_ext (by rw [limP_len, hw]) fun k hk => by
    rw [limP_len] at hk;rw [limP_at hk, if_neg (by omega)]
theorem limP_end {n : Net} {held w : List Int} (hN : ∀ k, k < n.links.length -> fromI n k < n.nodes.length) : limP n held w n.nodes.length 0 = limR n held w :=
  list_ext (by rw [limP_len, limR_len]) fun k hk => by
    rw [limP_len] at hk;rw [limP_at hk, limR_at hk, if_pos (.inl (hN k hk))]
theorem limP_node {n : Net} {held w : List Int} {q : Nat} : limP n held w q n.links.length = limP n held w (q + 1) 0 :=
  list_ext (by rw [limP_len, limP_len]) fun k hk => by
    rw [limP_len] at hk;rw [limP_at hk, limP_at hk];by_cases h : fromI n k < q ∨ fromI n k = q
    · rw [if_pos (by omega), if_pos (by omega)]
    · rw [if_neg (by omega), if_neg (by omega)]
theorem limP_free {n : Net} {held w : List Int} {q : Nat} (h : selI (froQ n q) w n.links.length <= held.getD q default) : limP n held w q 0 = limP n held w (q + 1) 0 :=
  list_ext (by rw [limP_len, limP_len]) fun k hk => by
    rw [limP_len] at hk;rw [limP_at hk, limP_at hk];by_cases h1 : fromI n k < q
    · rw [if_pos (.inl h1), if_pos (by omega)]
    · rw [if_neg (by omega)];by_cases h2 : fromI n k = q
      · rw [if_pos (by omega)];unfold limK shareI;rw [h2, if_pos h]
      · rw [if_neg (by omega)]
theorem limP_skip {n : Net} {held w : List Int} {q t u : Nat} (htu : t <= u) (h : ∀ i, t <= i -> i < u -> ¬ fromI n i = q) : limP n held w q t = limP n held w q u :=
  list_ext (by rw [limP_len, limP_len]) fun k hk => by
    rw [limP_len] at hk;rw [limP_at hk, limP_at hk];by_cases h1 : fromI n k < q ∨ fromI n k = q /\ k < t
    · rw [if_pos h1, if_pos (by omega)]
    · rw [if_neg h1];by_cases h2 : fromI n k = q /\ k < u
      · exact absurd h2.1 (h k (by omega) h2.2)
      · rw [if_neg (by omega)]
theorem limP_set {n : Net} {held w : List Int} {q k : Nat} (hk : k < n.links.length) (hq : fromI n k = q) : (limP n held w q k).set k (limK n held w k) = limP n held w q (k + 1) :=
  list_ext (by rw [List.length_set, limP_len, limP_len]) fun i hi => by
    rw [List.length_set, limP_len] at hi;rw [limP_at hi];by_cases e : i = k
    · subst e;rw [List.getD_eq_getElem?_getD, List.getElem?_set_self (by rw [limP_len]; exact hk), if_pos (by omega)]; rfl
    · rw [List.getD_eq_getElem?_getD, List.getElem?_set_ne (fun q => e q.symm), <- List.getD_eq_getElem?_getD, limP_at hi];by_cases h1 : fromI n i < q ∨ fromI n i = q /\ i < k
      · rw [if_pos h1, if_pos (by omega)]
      · rw [if_neg h1, if_neg (by omega)]
section
variable {n : Net} {held w : List Int}
theorem lim_in (hF : ∀ k, k < n.links.length -> froQ n (fromI n k) k = true) (hw : ∀ i, i < n.links.length -> 0 <= w.getD i default) (hh : ∀ k, k < n.links.length -> 0 <= held.getD (fromI n k) default) {k : Nat} (hk : k < n.links.length) : 0 <= limK n held w k /\ limK n held w k <= w.getD k default :=
  share_in hw (hh k hk) hk (hF k hk)
theorem lim_all (hQ : ∀ q k, k < n.links.length -> froQ n q k = true -> fromI n k = q) (hw : ∀ i, i < n.links.length -> 0 <= w.getD i default) {q : Nat} (hh : 0 <= held.getD q default) : selI (froQ n q) (limR n held w) n.links.length <= held.getD q default :=
  share_all (fun k hk hp => by rw [limR_at hk]; unfold limK; rw [hQ q k hk hp]) hw hh
end
def sumN (F : Nat -> Int) : Nat -> Int
  | 0 => 0
  | n + 1 => sumN F n + F n
def tilQ (n : Net) (q k : Nat) : Bool := decide (nodeIx n.nodes (n.links.getD k default).til = (q : Int))
def isOut (n : Net) (q : Nat) : Bool := decide ((n.nodes.getD q default).kind = 3)
def inH (n : Net) (held inf : List Int) (i : Nat) : List Int := (List.range n.nodes.length).map fun q => held.getD q default + if q < i /\ isOut n q = false then inf.getD q default else 0
def mvH (n : Net) (held X : List Int) (i : Nat) : List Int := (List.range n.nodes.length).map fun q => held.getD q default - selI (froQ n q) X i + if isOut n q then 0 else selI (tilQ n q) X i
def toOut (n : Net) (k : Nat) : Bool := isOut n (tillI n k)
theorem inH_len (n : Net) (held inf : List Int) (i : Nat) : (inH n held inf i).length = n.nodes.length := by simp [inH]
theorem mvH_len (n : Net) (held X : List Int) (i : Nat) : (mvH n held X i).length = n.nodes.length := by simp [mvH]
theorem inH_at {n : Net} {held inf : List Int} {i q : Nat} (hq : q < n.nodes.length) : (inH n held inf i).getD q default = held.getD q default + if q < i /\ isOut n q = false then inf.getD q default else 0 := rngm_at hq
theorem mvH_at {n : Net} {held X : List Int} {i q : Nat} (hq : q < n.nodes.length) : (mvH n held X i).getD q default = held.getD q default - selI (froQ n q) X i + if isOut n q then 0 else selI (tilQ n q) X i := rngm_at hq
theorem inH_0 {n : Net} {held inf : List Int} (h : held.length = n.nodes.length) : inH n held inf 0 = held :=
  list_ext (by rw [inH_len, h]) fun q hq => by
    rw [inH_len] at hq;rw [inH_at hq, if_neg (by omega), Int.add_zero]
theorem mvH_0 {n : Net} {held X : List Int} (h : held.length = n.nodes.length) : mvH n held X 0 = held :=
  list_ext (by rw [mvH_len, h]) fun q hq => by
    rw [mvH_len] at hq;rw [mvH_at hq];show held.getD q default - 0 + (if isOut n q then 0 else 0) = _;rw [ite_self]; omega
theorem inH_out {n : Net} {held inf : List Int} {i : Nat} (ho : isOut n i = true) : inH n held inf (i + 1) = inH n held inf i :=
  list_ext (by rw [inH_len, inH_len]) fun q hq => by
    rw [inH_len] at hq;rw [inH_at hq, inH_at hq];by_cases e : q = i
    · subst e;rw [if_neg (by rw [ho]; simp), if_neg (by omega)]
    · by_cases h : q < i /\ isOut n q = false
      · rw [if_pos h, if_pos ⟨by omega, h.2⟩]
      · rw [if_neg h, if_neg (fun k => h ⟨by omega, k.2⟩)]
theorem inH_set {n : Net} {held inf : List Int} {i : Nat} (hi : i < n.nodes.length) (ho : isOut n i = false) : (inH n held inf i).set i ((inH n held inf i).getD i default + inf.getD i default) = inH n held inf (i + 1) :=
  list_ext (by rw [List.length_set, inH_len, inH_len]) fun q hq => by
    rw [List.length_set, inH_len] at hq;rw [inH_at hq];by_cases e : q = i
    · subst e;rw [List.getD_eq_getElem?_getD, List.getElem?_set_self (by rw [inH_len]; exact hq), inH_at hq, if_neg (by omega), if_pos ⟨by omega, ho⟩];show held.getD q default + 0 + inf.getD q default = _;omega
    · rw [List.getD_eq_getElem?_getD, List.getElem?_set_ne (fun k => e k.symm), <- List.getD_eq_getElem?_getD, inH_at hq];by_cases h : q < i /\ isOut n q = false
      · rw [if_pos h, if_pos ⟨by omega, h.2⟩]
      · rw [if_neg h, if_neg (fun k => h ⟨by omega, k.2⟩)]
structure EndsIn (n : Net) : Prop where
  f : ∀ k, k < n.links.length -> fromI n k < n.nodes.length /\ nodeIx n.nodes (n.links.getD k default).fro = (fromI n k : Int)
  t : ∀ k, k < n.links.length -> tillI n k < n.nodes.length /\ nodeIx n.nodes (n.links.getD k default).til = (tillI n k : Int)
theorem EndsIn.fro {n : Net} (E : EndsIn n) {q k : Nat} (hk : k < n.links.length) : froQ n q k = decide (q = fromI n k) := by
  unfold froQ;rw [(E.f k hk).2];by_cases e : q = fromI n k
  · rw [decide_eq_true e, decide_eq_true (by omega)]
  · rw [decide_eq_false e, decide_eq_false (by omega)]
theorem EndsIn.til {n : Net} (E : EndsIn n) {q k : Nat} (hk : k < n.links.length) : tilQ n q k = decide (q = tillI n k) := by
  unfold tilQ;rw [(E.t k hk).2];by_cases e : q = tillI n k
  · rw [decide_eq_true e, decide_eq_true (by omega)]
  · rw [decide_eq_false e, decide_eq_false (by omega)]
theorem selI_at {P : Nat -> Bool} {w : List Int} (k : Nat) : selI P w (k + 1) = selI P w k + if P k then w.getD k default else 0 := by
  cases hp : P k
  · rw [selI_miss hp, if_neg (by decide), Int.add_zero]
  · rw [selI_hit hp, if_pos rfl]
theorem mvH_step {n : Net} (E : EndsIn n) {held X : List Int} {k : Nat} (hk : k < n.links.length) {A B : List Int} (hA : A = (mvH n held X k).set (fromI n k) ((mvH n held X k).getD (fromI n k) default - X.getD k default)) (hB : B = if toOut n k then A else A.set (tillI n k) (A.getD (tillI n k) default + X.getD k default)) : B = mvH n held X (k + 1) := by
  have hf := (E.f k hk).1;have ht := (E.t k hk).1;have lA : A.length = n.nodes.length := by rw [hA, List.length_set, mvH_len]
  have gA : ∀ q, q < n.nodes.length -> A.getD q default = (mvH n held X k).getD q default - if q = fromI n k then X.getD k default else 0 := fun q hq => by
    rw [hA];by_cases e : q = fromI n k
    · rw [e, List.getD_eq_getElem?_getD, List.getElem?_set_self (by rw [mvH_len]; exact hf), if_pos rfl]; rfl
    · rw [List.getD_eq_getElem?_getD, List.getElem?_set_ne (fun k => e k.symm), <- List.getD_eq_getElem?_getD, if_neg e, Int.sub_zero]
  have lB : B.length = n.nodes.length := by rw [hB]; split; exact lA; rw [List.length_set, lA]
  have gB : ∀ q, q < n.nodes.length -> B.getD q default = A.getD q default + if toOut n k = false /\ q = tillI n k then X.getD k default else 0 := fun q hq => by
    rw [hB];cases ho : toOut n k
    · rw [if_neg (by decide)];by_cases e : q = tillI n k
      · rw [e, List.getD_eq_getElem?_getD, List.getElem?_set_self (by rw [lA]; exact ht), if_pos ⟨rfl, rfl⟩]; rfl
      · rw [List.getD_eq_getElem?_getD, List.getElem?_set_ne (fun k => e k.symm), <- List.getD_eq_getElem?_getD, if_neg (fun k => e k.2), Int.add_zero]
    · rw [if_pos rfl, if_neg (by simp), Int.add_zero]
  refine list_ext (by rw [lB, mvH_len]) fun q hq => ?_
  rw [lB] at hq;rw [gB q hq, gA q hq, mvH_at hq, mvH_at hq, selI_at, selI_at, E.fro hk, E.til hk];unfold toOut;generalize X.getD k default = x;generalize selI (froQ n q) X k = a;generalize selI (tilQ n q) X k = b;generalize held.getD q default = c;generalize hT : isOut n (tillI n k) = o2;have ho2 : q = tillI n k -> isOut n q = o2 := fun e => by rw [e]; exact hT
  generalize isOut n q = o1 at *
  by_cases e1 : q = fromI n k <;> by_cases e2 : q = tillI n k
  · have := ho2 e2;subst this;simp only [eq_true e1, eq_true e2, decide_true, if_true, and_true];cases o1
    · simp only [Bool.false_eq_true, if_true, if_false]; omega
    · simp only [Bool.true_eq_false, if_true, if_false]; omega
  · simp only [eq_true e1, eq_false e2, decide_true, decide_false, if_true, and_false, if_false, Bool.false_eq_true];cases o1
    · simp only [Bool.false_eq_true, if_true, if_false]; omega
    · simp only [Bool.true_eq_false, if_true, if_false]; omega
  · have := ho2 e2;subst this;simp only [eq_false e1, eq_true e2, decide_true, decide_false, if_true, and_true, if_false, Bool.false_eq_true];cases o1
    · simp only [Bool.false_eq_true, if_true, if_false]; omega
    · simp only [Bool.true_eq_false, if_true, if_false]; omega
  · simp only [eq_false e1, eq_false e2, decide_false, and_false, if_false, Bool.false_eq_true];cases o1
    · simp only [Bool.false_eq_true, if_true, if_false]; omega
    · simp only [Bool.true_eq_false, if_true, if_false]; omega
def heldA (n : Net) (s : Sta) (inf : List Int) : List Int := inH n (heldL s) inf n.nodes.length
def heldB (n : Net) (s : Sta) (inf : List Int) : List Int := hS n (heldA n s inf)
def lvl1 (n : Net) (s : Sta) (inf : List Int) : List Int := levelsL n (vS n (heldB n s inf))
def onS (n : Net) (s : Sta) (inf : List Int) : List Bool := pumpsL n (lvl1 n s inf) s.on
def sta1 (n : Net) (s : Sta) (inf : List Int) : Sta := ⟨vS n (heldB n s inf), pS n (heldB n s inf), s.set, s.on⟩
def sta2 (n : Net) (s : Sta) (inf : List Int) : Sta := ⟨vS n (heldB n s inf), pS n (heldB n s inf), s.set, onS n s inf⟩
def wshL (n : Net) (l : List Sect) (lv : List Int) (s : Sta) (sec : Int) : List Int := (List.range n.links.length).map fun k => (wishI (flowAt n l lv s k) sec).1
def wsh (n : Net) (l : List Sect) (s : Sta) (inf : List Int) (sec : Int) : List Int := wshL n l (lvl1 n s inf) (sta2 n s inf) sec
def pasL (n : Net) (l : List Sect) (s : Sta) (inf : List Int) (sec : Int) : List Int := limR n (heldB n s inf) (wsh n l s inf sec)
def heldC (n : Net) (l : List Sect) (s : Sta) (inf : List Int) (sec : Int) : List Int := mvH n (heldB n s inf) (pasL n l s inf sec) n.links.length
def heldD (n : Net) (l : List Sect) (s : Sta) (inf : List Int) (sec : Int) : List Int := hS n (heldC n l s inf sec)
def stepS (n : Net) (l : List Sect) (s : Sta) (inf : List Int) (sec : Int) : Sta := ⟨vS n (heldD n l s inf sec), pS n (heldD n l s inf sec), s.set, onS n s inf⟩
def stepL (n : Net) (l : List Sect) (s : Sta) (inf : List Int) (sec : Int) : Ledg := ⟨sumI inf n.nodes.length, selI (isOut n) inf n.nodes.length + selI (toOut n) (pasL n l s inf sec) n.links.length, pasL n l s inf sec⟩
def stepE (n : Net) (l : List Sect) (s : Sta) (inf : List Int) (sec : Int) : Int :=
  if (netB n && staB n s && catB l) = false then 1 else if inf.length ≠ n.nodes.length then 3
  else if rangB inf 1125899906842624 = false ∨ sec < 1 ∨ 86400 < sec then 2
  else if (n.links.any fun x => !knownB l x) = true then 9
  else if fitS n (heldB n s inf) = false then 5 else if fitS n (heldD n l s inf sec) = false then 5 else 0
def zeroS : Sta := ⟨[], [], [], []⟩
def zeroL : Ledg := ⟨0, 0, []⟩
structure StepIn (n : Net) (l : List Sect) (s : Sta) (inf : List Int) (sec : Int) : Prop where
  no : netOk n
  co : catOk l
  nb : netB n = true
  sb : staB n s = true
  cb : catB l = true
  il : inf.length = n.nodes.length
  ir : ∀ i, i < n.nodes.length -> 0 <= inf.getD i default /\ inf.getD i default <= 1125899906842624
  sc : 1 <= sec /\ sec <= 86400
  kn : ∀ k, k < n.links.length -> knownB l (n.links.getD k default) = true
theorem ends_of {n : Net} (nb : netB n = true) : EndsIn n := ⟨fun _ hk => fromI_lt nb hk, fun _ hk => tillI_lt nb hk⟩
section
variable {n : Net} {l : List Sect} {s : Sta} {inf : List Int} {sec : Int}
theorem StepIn.hold (S : StepIn n l s inf sec) : ∀ q, q < n.nodes.length -> 0 <= (heldL s).getD q default /\ (heldL s).getD q default <= 2251799813685248 := fun q hq => by
  obtain ⟨hh, _, l1, _⟩ := sta_hold S.nb S.sb;exact heldL_le hh q (by omega)
theorem StepIn.inA (S : StepIn n l s inf sec) : ∀ q, q < n.nodes.length -> 0 <= (heldA n s inf).getD q default /\ (heldA n s inf).getD q default <= 3377699720527872 := fun q hq => by
  have h1 := S.hold q hq;have h2 := S.ir q hq;unfold heldA;rw [inH_at hq];split <;> omega
theorem heldA_len : (heldA n s inf).length = n.nodes.length := inH_len ..
theorem hS_len (h : List Int) : (hS n h).length = n.nodes.length := by simp [hS]
theorem vS_len (h : List Int) : (vS n h).length = n.nodes.length := by simp [vS]
theorem pS_len (h : List Int) : (pS n h).length = n.nodes.length := by simp [pS]
theorem heldB_at {q : Nat} (hq : q < n.nodes.length) : (heldB n s inf).getD q default = if isOut n q then 0 else (heldA n s inf).getD q default := by
  unfold heldB isOut;rw [hS_at hq];by_cases h : (n.nodes.getD q default).kind = 3
  · rw [if_pos h, if_pos (decide_eq_true h)]
  · rw [if_neg h, if_neg (by simpa using h)]
theorem StepIn.inB (S : StepIn n l s inf sec) : ∀ q, q < n.nodes.length -> 0 <= (heldB n s inf).getD q default /\ (heldB n s inf).getD q default <= 3377699720527872 := fun q hq => by
  have h1 := S.inA q hq;rw [heldB_at hq];split <;> omega
theorem vS_at {h : List Int} {q : Nat} (hq : q < n.nodes.length) : (vS n h).getD q default = if capN (n.nodes.getD q default) < h.getD q default then capN (n.nodes.getD q default) else h.getD q default := map_at hq
theorem pS_at {h : List Int} {q : Nat} (hq : q < n.nodes.length) : (pS n h).getD q default = h.getD q default - (if capN (n.nodes.getD q default) < h.getD q default then capN (n.nodes.getD q default) else h.getD q default) := map_at hq
theorem vS_in (nb : netB n = true) {h : List Int} {q : Nat} (hq : q < n.nodes.length) (hh : 0 <= h.getD q default) : 0 <= (vS n h).getD q default /\ (vS n h).getD q default <= capN (n.nodes.getD q default) := by
  have := capN_in nb hq;rw [vS_at hq];split <;> omega
theorem capN_out {q : Nat} (h : isOut n q = true) : capN (n.nodes.getD q default) = 0 := by
  unfold capN;rw [if_pos (of_decide_eq_true h)]
theorem fitS_at {h : List Int} (hf : fitS n h = true) {q : Nat} (hq : q < n.nodes.length) : (pS n h).getD q default <= 1125899906842624 := by
  unfold fitS fitI at hf;rw [List.all_eq_true] at hf;exact of_decide_eq_true (hf q (List.mem_range.2 hq))
theorem isOut_kind {q : Nat} : isOut n q = true ↔ (n.nodes.getD q default).kind = 3 := decide_eq_true_iff
theorem sta_settled (S : StepIn n l s inf sec) {h : List Int} {on : List Bool} (hl : on.length = n.links.length) (hon : ∀ k, k < n.links.length -> on.getD k default = true -> (n.links.getD k default).kind = 4) (h0 : ∀ q, q < n.nodes.length -> 0 <= h.getD q default) (ho : ∀ q, q < n.nodes.length -> isOut n q = true -> h.getD q default = 0) (hf : fitS n h = true) : staB n ⟨vS n h, pS n h, s.set, on⟩ = true := by
  obtain ⟨h1, h2, h3⟩ := staB_in S.nb S.sb;obtain ⟨l1, l2, l3, l4⟩ := lensB_of h1;unfold staB lensB;simp only [Bool.and_eq_true, decide_eq_true_eq, List.all_eq_true, List.mem_range];refine ⟨⟨⟨⟨⟨vS_len h, pS_len h⟩, l3⟩, hl⟩, fun q hq => ?_⟩, fun k hk => ?_⟩
  · have a1 := vS_in S.nb hq (h0 q hq);have a2 := fitS_at hf hq;have a3 := pS_at (n := n) (h := h) hq;have a4 := h0 q hq;have a5 := ho q hq;unfold okSN btwB volB;simp only [Bool.and_eq_true, decide_eq_true_eq, Bool.not_eq_true', Bool.and_eq_false_iff, decide_eq_false_iff_not, Bool.not_eq_false'];refine ⟨⟨a1, ?_⟩, ?_⟩
    · constructor
      · show 0 <= (pS n h).getD q default;rw [a3];split <;> omega
      · exact a2
    · by_cases hk : (n.nodes.getD q default).kind = 3
      · refine .inr ?_;have e := a5 (isOut_kind.2 hk);show (pS n h).getD q default = 0;rw [a3, e, capN_out (isOut_kind.2 hk)]; rfl
      · exact .inl hk
  · have b1 := h3 k hk;unfold okSL at b1 ⊢;simp only [Bool.and_eq_true, Bool.not_eq_true', Bool.and_eq_false_iff, Bool.not_eq_false', decide_eq_true_eq] at b1 ⊢;refine ⟨b1.1, ?_⟩;cases ho2 : on.getD k default
    · exact .inl rfl
    · exact .inr (hon k hk ho2)
end

end Go.Proofs.YtgpllheklfbfhaaGreat
