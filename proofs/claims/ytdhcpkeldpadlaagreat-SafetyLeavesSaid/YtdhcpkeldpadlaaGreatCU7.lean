/-
  Contracts of functions of the program, over the engine.
  No condition.
-/
import Derived.Test.YtdhcpkeldpadlaaGreatCU5
import Derived.Test.YtdhcpkeldpadlaaGreatCU4
import Derived.Test.YtdhcpkeldpadlaaGreatCU2
namespace Go.Proofs.YtdhcpkeldpadlaaGreat
open Go.Eng
set_option linter.all false
attribute [local irreducible] DCallsG SWp Fct CallQ XCallQ LCallQ XLCallQ drun xrun
set_option maxHeartbeats 64000000
set_option maxRecDepth 20000

def secsB (sec : Int) : Bool := decide (1 <= sec) && decide (sec <= 86400)
theorem tright_f (sec : Int) (m : Nat) : Pu 42 [li sec] m (lb (secsB sec)) := by
  unfold secsB;by_cases h1 : 1 <= sec <;> by_cases h2 : sec <= 86400
  all_goals
    (have:=NeI h1);(have:=NeI h2);refine pcN 9 [.tmp 2] [4] Tryz.func42 rfl [] ?_;(repeat' first|refine stW [0,2] ?_|refine fctI fun hf=>?_|refine twI (fun hc=>?_) fun hc=>?_);exact DVR
theorem secsB_t {sec : Int} (h : 1 <= sec /\ sec <= 86400) : secsB sec = true := by unfold secsB; simp; exact h
theorem secsB_f {sec : Int} (h : ¬ (1 <= sec /\ sec <= 86400)) : secsB sec = false := by
  unfold secsB;rw [Bool.eq_false_iff];intro c;simp only [Bool.and_eq_true, decide_eq_true_eq] at c;exact h c
abbrev nrmK : List (Option Nat) := [none, none, none, none, none, none, none, none, none, none, none, some 5, none]
def setE43 (n : Net) (l : List Rule) (t : ByteArray) (v : Int) : Int :=
  if (netB n && rulesB l) = false then 1 else if ¬ tankE n l t = 0 then tankE n l t else if v < (nodeA n t).inv ∨ (nodeA n t).gnd < v then 2 else 0
theorem Settings_f (l : List Rule) (n : Net) (t : ByteArray) (v : Int) (m : Nat) (lo : rulOk l) (no : netOk n) :
    Pu 8 [ruleL l, netD n, ls t, li v] m (.tup [ints (if setE43 n l t v = 0 then setsS l n t v else []), li (setE43 n l t v)]) := by
  have k1 := fun m => netValid_f n m no
  have k2 := fun m => rulesV_f l m lo
  cases nb : netB n <;> simp only [nb] at k1
  · have hE : setE43 n l t v = 1 := if_pos (by rw [nb]; rfl);rw [hE, if_neg (by decide)];refine pcN 49 [.tmp 8,.tmp 9] [31,32] Tryz.func8 rfl [] ?_;(repeat' first|refine stW [0,1,2,3,5,8,9,10,11,19,28,45] ?_|refine fctI fun hf=>?_|refine twI (fun hc=>?_) fun hc=>?_);exact DVR
  cases rb : rulesB l <;> simp only [rb] at k2
  · have hE : setE43 n l t v = 1 := if_pos (by rw [nb, rb]; rfl);rw [hE, if_neg (by decide)];refine pcN 49 [.tmp 8,.tmp 9] [31,32] Tryz.func8 rfl [] ?_;(repeat' first|refine stW [0,1,2,3,5,8,9,10,11,19,28,45] ?_|refine fctI fun hf=>?_|refine twI (fun hc=>?_) fun hc=>?_);exact DVR
  have h0 : ¬ (netB n && rulesB l) = false := by rw [nb, rb]; decide
  by_cases te : tankE n l t = 0
  case neg =>
    have hE : setE43 n l t v = tankE n l t := (if_neg h0).trans (if_pos te);rw [hE, if_neg te];have k3 := fun m => tankBad_f n l t m lo no nb te
    generalize tankE n l t = E at *
    (have:=NeI te);refine pcN 49 [.tmp 8,.tmp 9] [31,32] Tryz.func8 rfl [] ?_;(repeat' first|refine stW [0,1,2,3,5,8,9,10,11,19,28,45] ?_|refine fctI fun hf=>?_|refine twI (fun hc=>?_) fun hc=>?_);exact DVR
  have k3 := fun m => tankOf_f n l t m lo no nb te
  obtain ⟨h300, h400⟩ := netB_len nb;have hol : (outL n t).length <= n.links.length := List.length_filter_le ..;have hpl : (tkOf n l t []).pt.links.length <= 1048576 := by show (outL n t).length <= _; omega
  have k4 := fun m => settings_f (tkOf n l t []) v m lo hpl
  have hset : setT (tkOf n l t []) v = setsS l n t v := by
    show (outL n t).map (fun x => grI l (nodeA n t).name x.name v) = (outL n t).map fun x => grI l t x.name v
    rw [show (nodeA n t).name = t from (at_mem Node.name (tankE_in te).2.1).2]
  rw [hset] at k4;by_cases h1 : v < (nodeA n t).inv
  · have hE : setE43 n l t v = 2 := ((if_neg h0).trans (if_neg (not_not_intro te))).trans (if_pos (.inl h1));rw [hE, if_neg (by decide)];(have:=NeI h1);refine pcN 49 [.tmp 8,.tmp 9] [31,32] Tryz.func8 rfl [] ?_;(repeat' first|refine stW [0,1,2,3,5,8,9,10,11,19,28,45] ?_|refine fctI fun hf=>?_|refine twI (fun hc=>?_) fun hc=>?_);exact DVR
  by_cases h2 : (nodeA n t).gnd < v
  · have hE : setE43 n l t v = 2 := ((if_neg h0).trans (if_neg (not_not_intro te))).trans (if_pos (.inr h2));rw [hE, if_neg (by decide)];(have:=NeI h1);(have:=NeI h2);refine pcN 49 [.tmp 8,.tmp 9] [31,32] Tryz.func8 rfl [] ?_;(repeat' first|refine stW [0,1,2,3,5,8,9,10,11,19,28,45] ?_|refine fctI fun hf=>?_|refine twI (fun hc=>?_) fun hc=>?_);exact DVR
  have hE : setE43 n l t v = 0 := ((if_neg h0).trans (if_neg (not_not_intro te))).trans (if_neg (by omega));rw [hE, if_pos rfl];clear hE hset;(have:=NeI h1);(have:=NeI h2);generalize setsS l n t v = R at *
  refine pcN 49 [.tmp 8,.tmp 9] [31,32] Tryz.func8 rfl [] ?_;(repeat' first|(show SWp _ _ _ (.seq (.region 8 _ _) _) _ _ _ _;refine (stop_in ?_))|refine stW [0,1,2,3,5,8,9,10,11,19,28,45] ?_|refine fctI fun hf=>?_|refine twI (fun hc=>?_) fun hc=>?_);refine stop_out ?_;refine swp_nrm 112 nrmK (by exact DVR) rfl (by exact DVR) ?_;refine sF 112 (v := .blk 91 (tnkC (tkOf n l t []))) (x := .cells (tnkP (tkOf n l t []))) ?_ (hv := rfl) (hx := rfl);(repeat' first|refine stW [0,1,2,3,5,8,9,10,11,19,28,45] ?_|refine fctI fun hf=>?_|refine twI (fun hc=>?_) fun hc=>?_);exact DVR
def mosE43 (n : Net) (c : List Sect) (l : List Rule) (t : ByteArray) (v sec : Int) : Int :=
  if (netB n && catB c && rulesB l) = false then 1 else if ¬ tankE n l t = 0 then tankE n l t else if v < (nodeA n t).inv ∨ (nodeA n t).gnd < v then 2 else safE n c l t sec
theorem safE_sec {n : Net} {c : List Sect} {l : List Rule} {t : ByteArray} {sec : Int} (hb : (netB n && catB c && rulesB l) = true) (te : tankE n l t = 0) : safE n c l t sec = if ¬ (1 <= sec /\ sec <= 86400) then 2 else if findK c (outL n t) [] = none then 9 else 0 := by
  unfold safE;rw [hb, if_neg (by decide), if_neg (not_not_intro te)]
theorem MostS_f (n : Net) (c : List Sect) (l : List Rule) (t : ByteArray) (v sec : Int) (m : Nat) (no : netOk n) (co : catOk c) (lo : rulOk l) :
    Pu 11 [netD n, sectL c, ruleL l, ls t, li v, li sec] m (.tup [li (if mosE43 n c l t v sec = 0 then mostS n c l t v sec else 0), li (mosE43 n c l t v sec)]) := by
  have k1 := fun m => netValid_f n m no
  have k2 := fun m => cat_f c m co
  have k3 := fun m => rulesV_f l m lo
  cases nb : netB n <;> simp only [nb] at k1
  · have hE : mosE43 n c l t v sec = 1 := if_pos (by rw [nb]; rfl);rw [hE, if_neg (by decide)];refine pcN 75 [.tmp 12,.tmp 13] [3,32] Tryz.func11 rfl [] ?_;(repeat' first|refine stW [0,1,2,3,4,5,6,12,13,14,15,16,29,38,60,65] ?_|refine fctI fun hf=>?_|refine twI (fun hc=>?_) fun hc=>?_);exact DVR
  cases cb : catB c <;> simp only [cb] at k2
  · have hE : mosE43 n c l t v sec = 1 := if_pos (by rw [nb, cb]; rfl);rw [hE, if_neg (by decide)];refine pcN 75 [.tmp 12,.tmp 13] [3,32] Tryz.func11 rfl [] ?_;(repeat' first|refine stW [0,1,2,3,4,5,6,12,13,14,15,16,29,38,60,65] ?_|refine fctI fun hf=>?_|refine twI (fun hc=>?_) fun hc=>?_);exact DVR
  cases rb : rulesB l <;> simp only [rb] at k3
  · have hE : mosE43 n c l t v sec = 1 := if_pos (by rw [nb, cb, rb]; rfl);rw [hE, if_neg (by decide)];refine pcN 75 [.tmp 12,.tmp 13] [3,32] Tryz.func11 rfl [] ?_;(repeat' first|refine stW [0,1,2,3,4,5,6,12,13,14,15,16,29,38,60,65] ?_|refine fctI fun hf=>?_|refine twI (fun hc=>?_) fun hc=>?_);exact DVR
  have h0 : ¬ (netB n && catB c && rulesB l) = false := by rw [nb, cb, rb]; decide
  by_cases te : tankE n l t = 0
  case neg =>
    have hE : mosE43 n c l t v sec = tankE n l t := (if_neg h0).trans (if_pos te);rw [hE, if_neg te];have k4 := fun m => tankBad_f n l t m lo no nb te
    generalize tankE n l t = E at *
    (have:=NeI te);refine pcN 75 [.tmp 12,.tmp 13] [3,32] Tryz.func11 rfl [] ?_;(repeat' first|refine stW [0,1,2,3,4,5,6,12,13,14,15,16,29,38,60,65] ?_|refine fctI fun hf=>?_|refine twI (fun hc=>?_) fun hc=>?_);exact DVR
  have k4 := fun m => tankOf_f n l t m lo no nb te
  by_cases h1 : v < (nodeA n t).inv
  · have hE : mosE43 n c l t v sec = 2 := ((if_neg h0).trans (if_neg (not_not_intro te))).trans (if_pos (.inl h1));rw [hE, if_neg (by decide)];(have:=NeI h1);refine pcN 75 [.tmp 12,.tmp 13] [3,32] Tryz.func11 rfl [] ?_;(repeat' first|refine stW [0,1,2,3,4,5,6,12,13,14,15,16,29,38,60,65] ?_|refine fctI fun hf=>?_|refine twI (fun hc=>?_) fun hc=>?_);exact DVR
  by_cases h2 : (nodeA n t).gnd < v
  · have hE : mosE43 n c l t v sec = 2 := ((if_neg h0).trans (if_neg (not_not_intro te))).trans (if_pos (.inr h2));rw [hE, if_neg (by decide)];(have:=NeI h1);(have:=NeI h2);refine pcN 75 [.tmp 12,.tmp 13] [3,32] Tryz.func11 rfl [] ?_;(repeat' first|refine stW [0,1,2,3,4,5,6,12,13,14,15,16,29,38,60,65] ?_|refine fctI fun hf=>?_|refine twI (fun hc=>?_) fun hc=>?_);exact DVR
  have hE : mosE43 n c l t v sec = if ¬ (1 <= sec /\ sec <= 86400) then 2 else if findK c (outL n t) [] = none then 9 else 0 := (((if_neg h0).trans (if_neg (not_not_intro te))).trans (if_neg (by omega))).trans (safE_sec (by rw [nb, cb, rb]; rfl) te)
  (have:=NeI h1);(have:=NeI h2);have k5 := fun m => tright_f sec m
  by_cases hs : 1 <= sec /\ sec <= 86400
  case neg =>
    rw [hE.trans (if_pos hs), if_neg (by decide)];rw [secsB_f hs] at k5;refine pcN 75 [.tmp 12,.tmp 13] [3,32] Tryz.func11 rfl [] ?_;(repeat' first|refine stW [0,1,2,3,4,5,6,12,13,14,15,16,29,38,60,65] ?_|refine fctI fun hf=>?_|refine twI (fun hc=>?_) fun hc=>?_);exact DVR
  replace hE := hE.trans (if_neg (not_not_intro hs))
  rw [secsB_t hs] at k5;cases hf : findK c (outL n t) [] with
  | none =>
    rw [hE.trans (if_pos hf), if_neg (by decide)];obtain ⟨I, b, i1, i2, i3⟩ := find_stop hf;have k6 := tfind_f n c l t b I 1 no co nb (by omega) i2 (.inr ⟨i1, i3⟩);rw [if_neg (by omega)] at k6;clear hE;refine pcN 75 [.tmp 12,.tmp 13] [3,32] Tryz.func11 rfl [] ?_;(repeat' first|refine stW [0,1,2,3,4,5,6,12,13,14,15,16,29,38,60,65] ?_|refine fctI fun hf=>?_|refine twI (fun hc=>?_) fun hc=>?_);(refine cQT [152] (fun hcc => k6) ?_);(repeat' first|refine stW [0,1,2,3,4,5,6,12,13,14,15,16,29,38,60,65] ?_|refine fctI fun hf=>?_|refine twI (fun hc=>?_) fun hc=>?_);exact DVR
  | some a =>
    rw [hE.trans (if_neg (by rw [hf]; intro e; cases e)), if_pos rfl];have K : TankIn n c l t a := ⟨no, co, lo, nb, cb, rb, te, hf⟩;have k6 := tfind_f n c l t a (outL n t).length 1 no co nb (Nat.le_refl _) (by rw [findI_all]; exact hf) (.inl rfl);rw [if_pos rfl] at k6;obtain ⟨h300, h400⟩ := netB_len nb;have hol : (outL n t).length <= n.links.length := List.length_filter_le ..;have hpl : (tkOf n l t a).pt.links.length <= 1048576 := by show (outL n t).length <= _; omega
    have hbw : btwB v (nodeA n t).inv (nodeA n t).gnd = true := by
      unfold btwB;simp only [Bool.and_eq_true, decide_eq_true_eq]; omega
    have k7 := fun m => settings_f (tkOf n l t a) v m lo hpl
    have hlen := setT_len (tkOf n l t a) v;have k8 := fun m => flowsT_f (tkOf n l t a) v (setT (tkOf n l t a) v) m (part_ok no) (some_ok co hf) hpl hlen
    rw [K.flow hbw v] at k8;have hpos := K.pos (g := v) (by omega) (by omega) v;have hFl := flowsS_len (n := n) (c := c) (t := t) (S := setsS l n t v) (v := v) (setsS_len l n t v);have k9 := fun m => tleaves_f (flowsS n c t (setsS l n t v) v) sec m (by omega) hpos hs
    unfold mostS;clear hE hpos hFl hlen;generalize flowsS n c t (setsS l n t v) v = R at *
    generalize setT (tkOf n l t a) v = W at *
    refine pcN 75 [.tmp 12,.tmp 13] [3,32] Tryz.func11 rfl [] ?_;(repeat' first|refine stW [0,1,2,3,4,5,6,12,13,14,15,16,29,38,60,65] ?_|refine fctI fun hf=>?_|refine twI (fun hc=>?_) fun hc=>?_);(refine cQT [152] (fun hcc => k6) ?_);(repeat' first|(show SWp _ _ _ (.seq (.region 11 _ _) _) _ _ _ _;refine (stop_in ?_))|refine stW [0,1,2,3,4,5,6,12,13,14,15,16,29,38,60,65] ?_|refine fctI fun hf=>?_|refine twI (fun hc=>?_) fun hc=>?_);refine stop_out ?_;refine sF 152 (v := .blk 91 (tnkC (tkOf n l t a))) (x := .cells (tnkP (tkOf n l t a))) ?_ (hv := rfl) (hx := rfl);(repeat' first|refine stW [0,1,2,3,4,5,6,12,13,14,15,16,29,38,60,65] ?_|refine fctI fun hf=>?_|refine twI (fun hc=>?_) fun hc=>?_);exact DVR

end Go.Proofs.YtdhcpkeldpadlaaGreat
