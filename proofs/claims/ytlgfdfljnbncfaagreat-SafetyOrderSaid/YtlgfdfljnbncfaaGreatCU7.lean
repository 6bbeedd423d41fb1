/-
  Contracts of functions of the program, over the engine.
  No condition.
-/
import Derived.Test.YtlgfdfljnbncfaaGreatCU5
import Derived.Test.YtlgfdfljnbncfaaGreatCU4
import Derived.Test.YtlgfdfljnbncfaaGreatCU2
import Derived.Test.YtlgfdfljnbncfaaGreatCU1
import Derived.Test.YtlgfdfljnbncfaaGreatCT5T6T6bT7T7bT7c
import Derived.Test.YtlgfdfljnbncfaaGreatCL9L10L11L12L16L20RL25L27
namespace Go.Proofs.YtlgfdfljnbncfaaGreat
open Go.Eng
set_option linter.all false
attribute [local irreducible] DCallsG SWp Fct CallQ XCallQ LCallQ XLCallQ drun xrun
set_option maxHeartbeats 64000000
set_option maxRecDepth 20000

def secsB (sec : Int) : Bool := decide (1 <= sec) && decide (sec <= 86400)
theorem tright_f (sec : Int) (m : Nat) : Pu 57 [li sec] m (lb (secsB sec)) := by
  unfold secsB;by_cases h1 : 1 <= sec <;> by_cases h2 : sec <= 86400
  all_goals
    (have:=NeI h1);(have:=NeI h2);refine pcN 9 [.tmp 2] [4] Tryz.func57 rfl [] ?_;(repeat' first|refine stW [0,2] ?_|refine fctI fun hf=>?_|refine twI (fun hc=>?_) fun hc=>?_);exact DVR
theorem secsB_t {sec : Int} (h : 1 <= sec /\ sec <= 86400) : secsB sec = true := by unfold secsB; simp; exact h
theorem secsB_f {sec : Int} (h : ¬ (1 <= sec /\ sec <= 86400)) : secsB sec = false := by
  unfold secsB;rw [Bool.eq_false_iff];intro c;simp only [Bool.and_eq_true, decide_eq_true_eq] at c;exact h c
abbrev nrmK : List (Option Nat) := [none, none, none, none, none, none, none, none, none, none, none, some 5, none]
def setE43 (n : Net) (l : List Rule) (t : ByteArray) (v : Int) : Int :=
  if (netB n && rulesB l) = false then 1 else if ¬ tankE n l t = 0 then tankE n l t else if v < (nodeA n t).inv ∨ (nodeA n t).gnd < v then 2 else 0
theorem Settings_f (l : List Rule) (n : Net) (t : ByteArray) (v : Int) (m : Nat) (lo : rulOk l) (no : netOk n) :
    Pu 12 [ruleL l, netD n, ls t, li v] m (.tup [ints (if setE43 n l t v = 0 then setsS l n t v else []), li (setE43 n l t v)]) := by
  have k1 := fun m => netValid_f n m no
  have k2 := fun m => rulesV_f l m lo
  cases nb : netB n <;> simp only [nb] at k1
  · have hE : setE43 n l t v = 1 := if_pos (by rw [nb]; rfl);rw [hE, if_neg (by decide)];refine pcN 49 [.tmp 8,.tmp 9] [31,32] Tryz.func12 rfl [] ?_;(repeat' first|refine stW [0,1,2,3,5,8,9,10,11,19,28,45] ?_|refine fctI fun hf=>?_|refine twI (fun hc=>?_) fun hc=>?_);exact DVR
  cases rb : rulesB l <;> simp only [rb] at k2
  · have hE : setE43 n l t v = 1 := if_pos (by rw [nb, rb]; rfl);rw [hE, if_neg (by decide)];refine pcN 49 [.tmp 8,.tmp 9] [31,32] Tryz.func12 rfl [] ?_;(repeat' first|refine stW [0,1,2,3,5,8,9,10,11,19,28,45] ?_|refine fctI fun hf=>?_|refine twI (fun hc=>?_) fun hc=>?_);exact DVR
  have h0 : ¬ (netB n && rulesB l) = false := by rw [nb, rb]; decide
  by_cases te : tankE n l t = 0
  case neg =>
    have hE : setE43 n l t v = tankE n l t := (if_neg h0).trans (if_pos te);rw [hE, if_neg te];have k3 := fun m => tankBad_f n l t m lo no nb te
    generalize tankE n l t = E at *
    (have:=NeI te);refine pcN 49 [.tmp 8,.tmp 9] [31,32] Tryz.func12 rfl [] ?_;(repeat' first|refine stW [0,1,2,3,5,8,9,10,11,19,28,45] ?_|refine fctI fun hf=>?_|refine twI (fun hc=>?_) fun hc=>?_);exact DVR
  have k3 := fun m => tankOf_f n l t m lo no nb te
  obtain ⟨h300, h400⟩ := netB_len nb;have hol : (outL n t).length <= n.links.length := List.length_filter_le ..;have hpl : (tkOf n l t []).pt.links.length <= 1048576 := by show (outL n t).length <= _; omega
  have k4 := fun m => settings_f (tkOf n l t []) v m lo hpl
  have hset : setT (tkOf n l t []) v = setsS l n t v := by
    show (outL n t).map (fun x => grI l (nodeA n t).name x.name v) = (outL n t).map fun x => grI l t x.name v
    rw [show (nodeA n t).name = t from (at_mem Node.name (tankE_in te).2.1).2]
  rw [hset] at k4;by_cases h1 : v < (nodeA n t).inv
  · have hE : setE43 n l t v = 2 := ((if_neg h0).trans (if_neg (not_not_intro te))).trans (if_pos (.inl h1));rw [hE, if_neg (by decide)];(have:=NeI h1);refine pcN 49 [.tmp 8,.tmp 9] [31,32] Tryz.func12 rfl [] ?_;(repeat' first|refine stW [0,1,2,3,5,8,9,10,11,19,28,45] ?_|refine fctI fun hf=>?_|refine twI (fun hc=>?_) fun hc=>?_);exact DVR
  by_cases h2 : (nodeA n t).gnd < v
  · have hE : setE43 n l t v = 2 := ((if_neg h0).trans (if_neg (not_not_intro te))).trans (if_pos (.inr h2));rw [hE, if_neg (by decide)];(have:=NeI h1);(have:=NeI h2);refine pcN 49 [.tmp 8,.tmp 9] [31,32] Tryz.func12 rfl [] ?_;(repeat' first|refine stW [0,1,2,3,5,8,9,10,11,19,28,45] ?_|refine fctI fun hf=>?_|refine twI (fun hc=>?_) fun hc=>?_);exact DVR
  have hE : setE43 n l t v = 0 := ((if_neg h0).trans (if_neg (not_not_intro te))).trans (if_neg (by omega));rw [hE, if_pos rfl];clear hE hset;(have:=NeI h1);(have:=NeI h2);generalize setsS l n t v = R at *
  refine pcN 49 [.tmp 8,.tmp 9] [31,32] Tryz.func12 rfl [] ?_;(repeat' first|(show SWp _ _ _ (.seq (.region 8 _ _) _) _ _ _ _;refine (stop_in ?_))|refine stW [0,1,2,3,5,8,9,10,11,19,28,45] ?_|refine fctI fun hf=>?_|refine twI (fun hc=>?_) fun hc=>?_);refine stop_out ?_;refine swp_nrm 112 nrmK (by exact DVR) rfl (by exact DVR) ?_;refine sF 112 (v := .blk 105 (tnkC (tkOf n l t []))) (x := .cells (tnkP (tkOf n l t []))) ?_ (hv := rfl) (hx := rfl);(repeat' first|refine stW [0,1,2,3,5,8,9,10,11,19,28,45] ?_|refine fctI fun hf=>?_|refine twI (fun hc=>?_) fun hc=>?_);exact DVR
def mosE43 (n : Net) (c : List Sect) (l : List Rule) (t : ByteArray) (v sec : Int) : Int :=
  if (netB n && catB c && rulesB l) = false then 1 else if ¬ tankE n l t = 0 then tankE n l t else if v < (nodeA n t).inv ∨ (nodeA n t).gnd < v then 2 else safE n c l t sec
theorem safE_sec {n : Net} {c : List Sect} {l : List Rule} {t : ByteArray} {sec : Int} (hb : (netB n && catB c && rulesB l) = true) (te : tankE n l t = 0) : safE n c l t sec = if ¬ (1 <= sec /\ sec <= 86400) then 2 else if findK c (outL n t) [] = none then 9 else 0 := by
  unfold safE;rw [hb, if_neg (by decide), if_neg (not_not_intro te)]
theorem MostS_f (n : Net) (c : List Sect) (l : List Rule) (t : ByteArray) (v sec : Int) (m : Nat) (no : netOk n) (co : catOk c) (lo : rulOk l) :
    Pu 13 [netD n, sectL c, ruleL l, ls t, li v, li sec] m (.tup [li (if mosE43 n c l t v sec = 0 then mostS n c l t v sec else 0), li (mosE43 n c l t v sec)]) := by
  have k1 := fun m => netValid_f n m no
  have k2 := fun m => cat_f c m co
  have k3 := fun m => rulesV_f l m lo
  cases nb : netB n <;> simp only [nb] at k1
  · have hE : mosE43 n c l t v sec = 1 := if_pos (by rw [nb]; rfl);rw [hE, if_neg (by decide)];refine pcN 75 [.tmp 12,.tmp 13] [3,32] Tryz.func13 rfl [] ?_;(repeat' first|refine stW [0,1,2,3,4,5,6,12,13,14,15,16,29,38,60,65] ?_|refine fctI fun hf=>?_|refine twI (fun hc=>?_) fun hc=>?_);exact DVR
  cases cb : catB c <;> simp only [cb] at k2
  · have hE : mosE43 n c l t v sec = 1 := if_pos (by rw [nb, cb]; rfl);rw [hE, if_neg (by decide)];refine pcN 75 [.tmp 12,.tmp 13] [3,32] Tryz.func13 rfl [] ?_;(repeat' first|refine stW [0,1,2,3,4,5,6,12,13,14,15,16,29,38,60,65] ?_|refine fctI fun hf=>?_|refine twI (fun hc=>?_) fun hc=>?_);exact DVR
  cases rb : rulesB l <;> simp only [rb] at k3
  · have hE : mosE43 n c l t v sec = 1 := if_pos (by rw [nb, cb, rb]; rfl);rw [hE, if_neg (by decide)];refine pcN 75 [.tmp 12,.tmp 13] [3,32] Tryz.func13 rfl [] ?_;(repeat' first|refine stW [0,1,2,3,4,5,6,12,13,14,15,16,29,38,60,65] ?_|refine fctI fun hf=>?_|refine twI (fun hc=>?_) fun hc=>?_);exact DVR
  have h0 : ¬ (netB n && catB c && rulesB l) = false := by rw [nb, cb, rb]; decide
  by_cases te : tankE n l t = 0
  case neg =>
    have hE : mosE43 n c l t v sec = tankE n l t := (if_neg h0).trans (if_pos te);rw [hE, if_neg te];have k4 := fun m => tankBad_f n l t m lo no nb te
    generalize tankE n l t = E at *
    (have:=NeI te);refine pcN 75 [.tmp 12,.tmp 13] [3,32] Tryz.func13 rfl [] ?_;(repeat' first|refine stW [0,1,2,3,4,5,6,12,13,14,15,16,29,38,60,65] ?_|refine fctI fun hf=>?_|refine twI (fun hc=>?_) fun hc=>?_);exact DVR
  have k4 := fun m => tankOf_f n l t m lo no nb te
  by_cases h1 : v < (nodeA n t).inv
  · have hE : mosE43 n c l t v sec = 2 := ((if_neg h0).trans (if_neg (not_not_intro te))).trans (if_pos (.inl h1));rw [hE, if_neg (by decide)];(have:=NeI h1);refine pcN 75 [.tmp 12,.tmp 13] [3,32] Tryz.func13 rfl [] ?_;(repeat' first|refine stW [0,1,2,3,4,5,6,12,13,14,15,16,29,38,60,65] ?_|refine fctI fun hf=>?_|refine twI (fun hc=>?_) fun hc=>?_);exact DVR
  by_cases h2 : (nodeA n t).gnd < v
  · have hE : mosE43 n c l t v sec = 2 := ((if_neg h0).trans (if_neg (not_not_intro te))).trans (if_pos (.inr h2));rw [hE, if_neg (by decide)];(have:=NeI h1);(have:=NeI h2);refine pcN 75 [.tmp 12,.tmp 13] [3,32] Tryz.func13 rfl [] ?_;(repeat' first|refine stW [0,1,2,3,4,5,6,12,13,14,15,16,29,38,60,65] ?_|refine fctI fun hf=>?_|refine twI (fun hc=>?_) fun hc=>?_);exact DVR
  have hE : mosE43 n c l t v sec = if ¬ (1 <= sec /\ sec <= 86400) then 2 else if findK c (outL n t) [] = none then 9 else 0 := (((if_neg h0).trans (if_neg (not_not_intro te))).trans (if_neg (by omega))).trans (safE_sec (by rw [nb, cb, rb]; rfl) te)
  (have:=NeI h1);(have:=NeI h2);have k5 := fun m => tright_f sec m
  by_cases hs : 1 <= sec /\ sec <= 86400
  case neg =>
    rw [hE.trans (if_pos hs), if_neg (by decide)];rw [secsB_f hs] at k5;refine pcN 75 [.tmp 12,.tmp 13] [3,32] Tryz.func13 rfl [] ?_;(repeat' first|refine stW [0,1,2,3,4,5,6,12,13,14,15,16,29,38,60,65] ?_|refine fctI fun hf=>?_|refine twI (fun hc=>?_) fun hc=>?_);exact DVR
  replace hE := hE.trans (if_neg (not_not_intro hs))
  rw [secsB_t hs] at k5;cases hf : findK c (outL n t) [] with
  | none =>
    rw [hE.trans (if_pos hf), if_neg (by decide)];obtain ⟨I, b, i1, i2, i3⟩ := find_stop hf;have k6 := tfind_f n c l t b I 1 no co nb (by omega) i2 (.inr ⟨i1, i3⟩);rw [if_neg (by omega)] at k6;clear hE;refine pcN 75 [.tmp 12,.tmp 13] [3,32] Tryz.func13 rfl [] ?_;(repeat' first|refine stW [0,1,2,3,4,5,6,12,13,14,15,16,29,38,60,65] ?_|refine fctI fun hf=>?_|refine twI (fun hc=>?_) fun hc=>?_);(refine cQT [152] (fun hcc => k6) ?_);(repeat' first|refine stW [0,1,2,3,4,5,6,12,13,14,15,16,29,38,60,65] ?_|refine fctI fun hf=>?_|refine twI (fun hc=>?_) fun hc=>?_);exact DVR
  | some a =>
    rw [hE.trans (if_neg (by rw [hf]; intro e; cases e)), if_pos rfl];have K : TankIn n c l t a := ⟨no, co, lo, nb, cb, rb, te, hf⟩;have k6 := tfind_f n c l t a (outL n t).length 1 no co nb (Nat.le_refl _) (by rw [findI_all]; exact hf) (.inl rfl);rw [if_pos rfl] at k6;obtain ⟨h300, h400⟩ := netB_len nb;have hol : (outL n t).length <= n.links.length := List.length_filter_le ..;have hpl : (tkOf n l t a).pt.links.length <= 1048576 := by show (outL n t).length <= _; omega
    have hbw : btwB v (nodeA n t).inv (nodeA n t).gnd = true := by
      unfold btwB;simp only [Bool.and_eq_true, decide_eq_true_eq]; omega
    have k7 := fun m => settings_f (tkOf n l t a) v m lo hpl
    have hlen := setT_len (tkOf n l t a) v;have k8 := fun m => flowsT_f (tkOf n l t a) v (setT (tkOf n l t a) v) m (part_ok no) (some_ok co hf) hpl hlen
    rw [K.flow hbw v] at k8;have hpos := K.pos (g := v) (by omega) (by omega) v;have hFl := flowsS_len (n := n) (c := c) (t := t) (S := setsS l n t v) (v := v) (setsS_len l n t v);have k9 := fun m => tleaves_f (flowsS n c t (setsS l n t v) v) sec m (by omega) hpos hs
    unfold mostS;clear hE hpos hFl hlen;generalize flowsS n c t (setsS l n t v) v = R at *
    generalize setT (tkOf n l t a) v = W at *
    refine pcN 75 [.tmp 12,.tmp 13] [3,32] Tryz.func13 rfl [] ?_;(repeat' first|refine stW [0,1,2,3,4,5,6,12,13,14,15,16,29,38,60,65] ?_|refine fctI fun hf=>?_|refine twI (fun hc=>?_) fun hc=>?_);(refine cQT [152] (fun hcc => k6) ?_);(repeat' first|(show SWp _ _ _ (.seq (.region 11 _ _) _) _ _ _ _;refine (stop_in ?_))|refine stW [0,1,2,3,4,5,6,12,13,14,15,16,29,38,60,65] ?_|refine fctI fun hf=>?_|refine twI (fun hc=>?_) fun hc=>?_);refine stop_out ?_;refine sF 152 (v := .blk 105 (tnkC (tkOf n l t a))) (x := .cells (tnkP (tkOf n l t a))) ?_ (hv := rfl) (hx := rfl);(repeat' first|refine stW [0,1,2,3,4,5,6,12,13,14,15,16,29,38,60,65] ?_|refine fctI fun hf=>?_|refine twI (fun hc=>?_) fun hc=>?_);exact DVR
def givA (n : Net) (l : List Rule) (t : ByteArray) : Int × Int :=
  if (netB n && rulesB l) = false then (0, 1) else if tankE n l t = 0 then (nodeIx n.nodes t, 0) else (0, tankE n l t)
theorem rGiven_f (n : Net) (l : List Rule) (t : ByteArray) (m : Nat) (lo : rulOk l) (no : netOk n) :
    Pu 14 [netD n, ruleL l, ls t] m (.tup [li (givA n l t).1, li (givA n l t).2]) := by
  have k1 := fun m => rNetValid_f n m no
  have k2 := fun m => rRulesV_f l m lo
  cases nb : netB n <;> simp only [nb] at k1
  · rw [show givA n l t = (0, 1) from if_pos (by rw [nb]; rfl)];refine pcN 57 [.tmp 6,.tmp 7] [3,3] Tryz.func14 rfl [] ?_;(repeat' first|refine stW [0,1,2,3,6,7,8,16,20,25,41,55] ?_|refine fctI fun hf=>?_|refine twI (fun hc=>?_) fun hc=>?_);exact DVR
  cases rb : rulesB l <;> simp only [rb] at k2
  · rw [show givA n l t = (0, 1) from if_pos (by rw [nb, rb]; rfl)];refine pcN 57 [.tmp 6,.tmp 7] [3,3] Tryz.func14 rfl [] ?_;(repeat' first|refine stW [0,1,2,3,6,7,8,16,20,25,41,55] ?_|refine fctI fun hf=>?_|refine twI (fun hc=>?_) fun hc=>?_);exact DVR
  have hG : givA n l t = if tankE n l t = 0 then (nodeIx n.nodes t, 0) else (0, tankE n l t) := if_neg (by rw [nb, rb]; decide)
  obtain ⟨h300, h400⟩ := netB_len nb;have k3 := fun m => rKnown_f l n m lo no (by omega)
  have k4 := fun m => rFindNode_f n t m no.1.1
  have hlt := nix_lt n.nodes t;cases hs : l.all (knownR n) <;> simp only [hs] at k3
  · rw [hG, show tankE n l t = 25 from if_pos hs, if_neg (by decide)];refine pcN 57 [.tmp 6,.tmp 7] [3,3] Tryz.func14 rfl [] ?_;(repeat' first|refine stW [0,1,2,3,6,7,8,16,20,25,41,55] ?_|refine fctI fun hf=>?_|refine twI (fun hc=>?_) fun hc=>?_);exact DVR
  have t1 : tankE n l t = _ := if_neg (by rw [hs]; decide);by_cases h1 : nodeIx n.nodes t < 0
  · rw [hG, t1.trans (if_pos h1), if_neg (by decide)];clear hG t1;generalize nodeIx n.nodes t = K at *
    (have:=NeI h1);refine pcN 57 [.tmp 6,.tmp 7] [3,3] Tryz.func14 rfl [] ?_;(repeat' first|refine stW [0,1,2,3,6,7,8,16,20,25,41,55] ?_|refine fctI fun hf=>?_|refine twI (fun hc=>?_) fun hc=>?_);exact DVR
  replace t1 := t1.trans (if_neg h1)
  obtain ⟨p, hp⟩ : ∃ p : Nat, nodeIx n.nodes t = (p : Int) := ⟨_, (Int.toNat_of_nonneg (by omega)).symm⟩;rw [hp] at k4;have hpl : p < n.nodes.length := by omega
  have hpl3 : (p : Int) < (n.nodes.length : Int) := by omega
  have hp0 : ¬ (p : Int) < 0 := by omega
  rw [nodeA_at hp] at t1;rw [hp] at hG;have hr : nodeR (n.nodes.getD p default) = true := ((netB_iff n).1 nb).nr _ (mem_getD hpl);have a1 := lev_in (node_lev hr).1;have a2 := lev_in (node_lev hr).2.1;(have:=NeI hp0);(have:=NeI hpl);(have:=NeI hpl3);clear hlt hp;by_cases hk : (n.nodes.getD p default).kind = 2
  case neg =>
    rw [hG, t1.trans (if_pos fun c => hk c.1), if_neg (by decide)];clear hG t1;(have:=NeI hk);refine pcN 57 [.tmp 6,.tmp 7] [3,3] Tryz.func14 rfl [] ?_;(repeat' first|refine stW [0,1,2,3,6,7,8,16,20,25,41,55] ?_|refine fctI fun hf=>?_|refine twI (fun hc=>?_) fun hc=>?_);exact DVR
  (have:=NeI hk);cases hq : (n.nodes.getD p default).prot
  · rw [hG, t1.trans (if_pos fun c => absurd (hq.symm.trans c.2) Bool.false_ne_true), if_neg (by decide)];haveI : ProtAt (n.nodes.getD p default) false := ⟨hq⟩;clear hG t1;refine pcN 57 [.tmp 6,.tmp 7] [3,3] Tryz.func14 rfl [] ?_;(repeat' first|refine stW [0,1,2,3,6,7,8,16,20,25,41,55] ?_|refine fctI fun hf=>?_|refine twI (fun hc=>?_) fun hc=>?_);exact DVR
  haveI : ProtAt (n.nodes.getD p default) true := ⟨hq⟩
  replace t1 := t1.trans (if_neg fun c => c ⟨hk, hq⟩)
  by_cases hb : 20000 < (n.nodes.getD p default).gnd - (n.nodes.getD p default).inv
  · rw [hG, t1.trans (if_pos hb), if_neg (by decide)];clear hG t1;(have:=NeI hb);refine pcN 57 [.tmp 6,.tmp 7] [3,3] Tryz.func14 rfl [] ?_;(repeat' first|refine stW [0,1,2,3,6,7,8,16,20,25,41,55] ?_|refine fctI fun hf=>?_|refine twI (fun hc=>?_) fun hc=>?_);exact DVR
  · rw [hG, if_pos (t1.trans (if_neg hb))];clear hG t1;(have:=NeI hb);refine pcN 57 [.tmp 6,.tmp 7] [3,3] Tryz.func14 rfl [] ?_;(repeat' first|refine stW [0,1,2,3,6,7,8,16,20,25,41,55] ?_|refine fctI fun hf=>?_|refine twI (fun hc=>?_) fun hc=>?_);exact DVR
def outP (n : Net) (t : ByteArray) (i : Nat) : List Int := ((List.range i).filter fun k => decide ((n.links.getD k default).fro = t)).map fun (k : Nat) => (k : Int)
def outI (n : Net) (t : ByteArray) : List Int := (outJ n t).map fun (k : Nat) => (k : Int)
theorem outP_all (n : Net) (t : ByteArray) : outP n t n.links.length = outI n t := rfl
theorem outP_yes {n : Net} {t : ByteArray} {i : Nat} (e : (n.links.getD i default).fro = t) : outP n t (i + 1) = outP n t i ++ [(i : Int)] := by
  unfold outP;rw [List.range_succ, List.filter_append, List.filter_cons_of_pos (by simpa using e), List.filter_nil, List.map_append]; rfl
theorem outP_no {n : Net} {t : ByteArray} {i : Nat} (e : ¬ (n.links.getD i default).fro = t) : outP n t (i + 1) = outP n t i := by
  unfold outP;rw [List.range_succ, List.filter_append, List.filter_cons_of_neg (by simpa using e), List.filter_nil, List.append_nil]
theorem outP_len (n : Net) (t : ByteArray) (i : Nat) : (outP n t i).length <= i := by
  unfold outP;rw [List.length_map];exact Nat.le_trans (List.length_filter_le ..) (by rw [List.length_range]; omega)
theorem outI_len (n : Net) (t : ByteArray) : (outI n t).length = (outL n t).length := by unfold outI; rw [List.length_map, outL_len]
theorem outI_at {n : Net} {t : ByteArray} {j : Nat} (h : j < (outL n t).length) : ∃ k : Nat, (outI n t).getD j default = (k : Int) /\ k < n.links.length /\ n.links.getD k default = (outL n t).getD j default := by
  have h2 : j < (outJ n t).length := by rw [<- outL_len]; exact h
  refine ⟨(outJ n t).getD j default, ?_, outJ_lt (mem_getD h2), (outL_at h2).symm⟩;rw [getD_is (by rw [outI_len]; exact h), getD_is h2];unfold outI;rw [List.getElem_map]
theorem rOut_f (n : Net) (t : ByteArray) (m : Nat) (hl : n.links.length <= 1048576) : Pu 64 [netD n, ls t] m (ints (outI n t)) := by
  rw [<- outP_all];refine pcN 27 [.tmp 4] [31] Tryz.func64 rfl [32] ?_;(repeat' first|refine stW [0,1,2,4,5,6,11,21] ?_|refine fctI fun hf=>?_|refine twI (fun hc=>?_) fun hc=>?_);(refine sN 5 3 1 ?_);refine loop_swp [1, 2, 5, 6] [0, 32] 40 (fun q A H => ∃ i : Nat, i <= n.links.length /\ q = n.links.length - i /\ A = [(1, ls t), (2, .ptr 0 0), (5, .gl 32), (6, li i)] /\ H = [(0, .blk 25 (netC n)), (32, inLt (outP n t i))]) (by omega) ?_ ?_ ?_
  · rintro q A H ⟨i, g1, g2, rfl, rfl⟩;exact SDD
  · refine ⟨_, 0, by omega, rfl, ?_, ?_⟩
    · exact DVR
    · exact DVR
  rintro q A H ⟨i, g1, g2, rfl, rfl⟩;by_cases hi : i < n.links.length
  · have hi3 : (i : Int) < (n.links.length : Int) := by omega
    have h1 := @outP_yes n t i;have h2 := @outP_no n t i;have h3 := outP_len n t i;generalize outP n t i = X at *
    (have:=NeI hi);(have:=NeI hi3);by_cases e : (n.links.getD i default).fro = t
    · replace h1 := h1 e
      clear h2;(have:=NeI e);(repeat' first|refine stW [0,1,2,4,5,6,11,21] ?_|refine fctI fun hf=>?_|refine twI (fun hc=>?_) fun hc=>?_);(refine lN [0, 32] ?_);exact ⟨_, by omega, i + 1, by omega, rfl, rfl, by rw [h1] <;> rfl⟩
    · replace h2 := h2 e
      clear h1;(have:=NeI e);(repeat' first|refine stW [0,1,2,4,5,6,11,21] ?_|refine fctI fun hf=>?_|refine twI (fun hc=>?_) fun hc=>?_);(refine lN [0, 32] ?_);exact ⟨_, by omega, i + 1, by omega, rfl, rfl, by rw [h2] <;> rfl⟩
  obtain rfl : i = n.links.length := by omega
  have hi3 : ¬ ((n.links.length : Int) < (n.links.length : Int)) := by omega
  generalize outP n t n.links.length = X at *
  (have:=NeI hi3);(repeat' first|refine stW [0,1,2,4,5,6,11,21] ?_|refine fctI fun hf=>?_|refine twI (fun hc=>?_) fun hc=>?_);exact DVR
theorem rCan_f (r : Rule) (t : ByteArray) (v : Int) (m : Nat) (hw : r.whn.length <= 281474976710656) : Pu 123 [ruleD r, ls t, li v] m (.tup [lb (canR t v r), lb (canR t v r && sureR t r)]) := by
  rw [<- canJ_all, <- sureJ_all];refine pcN 40 [.tmp 6,.tmp 7] [4,4] Tryz.func123 rfl [] ?_;(repeat' first|refine stW [0,1,2,3,6,7,8,9,10,11,16,27,34] ?_|refine fctI fun hf=>?_|refine twI (fun hc=>?_) fun hc=>?_);refine loop_swp [1, 2, 3, 8, 9, 10] [0] 48 (fun q A H => ∃ j : Nat, j <= r.whn.length /\ q = r.whn.length - j /\ A = [(1, ls t), (2, li v), (3, .ptr 0 0), (8, lb (canJ t v r j)), (9, lb (sureJ t r j)), (10, li j)] /\ H = [(0, .blk 61 (ruleC r))]) (by omega) ?_ ?_ ?_
  · rintro q A H ⟨j, k1, k2, rfl, rfl⟩;exact SDD
  · refine ⟨_, 0, by omega, rfl, ?_, ?_⟩
    · rw [show canJ t v r 0 = true from rfl, show sureJ t r 0 = true from rfl];exact DVR
    · exact DVR
  rintro q A H ⟨j, k1, k2, rfl, rfl⟩;by_cases hj : j < r.whn.length
  · have hj3 : (j : Int) < (r.whn.length : Int) := by omega
    have n1 := canJ_next (t := t) (v := v) hj;have n2 := sureJ_next (t := t) hj;generalize canJ t v r j = C at *
    generalize sureJ t r j = S at *
    (have:=NeI hj);(have:=NeI hj3);by_cases hn : (r.whn.getD j default).nod = t
    case neg =>
      rw [decide_eq_false hn, Bool.not_false, Bool.true_or, Bool.and_true] at n1;rw [decide_eq_false hn, Bool.and_false] at n2;(have:=NeI hn);(repeat' first|refine stW [0,1,2,3,6,7,8,9,10,11,16,27,34] ?_|refine fctI fun hf=>?_|refine twI (fun hc=>?_) fun hc=>?_);(refine lN [0] ?_);exact ⟨_, by omega, j + 1, by omega, rfl, by rw [n1, n2] <;> rfl, rfl⟩
    rw [decide_eq_true hn, Bool.not_true, Bool.false_or] at n1;rw [decide_eq_true hn, Bool.and_true] at n2;(have:=NeI hn);(repeat' first|refine stW [0,1,2,3,6,7,8,9,10,11,16,27,34] ?_|refine fctI fun hf=>?_|refine twI (fun hc=>?_) fun hc=>?_)
    · have hx : cndH v (r.whn.getD j default) = false := by
        unfold cndH;clear n1 n2;grind
      rw [hx, Bool.and_false] at n1;(refine lN [0] ?_);exact ⟨_, by omega, j + 1, by omega, rfl, by rw [n1, n2] <;> rfl, rfl⟩
    · have hx : cndH v (r.whn.getD j default) = true := by
        unfold cndH;clear n1 n2;grind
      rw [hx, Bool.and_true] at n1;(refine lN [0] ?_);exact ⟨_, by omega, j + 1, by omega, rfl, by rw [n1, n2] <;> rfl, rfl⟩
  obtain rfl : j = r.whn.length := by omega
  have hj3 : ¬ ((r.whn.length : Int) < (r.whn.length : Int)) := by omega
  generalize canJ t v r r.whn.length = C at *
  generalize sureJ t r r.whn.length = S at *
  (have:=NeI hj3);cases C
  · rw [Bool.false_and];(repeat' first|refine stW [0,1,2,3,6,7,8,9,10,11,16,27,34] ?_|refine fctI fun hf=>?_|refine twI (fun hc=>?_) fun hc=>?_);exact DVR
  · rw [Bool.true_and];(repeat' first|refine stW [0,1,2,3,6,7,8,9,10,11,16,27,34] ?_|refine fctI fun hf=>?_|refine twI (fun hc=>?_) fun hc=>?_);exact DVR
theorem rGreatest_f (l : List Rule) (k t : ByteArray) (v : Int) (m : Nat) (lo : rulOk l) : Pu 65 [ruleL l, ls k, ls t, li v] m (li (grI l t k v)) := by
  have hl1 := lo.1;unfold grI;rw [<- grK_all];refine pcN 59 [.tmp 8] [3] Tryz.func65 rfl [] ?_;(repeat' first|refine stW [0,1,2,3,8,9,10,11,12,13,17,26,46,57] ?_|refine fctI fun hf=>?_|refine twI (fun hc=>?_) fun hc=>?_);refine loop_swp [0, 1, 2, 3, 9, 10, 11] [] 32 (fun q A H => ∃ i : Nat, i <= l.length /\ q = l.length - i /\ A = [(0, ruleL l), (1, ls k), (2, ls t), (3, li v), (9, li (grK l t k v i).1), (10, lb (grK l t k v i).2), (11, li i)] /\ H = []) (by omega) ?_ ?_ ?_
  · rintro q A H ⟨i, g1, g2, rfl, rfl⟩;exact SDD
  · refine ⟨_, 0, by omega, rfl, ?_, ?_⟩
    · rw [show grK l t k v 0 = (0, false) from rfl];exact DVR
    · exact DVR
  rintro q A H ⟨i, g1, g2, rfl, rfl⟩;by_cases hi : i < l.length
  · have hi3 : (i : Int) < (l.length : Int) := by omega
    have hw := ruleOk_at lo hi;have hnx := grK_next (t := t) (k := k) (v := v) hi;have c1 := fun m => rCan_f (l.getD i default) t v m hw
    generalize hG : grK l t k v i = G at *
    obtain ⟨G1, G2⟩ := G;(have:=NeI hi);(have:=NeI hi3);by_cases hk : (l.getD i default).lnk = k
    case neg =>
      have e : grS t k v (G1, G2) (l.getD i default) = (G1, G2) := if_neg fun c => hk c.1
      rw [e] at hnx;clear e hG c1;(have:=NeI hk);(repeat' first|refine stW [0,1,2,3,8,9,10,11,12,13,17,26,46,57] ?_|refine fctI fun hf=>?_|refine twI (fun hc=>?_) fun hc=>?_);(refine lN [] ?_);exact ⟨_, by omega, i + 1, by omega, rfl, by rw [hnx] <;> rfl, rfl⟩
    have hS : ∀ b, canR t v (l.getD i default) = b -> grS t k v (G1, G2) (l.getD i default) = if b = true then (max G1 (l.getD i default).setg, G2 || sureR t (l.getD i default)) else (G1, G2) := fun b hb => by
      unfold grS;rw [hb];cases b
      · rw [if_neg fun c => absurd c.2 (by decide), if_neg (by decide)]
      · rw [if_pos ⟨hk, rfl⟩, if_pos rfl]
    (have:=NeI hk);clear hG;cases hcan : canR t v (l.getD i default) <;> simp only [hcan] at c1
    · rw [hS _ hcan, if_neg (by decide)] at hnx;clear hS;rw [Bool.false_and] at c1;cases G2;all_goals
        (repeat' first|refine stW [0,1,2,3,8,9,10,11,12,13,17,26,46,57] ?_|refine fctI fun hf=>?_|refine twI (fun hc=>?_) fun hc=>?_);(refine lN [] ?_);exact ⟨_, by omega, i + 1, by omega, rfl, by rw [hnx] <;> rfl, rfl⟩
    · rw [hS _ hcan, if_pos rfl] at hnx;clear hS;rw [Bool.true_and] at c1;generalize sureR t (l.getD i default) = S at *
      have h3 : G1 < (l.getD i default).setg ∨ ¬ G1 < (l.getD i default).setg := Decidable.em _;rcases h3 with h3 | h3
      all_goals
        first
          | rw [show max G1 (l.getD i default).setg = (l.getD i default).setg by omega] at hnx
          | rw [show max G1 (l.getD i default).setg = G1 by omega] at hnx
        (have:=NeI h3);cases G2
      all_goals
        first
          | rw [Bool.false_or] at hnx
          | rw [Bool.true_or] at hnx
        (repeat' first|refine stW [0,1,2,3,8,9,10,11,12,13,17,26,46,57] ?_|refine fctI fun hf=>?_|refine twI (fun hc=>?_) fun hc=>?_);(refine lN [] ?_);exact ⟨_, by omega, i + 1, by omega, rfl, by rw [hnx] <;> rfl, rfl⟩
  obtain rfl : i = l.length := by omega
  have hi3 : ¬ ((l.length : Int) < (l.length : Int)) := by omega
  (have:=NeI hi3);generalize grK l t k v l.length = G at *
  obtain ⟨G1, G2⟩ := G;cases G2
  · rw [if_neg (show ¬ (G1, false).2 = true from Bool.false_ne_true)];(repeat' first|refine stW [0,1,2,3,8,9,10,11,12,13,17,26,46,57] ?_|refine fctI fun hf=>?_|refine twI (fun hc=>?_) fun hc=>?_);exact DVR
  · rw [if_pos rfl];(repeat' first|refine stW [0,1,2,3,8,9,10,11,12,13,17,26,46,57] ?_|refine fctI fun hf=>?_|refine twI (fun hc=>?_) fun hc=>?_);exact DVR
class OutAt (l : List Int) (i : Nat) (k : outParam Nat) : Prop where
  h : l.getD i default = (k : Int)
theorem outAt {l : List Int} {i k : Nat} [h : OutAt l i k] : l.getD i default = (k : Int) := h.h
attribute [push_cast] outAt
theorem setsS_take {l : List Rule} {n : Net} {t : ByteArray} {v : Int} {i : Nat} (h : i < (outL n t).length) : (setsS l n t v).take (i + 1) = (setsS l n t v).take i ++ [grI l t ((outL n t).getD i default).name v] := by
  rw [take_snocD (by rw [setsS_len]; exact h), setsS_at h]
theorem rSettings_f (l : List Rule) (n : Net) (t : ByteArray) (v : Int) (m : Nat) (lo : rulOk l) (hl : n.links.length <= 1048576) : Pu 16 [ruleL l, netD n, ls t, li v] m (ints (setsS l n t v)) := by
  have k1 := fun m => rOut_f n t m hl
  have hSl := setsS_len l n t v;have hol : (outL n t).length <= n.links.length := List.length_filter_le ..;have hIl := outI_len n t;refine pcN 38 [.tmp 8] [31] Tryz.func16 rfl [64] ?_;(repeat' first|refine stW [0,1,2,3,5,8,9,10,11,18] ?_|refine fctI fun hf=>?_|refine twI (fun hc=>?_) fun hc=>?_);(refine sN 10 3 1 ?_);refine loop_swp [0, 2, 3, 5, 9, 10, 11] [0, 64] 72 (fun q A H => ∃ i : Nat, i <= (outL n t).length /\ q = (outL n t).length - i /\ A = [(0, ruleL l), (2, ls t), (3, li v), (5, .ptr 0 0), (9, ints (outI n t)), (10, .gl 64), (11, li i)] /\ H = [(0, .blk 25 (netC n)), (64, inLt ((setsS l n t v).take i))]) (by omega) ?_ ?_ ?_
  · rintro q A H ⟨i, g1, g2, rfl, rfl⟩;exact SDD
  · refine ⟨_, 0, by omega, rfl, ?_, ?_⟩
    · exact DVR
    · exact DVR
  rintro q A H ⟨i, g1, g2, rfl, rfl⟩;by_cases hi : i < (outL n t).length
  · have hi2 : i < (outI n t).length := by omega
    have hi3 : (i : Int) < ((outI n t).length : Int) := by omega
    obtain ⟨k, hk1, hk2, hk3⟩ := outI_at hi;have hk4 : (k : Int) < (n.links.length : Int) := by omega
    have k2 := fun m => rGreatest_f l ((outL n t).getD i default).name t v m lo
    have hnx := setsS_take (l := l) (v := v) hi;have hlt : ((setsS l n t v).take i).length = i := by rw [List.length_take]; omega
    rw [<- hk3] at hnx k2;generalize (setsS l n t v).take i = X at *
    haveI : OutAt (outI n t) i k := ⟨hk1⟩;clear k1;(have:=NeI hi2);(have:=NeI hi3);(have:=NeI hk2);(have:=NeI hk4);generalize grI l t (n.links.getD k default).name v = Y at *
    (repeat' first|(show SWp _ _ _ (.region _ _ true) _ _ _ _;refine xG mixed [64, 1000013] ?_)|refine stW [0,1,2,3,5,8,9,10,11,18] ?_|refine fctI fun hf=>?_|refine twI (fun hc=>?_) fun hc=>?_);(refine lR 224 64 [0, 224] ?_);exact ⟨_, by omega, i + 1, by omega, rfl, rfl, by rw [hnx] <;> rfl⟩
  obtain rfl : i = (outL n t).length := by omega
  have hi3 : ¬ (((outL n t).length : Int) < ((outI n t).length : Int)) := by omega
  have hall : (setsS l n t v).take (outL n t).length = setsS l n t v := by rw [<- hSl, List.take_length]
  rw [hall];generalize setsS l n t v = X at *
  (have:=NeI hi3);clear k1;(repeat' first|refine stW [0,1,2,3,5,8,9,10,11,18] ?_|refine fctI fun hf=>?_|refine twI (fun hc=>?_) fun hc=>?_);exact DVR

end Go.Proofs.YtlgfdfljnbncfaaGreat
