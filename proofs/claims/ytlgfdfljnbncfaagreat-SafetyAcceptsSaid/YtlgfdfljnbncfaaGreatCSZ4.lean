/-
  Contracts of functions of the program, over the engine.
  No condition.
-/
import Derived.Test.YtlgfdfljnbncfaaGreatCU9
import Derived.Test.YtlgfdfljnbncfaaGreatCSR5SR6
namespace Go.Proofs.YtlgfdfljnbncfaaGreat
open Go.Eng
set_option linter.all false
attribute [local irreducible] DCallsG SWp Fct CallQ XCallQ LCallQ XLCallQ drun xrun
set_option maxHeartbeats 64000000

def ac43 (x : Node) : Bool := x.prot && decide (100 < IntKind.i64.wrap (x.gnd - x.inv)) && decide (IntKind.i64.wrap (x.gnd - x.inv) <= 20000)
theorem ac1_43 (x : Node) (m : Nat) (hx : nodeOk x) : Pu 32 [nodeD x] m (lb (ac43 x)) := by
  unfold ac43;by_cases h1 : 100 < IntKind.i64.wrap (x.gnd - x.inv) <;> by_cases h2 : IntKind.i64.wrap (x.gnd - x.inv) <= 20000
  all_goals
    (have:=NeI h1);(have:=NeI h2);refine pcN 21 [.tmp 2] [4] Tryz.func32 rfl [] ?_;(repeat' first|refine stW [0,1,2] ?_|refine fctI fun hf=>?_|refine twI (fun hc=>?_) fun hc=>?_);exact DVR
set_option maxRecDepth 20000 in
theorem safacc_f (n : Net) (c : List Sect) (l : List Rule) (t : ByteArray) (sec : Int) (m : Nat) (no : netOk n) (co : catOk c) (lo : rulOk l) (to : t.size <= 281474976710656) :
    Pu 6 [netD n, sectL c, ruleL l, ls t, li sec] m (lb true) := by
  have k0 := fun m => awake43_f m
  have k1 := fun m => large43_f n l m no lo
  have k2 := fun m => many43_f c m co
  cases hL : lgB43 n l <;> simp only [hL] at k1
  case true =>
    refine pcN 91 [.tmp 10] [4] Tryz.func6 rfl [] ?_;(repeat' first|refine stW [0,1,2,3,4,5,10,11,12,13,14,15,17,34,45,63,77] ?_|refine fctI fun hf=>?_|refine twI (fun hc=>?_) fun hc=>?_);exact DVR
  cases hM : maB43 c <;> simp only [hM] at k2
  case true =>
    refine pcN 91 [.tmp 10] [4] Tryz.func6 rfl [] ?_;(repeat' first|refine stW [0,1,2,3,4,5,10,11,12,13,14,15,17,34,45,63,77] ?_|refine fctI fun hf=>?_|refine twI (fun hc=>?_) fun hc=>?_);exact DVR
  by_cases h60 : (60 : Int) < (t.size : Int)
  · (have:=NeI h60);refine pcN 91 [.tmp 10] [4] Tryz.func6 rfl [] ?_;(repeat' first|refine stW [0,1,2,3,4,5,10,11,12,13,14,15,17,34,45,63,77] ?_|refine fctI fun hf=>?_|refine twI (fun hc=>?_) fun hc=>?_);exact DVR
  (have:=NeI h60);have k3 := fun m => conNode_f 32 ac43 n.nodes m no.1.1 (fun x hx m => ac1_43 x m (no.1.2 x hx))
  cases hA : n.nodes.any ac43 <;> simp only [hA] at k3
  case true =>
    refine pcN 91 [.tmp 10] [4] Tryz.func6 rfl [] ?_;(repeat' first|refine stW [0,1,2,3,4,5,10,11,12,13,14,15,17,34,45,63,77] ?_|refine fctI fun hf=>?_|refine twI (fun hc=>?_) fun hc=>?_);exact DVR
  have k4 := fun m => Accepted_f n c l sec m no co lo
  have k5 := fun m => rAccepted_f n c l sec m no co lo
  have k6 := fun m => rCheck_f n c l t 1 m no co lo
  obtain ⟨k, hk⟩ := isStep_ex (stpP n c l t);have k7 := fun m => Step_f n c l t k m no co lo hk
  by_cases hF : safE n c l t 1 = 0
  case neg =>
    rw [if_neg hF, show stpE n c l t k = _ from if_neg hF] at k7;rw [if_neg hF] at k6;generalize safE n c l t 1 = F at *
    have e1 : F = F := rfl;(have:=NeI hF);(have:=NeI e1);cases accB n c l sec;all_goals
      refine pcN 91 [.tmp 10] [4] Tryz.func6 rfl [] ?_;(repeat' first|refine stW [0,1,2,3,4,5,10,11,12,13,14,15,17,34,45,63,77] ?_|refine fctI fun hf=>?_|refine twI (fun hc=>?_) fun hc=>?_);exact DVR
  obtain ⟨hs, a, K⟩ := safE_in no co lo hF;have k8 := fun m => rStep_f K k m hk
  rw [if_pos hF, show stpE n c l t k = _ from if_pos hF] at k7;rw [if_pos hF, hF] at k6;clear hF K hk;generalize nodeIx n.nodes t = ix at *
  have e1 : k = k := rfl;(have:=NeI e1);by_cases hk0 : k = 0
  · rw [if_pos hk0] at k7;(have:=NeI hk0);cases accB n c l sec;all_goals
      refine pcN 91 [.tmp 10] [4] Tryz.func6 rfl [] ?_;(repeat' first|refine stW [0,1,2,3,4,5,10,11,12,13,14,15,17,34,45,63,77] ?_|refine fctI fun hf=>?_|refine twI (fun hc=>?_) fun hc=>?_);exact DVR
  · rw [if_neg hk0] at k7;(have:=NeI hk0);cases accB n c l sec;all_goals
      refine pcN 91 [.tmp 10] [4] Tryz.func6 rfl [] ?_;(repeat' first|refine stW [0,1,2,3,4,5,10,11,12,13,14,15,17,34,45,63,77] ?_|refine fctI fun hf=>?_|refine twI (fun hc=>?_) fun hc=>?_);exact DVR

end Go.Proofs.YtlgfdfljnbncfaaGreat
