/-
  Contracts of functions of the program, over the engine.
  No condition.
-/
import Derived.Test.YtlgfdfljnbncfaaGreatCU9
import Derived.Test.YtlgfdfljnbncfaaGreatCU8
namespace Go.Proofs.YtlgfdfljnbncfaaGreat
open Go.Eng
set_option linter.all false
attribute [local irreducible] DCallsG SWp Fct CallQ XCallQ LCallQ XLCallQ drun xrun
set_option maxHeartbeats 64000000

theorem tankE_ne2 (n : Net) (l : List Rule) (t : ByteArray) : ¬ tankE n l t = 2 := by
  unfold tankE;split
  · decide
  · split
    · decide
    · split
      · decide
      · split <;> decide
theorem idx_nil43 (i : Int) : idx ([] : List (List PV)) i = [] := by
  unfold idx;cases i.toNat <;> rfl
theorem pv_nil43 : ([] : List PV).getD 0 default = .lit (.tuple #[]) := rfl
theorem noOut_d43 : noOut.d = .p (.lit (.bool false)) := rfl
attribute [push_cast] idx_nil43 pv_nil43 noOut_d43
theorem nodes_or (n : Net) : 0 < n.nodes.length ∨ ∃ k, n = ⟨[], k⟩ := by
  obtain ⟨nds, k⟩ := n;cases nds with
  | nil => exact .inr ⟨k, rfl⟩
  | cons x l => exact .inl (Nat.succ_pos _)
set_option maxRecDepth 20000 in
theorem safset_f (n : Net) (c : List Sect) (l : List Rule) (t : ByteArray) (v sec : Int) (m : Nat) (no : netOk n) (co : catOk c) (lo : rulOk l) (to : t.size <= 281474976710656) :
    Pu 3 [netD n, sectL c, ruleL l, ls t, li v, li sec] m (lb true) := by
  have k0 := fun m => awake43_f m
  have k1 := fun m => large43_f n l m no lo
  have k2 := fun m => many43_f c m co
  cases hL : lgB43 n l <;> simp only [hL] at k1
  case true =>
    refine pcN 150 [.tmp 12] [4] Tryz.func3 rfl [] ?_;(repeat' first|refine stW [0,1,2,3,4,5,6,12,13,14,15,16,17,18,20,22,34,81,107,126,129] ?_|refine fctI fun hf=>?_|refine twI (fun hc=>?_) fun hc=>?_);exact DVR
  cases hM : maB43 c <;> simp only [hM] at k2
  case true =>
    refine pcN 150 [.tmp 12] [4] Tryz.func3 rfl [] ?_;(repeat' first|refine stW [0,1,2,3,4,5,6,12,13,14,15,16,17,18,20,22,34,81,107,126,129] ?_|refine fctI fun hf=>?_|refine twI (fun hc=>?_) fun hc=>?_);exact DVR
  by_cases h60 : (60 : Int) < (t.size : Int)
  · (have:=NeI h60);refine pcN 150 [.tmp 12] [4] Tryz.func3 rfl [] ?_;(repeat' first|refine stW [0,1,2,3,4,5,6,12,13,14,15,16,17,18,20,22,34,81,107,126,129] ?_|refine fctI fun hf=>?_|refine twI (fun hc=>?_) fun hc=>?_);exact DVR
  (have:=NeI h60);obtain ⟨b1, b2, b3⟩ := lgB43_in hL;have k3 := fun m => Settings_f l n t v m lo no
  have k4 := fun m => MostS_f n c l t v sec m no co lo
  have k5 := fun m => rGiven_f n l t m lo no
  have k6 := fun m => rSettings_f l n t v m lo (by omega)
  have k7 := fun m => rCheck_f n c l t sec m no co lo
  cases hb : (netB n && rulesB l)
  · have e0 : (netB n && catB c && rulesB l) = false := by
      rw [Bool.and_right_comm, hb, Bool.false_and]
    rw [show setE43 n l t v = 1 from if_pos hb, if_neg (by decide)] at k3;rw [show mosE43 n c l t v sec = 1 from if_pos e0, if_neg (by decide)] at k4;rw [show givA n l t = (0, 1) from if_pos hb] at k5;rw [show safE n c l t sec = 1 from if_pos e0, if_neg (by decide)] at k7;clear k6;rcases nodes_or n with hz | ⟨k, rfl⟩
    · have hz3 : (0 : Int) < (n.nodes.length : Int) := by omega
      (have:=NeI hz);(have:=NeI hz3);refine pcN 150 [.tmp 12] [4] Tryz.func3 rfl [] ?_;(repeat' first|refine stW [0,1,2,3,4,5,6,12,13,14,15,16,17,18,20,22,34,81,107,126,129] ?_|refine fctI fun hf=>?_|refine twI (fun hc=>?_) fun hc=>?_);exact DVR
    · refine pcN 150 [.tmp 12] [4] Tryz.func3 rfl [] ?_;(repeat' first|refine stW [0,1,2,3,4,5,6,12,13,14,15,16,17,18,20,22,34,81,107,126,129] ?_|refine fctI fun hf=>?_|refine twI (fun hc=>?_) fun hc=>?_);exact DVR
  have h0 : ¬ (netB n && rulesB l) = false := by rw [hb]; decide
  have hb2 := hb;rw [Bool.and_eq_true] at hb2;by_cases te : tankE n l t = 0
  case neg =>
    have t2 := tankE_ne2 n l t;rw [show setE43 n l t v = tankE n l t from (if_neg h0).trans (if_pos te), if_neg te] at k3;rw [show givA n l t = (0, tankE n l t) from (if_neg h0).trans (if_neg te)] at k5;have hFE : mosE43 n c l t v sec = safE n c l t sec /\ ¬ safE n c l t sec = 0 := by
      by_cases e0 : (netB n && catB c && rulesB l) = false
      · rw [show mosE43 n c l t v sec = 1 from if_pos e0, show safE n c l t sec = 1 from if_pos e0];exact ⟨rfl, by decide⟩
      · rw [show mosE43 n c l t v sec = tankE n l t from (if_neg e0).trans (if_pos te), show safE n c l t sec = tankE n l t from (if_neg e0).trans (if_pos te)];exact ⟨rfl, te⟩
    obtain ⟨f1, f2⟩ := hFE;rw [f1, if_neg f2] at k4;rw [if_neg f2] at k7;clear f1;generalize safE n c l t sec = F at *
    generalize tankE n l t = E at *
    have e1 : F = F := rfl;have e2 : E = E := rfl;(have:=NeI te);(have:=NeI t2);(have:=NeI f2);(have:=NeI e1);(have:=NeI e2);clear k6;rcases nodes_or n with hz | ⟨k, rfl⟩
    · have hz3 : (0 : Int) < (n.nodes.length : Int) := by omega
      (have:=NeI hz);(have:=NeI hz3);refine pcN 150 [.tmp 12] [4] Tryz.func3 rfl [] ?_;(repeat' first|refine stW [0,1,2,3,4,5,6,12,13,14,15,16,17,18,20,22,34,81,107,126,129] ?_|refine fctI fun hf=>?_|refine twI (fun hc=>?_) fun hc=>?_);exact DVR
    · refine pcN 150 [.tmp 12] [4] Tryz.func3 rfl [] ?_;(repeat' first|refine stW [0,1,2,3,4,5,6,12,13,14,15,16,17,18,20,22,34,81,107,126,129] ?_|refine fctI fun hf=>?_|refine twI (fun hc=>?_) fun hc=>?_);exact DVR
  have htk := tankE_in te;have hlt := nix_lt n.nodes t;rw [show givA n l t = (nodeIx n.nodes t, 0) from (if_neg h0).trans (if_pos te)] at k5;obtain ⟨p, hp⟩ : ∃ p : Nat, nodeIx n.nodes t = (p : Int) := ⟨_, (Int.toNat_of_nonneg htk.2.1).symm⟩;have hpl : p < n.nodes.length := by omega
  have hpl3 : (p : Int) < (n.nodes.length : Int) := by omega
  have hp0 : (0 : Int) <= (p : Int) := by omega
  have hnA := nodeA_at hp;by_cases hv : v < (nodeA n t).inv ∨ (nodeA n t).gnd < v
  · rw [show setE43 n l t v = 2 from ((if_neg h0).trans (if_neg (not_not_intro te))).trans (if_pos hv), if_neg (by decide)] at k3;have hFE : mosE43 n c l t v sec = (if safE n c l t sec = 0 ∨ safE n c l t sec = 9 then 2 else safE n c l t sec) /\ ¬ mosE43 n c l t v sec = 0 := by
      by_cases e0 : (netB n && catB c && rulesB l) = false
      · rw [show mosE43 n c l t v sec = 1 from if_pos e0, show safE n c l t sec = 1 from if_pos e0];exact ⟨by decide, by decide⟩
      · rw [show mosE43 n c l t v sec = 2 from ((if_neg e0).trans (if_neg (not_not_intro te))).trans (if_pos hv), safE_sec (by rw [Bool.not_eq_false] at e0; exact e0) te];refine ⟨?_, by decide⟩;split
        · rfl
        · split <;> rfl
    obtain ⟨f1, f2⟩ := hFE;rw [if_neg f2, f1] at k4;rw [f1] at f2;clear f1;rw [hp] at k5 k7;rw [hnA] at hv;generalize safE n c l t sec = F at *
    (have:=NeI hpl);(have:=NeI hpl3);(have:=NeI hp0);clear k6 hlt;have hF : F = 0 ∨ F = 9 ∨ (¬ F = 0 /\ ¬ F = 9) := by omega
    have h1 : v < (n.nodes.getD p default).inv ∨ ¬ v < (n.nodes.getD p default).inv := Decidable.em _;rcases h1 with h1 | h1
    · (have:=NeI h1);rcases hF with rfl | rfl | ⟨q1, q2⟩
      · rw [if_pos (.inl rfl)] at k4;rw [if_pos rfl] at k7;refine pcN 150 [.tmp 12] [4] Tryz.func3 rfl [] ?_;(repeat' first|refine stW [0,1,2,3,4,5,6,12,13,14,15,16,17,18,20,22,34,81,107,126,129] ?_|refine fctI fun hf=>?_|refine twI (fun hc=>?_) fun hc=>?_);exact DVR
      · rw [if_pos (.inr rfl)] at k4;rw [if_neg (by decide)] at k7;refine pcN 150 [.tmp 12] [4] Tryz.func3 rfl [] ?_;(repeat' first|refine stW [0,1,2,3,4,5,6,12,13,14,15,16,17,18,20,22,34,81,107,126,129] ?_|refine fctI fun hf=>?_|refine twI (fun hc=>?_) fun hc=>?_);exact DVR
      · rw [if_neg (fun e => e.elim q1 q2)] at k4;rw [if_neg q1] at k7;have e1 : F = F := rfl;(have:=NeI q1);(have:=NeI q2);(have:=NeI e1);refine pcN 150 [.tmp 12] [4] Tryz.func3 rfl [] ?_;(repeat' first|refine stW [0,1,2,3,4,5,6,12,13,14,15,16,17,18,20,22,34,81,107,126,129] ?_|refine fctI fun hf=>?_|refine twI (fun hc=>?_) fun hc=>?_);exact DVR
    · have h2 := hv.resolve_left h1;(have:=NeI h1);(have:=NeI h2);rcases hF with rfl | rfl | ⟨q1, q2⟩
      · rw [if_pos (.inl rfl)] at k4;rw [if_pos rfl] at k7;refine pcN 150 [.tmp 12] [4] Tryz.func3 rfl [] ?_;(repeat' first|refine stW [0,1,2,3,4,5,6,12,13,14,15,16,17,18,20,22,34,81,107,126,129] ?_|refine fctI fun hf=>?_|refine twI (fun hc=>?_) fun hc=>?_);exact DVR
      · rw [if_pos (.inr rfl)] at k4;rw [if_neg (by decide)] at k7;refine pcN 150 [.tmp 12] [4] Tryz.func3 rfl [] ?_;(repeat' first|refine stW [0,1,2,3,4,5,6,12,13,14,15,16,17,18,20,22,34,81,107,126,129] ?_|refine fctI fun hf=>?_|refine twI (fun hc=>?_) fun hc=>?_);exact DVR
      · rw [if_neg (fun e => e.elim q1 q2)] at k4;rw [if_neg q1] at k7;have e1 : F = F := rfl;(have:=NeI q1);(have:=NeI q2);(have:=NeI e1);refine pcN 150 [.tmp 12] [4] Tryz.func3 rfl [] ?_;(repeat' first|refine stW [0,1,2,3,4,5,6,12,13,14,15,16,17,18,20,22,34,81,107,126,129] ?_|refine fctI fun hf=>?_|refine twI (fun hc=>?_) fun hc=>?_);exact DVR
  rw [show setE43 n l t v = 0 from ((if_neg h0).trans (if_neg (not_not_intro te))).trans (if_neg hv), if_pos rfl] at k3;have hFE : mosE43 n c l t v sec = safE n c l t sec := by
    by_cases e0 : (netB n && catB c && rulesB l) = false
    · rw [show mosE43 n c l t v sec = 1 from if_pos e0, show safE n c l t sec = 1 from if_pos e0]
    · exact ((if_neg e0).trans (if_neg (not_not_intro te))).trans (if_neg hv)
  rw [hFE] at k4;have hsl : (setsS l n t v).length <= 281474976710656 := by
    rw [setsS_len];have : (outL n t).length <= n.links.length := List.length_filter_le ..;omega
  have k8 := fun m => eqlInt_f (setsS l n t v) (setsS l n t v) m hsl hsl
  rw [decide_eq_true rfl] at k8;rw [hp] at k5;have h1 : ¬ v < (n.nodes.getD p default).inv := by rw [<- hnA]; omega
  have h2 : ¬ (n.nodes.getD p default).gnd < v := by rw [<- hnA]; omega
  (have:=NeI h1);(have:=NeI h2);(have:=NeI hpl);(have:=NeI hpl3);(have:=NeI hp0);by_cases hF : safE n c l t sec = 0
  · obtain ⟨hs, a, K⟩ := safE_in no co lo hF;have k9 := fun m => rLeaves_f n c t (setsS l n t v) v sec m no co K.nb K.cb K.kn (by unfold btwB; simp only [Bool.and_eq_true, decide_eq_true_eq]; omega) (setsS_len l n t v) (fun s hs => setsS_in (rules_in K.rb) hs) hs
    change ∀ m, DCalls _ _ _ _ _ (li (mostS n c l t v sec)) _ at k9;rw [hF, if_pos rfl] at k4 k7;rw [hp] at k7;have e1 : mostS n c l t v sec = mostS n c l t v sec := rfl;generalize mostS n c l t v sec = W at *
    generalize setsS l n t v = X at *
    (have:=NeI e1);clear hv hFE hnA hp hlt K;refine pcN 150 [.tmp 12] [4] Tryz.func3 rfl [] ?_;(repeat' first|refine stW [0,1,2,3,4,5,6,12,13,14,15,16,17,18,20,22,34,81,107,126,129] ?_|refine fctI fun hf=>?_|refine twI (fun hc=>?_) fun hc=>?_);exact DVR
  · rw [if_neg hF] at k4 k7;have e1 : safE n c l t sec = safE n c l t sec := rfl;clear hv hFE hnA hp hlt;generalize safE n c l t sec = F at *
    generalize setsS l n t v = X at *
    (have:=NeI hF);(have:=NeI e1);refine pcN 150 [.tmp 12] [4] Tryz.func3 rfl [] ?_;(repeat' first|refine stW [0,1,2,3,4,5,6,12,13,14,15,16,17,18,20,22,34,81,107,126,129] ?_|refine fctI fun hf=>?_|refine twI (fun hc=>?_) fun hc=>?_);exact DVR

end Go.Proofs.YtlgfdfljnbncfaaGreat
