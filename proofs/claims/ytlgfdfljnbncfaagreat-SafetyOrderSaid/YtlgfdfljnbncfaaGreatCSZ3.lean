/-
  Contracts of functions of the program, over the engine.
  No condition.
-/
import Derived.Test.YtlgfdfljnbncfaaGreatCU9
import Derived.Test.YtlgfdfljnbncfaaGreatCSO1
import Derived.Test.YtlgfdfljnbncfaaGreatCU2
namespace Go.Proofs.YtlgfdfljnbncfaaGreat
open Go.Eng
set_option linter.all false
attribute [local irreducible] DCallsG SWp Fct CallQ XCallQ LCallQ XLCallQ drun xrun
set_option maxHeartbeats 64000000

theorem TankIn.zero {n : Net} {c a : List Sect} {l : List Rule} {t : ByteArray} (K : TankIn n c l t a) {sec : Int} (hs : 1 <= sec /\ sec <= 86400) : safE n c l t sec = 0 :=
  (safE_sec (by rw [K.nb, K.cb, K.rb]; rfl) K.te).trans ((if_neg (not_not_intro hs)).trans (if_neg (by rw [K.fk]; intro e; cases e)))
theorem TankIn.two {n : Net} {c a : List Sect} {l : List Rule} {t : ByteArray} (K : TankIn n c l t a) {sec : Int} (hs : ¬ (1 <= sec /\ sec <= 86400)) : safE n c l t sec = 2 :=
  (safE_sec (by rw [K.nb, K.cb, K.rb]; rfl) K.te).trans (if_pos hs)
theorem ord_less {n : Net} {c a : List Sect} {l : List Rule} {t : ByteArray} (K : TankIn n c l t a) {sec : Int} (hs : 1 <= sec /\ sec <= 86400) {s : ByteArray} {p : Nat} (hp : linkIx n.links s = (p : Int)) (hr : (l.any fun r => decide (r.lnk = s)) = false) :
    safE ⟨n.nodes, n.links.eraseIdx p⟩ c l t sec = 0 /\ leastM (safM n c l t sec) (safS n l t) <= marR ⟨n.nodes, n.links.eraseIdx p⟩ c l t sec := by
  have hsub : (n.links.eraseIdx p).Sublist n.links := List.eraseIdx_sublist ..;have htk := tankE_in K.te;obtain ⟨b, K2⟩ := less_tank K hsub (List.Sublist.refl l) fun r h => by
    have h1 := List.all_eq_true.1 htk.1 r h;rw [knownR_eq, Bool.and_eq_true] at h1;refine erase_keeps K.ni hp (of_decide_eq_true h1.1) fun e => ?_
    have h2 := List.any_eq_false.1 hr r h;exact h2 (decide_eq_true e)
  refine ⟨K2.zero hs, ?_⟩;rw [show marR ⟨n.nodes, n.links.eraseIdx p⟩ c l t sec = _ from if_pos (K2.zero hs)];exact less_safe K hsub (by omega)
theorem lgB43_curve {n : Net} {l : List Rule} (h : lgB43 n l = false) : ∀ x, x ∈ n.links -> x.curve.length <= 1048576 := fun x hx => by
  unfold lgB43 at h;simp only [Bool.or_eq_false_iff] at h;have h1 := List.any_eq_false.1 h.1.2 x hx;unfold lgL43 at h1;simp only [Bool.or_eq_true, decide_eq_true_eq, not_or] at h1;omega
theorem saford1_f (r : Rule) (s : ByteArray) (m : Nat) : Pu 37 [ruleD r, .p (.ptr [.lit (.string s)])] m (lb (decide (r.lnk = s))) := by
  refine pcN 8 [.tmp 3] [4] Tryz.func37 rfl [] ?_;(repeat' first|refine stW [0,1,2,3] ?_|refine fctI fun hf=>?_|refine twI (fun hc=>?_) fun hc=>?_);exact DVR
set_option maxRecDepth 20000 in
theorem saford_f (n : Net) (c : List Sect) (l : List Rule) (t : ByteArray) (sec more : Int) (z : Int) (m : Nat) (no : netOk n) (co : catOk c) (lo : rulOk l) (to : t.size <= 281474976710656) (hsec : i64ok sec) (hmo : i64ok more) (hz : 0 <= z /\ z <= 255) :
    Pu 7 [netD n, sectL c, ruleL l, ls t, li sec, li more, lv (.int .u8 z)] m (lb true) := by
  have k0 := fun m => awake43_f m
  have k1 := fun m => large43_f n l m no lo
  have k2 := fun m => many43_f c m co
  cases hL : lgB43 n l <;> simp only [hL] at k1
  case true =>
    refine pcN 155 [.tmp 14] [4] Tryz.func7 rfl [] ?_;(repeat' first|refine stW [0,1,2,3,4,5,6,7,14,15,16,17,18,19,20,21,22,23,24,26,46,68,70,84,110,114,128] ?_|refine fctI fun hf=>?_|refine twI (fun hc=>?_) fun hc=>?_);exact DVR
  cases hM : maB43 c <;> simp only [hM] at k2
  case true =>
    refine pcN 155 [.tmp 14] [4] Tryz.func7 rfl [] ?_;(repeat' first|refine stW [0,1,2,3,4,5,6,7,14,15,16,17,18,19,20,21,22,23,24,26,46,68,70,84,110,114,128] ?_|refine fctI fun hf=>?_|refine twI (fun hc=>?_) fun hc=>?_);exact DVR
  by_cases h60 : (60 : Int) < (t.size : Int)
  · (have:=NeI h60);refine pcN 155 [.tmp 14] [4] Tryz.func7 rfl [] ?_;(repeat' first|refine stW [0,1,2,3,4,5,6,7,14,15,16,17,18,19,20,21,22,23,24,26,46,68,70,84,110,114,128] ?_|refine fctI fun hf=>?_|refine twI (fun hc=>?_) fun hc=>?_);exact DVR
  (have:=NeI h60);by_cases q1 : more < 0
  · (have:=NeI q1);refine pcN 155 [.tmp 14] [4] Tryz.func7 rfl [] ?_;(repeat' first|refine stW [0,1,2,3,4,5,6,7,14,15,16,17,18,19,20,21,22,23,24,26,46,68,70,84,110,114,128] ?_|refine fctI fun hf=>?_|refine twI (fun hc=>?_) fun hc=>?_);exact DVR
  (have:=NeI q1);by_cases q2 : 86400 < more
  · (have:=NeI q2);refine pcN 155 [.tmp 14] [4] Tryz.func7 rfl [] ?_;(repeat' first|refine stW [0,1,2,3,4,5,6,7,14,15,16,17,18,19,20,21,22,23,24,26,46,68,70,84,110,114,128] ?_|refine fctI fun hf=>?_|refine twI (fun hc=>?_) fun hc=>?_);exact DVR
  (have:=NeI q2);obtain ⟨b1, b2, b3⟩ := lgB43_in hL;have k3 := fun m => Margin_f n c l t sec m no co lo
  have k4 := fun m => Safe_f n c l t sec m no co lo
  by_cases hF : safE n c l t sec = 0
  case neg =>
    rw [show safR n c l t sec = (false, 0) from if_neg hF] at k4;rw [show marR n c l t sec = 0 from if_neg hF] at k3;generalize safE n c l t sec = F at *
    have e1 : F = F := rfl;(have:=NeI hF);(have:=NeI e1);refine pcN 155 [.tmp 14] [4] Tryz.func7 rfl [] ?_;(repeat' first|refine stW [0,1,2,3,4,5,6,7,14,15,16,17,18,19,20,21,22,23,24,26,46,68,70,84,110,114,128] ?_|refine fctI fun hf=>?_|refine twI (fun hc=>?_) fun hc=>?_);exact DVR
  obtain ⟨hs, a, K⟩ := safE_in no co lo hF;have k5 := fun m => Margin_f n c l t (sec + more) m no co lo
  have hsi := safe_iff (M := safM n c l t sec) (safS_ne n l t);rw [show safR n c l t sec = _ from if_pos hF, hF] at k4;rw [show marR n c l t sec = _ from if_pos hF, hF] at k3;have hmar : (safE n c l t (sec + more) = 0 /\ marR n c l t (sec + more) <= leastM (safM n c l t sec) (safS n l t)) ∨ safE n c l t (sec + more) = 2 := by
    by_cases q : 1 <= sec + more /\ sec + more <= 86400
    · refine .inl ⟨K.zero q, ?_⟩;rw [show marR n c l t (sec + more) = _ from if_pos (K.zero q)];refine leastM_mono _ fun h hh => ?_
      have h1 := K.stm hh;have h3 := K.fi.1;exact K.anti (by omega) (by omega)
    · exact .inr (K.two q)
  have hless := fun (p : Nat) (s : ByteArray) (hp : linkIx n.links s = (p : Int)) (hr : (l.any fun r => decide (r.lnk = s)) = false) => ord_less K hs hp hr
  have hcu := lgB43_curve hL;have hnm : ∀ p : Nat, p < n.links.length -> linkIx n.links (n.links.getD p default).name = (p : Int) := (idx_nodup Link.name n.links).2 K.ni.lu;have nb := K.nb;clear hF K;generalize safeI (safM n c l t sec) (safS n l t) = ok at *
  generalize atI (safM n c l t sec) (safS n l t) = B at *
  generalize leastM (safM n c l t sec) (safS n l t) = V at *
  generalize marR n c l t (sec + more) = W at *
  generalize safE n c l t (sec + more) = E2 at *
  have hokf : (ok = true /\ 0 <= V) ∨ (ok = false /\ ¬ 0 <= V) := by
    cases ok
    · exact .inr ⟨rfl, of_decide_eq_false hsi.symm⟩
    · exact .inl ⟨rfl, of_decide_eq_true hsi.symm⟩
  clear hsi;by_cases hz0 : n.links.length = 0
  · have hz1 : (n.links.length : Int) = 0 := by omega
    (have:=NeI hz1);clear hless hnm hcu;rcases hokf with ⟨rfl, hV⟩ | ⟨rfl, hV⟩
    all_goals
      (have:=NeI hV);rcases hmar with ⟨rfl, hW⟩ | rfl
    all_goals
      first
        | have hW2 : ¬ V < W := by omega
          (have:=NeI hW2)
        | skip
      refine pcN 155 [.tmp 14] [4] Tryz.func7 rfl [] ?_;(repeat' first|refine stW [0,1,2,3,4,5,6,7,14,15,16,17,18,19,20,21,22,23,24,26,46,68,70,84,110,114,128] ?_|refine fctI fun hf=>?_|refine twI (fun hc=>?_) fun hc=>?_);exact DVR
  have hz1 : ¬ (n.links.length : Int) = 0 := by omega
  obtain ⟨Z, rfl⟩ : ∃ Z : Nat, z = (Z : Int) := ⟨z.toNat, by omega⟩;have hrl : Z % n.links.length < n.links.length := Nat.mod_lt _ (by omega);have hrn := hnm _ hrl;have hmd : ((Z : Int)).tmod (n.links.length : Int) = ((Z % n.links.length : Nat) : Int) := by
    rw [Int.tmod_eq_emod_of_nonneg (by omega)]; rfl
  generalize hrr : Z % n.links.length = r at *
  haveI : ModOk (Z : Int) (n.links.length : Int) (r : Int) := ⟨hmd⟩;have hr3 : (r : Int) < (n.links.length : Int) := by omega
  have k6 := fun m => conRuleP_f 37 (.ptr [.lit (.string (n.links.getD r default).name)]) (fun x => decide (x.lnk = (n.links.getD r default).name)) l m lo.1 (fun x _ m => saford1_f x (n.links.getD r default).name m)
  have k7 := fun m => remove_f n (n.links.getD r default).name r m no nb hrn hcu
  have k8 := fun m => Margin_f ⟨n.nodes, n.links.eraseIdx r⟩ c l t sec m (netOk_sub no (List.eraseIdx_sublist ..)) co lo
  have hle := hless r (n.links.getD r default).name hrn;clear hless hnm hcu hrn hmd;(have:=NeI hz1);(have:=NeI hrl);(have:=NeI hr3);cases hany : (l.any fun x => decide (x.lnk = (n.links.getD r default).name)) <;> simp only [hany] at k6
  · obtain ⟨f1, f2⟩ := hle hany;rw [f1] at k8;clear hle;generalize marR ⟨n.nodes, n.links.eraseIdx r⟩ c l t sec = X at *
    generalize (⟨n.nodes, n.links.eraseIdx r⟩ : Net) = NL at *
    (have:=NeI f2);rcases hokf with ⟨rfl, hV⟩ | ⟨rfl, hV⟩
    all_goals
      (have:=NeI hV);rcases hmar with ⟨rfl, hW⟩ | rfl
    all_goals
      first
        | have hW2 : ¬ V < W := by omega
          (have:=NeI hW2)
        | skip
      refine pcN 155 [.tmp 14] [4] Tryz.func7 rfl [] ?_;(repeat' first|(show SWp _ _ _ (.seq (.region 19 _ _) _) _ _ _ _;refine (stop_in ?_))|(show SWp _ _ _ (.region _ _ true) _ _ _ _;refine xG mixed [800] ?_)|refine stW [0,1,2,3,4,5,6,7,14,15,16,17,18,19,20,21,22,23,24,26,46,68,70,84,110,114,128] ?_|refine fctI fun hf=>?_|refine twI (fun hc=>?_) fun hc=>?_);refine stop_out ?_;refine sF 800 (v := .blk 9 [ls (n.links.getD r default).name]) (x := .cells [.lit (.string (n.links.getD r default).name)]) ?_ (hx := rfl);(repeat' first|refine stW [0,1,2,3,4,5,6,7,14,15,16,17,18,19,20,21,22,23,24,26,46,68,70,84,110,114,128] ?_|refine fctI fun hf=>?_|refine twI (fun hc=>?_) fun hc=>?_);exact DVR
  · clear hle k7 k8;rcases hokf with ⟨rfl, hV⟩ | ⟨rfl, hV⟩
    all_goals
      (have:=NeI hV);rcases hmar with ⟨rfl, hW⟩ | rfl
    all_goals
      first
        | have hW2 : ¬ V < W := by omega
          (have:=NeI hW2)
        | skip
      refine pcN 155 [.tmp 14] [4] Tryz.func7 rfl [] ?_;(repeat' first|(show SWp _ _ _ (.seq (.region 19 _ _) _) _ _ _ _;refine (stop_in ?_))|(show SWp _ _ _ (.region _ _ true) _ _ _ _;refine xG mixed [800] ?_)|refine stW [0,1,2,3,4,5,6,7,14,15,16,17,18,19,20,21,22,23,24,26,46,68,70,84,110,114,128] ?_|refine fctI fun hf=>?_|refine twI (fun hc=>?_) fun hc=>?_);refine stop_out ?_;refine sF 800 (v := .blk 9 [ls (n.links.getD r default).name]) (x := .cells [.lit (.string (n.links.getD r default).name)]) ?_ (hx := rfl);(repeat' first|refine stW [0,1,2,3,4,5,6,7,14,15,16,17,18,19,20,21,22,23,24,26,46,68,70,84,110,114,128] ?_|refine fctI fun hf=>?_|refine twI (fun hc=>?_) fun hc=>?_);exact DVR

end Go.Proofs.YtlgfdfljnbncfaaGreat
