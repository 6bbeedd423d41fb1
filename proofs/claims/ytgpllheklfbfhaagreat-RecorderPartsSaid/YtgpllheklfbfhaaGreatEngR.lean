/-
  A part of the engine that reckons calls at the level of data.
  No condition.
-/

import Derived.Test.YtgpllheklfbfhaaGreatEngQ
namespace Go.Eng
set_option linter.all false
open Go.RowKit
section
variable [Dfr]
variable {P : Program} {B : Base} {N pin nx : Nat} {a : Act} {w : World}
def UX (nx : Nat) (listed : Array Bool) (i : Nat) : Prop := i < nx ∨ ∃ k, listed.getD k false = true /\ W8 (nx + 8 * k) i
def StX (B : Base) (N nx : Nat) (listed : Array Bool) (f : Nat -> DV) (h : Nat -> Option HV) (a : Act) (w : World) : Prop :=
  ∃ ρ S, HSat B (UX nx listed) ρ S w h /\ ESat N (UX nx listed) ρ S w f a
theorem UX_set {listed : Array Bool} {i : Nat} (hi : i < listed.size) (x : Nat) : (UX nx listed x ∨ W8 (nx + 8 * i) x) -> UX nx (listed.setIfInBounds i true) x := fun h => by
  rcases h with (h | ⟨k, k1, k2⟩) | h
  · exact .inl h
  · exact .inr ⟨k, getD_set_true k1, k2⟩
  · exact .inr ⟨i, by simp [hi], h⟩
theorem ActR_sound {ops : Array Oper} {j : Nat} {o : Oper} {c : Bool} {d : DV} {need : LH} {p : Pat} {f : Nat -> DV} {h : Nat -> Option HV} {listed : Array Bool} {Q : Exit -> Act -> World -> Prop} (hS : StX B N nx listed f h a w) (hpin : ∀ i, B.U0 i -> i < pin) (hle : pin <= nx)
    (hjs : j < listed.size) (hun : listed.getD j true = false) (hA : ActR P N pin nx ops j o f c d need p) (hN : ∀ x v, hget need x = some v -> h x = some v) :
    if Region.wanted o (yielded ops a.tmps) then o.wp P a w (fun a' w' => StX B N nx (listed.setIfInBounds j true) (fput f o.dst (wrapD o c d)) (papp p h) a' w') Q
    else StX B N nx (listed.setIfInBounds j true) (fput f o.dst (wrapD o c d)) (papp p h) (a.put o.dst undef) w := by
  obtain ⟨ρ, S, HS, ES⟩ := hS;obtain ⟨hg, hdst, hoks, hop⟩ := hA;have hfresh : ∀ i, W8 (nx + 8 * j) i -> ¬ UX nx listed i := fun i hi k => by
    rcases k with k | ⟨k, k1, k2⟩
    · unfold W8 at hi; omega
    · have := W8_eq hi k2;subst this;rw [getD_tf hun] at k1; cases k1
  have hnW : W8 (nx + 8 * j) (nx + 8 * j) := by unfold W8; omega
  have hn : ¬ UX nx listed (nx + 8 * j) := hfresh _ hnW;have hn0 : ¬ B.U0 (nx + 8 * j) := fun k => by have := hpin _ k; omega
  have hup := UX_set (nx := nx) hjs;have hw := guard_sound ES hg;rw [hw];have gsome : c = false -> o.guard.isSome = true := fun hc => by
    cases hgu : o.guard with
    | some x => rfl
    | none => simp [guardD, hgu, hc] at hg
  have wrap_rel : ∀ {ρ' : Nat -> Hd} {S' : Nat -> Prop} {w' : World} {d : DV} {v : Value}, c = true -> Rel ρ' S' w' d v -> Rel ρ' S' w' (wrapD o c d) v := fun hc hr => by
    unfold wrapD; split
    · simp only [Rel]; exact ⟨fun _ => hr, fun e => (by rw [hc] at e; cases e)⟩
    · exact hr
  have wrap_uses : ∀ {d : DV}, d.uses (UX nx (listed.setIfInBounds j true)) -> (wrapD o c d).uses (UX nx (listed.setIfInBounds j true)) := fun hr => by
    unfold wrapD; split
    · exact fun _ => hr
    · exact hr
  by_cases hc : c = true
  · rw [if_pos hc];rcases hop with ⟨g, args, C, hs', hco, _, hCp, hCn, hkeys, hcall, rfl⟩ | ⟨hco, out, hdo, rfl, hpre, hids, rfl⟩
    · have hcall := hcall hc;have hopx := oksD_all (callOf_pick hco) (hoks hc);obtain ⟨dst, op, ty, pos, after, guard⟩ := o;cases op with
      | call cc =>
        obtain ⟨callee, cargs, cts⟩ := cc;cases callee with
        | value gop =>
          simp only [callOf] at hco;split at hco
          · next k caps hk =>
            obtain ⟨rfl, rfl⟩ := Prod.mk.inj (Option.some.inj hco);have hgr := ev_rel ES (hopx gop (by simp [Op.operands, Call.operands]));have hgu := ev_uses ES (hopx gop (by simp [Op.operands, Call.operands]));rw [hk] at hgr hgu;simp only [Rel] at hgr;obtain ⟨cvs, hgv, hcr⟩ := hgr;have hargs := evs_rel ES cargs.toList fun x hx => hopx x (by simp only [Op.operands, Call.operands]; simp; right; simpa using hx)
            have hfin := hcall.frame (hf := h) hN hCn (h2 := papp (fun i => if c = true /\ ((hget need i).isSome = true ∨ (nx + 8 * j <= i /\ i < nx + 8 * j + 8)) then some (hget hs' i) else none) h)
              (fun i hi => .inl (by unfold papp; dsimp only; rw [if_pos ⟨hc, hi⟩]; rfl)) (fun i hi => .inl (by unfold papp; dsimp only; rw [if_neg (fun k => hi k.2)]; rfl))
            have hc1 := hfin.2 (UX nx listed) ρ S w (cargs.toList.map a.eval ++ cvs) HS.to0 hfresh (RelL_append hargs.1 hcr) (usesL_append hargs.2 hgu);refine call_wp (c := ⟨.value gop, cargs, cts⟩) rfl hgv hc1 ?_;rintro e w' ⟨v, ρ', S', rfl, H1, hr, hu⟩;refine ⟨v, rfl, ?_⟩;have H2 := HS.call (fun i k => .inl (by have := hpin i k; omega)) (fun i hi k => by have := hpin i k; have := hCp i hi; omega) H1;have E2 := ES.call HS.to0 (fun i k => .inl k) H1;exact ⟨ρ', S', H2.used hup, ESat.putf (E2.mono (fun _ _ => rfl) (fun _ k => k) (fun _ _ => rfl) hup) hdst (wrap_rel hc hr) (wrap_uses (uses_mono hup _ hu))⟩
          · cases hco
        | _ => cases hco
      | _ => cases hco
    · rw [show effC c out.e = out.e by rw [hc]; rfl];have hdo' : dop P (nx + 8 * j) pin o.op (ev f) h = some out := by
        rw [<- hdo];refine dop_local fun i hi => ?_
        obtain ⟨v, hv⟩ := Option.isSome_iff_exists.1 (hids i hi);rw [hv, hN i v hv]
      have := dop_sound' HS ES hn hn0 hpin hdo' (hpre hc) (hoks hc);obtain ⟨r, v, w', ρ', S', hrun, hrv, H1, E1, hr, hu, hfact, huq, happ⟩ := this;have hup1 : ∀ i, (UX nx listed i ∨ i = nx + 8 * j) -> UX nx (listed.setIfInBounds j true) i := fun i k => hup i (k.imp id (fun e => by rw [e]; exact hnW))
      have hfin : StX B N nx (listed.setIfInBounds j true) (fput f o.dst (wrapD o c (dx (nx + 8 * j) out.e out.d))) (papp (effPat (nx + 8 * j) out.e) h) (a.put o.dst v) w' := by
        cases he : out.e with
        | app old hv =>
          obtain ⟨ρ2, q1, q2, q3⟩ := happ old hv he;refine ⟨ρ2, S', ?_, ESat.putf (q2.mono (fun _ _ => rfl) (fun _ k => k) (fun _ _ => rfl) hup1) hdst (wrap_rel hc q3) (wrap_uses ?_)⟩
          · have e : papp (effPat (nx + 8 * j) (.app old hv)) h = upd (upd h old none) (nx + 8 * j) (some hv) := by
              funext i
              simp only [papp, effPat, upd];split
              · rfl
              · split <;> rfl
            rw [e]; exact q1.used hup1
          · exact hup _ (.inr hnW)
        | no =>
          rw [he] at H1 E1;exact ⟨ρ', S', H1.used hup1, ESat.putf (E1.mono (fun _ _ => rfl) (fun _ k => k) (fun _ _ => rfl) hup1) hdst (wrap_rel hc hr) (wrap_uses (uses_mono hup1 _ hu))⟩
        | add id hv =>
          rw [he] at H1 E1;have e : papp (effPat (nx + 8 * j) (.add id hv)) h = upd h id (some hv) := by
            funext i; simp only [papp, effPat, upd]; split <;> rfl
          rw [e];exact ⟨ρ', S', H1.used hup1, ESat.putf (E1.mono (fun _ _ => rfl) (fun _ k => k) (fun _ _ => rfl) hup1) hdst (wrap_rel hc hr) (wrap_uses (uses_mono hup1 _ hu))⟩
        | set id hv =>
          rw [he] at H1 E1;have e : papp (effPat (nx + 8 * j) (.set id hv)) h = upd h id (some hv) := by
            funext i; simp only [papp, effPat, upd]; split <;> rfl
          rw [e];exact ⟨ρ', S', H1.used hup1, ESat.putf (E1.mono (fun _ _ => rfl) (fun _ k => k) (fun _ _ => rfl) hup1) hdst (wrap_rel hc hr) (wrap_uses (uses_mono hup1 _ hu))⟩
      unfold Oper.wp;rw [hrun];rcases hrv with rfl | ⟨rfl, rfl⟩
      · exact hfin
      · exact hfin
  · rw [if_neg hc];have hcf : c = false := by simpa using hc
    have hp : papp p h = h := by
      rcases hop with ⟨g, args, C, hs', _, _, _, _, _, _, rfl⟩ | ⟨_, out, _, _, _, _, rfl⟩
      · funext i; simp [papp, hcf]
      · rw [hcf]; rfl
    rw [hp];refine ⟨ρ, S, HS.used fun i k => hup i (.inl k), ESat.putf (ES.mono (fun _ _ => rfl) (fun _ k => k) (fun _ _ => rfl) fun i k => hup i (.inl k)) hdst ?_ ?_⟩
    · simp only [wrapD, gsome hcf, if_true, Rel]; exact ⟨fun e => absurd e hc, fun _ => trivial⟩
    · simp only [wrapD, gsome hcf, if_true, DV.uses]; exact fun e => absurd e hc
theorem wpAny_of_X {ops : Array Oper} {M V : List Nat} {K : (Nat -> DV) -> (Nat -> Option HV) -> Prop} {Q : Exit -> Act -> World -> Prop} (hpin : ∀ i, B.U0 i -> i < pin) (hle : pin <= nx)
    (hQ : ∀ listed f h a w, listed.size = ops.size -> StX B N nx listed f h a w -> K f h -> Q .normal a w) : ∀ (fuel : Nat) (listed : Array Bool) (f : Nat -> DV) (h : Nat -> Option HV) (a : Act) (w : World), listed.size = ops.size -> StX B N nx listed f h a w -> wpAnyX P N pin nx ops M V K fuel listed f h -> wpAny P .any ops Q fuel listed a w
  | 0, listed, f, h, a, w, hsz, hS, hd => ⟨hd.1, hQ listed f h a w hsz hS hd.2⟩
  | fuel + 1, listed, f, h, a, w, hsz, hS, hd => by
    refine ⟨fun h0 => hQ listed f h a w hsz hS (hd.1 h0), fun i hi => ?_⟩;have := hd.2 i hi;obtain ⟨hun, o, ho, _⟩ := mem_ready.1 hi;unfold stX at this;unfold wpOp;rw [ho] at this ⊢;obtain ⟨c, d, need, p, hA, hF, hN, hk⟩ := this;have hs := ActR_sound (Q := Q) hS hpin hle (by rw [hsz]; exact (Array.getElem?_eq_some_iff.1 ho).1) hun hA hN;dsimp only;split
    · next hw => rw [if_pos hw] at hs; exact .inl (Oper.wp_mono (fun a' w' hS' => wpAny_of_X hpin hle hQ fuel _ _ _ a' w' (by simp [hsz]) hS' hk) hs)
    · next hw => rw [if_neg hw] at hs; exact wpAny_of_X hpin hle hQ fuel _ _ _ _ _ (by simp [hsz]) hs hk
def idOk (M : List Nat) (nx j i : Nat) : Bool := decide (i < nx) || (i - nx) / 8 == j || bef M ((i - nx) / 8) j
def hotB (ops : Array Oper) (nx : Nat) (V : List Nat) (i : Nat) : Bool := V.contains i || (decide (nx <= i) && eff ops ((i - nx) / 8))
def fpB (ops : Array Oper) (M : List Nat) (nx : Nat) (V : List Nat) (j : Nat) (ks ws : List Nat) : Bool :=
  (ws.all fun i => idOk M nx j i && ((decide (nx + 8 * j <= i) && decide (i < nx + 8 * j + 8)) || (effT ops V j && hotB ops nx V i && !exV V j i))) &&
  (ks.all fun i => idOk M nx j i) && (eff ops j || (List.range ops.size).all fun k => !(effT ops V k && k != j && !bef M k j && !bef M j k) || ks.all fun i => !(hotB ops nx V i && !exV V k i))
theorem idOk_spec {M : List Nat} {j i : Nat} (h : idOk M nx j i = true) : i < nx ∨ ∃ k, W8 (nx + 8 * k) i /\ (k = j ∨ bef M k j = true) := by
  unfold idOk at h;simp only [Bool.or_eq_true, decide_eq_true_eq, beq_iff_eq] at h;by_cases hlt : i < nx
  · exact .inl hlt
  · refine .inr ⟨(i - nx) / 8, by unfold W8; omega, ?_⟩;rcases h with (h | h) | h
    · exact absurd h hlt
    · exact .inl h
    · exact .inr h
theorem hotB_spec {ops : Array Oper} {V : List Nat} {i : Nat} : hotB ops nx V i = true ↔ hotP ops nx V i := by
  unfold hotB hotP;simp only [Bool.or_eq_true, List.contains_iff_mem, Bool.and_eq_true, decide_eq_true_eq];refine or_congr Iff.rfl ⟨fun ⟨h1, h2⟩ => ⟨_, h2, by unfold W8; omega⟩, fun ⟨k, k1, k2⟩ => ?_⟩;have : (i - nx) / 8 = k := by unfold W8 at k2; omega
  exact ⟨by unfold W8 at k2; omega, by rw [this]; exact k1⟩
theorem fpB_spec {ops : Array Oper} {M V : List Nat} {j : Nat} {ks ws : List Nat} {need : LH} {p : Pat} (h : fpB ops M nx V j ks ws = true) (hk : ∀ i, (hget need i).isSome = true -> i ∈ ks) (hw : ∀ i, p i ≠ none -> i ∈ ws ∨ W8 (nx + 8 * j) i) : FP ops M nx V j need p := by
  unfold fpB at h;rw [Bool.and_eq_true, Bool.and_eq_true] at h;obtain ⟨⟨h1, h2⟩, h3⟩ := h;simp only [Bool.and_eq_true, List.all_eq_true, Bool.or_eq_true, decide_eq_true_eq, Bool.not_eq_true'] at h1 h2;refine ⟨fun i hi => ?_, fun he k hk1 hk2 hk3 hk4 i hi => ?_, fun i hi => ?_⟩
  · rcases hw i hi with k | k
    · rcases (h1 i k).2 with q | q
      · exact .inr q
      · exact .inl ⟨q.1.1, hotB_spec.1 q.1.2, q.2⟩
    · exact .inr k
  · rw [he, Bool.false_or, List.all_eq_true] at h3;have hlt : k ∈ List.range ops.size := by
      rw [List.mem_range];have hk := effT_eff hk1;unfold eff at hk;split at hk
      · next o ho => exact (Array.getElem?_eq_some_iff.1 ho).1
      · cases hk
    have := h3 k hlt;rw [hk1, hk3, hk4, show (k != j) = true by simpa using hk2] at this;simp only [Bool.not_false, Bool.and_self, Bool.not_true, Bool.false_or, List.all_eq_true] at this;have := this i (hk i hi);intro hp;rw [hotB_spec.2 hp.1, hp.2] at this; cases this
  · rcases hi with hi | hi
    · exact idOk_spec (h2 i (hk i hi))
    · rcases hw i hi with k | k
      · exact idOk_spec (h1 i k).1
      · exact .inr ⟨j, k, .inl rfl⟩
def keysL : LH -> List Nat
  | [] => []
  | (i, _) :: r => i :: keysL r
theorem keysL_mem : ∀ {H : LH} {i : Nat}, (hget H i).isSome = true -> i ∈ keysL H
  | [], i, h => by cases h
  | (s, v) :: r, i, h => by
    simp only [hget] at h;split at h
    · next e => simp [keysL, e]
    · exact List.mem_cons_of_mem _ (keysL_mem h)
def hsub (H : LH) : List Nat -> LH
  | [] => []
  | i :: r => match hget H i with
    | some v => (i, v) :: hsub H r
    | none => hsub H r
theorem hsub_get (H : LH) : ∀ (l : List Nat) (i : Nat), hget (hsub H l) i = if i ∈ l then hget H i else none
  | [], i => by simp [hsub, hget]
  | j :: r, i => by
    simp only [hsub];cases e : hget H j with
    | none =>
      simp only [hsub_get H r i, List.mem_cons];by_cases k : i = j
      · subst k; simp [e]
      · simp [k]
    | some v =>
      simp only [hget, hsub_get H r i, List.mem_cons];by_cases k : i = j
      · subst k; simp [e]
      · simp [k]
def xstep (P : Program) (N pin nx : Nat) (ops : Array Oper) (M V : List Nat) (j : Nat) (o : Oper) (A : LE) (H : LH) (K : LE -> LH -> Prop) : Prop :=
  match guardD ops o (eget A) with
  | none => False
  | some c =>
    dstOk N o.dst = true /\ (c = true -> oksD (eget A) o.op = true) /\
    match callOf P o.op (ev (eget A)) with
    | some (g, args) => ∃ C d need hs', effB o.op = true /\ (∀ i, i ∈ C -> pin <= i) /\ (∀ i, i ∈ C -> (hget need i).isSome = true) /\ subH H need /\ keysIn need (nx + 8 * j) hs' /\ ((need = [] /\ hs' = []) ∨ c = true) /\
        (c = true -> DCallsG P g C args (hget need) (nx + 8 * j) d (hget hs')) /\ fpB ops M nx V j (keysL need) (keysL need) = true /\ (∀ i, W8 (nx + 8 * j) i -> hget H i = none) /\ K (eput A o.dst (wrapD o c d)) (hpat H need hs')
    | none => match dop P (nx + 8 * j) pin o.op (ev (eget A)) (hget H) with
      | none => False
      | some out => (c = true -> out.pre) /\ (opIds o.op (ev (eget A))).all (fun i => (hget H i).isSome) = true /\ fpB ops M nx V j (opIds o.op (ev (eget A))) (effIds (effC c out.e)) = true /\
          K (eput A o.dst (wrapD o c (dx (nx + 8 * j) out.e out.d))) (effHX (nx + 8 * j) H (effC c out.e))
def xrun (P : Program) (N pin nx : Nat) (ops : Array Oper) (M V : List Nat) : List Oper -> Nat -> LE -> LH -> (LE -> LH -> Prop) -> Prop
  | [], _, A, H, K => K A H
  | o :: os, j, A, H, K => xstep P N pin nx ops M V j o A H fun A' H' => xrun P N pin nx ops M V os (j + 1) A' H' K
theorem xstep_spec {ops : Array Oper} {M V : List Nat} {j : Nat} {o : Oper} {A : LE} {H : LH} {K : LE -> LH -> Prop} (hd : xstep P N pin nx ops M V j o A H K) :
    ∃ c d need p A' H', ActR P N pin nx ops j o (eget A) c d need p /\ FP ops M nx V j need p /\ (∀ x v, hget need x = some v -> hget H x = some v) /\ eget A' = fput (eget A) o.dst (wrapD o c d) /\ hget H' = papp p (hget H) /\ K A' H' := by
  unfold xstep at hd;cases hg : guardD ops o (eget A) with
  | none => rw [hg] at hd; exact hd.elim
  | some c =>
    rw [hg] at hd;obtain ⟨h1, h2, h3⟩ := hd;cases hco : callOf P o.op (ev (eget A)) with
    | some ga =>
      obtain ⟨g, args⟩ := ga;rw [hco] at h3;obtain ⟨C, d, need, hs', k0, k1, k2, k3, k4, k5, k6, k7, k8, k9⟩ := h3;refine ⟨c, d, need, _, _, _, ⟨hg, h1, h2, .inl ⟨g, args, C, hs', hco, k0, k1, k2, k4, k6, rfl⟩⟩, fpB_spec k7 (fun i hi => keysL_mem hi) (fun i hi => ?_), subH_get k3, eget_eput _ _ _, ?_, k9⟩
      · by_cases q : c = true /\ ((hget need i).isSome = true ∨ (nx + 8 * j <= i /\ i < nx + 8 * j + 8))
        · rcases q.2 with q | q
          · exact .inl (keysL_mem q)
          · exact .inr q
        · rw [if_neg q] at hi; exact absurd rfl hi
      · funext i
        have := hpat_eq k3 k4 i;by_cases q : (hget need i).isSome = true ∨ W8 (nx + 8 * j) i
        · rw [this.1 q (k8 i)];unfold papp;dsimp only;by_cases hc : c = true
          · rw [if_pos ⟨hc, q⟩]; rfl
          · rw [if_neg (fun k => hc k.1)];obtain ⟨rfl, rfl⟩ := k5.resolve_right hc;rcases q with q | q
            · cases q
            · simp [hget, k8 i q]
        · rw [this.2 q];unfold papp;dsimp only;rw [if_neg (fun k => q k.2)]; rfl
    | none =>
      rw [hco] at h3;dsimp only at h3;cases hdo : dop P (nx + 8 * j) pin o.op (ev (eget A)) (hget H) with
      | none => rw [hdo] at h3; exact h3.elim
      | some out =>
        rw [hdo] at h3;obtain ⟨k1, k3, k4, k5⟩ := h3;rw [List.all_eq_true] at k3;refine ⟨c, dx (nx + 8 * j) out.e out.d, hsub H (opIds o.op (ev (eget A))), effPat (nx + 8 * j) (effC c out.e), _, _, ⟨hg, h1, h2, .inr ⟨hco, out, ?_, rfl, k1, fun i hi => ?_, rfl⟩⟩, fpB_spec k4 (fun i hi => ?_) (fun i hi => ?_), fun x v hx => ?_, eget_eput _ _ _, effHX_eq _ _ _, k5⟩
        · rw [<- hdo];exact dop_local fun i hi => by rw [hsub_get, if_pos hi]
        · rw [hsub_get, if_pos hi]; exact k3 i hi
        · rw [hsub_get] at hi;by_cases q : i ∈ opIds o.op (ev (eget A))
          · exact q
          · rw [if_neg q] at hi; cases hi
        · have hown : W8 (nx + 8 * j) (nx + 8 * j) := by unfold W8; omega
          cases he : effC c out.e with
          | no => rw [he] at hi; exact absurd rfl hi
          | add id v =>
            rw [he] at hi; simp only [effPat] at hi;by_cases q : i = id
            · exact .inl (by simp [effIds, q])
            · rw [if_neg q] at hi; exact absurd rfl hi
          | set id v =>
            rw [he] at hi; simp only [effPat] at hi;by_cases q : i = id
            · exact .inl (by simp [effIds, q])
            · rw [if_neg q] at hi; exact absurd rfl hi
          | app old v =>
            rw [he] at hi; simp only [effPat] at hi;by_cases q : i = nx + 8 * j
            · exact .inr (q ▸ hown)
            · rw [if_neg q] at hi;by_cases q2 : i = old
              · exact .inl (by simp [effIds, q2])
              · rw [if_neg q2] at hi; exact absurd rfl hi
        · rw [hsub_get] at hx;by_cases q : x ∈ opIds o.op (ev (eget A))
          · rwa [if_pos q] at hx
          · rw [if_neg q] at hx; cases hx
theorem wpAnyX_lex {ops : Array Oper} {M V : List Nat} (hX : XOk ops M) {K : LE -> LH -> Prop} : ∀ (l : List Oper) (k : Nat) (listed : Array Bool) (A : LE) (H : LH), (∀ j, l[j]? = ops[k + j]?) -> listed.size = ops.size -> closedX ops listed -> (∀ j, j < k -> listed.getD j true = true) ->
    lexR ops l.length k listed = true -> xrun P N pin nx ops M V l k A H K -> wpAnyX P N pin nx ops M V (fun f h => ∃ A' H', eget A' = f /\ hget H' = h /\ K A' H') l.length listed (eget A) (hget H)
  | [], _, _, A, H, _, _, _, _, hB, hd => ⟨by simpa [lexR] using hB, A, H, rfl, rfl, hd⟩
  | o :: l, k, listed, A, H, hl, hsz, hcl, hpre, hB, hd => by
    have h0 : ops[k]? = some o := by simpa using (hl 0).symm
    simp only [List.length_cons, lexR, Bool.and_eq_true] at hB;obtain ⟨hr, hB'⟩ := hB;have hr' : k ∈ Region.ready .any ops listed := by simpa using hr
    obtain ⟨c, d, need, p, A', H', hA, hF, hN, eA, eH, hK⟩ := xstep_spec hd;refine wpAnyX_first hX h0 hF l.length listed (eget A) (hget H) hsz hcl hpre hr' hA hN ?_;rw [<- eA, <- eH];refine wpAnyX_lex hX l (k + 1) _ _ _ (fun j => by have := hl (j + 1); simpa [Nat.add_assoc, Nat.add_comm 1 j] using this) (by simp [hsz]) (closed_set hcl hr') (fun j hj => ?_) hB' hK;by_cases e : k = j
    · subst e;have : k < listed.size := by rw [hsz]; exact (Array.getElem?_eq_some_iff.1 h0).1
      simp [this]
    · rw [getD_set_ne true e]; exact hpre j (by omega)
theorem swp_drawX {Q : Exit -> LE -> LH -> Nat -> Prop} {A : LE} {H : LH} (hm : P.follows .mixedOrders = true) {id : Nat} {ops : Array Oper} (M V : List Nat) (ho : xB ops M = true) (h : xrun P N pin nx ops M V ops.toList 0 A H fun A' H' => Q .normal A' H' (nx + 8 * ops.toList.length)) :
    SWp P N pin (.region id ops true) Q A H nx := fun hp B hB a w hS => by
  obtain ⟨hX, hlex⟩ := xB_spec ho;obtain ⟨ρ, S, HS, ES⟩ := hS;have hno : ∀ k, (Array.replicate ops.size false).getD k false = true -> False := fun k hk => by
    by_cases q : k < ops.size
    · simp [q] at hk
    · simp [q] at hk
  have hU : ∀ i, i < nx -> UX nx (Array.replicate ops.size false) i := fun i k => .inl k
  have hS0 : StX B N nx (Array.replicate ops.size false) (eget A) (hget H) a { w with drawn := w.drawn + 1 } :=
    ⟨ρ, S, (HS.used hU).grow (fun _ _ => rfl) (Nat.le_refl _) rfl rfl rfl, ES.mono (fun _ _ => rfl) (fun _ k => k) (fun _ _ => rfl) hU⟩
  have hcl : closedX ops (Array.replicate ops.size false) := fun k o ho hk => by
    have : k < ops.size := (Array.getElem?_eq_some_iff.1 ho).1;simp [this] at hk
  have hlex' : lexR ops ops.toList.length 0 (Array.replicate ops.size false) = true := by simpa using hlex
  have h1 := wpAnyX_lex hX ops.toList 0 (Array.replicate ops.size false) A H (by simp) (by simp) hcl (fun j hj => by omega) hlex' h;refine wp_region_any hm ?_;have h2 := wpAny_of_X (Q := fun e a' w' => ∃ A' H' nx', pin <= nx' /\ St B N nx' A' H' a' w' /\ Q e A' H' nx') hB hp (fun listed f hh a' w' hsz hS' hK => ?_) _ _ _ _ _ _ (by simp) hS0 h1
  · simpa using h2
  · obtain ⟨A', H', rfl, rfl, hK⟩ := hK;obtain ⟨ρ', S', HS', ES'⟩ := hS';have hU' : ∀ i, UX nx listed i -> i < nx + 8 * ops.toList.length := fun i k => by
      rcases k with k | ⟨k, k1, k2⟩
      · omega
      · have : k < listed.size := by
          rcases Nat.lt_or_ge k listed.size with q | q
          · exact q
          · simp [Array.getElem?_eq_none q] at k1
        have e : listed.size = ops.toList.length := by rw [hsz]; simp
        unfold W8 at k2; omega
    exact ⟨A', H', _, by omega, ⟨ρ', S', HS'.used hU', ES'.mono (fun _ _ => rfl) (fun _ k => k) (fun _ _ => rfl) hU'⟩, hK⟩
end
end Go.Eng
