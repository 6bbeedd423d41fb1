/-
  Contracts of functions of the program, over the engine.
  No condition.
-/
import Derived.Test.YtlailhdmgehniaaCC33C34C35KSC36K1K2
import Derived.Test.YtlailhdmgehniaaCV4V5V6V7
import Derived.Test.YtlailhdmgehniaaCR10R11CLR12
import Derived.Test.YtlailhdmgehniaaCS11R1R2R3R4
import Derived.Test.YtlailhdmgehniaaCP14T2ELU1C18U4
import Derived.Test.YtlailhdmgehniaaCC25C29C30C31C32
namespace Go.Proofs.Ytlailhdmgehniaa
open Go.Eng
set_option linter.all false
attribute [local irreducible] DCallsG SWp Fct CallQ XCallQ LCallQ XLCallQ drun xrun
section
open Go.Eng
def keepD (o b : Nat) : DV → DV
  | .gl i => if i = o then .gl i else .junk
  | .ptr i off => if i = b then .ptr i off else .junk
  | .p (.lit v) => .p (.lit v)
  | _ => .junk
def keepE (o b : Nat) : LE → LE
  | [] => []
  | (s, d) :: A => (s, keepD o b d) :: keepE o b A
theorem keepE_get (o b : Nat) : ∀ (A : LE) (t : Nat), eget (keepE o b A) t = keepD o b (eget A t)
  | [], _ => rfl
  | (s, d) :: A, t => by
    simp only [keepE, eget]
    split
    · rfl
    · exact keepE_get o b A t
def plainD (b : Nat) : DV → Bool
  | .p _ => true
  | .ptr _ _ => true
  | .gl i => decide (i ≠ b)
  | .mref _ => true
  | .junk => true
  | _ => false
theorem plain_get {b : Nat} : ∀ {A : LE} (t : Nat), A.all (fun e => plainD b e.2) = true → plainD b (eget A t) = true
  | [], _, _ => rfl
  | (s, d) :: A, t, h => by
    simp only [List.all_cons, Bool.and_eq_true] at h
    simp only [eget]
    split
    · exact h.1
    · exact plain_get t h.2
theorem plain_rel {ρ : Nat → Hd} {S S' : Nat → Prop} {w : World} {b : Nat} {g : Hd} (hg : g.a = (ρ b).a) (hS : ∀ c, S c → S' c) {d : DV} {v : Value} (hd : plainD b d = true) (h : Rel ρ S w d v) : Rel (upd ρ b g) S' w d v := by
  have ha : ∀ i, (upd ρ b g i).a = (ρ i).a := fun i => by
    by_cases e : i = b
    · subst e; rw [upd_same]; exact hg
    · rw [upd_ne _ _ e]
  cases d with
  | p x => simp only [Rel] at h ⊢; exact h.mono hS fun _ _ => rfl
  | ptr id off => simp only [Rel] at h ⊢; rw [ha]; exact h
  | gl id =>
    simp only [Rel] at h ⊢
    rw [upd_ne _ _ (of_decide_eq_true hd)]; exact h
  | mref id => simp only [Rel] at h ⊢; rw [ha]; exact h
  | junk => simp only [Rel]
  | _ => cases hd
section
variable {P : Program} {N pin nx : Nat}
def meltK2 (P : Program) (N pin o b : Nat) (H : LH) (z : Code) (Q : Exit → LE → LH → Nat → Prop) : Exit → LE → LH → Nat → Prop := fun e A _ nx =>
  match e with
  | .normal => SWp P N pin z Q (keepE o b A) H nx
  | _ => False
def lentK (P : Program) (N nx : Nat) (K : Exit → LE → LH → Nat → Prop) : List (List Nat × Code) → Exit → LE → LH → Nat → Prop
  | [] => K
  | gy :: r => thenK P N nx gy.1 gy.2 (lentK P N nx K r)
def lentC (z : Code) : List (List Nat × Code) → Code
  | [] => z
  | gy :: r => .seq gy.2 (lentC z r)
theorem swp_lent2 {x z : Code} (ps : List (List Nat × Code)) {Q : Exit → LE → LH → Nat → Prop} {A : LE} {H : LH} {o b r n : Nat} {t tb : TypeId} {Lo : List (List DV)} {hvr : HV} {xr : FV} {l : List (List PV)} {cs : List PV}
    (hro : o ≠ r) (hob : o ≠ b) (ho : hget H o = some (.lst t n Lo)) (hr : hget H r = some hvr) (hx : hvr.fv = some xr)
    (hL : Lo.map (DV.frzL r xr) = l.map (List.map .p)) (hb : hget H b = some (.blk tb (cs.map .p))) (hA : A.all (fun e => plainD b e.2) = true)
    (h : SWp P N nx x (lentK P N nx (meltK2 P N pin o b H z Q) ps) A [(o, .lent n l), (b, .lent cs.length [cs])] nx) : SWp P N pin (.seq x (lentC z ps)) Q A H nx := by
  unfold SWp at h ⊢
  intro hp B hB a w hS
  obtain ⟨ρ, S, HS, ES⟩ := hS
  have H0 := HS.to0
  have hz := HSat.frz (HSat0.to (C := fun _ => True) (U0 := fun _ => False) H0 (fun _ _ _ => .inl trivial)) hr hx (fun k => k)
  have hzo : hfrz r xr (hget H) o = some (.lst t n (l.map (List.map .p))) := by
    unfold hfrz
    rw [if_neg hro, ho, ← hL]; rfl
  have hO := hz.heap o _ hzo
  have hoU := (HS.heapU o _ ho).1
  have hbU := (HS.heapU b _ hb).1
  generalize hS1 : Sfrz S (hblk (ρ r) hvr) = S1 at hz hO
  have hS01 : ∀ c, S c → S1 c := fun c k => by subst hS1; exact .inl k
  have hP : PRel (Sfrz S1 (hblk (ρ o) (.lst t n (l.map (List.map .p))))) w (.dat n l) (.slice (ρ o).a (ρ o).len (ρ o).cap) := frz_lst hO
  have hl : (ρ o).len = l.length ∧ l.length ≤ BL := by
    simp only [HRel, List.length_map] at hO
    exact ⟨hO.1, hO.2.1⟩
  have hB0 := HS.heap b _ hb
  have hBl : ∀ bb, hblk (ρ b) (.blk tb (cs.map .p)) = some bb → bb < w.heap.size := fun _ => hblk_lt hB0
  simp only [HRel] at hB0
  obtain ⟨bb, vs, fz, k1, k2, k3, k4⟩ := hB0
  have hbb : bb < w.heap.size := hBl bb (by simp [hblk, k1])
  have hS2lt : ∀ c, Sfrz S1 (hblk (ρ o) (.lst t n (l.map (List.map .p)))) c → c < w.heap.size := fun c hc => by
    rcases hc with hc | hc
    · exact hz.sIn c hc
    · exact hblk_lt hO hc
  generalize hS2 : Sfrz S1 (hblk (ρ o) (.lst t n (l.map (List.map .p)))) = S2 at hP hS2lt
  have hS12 : ∀ c, S1 c → S2 c := fun c k => by subst hS2; exact .inl k
  obtain ⟨S3, hS3⟩ : ∃ S3 : Nat → Prop, S3 = fun c => S2 c ∨ c = bb := ⟨_, rfl⟩
  have hS23 : ∀ c, S2 c → S3 c := fun c k => by subst hS3; exact .inl k
  have hS3b : S3 bb := by subst hS3; exact .inr rfl
  have hS03 : ∀ c, S c → S3 c := fun c k => hS23 c (hS12 c (hS01 c k))
  have hS3lt : ∀ c, S3 c → c < w.heap.size := fun c hc => by
    subst hS3
    rcases hc with hc | hc
    · exact hS2lt c hc
    · rw [hc]; exact hbb
  have hvl := RelL_length k3
  rw [List.length_map] at hvl
  have hPb : PRel S3 w (.dat cs.length [cs]) (.slice (ρ b).a 1 1) := by
    refine .dat cs.length [cs] (ρ b).a bb 0 1 (fun _ j => vs.getD j default) (by simp [BL]) (by simp) (fun _ => ⟨k1, hS3b⟩) (fun i hi => ?_) (fun i j hi hj => ?_) (fun i j hi hj => ?_)
    · obtain rfl : i = 0 := by simpa using hi
      rfl
    · obtain rfl : i = 0 := by simpa using hi
      rw [Nat.zero_mul, Nat.zero_add, Nat.zero_add]
      exact cell?_heap k2 (by omega)
    · obtain rfl : i = 0 := by simpa using hi
      have := RelL_get k3 j (by simpa using hj)
      rw [List.getD_eq_getElem?_getD, List.getElem?_map, List.getElem?_eq_getElem hj] at this
      show PRel S3 w (cs.getD j default) (vs.getD j default)
      rw [List.getD_eq_getElem?_getD, List.getElem?_eq_getElem hj]
      simp only [Option.map_some, Option.getD_some, Rel] at this ⊢
      exact this.mono hS03 fun _ _ => rfl
  obtain ⟨ρ', hρ'⟩ : ∃ ρ' : Nat → Hd, ρ' = upd ρ b { a := (ρ b).a, len := 1, cap := 1 } := ⟨_, rfl⟩
  have hρo : ρ' o = ρ o := by subst hρ'; exact upd_ne _ _ hob
  have hρb : ρ' b = { a := (ρ b).a, len := 1, cap := 1 } := by subst hρ'; exact upd_same ..
  have key : ∀ i v, hget [(o, HV.lent n l), (b, HV.lent cs.length [cs])] i = some v → (i = o ∧ v = .lent n l) ∨ (i = b ∧ v = .lent cs.length [cs]) := fun i v k => by
    simp only [hget] at k
    split at k
    · next e => exact .inl ⟨e, (Option.some.inj k).symm⟩
    · split at k
      · next e => exact .inr ⟨e, (Option.some.inj k).symm⟩
      · cases k
  have kblk : ∀ i v c, hget [(o, HV.lent n l), (b, HV.lent cs.length [cs])] i = some v → hblk (ρ' i) v = some c → False := fun i v c k e => by
    rcases key i v k with ⟨_, rfl⟩ | ⟨_, rfl⟩ <;> cases e
  have H1 : HSat0 (fun i => i < nx) ρ' S3 w (hget [(o, .lent n l), (b, .lent cs.length [cs])]) := {
    heap := fun i v k => by
      rcases key i v k with ⟨rfl, rfl⟩ | ⟨rfl, rfl⟩
      · simp only [HRel]
        rw [hρo]
        exact ⟨hl.1, hl.2, hP.mono hS23 fun _ _ => rfl⟩
      · simp only [HRel]
        rw [hρb]
        exact ⟨rfl, by simp [BL], hPb⟩
    heapU := fun i v k => by
      rcases key i v k with ⟨rfl, rfl⟩ | ⟨rfl, rfl⟩
      · exact ⟨hoU, trivial⟩
      · exact ⟨hbU, trivial⟩
    disj := fun i j v u c hi hj hbi hbj => (kblk i v c hi hbi).elim
    sep := fun i v c hi hb => (kblk i v c hi hb).elim
    sIn := hS3lt }
  have ES1 : ESat N (fun i => i < nx) ρ' S3 w (eget A) a := ⟨ES.size, ES.defers, fun s => by subst hρ'; exact plain_rel (ρ := ρ) (S := S) (b := b) (g := ⟨(ρ b).a, 1, 1⟩) rfl hS03 (plain_get s hA) (ES.env s), ES.envU⟩
  have hSt : St (Base.of (fun i => i ∈ ([] : List Nat)) (fun i => i < nx) ρ' S3 w (hget [(o, .lent n l), (b, .lent cs.length [cs])])) N nx A [(o, .lent n l), (b, .lent cs.length [cs])] a w :=
    ⟨ρ', S3, HSat0.to H1 (fun i v k => .inr (H1.heapU i v k).1), ES1⟩
  generalize hB1 : Base.of (fun i => i ∈ ([] : List Nat)) (fun i => i < nx) ρ' S3 w (hget [(o, .lent n l), (b, .lent cs.length [cs])]) = B1 at hSt
  have hU1 : ∀ i, B1.U0 i → i < nx := by subst hB1; exact fun i k => k
  have fin : ∀ nx2 A2 H2 a2 w2, nx ≤ nx2 → St B1 N nx2 A2 H2 a2 w2 → St B N nx2 (keepE o b A2) H a2 w2 := by
    rintro nx2 A2 H2 a2 w2 hle ⟨ρ2, S2', HS2, ES2⟩
    have hkeep : ∀ c, c < w.heap.size → w2.heap[c]? = w.heap[c]? := fun c hc => by
      have := HS2.keep c (by subst hB1; exact hc) (by
        subst hB1
        rintro i ⟨_, _, v, k1, k2⟩
        exact kblk i v c k1 k2) (by
        subst hB1
        rintro ⟨i, v, k, _⟩
        cases k)
      subst hB1; exact this
    have hsz : w.heap.size ≤ w2.heap.size := by have := HS2.size; subst hB1; exact this
    have hos : w2.os = w.os := by have := HS2.os; subst hB1; exact this
    have htape : w2.tape = w.tape := by have := HS2.tape; subst hB1; exact this
    have hout : w2.output = w.output := by have := HS2.output; subst hB1; exact this
    have hpino : ρ2 o = ρ o := by have := HS2.pin o (by subst hB1; exact hoU); subst hB1; rw [this]; exact hρo
    have hpinb : (ρ2 b).a = (ρ b).a := by
      have e := HS2.pin b (by subst hB1; exact hbU)
      have e2 : B1.ρ0 b = ρ' b := by subst hB1; rfl
      rw [e, e2, hρb]
    refine ⟨ρ, S, (HS.grow hkeep hsz hos htape hout).used fun i k => Nat.lt_of_lt_of_le k hle, ?_⟩
    refine ⟨ES2.size, ES2.defers, fun s => ?_, fun s => ?_⟩
    · rw [keepE_get]
      have := ES2.env s
      generalize eget A2 s = d at *
      unfold keepD
      split
      · split
        · next e =>
          subst e
          simp only [Rel] at this ⊢
          rw [← hpino]; exact this
        · simp only [Rel]
      · split
        · next e =>
          subst e
          simp only [Rel] at this ⊢
          rw [← hpinb]; exact this
        · simp only [Rel]
      · exact litD_rel rfl this
      · simp only [Rel]
    · rw [keepE_get]
      generalize eget A2 s = d at *
      unfold keepD
      split
      · split
        · next e => subst e; exact Nat.lt_of_lt_of_le hoU hle
        · trivial
      · split
        · next e => subst e; exact Nat.lt_of_lt_of_le hbU hle
        · trivial
      · trivial
      · trivial
  refine wp_seq (wp_mono (h (Nat.le_refl _) B1 hU1 a w hSt) fun e a1 w1 ⟨A1, H1', nx1, k1, k2, k3⟩ => ?_)
  have rest : ∀ (ps : List (List Nat × Code)) e a1 w1 A1 H1' nx1, nx ≤ nx1 → St B1 N nx1 A1 H1' a1 w1 → lentK P N nx (meltK2 P N pin o b H z Q) ps e A1 H1' nx1 → e = .normal ∧ (lentC z ps).wp P (fun e a' w' => ∃ A' H' nx', pin ≤ nx' ∧ St B N nx' A' H' a' w' ∧ Q e A' H' nx') a1 w1 := by
    intro ps
    induction ps with
    | nil =>
      intro e a1 w1 A1 H1' nx1 k1 k2 k3
      cases e with
      | normal =>
        unfold lentK meltK2 at k3
        dsimp only at k3
        unfold SWp at k3
        exact ⟨rfl, k3 (Nat.le_trans hp k1) B hB a1 w1 (fin nx1 A1 H1' a1 w1 k1 k2)⟩
      | _ => unfold lentK meltK2 at k3; exact k3.elim
    | cons gy ps ih =>
      intro e a1 w1 A1 H1' nx1 k1 k2 k3
      cases e with
      | normal =>
        unfold lentK thenK at k3
        dsimp only at k3
        unfold SWp at k3
        refine ⟨rfl, wp_seq (wp_mono (k3 k1 B1 hU1 a1 w1 (k2.weak (eget_keep A1 gy.1))) fun e a2 w2 ⟨A2, H2, nx2, l1, l2, l3⟩ => ?_)⟩
        obtain ⟨rfl, q⟩ := ih e a2 w2 A2 H2 nx2 l1 l2 l3
        exact q
      | _ =>
        unfold lentK thenK at k3
        exact absurd (ih _ a1 w1 A1 H1' nx1 k1 k2 k3).1 (by simp)
  obtain ⟨rfl, q⟩ := rest ps e a1 w1 A1 H1' nx1 k1 k2 k3
  exact q
end
end
section
open Go.Eng
theorem swp_lent11 {P : Program} {N pin nx : Nat} {x z y1 y2 y3 y4 y5 y6 y7 y8 y9 y10 y11 : Code} {Q : Exit → LE → LH → Nat → Prop} {A : LE} {H : LH} {o b r n : Nat} {t tb : TypeId} {Lo : List (List DV)} {hvr : HV} {xr : FV} {l : List (List PV)} {cs : List PV} (G : List Nat)
    (hro : o ≠ r) (hob : o ≠ b) (ho : hget H o = some (.lst t n Lo)) (hr : hget H r = some hvr) (hx : hvr.fv = some xr)
    (hL : Lo.map (DV.frzL r xr) = l.map (List.map .p)) (hb : hget H b = some (.blk tb (cs.map .p))) (hA : A.all (fun e => plainD b e.2) = true)
    (h : SWp P N nx x (thenK P N nx G y1 (thenK P N nx G y2 (thenK P N nx G y3 (thenK P N nx G y4 (thenK P N nx G y5 (thenK P N nx G y6 (thenK P N nx G y7 (thenK P N nx G y8 (thenK P N nx G y9 (thenK P N nx G y10 (thenK P N nx G y11 (meltK2 P N pin o b H z Q)))))))))))) A [(o, .lent n l), (b, .lent cs.length [cs])] nx) : SWp P N pin (.seq x (.seq y1 (.seq y2 (.seq y3 (.seq y4 (.seq y5 (.seq y6 (.seq y7 (.seq y8 (.seq y9 (.seq y10 (.seq y11 z)))))))))))) Q A H nx :=
  swp_lent2 [(G, y1), (G, y2), (G, y3), (G, y4), (G, y5), (G, y6), (G, y7), (G, y8), (G, y9), (G, y10), (G, y11)] hro hob ho hr hx hL hb hA h
end
def zrO (rs : List (List Int)) (k : Nat) : List (List DV) := rows ilRow rs ++ List.replicate k nilRow
theorem own_993 (O : List (List DV)) (i : Nat) [h : Nonempty (O.getD i [] = [.gl 993])] : O.getD i [] = [.gl 993] := h.elim id
attribute [push_cast] own_993
theorem lentC_f (g : FuncId) (x : DV) (L : List (List Int)) (m : Nat) (d : DV) (hx : see1 0 (.dat 1 (L.map ilRow)) x = x) (hc : ∀ m, DCalls Try.prog g [x, intss L] (hget []) m d (hget [])) : DCalls Try.prog g [x, .gl 0] (hget [(0, .lent 1 (L.map ilRow))]) m d (hget [(0, .lent 1 (L.map ilRow))]) :=
  DCallsG.lent (fun m => by
    have := hc m
    rw [show seeL 0 (.dat 1 (L.map ilRow)) [x, .gl 0] = [see1 0 (.dat 1 (L.map ilRow)) x, intss L] from rfl, hx]
    exact this)
theorem lentG_f (g : FuncId) (x : DV) (y : List Int) (L : List (List Int)) (m : Nat) (d : DV) (hx : see1 0 (.dat 1 (L.map ilRow)) x = x) (hc : ∀ m, DCalls Try.prog g [x, intss L, ints y] (hget []) m d (hget [])) : DCalls Try.prog g [x, .gl 0, ints y] (hget [(0, .lent 1 (L.map ilRow))]) m d (hget [(0, .lent 1 (L.map ilRow))]) :=
  DCallsG.lent (fun m => by
    have := hc m
    rw [show seeL 0 (.dat 1 (L.map ilRow)) [x, .gl 0, ints y] = [see1 0 (.dat 1 (L.map ilRow)) x, intss L, ints y] from rfl, hx]
    exact this)
set_option maxRecDepth 20000 in
set_option maxHeartbeats 16000000 in
theorem tight_none (p : Plan) (m : Nat) (hq : planOk p) (hrd : readyB p = true) (hv : vO p p.inf.length p.start = none) : DCalls Try.prog 3 [planD p] (hget []) m (lb true) (hget []) := by
  have hrd2 := hrd
  unfold readyB at hrd2
  simp only [Bool.and_eq_true, decide_eq_true_eq] at hrd2
  obtain ⟨⟨⟨h8, h5⟩, h30⟩, hp⟩ := hrd2
  have cw := fun m => ready_f p m hq
  rw [hrd] at cw
  have hfe : fewA p 0 p.start p.inf.length = true := few_all h5 h8
  have hex : exC p (linesR p) := line_exC hp hfe
  have hro := raiseW_ok hex
  have hln := lines_len p
  have hl0 := lines_zero p
  have c4 := fun m => solve_f p m hq
  have hsol : solR p = match vO p p.inf.length p.start with
    | none => (0, [], 12)
    | some c => (c, (goV p p.inf.length).1, 0) := by
    unfold solR
    rw [if_neg (by rw [hp]; decide), if_neg (by rw [hfe]; decide)] <;> cases vO p p.inf.length p.start <;> rfl
  rw [hsol] at c4
  have c2 := fun m => check_f p (linesR p) m hq hro
  rw [hex.check] at c2
  have c3 := fun m => bound_f p (linesR p) m hq hro
  rw [hex.bound] at c3
  have ce := fun m => eqlInt_f [p.start] [p.start] m (by simp) (by simp)
  rw [show decide ([p.start] = [p.start]) = true from decide_eq_true rfl] at ce
  rw [hv] at c3 c4 hl0
  have c1 := fun m => make_v p m hq
  rw [show valuesR p = (linesR p, 0) by unfold valuesR; rw [if_neg (by rw [hp]; decide), if_neg (by rw [hfe]; decide)] <;> rfl] at c1
  have hl0 : (linesR p).getD 0 default = [p.start, -1] := hl0
  generalize linesR p = L at *
  have f0 : 0 < L.length := by omega
  have f1 : (L.length : Int) = (p.inf.length : Int) + 1 := by omega
  (have := Nonempty.intro f0)
  (have := Nonempty.intro f1)
  obtain ⟨L', rfl⟩ : ∃ L', L = [p.start, -1] :: L' := by
    cases L with
    | nil => simp at f0
    | cons r R => exact ⟨R, by rw [show r = [p.start, -1] from hl0]⟩
  clear f0 f1 hl0
  have f1 : (L'.length : Int) + 1 = (p.inf.length : Int) + 1 := by simp at hln; omega
  (have := Nonempty.intro f1)
  refine pureC (n := 227) (rs := [.tmp 2]) (ts := [4]) Try.func3 rfl (by decide) [] (by (exact SD)) ?_
  (repeat' (first | refine swp_seq [0, 1, 2, 3, 4, 5, 6, 7, 8, 9, 10, 11, 12, 13, 14, 15, 16, 17, 18, 19, 20, 21, 22, 23, 24, 26, 29, 36, 104, 106, 131, 144, 149, 150, 151, 167, 202] ?_ | (show SWp _ _ _ (.region _ _ true) _ _ _ _; refine xG mixed [592] ?_) | refine st2 ?_ | (show CallQ ..; first | refine cQ (fun hcc => (by first | exact awake_f _ | exact cw _ | exact c1 _ | exact c2 _ | exact c3 _ | exact c4 _ | exact ce _)) ?_ | (refine lP ?_; refine lQ (fun hcc m => (by first | exact awake_f _ | exact cw _ | exact c1 _ | exact c2 _ | exact c3 _ | exact c4 _ | exact ce _)) ?_)) | (show XCallQ ..; first | refine xQ (fun hcc => (by first | exact awake_f _ | exact cw _ | exact c1 _ | exact c2 _ | exact c3 _ | exact c4 _ | exact ce _)) ?_ | (refine xlP ?_; refine xlQ (fun hcc m => (by first | exact awake_f _ | exact cw _ | exact c1 _ | exact c2 _ | exact c3 _ | exact c4 _ | exact ce _)) ?_)) | (show Fct ..; refine fctI (fun hf => ?_)) | (show SWp _ _ _ (.cond _ _ _) _ _ _ _; first | refine cB (fun hc => ?_) (fun hc => ?_) | refine cU ?_ ?_)))
  exact DVR
set_option maxRecDepth 20000 in
set_option maxHeartbeats 16000000 in
theorem tight_some (p : Plan) (m : Nat) (hq : planOk p) (hrd : readyB p = true) {c : Int} (hv : vO p p.inf.length p.start = some c) : DCalls Try.prog 3 [planD p] (hget []) m (lb true) (hget []) := by
  have hrd2 := hrd
  unfold readyB at hrd2
  simp only [Bool.and_eq_true, decide_eq_true_eq] at hrd2
  obtain ⟨⟨⟨h8, h5⟩, h30⟩, hp⟩ := hrd2
  have cw := fun m => ready_f p m hq
  rw [hrd] at cw
  have hfe : fewA p 0 p.start p.inf.length = true := few_all h5 h8
  have hex : exC p (linesR p) := line_exC hp hfe
  have hro := raiseW_ok hex
  have hln := lines_len p
  have hl0 := lines_zero p
  have c4 := fun m => solve_f p m hq
  have hsol : solR p = match vO p p.inf.length p.start with
    | none => (0, [], 12)
    | some c => (c, (goV p p.inf.length).1, 0) := by
    unfold solR
    rw [if_neg (by rw [hp]; decide), if_neg (by rw [hfe]; decide)] <;> cases vO p p.inf.length p.start <;> rfl
  rw [hsol] at c4
  have c2 := fun m => check_f p (linesR p) m hq hro
  rw [hex.check] at c2
  have c3 := fun m => bound_f p (linesR p) m hq hro
  rw [hex.bound] at c3
  have ce := fun m => eqlInt_f [p.start] [p.start] m (by simp) (by simp)
  rw [show decide ([p.start] = [p.start]) = true from decide_eq_true rfl] at ce
  rw [hv] at c3 c4
  have cm := fun m => make_own p m hq hp hfe
  have hrow0 : lineV p 0 = [p.start, c] := by rw [lineV_zero, hv]; rfl
  have hLt := lines_tail p
  rw [hrow0] at cm hLt
  rw [show inLt [p.start, c] = .lst 3 1 [[li p.start], [li c]] from rfl] at cm
  have hgl : (goV p p.inf.length).1.length = p.inf.length := goV_len p _
  have cg := fun m => gap_f p (linesR p) (goV p p.inf.length).1 m hq hro (by omega)
  rw [tight_gap hex hv] at cg
  have cz := fun m => bound_f p ((linesR p).map zeroR) m hq (zeros_ok hex)
  rw [zeros_bound hex] at cz
  have ck := fun m => weaker_f ((linesR p).map zeroR) (linesR p) m (zeros_ok hex) hro
  rw [tight_weak hex] at ck
  have cq := fun m => check_f p ((linesR p).set 0 [p.start, c + 1]) m hq (more_ok hex hv)
  rw [tight_more hex hv] at cq
  have hse : (linesR p).set 0 [p.start, c + 1] = [p.start, c + 1] :: tailR p p.inf.length := by rw [hLt]; rfl
  rw [hse] at cq
  have hcb := (more_row hex hv).2
  have hT := tail_len p p.inf.length
  have hrl := hro.2
  have hrB : ∀ r, r ∈ linesR p → r.length ≤ 8000 := fun r hr => by
    obtain ⟨k, hk, rfl⟩ := mem_getD (d := default) hr
    exact (hex.row k hk).2
  clear hl0 hex hro hrow0 hse
  rw [hLt] at c2 c3 cg cz ck hln hrl hrB
  clear hLt
  generalize tailR p p.inf.length = T at *
  generalize (goV p p.inf.length).1 = S at *
  have f1 : (T.length : Int) + 1 = (p.inf.length : Int) + 1 := by omega
  have fcc : c = c := rfl
  (have := Nonempty.intro f1)
  (have := Nonempty.intro fcc)
  refine pureC (n := 227) (rs := [.tmp 2]) (ts := [4]) Try.func3 rfl (by decide) [] (by (exact SD)) ?_
  (repeat' (first | (show SWp _ _ _ (.seq (.region 8 _ _) _) _ _ _ _; refine (stop_in ?_)) | refine swp_seq [0, 1, 2, 3, 4, 5, 6, 7, 8, 9, 10, 11, 12, 13, 14, 15, 16, 17, 18, 19, 20, 21, 22, 23, 24, 26, 29, 36, 104, 106, 131, 144, 149, 150, 151, 167, 202] ?_ | (show SWp _ _ _ (.region _ _ true) _ _ _ _; refine xG mixed [] ?_) | refine st2 ?_ | (show CallQ ..; first | refine cQ (fun hcc => (by first | exact awake_f _ | exact cw _ | exact cm _)) ?_ | (refine lP ?_; refine lQ (fun hcc m => (by first | exact awake_f _ | exact cw _ | exact cm _)) ?_)) | (show XCallQ ..; first | refine xQ (fun hcc => (by first | exact awake_f _ | exact cw _ | exact cm _)) ?_ | (refine xlP ?_; refine xlQ (fun hcc m => (by first | exact awake_f _ | exact cw _ | exact cm _)) ?_)) | (show Fct ..; refine fctI (fun hf => ?_)) | (show SWp _ _ _ (.cond _ _ _) _ _ _ _; first | refine cB (fun hc => ?_) (fun hc => ?_) | refine cU ?_ ?_)))
  refine stop_out ?_
  refine swp_keep [1, 3] (A2 := [(1, .ptr 0 0), (3, .gl 64)]) rfl ?_
  refine swp_lent11 (o := 64) (r := 65) (b := 0) (n := 1) (l := ([p.start, c] :: T).map ilRow) (cs := planP p) (xr := .elems 1 ([p.start, c].map inRow)) [1, 2, 3, 5, 6, 7, 8, 9, 10, 11, 12, 13, 14, 15, 18, 19, 20, 21] (by decide) (by decide) rfl rfl rfl ?_ rfl rfl ?_
  · rw [List.map_cons, frz_rows, show rows ilRow T = (T.map ilRow).map (List.map DV.p) by unfold rows; rw [List.map_map]; rfl]; rfl
  (repeat' (first | refine swp_seq [0, 1, 2, 3, 4, 5, 6, 7, 8, 9, 10, 11, 12, 13, 14, 15, 16, 17, 18, 19, 20, 21, 22, 23, 24, 26, 29, 36, 104, 106, 131, 144, 149, 150, 151, 167, 202] ?_ | (show SWp _ _ _ (.region _ _ true) _ _ _ _; refine xG mixed [592] ?_) | refine st2 ?_ | (show CallQ ..; first | refine cQ (fun hcc => (by first | exact c4 _)) ?_ | (refine lP ?_; refine lQ (fun hcc m => (by first | exact c4 _)) ?_)) | (show XCallQ ..; first | refine xQ (fun hcc => (by first | exact c4 _)) ?_ | (refine xlP ?_; refine xlQ (fun hcc m => (by first | exact c4 _)) ?_)) | (show Fct ..; refine fctI (fun hf => ?_)) | (show SWp _ _ _ (.cond _ _ _) _ _ _ _; first | refine cB (fun hc => ?_) (fun hc => ?_) | refine cU ?_ ?_)))
  (refine cQT [64] (fun hcc => (lentC_f 7 (planD p) ([p.start, c] :: T) _ _ rfl c2)) ?_)
  (repeat' (first | refine swp_seq [0, 1, 2, 3, 4, 5, 6, 7, 8, 9, 10, 11, 12, 13, 14, 15, 16, 17, 18, 19, 20, 21, 22, 23, 24, 26, 29, 36, 104, 106, 131, 144, 149, 150, 151, 167, 202] ?_ | (show SWp _ _ _ (.region _ _ true) _ _ _ _; refine xG mixed [592] ?_) | refine st2 ?_ | (show CallQ ..; first | refine cQ (fun hcc => (by first | exact c4 _)) ?_ | (refine lP ?_; refine lQ (fun hcc m => (by first | exact c4 _)) ?_)) | (show XCallQ ..; first | refine xQ (fun hcc => (by first | exact c4 _)) ?_ | (refine xlP ?_; refine xlQ (fun hcc m => (by first | exact c4 _)) ?_)) | (show Fct ..; refine fctI (fun hf => ?_)) | (show SWp _ _ _ (.cond _ _ _) _ _ _ _; first | refine cB (fun hc => ?_) (fun hc => ?_) | refine cU ?_ ?_)))
  (refine cQT [64] (fun hcc => (lentC_f 9 (planD p) ([p.start, c] :: T) _ _ rfl c3)) ?_)
  (repeat' (first | refine swp_seq [0, 1, 2, 3, 4, 5, 6, 7, 8, 9, 10, 11, 12, 13, 14, 15, 16, 17, 18, 19, 20, 21, 22, 23, 24, 26, 29, 36, 104, 106, 131, 144, 149, 150, 151, 167, 202] ?_ | (show SWp _ _ _ (.region _ _ true) _ _ _ _; refine xG mixed [592] ?_) | refine st2 ?_ | (show CallQ ..; first | refine cQ (fun hcc => (by first | exact ce _)) ?_ | (refine lP ?_; refine lQ (fun hcc m => (by first | exact ce _)) ?_)) | (show XCallQ ..; first | refine xQ (fun hcc => (by first | exact ce _)) ?_ | (refine xlP ?_; refine xlQ (fun hcc m => (by first | exact ce _)) ?_)) | (show Fct ..; refine fctI (fun hf => ?_)) | (show SWp _ _ _ (.cond _ _ _) _ _ _ _; first | refine cB (fun hc => ?_) (fun hc => ?_) | refine cU ?_ ?_)))
  (refine cQT [64] (fun hcc => (lentG_f 11 (planD p) S ([p.start, c] :: T) _ _ rfl cg)) ?_)
  (repeat' (first | refine swp_seq [0, 1, 2, 3, 4, 5, 6, 7, 8, 9, 10, 11, 12, 13, 14, 15, 16, 17, 18, 19, 20, 21, 22, 23, 24, 26, 29, 36, 104, 106, 131, 144, 149, 150, 151, 167, 202] ?_ | (show SWp _ _ _ (.region _ _ true) _ _ _ _; refine xG mixed [592] ?_) | refine st2 ?_ | (show Fct ..; refine fctI (fun hf => ?_)) | (show SWp _ _ _ (.cond _ _ _) _ _ _ _; first | refine cB (fun hc => ?_) (fun hc => ?_) | refine cU ?_ ?_)))
  obtain ⟨LL, hLL⟩ : ∃ LL, [p.start, c] :: T = LL := ⟨_, rfl⟩
  have hLl : (T.length : Int) + 1 = (LL.length : Int) := by rw [← hLL]; simp
  have hLN : LL.length = p.inf.length + 1 := by omega
  rw [hLL] at cz ck hrl hrB
  refine loop_swp [1, 3, 15, 149, 150] [0, 64, 920] 921 (fun q A H => ∃ i : Nat, i ≤ LL.length ∧ q = LL.length - i ∧ A = [(1, .ptr 0 0), (3, .gl 64), (15, .gl 920), (149, li LL.length), (150, li i)] ∧ H = [(0, .lent 7 [planP p]), (64, .lent 1 (LL.map ilRow)), (920, .lst 22 1 (zrO ((LL.take i).map zeroR) (LL.length - i)))]) (by omega) ?_ ?_ ?_
  · rintro q A H ⟨i, g1, g2, rfl, rfl⟩
    exact ⟨by (exact SD), by omega, trivial, by omega, trivial, by omega, O_uses _ _ _, trivial⟩
  · refine ⟨_, 0, by omega, rfl, ?_, ?_⟩
    · rw [hLl]; exact DVR
    · rw [← hLL]; rfl
  rintro q A H ⟨i, g1, g2, rfl, rfl⟩
  by_cases hi : i < LL.length
  · have hi3 : (i : Int) < (LL.length : Int) := by omega
    obtain ⟨k, hk⟩ : ∃ k, LL.length - i = k + 1 := ⟨LL.length - i - 1, by omega⟩
    have hk2 : LL.length - (i + 1) = k := by omega
    have htk : (LL.take (i + 1)).map zeroR = (LL.take i).map zeroR ++ [zeroR (LL.getD i default)] := by rw [take_snoc hi, List.map_append]; rfl
    have hrs : ((LL.take i).map zeroR).length = i := by rw [List.length_map, List.length_take]; omega
    have hri := hrl _ (getD_mem hi)
    have hrll := hrB _ (getD_mem hi)
    have cl := fun m => cloneI_f (LL.getD i default) m (by omega)
    rw [hk]
    generalize (LL.take i).map zeroR = rs at *
    have hO1l : (zrO rs (k + 1)).length = LL.length := by unfold zrO; simp [rows]; omega
    have hO1n : (zrO rs (k + 1)).getD i [] = nilRow := O_get hrs
    have hO1s : ∀ r : List Int, (zrO rs (k + 1)).set i [.p (.dat 1 (r.map inRow))] = zrO (rs ++ [r]) k := fun r => O_set hrs r
    have hO1f : ∀ o x, (zrO rs (k + 1)).map (DV.frzL o x) = zrO rs (k + 1) := fun o x => O_frz rs (k + 1) o x
    have hO1u : ∀ U : Nat → Prop, DV.usesL U (zrO rs (k + 1)).flatten := fun U => O_uses rs (k + 1) U
    generalize zrO rs (k + 1) = O1 at *
    have hi4 : (i : Int) < (O1.length : Int) := by omega
    (have := Nonempty.intro hi)
    (have := Nonempty.intro hi3)
    (have := Nonempty.intro hi4)
    have hset : O1.set i (DV.gl 993 :: List.drop 1 (O1.getD i [])) = O1.set i [.gl 993] := by rw [hO1n]; rfl
    have hO2f : ∀ r : List Int, hfrzL 993 (.elems 1 (r.map inRow)) [(0, .lent 7 [planP p]), (64, .lent 1 (LL.map ilRow)), (920, .lst 22 1 (O1.set i [.gl 993])), (993, inLt r)] = [(0, .lent 7 [planP p]), (64, .lent 1 (LL.map ilRow)), (920, .lst 22 1 (zrO (rs ++ [r]) k))] := fun r => by
      rw [← hO1s]
      simp only [hfrzL, HV.frz, List.map_set, hO1f]
      rfl
    (repeat' (first | (show SWp _ _ _ (.seq (.region 25 _ _) _) _ _ _ _; refine (stop_in ?_)) | refine swp_seq [0, 1, 2, 3, 4, 5, 6, 7, 8, 9, 10, 11, 12, 13, 14, 15, 16, 17, 18, 19, 20, 21, 22, 23, 24, 26, 29, 36, 104, 106, 131, 144, 149, 150, 151, 167, 202] ?_ | (show SWp _ _ _ (.region _ _ true) _ _ _ _; refine xG mixed [] ?_) | refine st2 ?_ | (show CallQ ..; first | refine cQ (fun hcc => (by first | exact cl _)) ?_ | (refine lP ?_; refine lQ (fun hcc m => (by first | exact cl _)) ?_)) | (show XCallQ ..; first | refine xQ (fun hcc => (by first | exact cl _)) ?_ | (refine xlP ?_; refine xlQ (fun hcc m => (by first | exact cl _)) ?_)) | (show Fct ..; refine fctI (fun hf => ?_)) | (show SWp _ _ _ (.cond _ _ _) _ _ _ _; first | refine cB (fun hc => ?_) (fun hc => ?_) | refine cU ?_ ?_)))
    refine stop_out ?_
    rw [hset]
    have hO2l : (O1.set i [.gl 993]).length = LL.length := by rw [List.length_set]; exact hO1l
    have hO2i : (O1.set i [.gl 993]).getD i [] = [.gl 993] := getD_set_eq2 _ _ _ (by omega)
    have hO2u : DV.usesL (fun i => i < 994) (O1.set i [.gl 993]).flatten := set_uses (hO1u _) (by omega)
    generalize hO2 : O1.set i [.gl 993] = O2 at *
    have hi5 : (i : Int) < (O2.length : Int) := by omega
    (have := Nonempty.intro hi5)
    (have := Nonempty.intro hO2i)
    generalize LL.getD i default = row at *
    (repeat' (first | refine swp_seq [0, 1, 2, 3, 4, 5, 6, 7, 8, 9, 10, 11, 12, 13, 14, 15, 16, 17, 18, 19, 20, 21, 22, 23, 24, 26, 29, 36, 104, 106, 131, 144, 149, 150, 151, 167, 202] ?_ | refine st2 ?_ | (show Fct ..; refine fctI (fun hf => ?_)) | (show SWp _ _ _ (.cond _ _ _) _ _ _ _; first | refine cB (fun hc => ?_) (fun hc => ?_) | refine cU ?_ ?_)))
    refine loop_swp [1, 3, 15, 16, 17, 149, 150] [0, 64, 920, 993] 994 (fun q A H => ∃ j k2 : Nat, k2 = 2 * j + 1 ∧ j ≤ row.length / 2 ∧ q = row.length + 1 - k2 ∧ A = [(1, .ptr 0 0), (3, .gl 64), (15, .gl 920), (16, li i), (17, li k2), (149, li LL.length), (150, li i)] ∧ H = [(0, .lent 7 [planP p]), (64, .lent 1 (LL.map ilRow)), (920, .lst 22 1 O2), (993, inLt (partRow row (fun _ => 0) j))]) (by omega) ?_ ?_ ?_
    · rintro q A H ⟨j, k2, k1, f1, f2, rfl, rfl⟩
      exact ⟨by (exact SD), by omega, trivial, by omega, trivial, by omega, hO2u, by omega, by (exact SD), trivial⟩
    · refine ⟨_, 0, 1, rfl, by omega, rfl, ?_, ?_⟩
      · exact DVR
      · rw [partRow_0]
        exact DVR
    rintro q A H ⟨j, k2, k1, f1, f2, rfl, rfl⟩
    have hpl := partRow_len row (fun _ => 0) j
    by_cases hj : k2 < row.length
    · have hXs := partRow_set row (fun _ => 0) j (by omega)
      rw [← k1] at hXs
      generalize partRow row (fun _ => 0) j = X at *
      have hx1 : (k2 : Int) < (X.length : Int) := by omega
      have hx2 : k2 < X.length := by omega
      (have := Nonempty.intro hx1)
      (have := Nonempty.intro hx2)
      (repeat' (first | refine swp_seq [0, 1, 2, 3, 4, 5, 6, 7, 8, 9, 10, 11, 12, 13, 14, 15, 16, 17, 18, 19, 20, 21, 22, 23, 24, 26, 29, 36, 104, 106, 131, 144, 149, 150, 151, 167, 202] ?_ | refine st2 ?_ | (show Fct ..; refine fctI (fun hf => ?_)) | (show SWp _ _ _ (.cond _ _ _) _ _ _ _; first | refine cB (fun hc => ?_) (fun hc => ?_) | refine cU ?_ ?_)))
      (refine lN [0, 64, 920, 993] ?_)
      exact ⟨_, by omega, j + 1, k2 + 2, by omega, by omega, rfl, rfl, by rw [← hXs] <;> rfl⟩
    have hj2 : j = row.length / 2 := by omega
    rw [hj2] at hpl ⊢
    change (zeroR row).length = row.length at hpl
    rw [show partRow row (fun _ => 0) (row.length / 2) = zeroR row from rfl]
    generalize zeroR row = NR at *
    have hj4 : ¬ ((k2 : Int) < (NR.length : Int)) := by omega
    (have := Nonempty.intro hj4)
    (repeat' (first | (show SWp _ _ _ (.region 29 _ _) _ _ _ _; refine (stop_in ?_)) | refine swp_seq [0, 1, 2, 3, 4, 5, 6, 7, 8, 9, 10, 11, 12, 13, 14, 15, 16, 17, 18, 19, 20, 21, 22, 23, 24, 26, 29, 36, 104, 106, 131, 144, 149, 150, 151, 167, 202] ?_ | (show SWp _ _ _ (.region _ _ true) _ _ _ _; refine xG mixed [] ?_) | refine st2 ?_ | (show CallQ ..; first | refine cQ (fun hcc => (by fail)) ?_ | (refine lP ?_; refine lQ (fun hcc m => (by fail)) ?_)) | (show XCallQ ..; first | refine xQ (fun hcc => (by fail)) ?_ | (refine xlP ?_; refine xlQ (fun hcc m => (by fail)) ?_)) | (show Fct ..; refine fctI (fun hf => ?_)) | (show SWp _ _ _ (.cond _ _ _) _ _ _ _; first | refine cB (fun hc => ?_) (fun hc => ?_) | refine cU ?_ ?_)))
    refine stop_out ?_
    refine sF 993 ?_ (v := inLt NR) (x := .elems 1 (NR.map inRow)) (eH := hO2f NR)
    generalize hO9 : zrO (rs ++ [NR]) k = O9 at *
    (repeat' (first | refine swp_seq [0, 1, 2, 3, 4, 5, 6, 7, 8, 9, 10, 11, 12, 13, 14, 15, 16, 17, 18, 19, 20, 21, 22, 23, 24, 26, 29, 36, 104, 106, 131, 144, 149, 150, 151, 167, 202] ?_ | refine st2 ?_ | (show Fct ..; refine fctI (fun hf => ?_)) | (show SWp _ _ _ (.cond _ _ _) _ _ _ _; first | refine cB (fun hc => ?_) (fun hc => ?_) | refine cU ?_ ?_)))
    (refine lN [0, 64, 920] ?_)
    exact ⟨_, by omega, i + 1, by omega, rfl, rfl, by rw [htk, hk2, hO9]⟩
  obtain rfl : i = LL.length := by omega
  have hi3 : ¬ ((LL.length : Int) < (LL.length : Int)) := by omega
  (have := Nonempty.intro hi3)
  rw [List.take_length, Nat.sub_self, show zrO (LL.map zeroR) 0 = rows ilRow (LL.map zeroR) by unfold zrO; simp]
  generalize LL.map zeroR = ZZ at *
  (repeat' (first | (show SWp _ _ _ (.region 30 _ _) _ _ _ _; refine (stop_in ?_)) | refine swp_seq [0, 1, 2, 3, 4, 5, 6, 7, 8, 9, 10, 11, 12, 13, 14, 15, 16, 17, 18, 19, 20, 21, 22, 23, 24, 26, 29, 36, 104, 106, 131, 144, 149, 150, 151, 167, 202] ?_ | (show SWp _ _ _ (.region _ _ true) _ _ _ _; refine xG mixed [] ?_) | refine st2 ?_ | (show CallQ ..; first | refine cQ (fun hcc => (by fail)) ?_ | (refine lP ?_; refine lQ (fun hcc m => (by fail)) ?_)) | (show XCallQ ..; first | refine xQ (fun hcc => (by fail)) ?_ | (refine xlP ?_; refine xlQ (fun hcc m => (by fail)) ?_)) | (show Fct ..; refine fctI (fun hf => ?_)) | (show SWp _ _ _ (.cond _ _ _) _ _ _ _; first | refine cB (fun hc => ?_) (fun hc => ?_) | refine cU ?_ ?_)))
  refine stop_out ?_
  (refine sF 920 ?_)
  (repeat' (first | refine swp_seq [0, 1, 2, 3, 4, 5, 6, 7, 8, 9, 10, 11, 12, 13, 14, 15, 16, 17, 18, 19, 20, 21, 22, 23, 24, 26, 29, 36, 104, 106, 131, 144, 149, 150, 151, 167, 202] ?_ | refine st2 ?_ | (show CallQ ..; first | refine cQ (fun hcc => (by first | exact cz _)) ?_ | (refine lP ?_; refine lQ (fun hcc m => (by first | exact cz _)) ?_)) | (show XCallQ ..; first | refine xQ (fun hcc => (by first | exact cz _)) ?_ | (refine xlP ?_; refine xlQ (fun hcc m => (by first | exact cz _)) ?_)) | (show Fct ..; refine fctI (fun hf => ?_)) | (show SWp _ _ _ (.cond _ _ _) _ _ _ _; first | refine cB (fun hc => ?_) (fun hc => ?_) | refine cU ?_ ?_)))
  (refine cQT [64] (fun hcc => (lentC_f 13 (intss ZZ) LL _ _ rfl ck)) ?_)
  (repeat' (first | refine swp_seq [0, 1, 2, 3, 4, 5, 6, 7, 8, 9, 10, 11, 12, 13, 14, 15, 16, 17, 18, 19, 20, 21, 22, 23, 24, 26, 29, 36, 104, 106, 131, 144, 149, 150, 151, 167, 202] ?_ | refine st2 ?_ | (show Fct ..; refine fctI (fun hf => ?_)) | (show SWp _ _ _ (.cond _ _ _) _ _ _ _; first | refine cB (fun hc => ?_) (fun hc => ?_) | refine cU ?_ ?_)))
  refine swp_keep [1, 3] (A2 := [(1, .ptr 0 0), (3, .gl 64)]) rfl ?_
  (repeat' (first | (show SWp _ _ _ (.seq (.region 35 _ _) _) _ _ _ _; refine (stop_in ?_)) | refine swp_seq [0, 1, 2, 3, 4, 5, 6, 7, 8, 9, 10, 11, 12, 13, 14, 15, 16, 17, 18, 19, 20, 21, 22, 23, 24, 26, 29, 36, 104, 106, 131, 144, 149, 150, 151, 167, 202] ?_ | (show SWp _ _ _ (.region _ _ true) _ _ _ _; refine xG mixed [] ?_) | refine st2 ?_ | (show CallQ ..; first | refine cQ (fun hcc => (by fail)) ?_ | (refine lP ?_; refine lQ (fun hcc m => (by fail)) ?_)) | (show XCallQ ..; first | refine xQ (fun hcc => (by fail)) ?_ | (refine xlP ?_; refine xlQ (fun hcc m => (by fail)) ?_)) | (show Fct ..; refine fctI (fun hf => ?_)) | (show SWp _ _ _ (.cond _ _ _) _ _ _ _; first | refine cB (fun hc => ?_) (fun hc => ?_) | refine cU ?_ ?_)))
  refine stop_out ?_
  (refine sF 65 ?_)
  refine sF 64 ?_ (v := .lst 22 1 (rows ilRow ([p.start, c + 1] :: T))) (x := .elems 1 (([p.start, c + 1] :: T).map ilRow)) (hx := fv_rows _ _ _ _)
  (repeat' (first | refine swp_seq [0, 1, 2, 3, 4, 5, 6, 7, 8, 9, 10, 11, 12, 13, 14, 15, 16, 17, 18, 19, 20, 21, 22, 23, 24, 26, 29, 36, 104, 106, 131, 144, 149, 150, 151, 167, 202] ?_ | refine st2 ?_ | (show CallQ ..; first | refine cQ (fun hcc => (by first | exact cq _)) ?_ | (refine lP ?_; refine lQ (fun hcc m => (by first | exact cq _)) ?_)) | (show XCallQ ..; first | refine xQ (fun hcc => (by first | exact cq _)) ?_ | (refine xlP ?_; refine xlQ (fun hcc m => (by first | exact cq _)) ?_)) | (show Fct ..; refine fctI (fun hf => ?_)) | (show SWp _ _ _ (.cond _ _ _) _ _ _ _; first | refine cB (fun hc => ?_) (fun hc => ?_) | refine cU ?_ ?_)))
  exact DVR
set_option maxRecDepth 20000 in
set_option maxHeartbeats 16000000 in
theorem tight_f (p : Plan) (m : Nat) (hq : planOk p) : DCalls Try.prog 3 [planD p] (hget []) m (lb true) (hget []) := by
  cases hrd : readyB p
  · have cw := fun m => ready_f p m hq
    rw [hrd] at cw
    refine pureC (n := 227) (rs := [.tmp 2]) (ts := [4]) Try.func3 rfl (by decide) [] (by (exact SD)) ?_
    (repeat' (first | refine swp_seq [0, 1, 2, 3, 4, 5, 6, 7, 8, 9, 10, 11, 12, 13, 14, 15, 16, 17, 18, 19, 20, 21, 22, 23, 24, 26, 29, 36, 104, 106, 131, 144, 149, 150, 151, 167, 202] ?_ | refine st2 ?_ | (show CallQ ..; first | refine cQ (fun hcc => (by first | exact awake_f _ | exact cw _)) ?_ | (refine lP ?_; refine lQ (fun hcc m => (by first | exact awake_f _ | exact cw _)) ?_)) | (show XCallQ ..; first | refine xQ (fun hcc => (by first | exact awake_f _ | exact cw _)) ?_ | (refine xlP ?_; refine xlQ (fun hcc m => (by first | exact awake_f _ | exact cw _)) ?_)) | (show Fct ..; refine fctI (fun hf => ?_)) | (show SWp _ _ _ (.cond _ _ _) _ _ _ _; first | refine cB (fun hc => ?_) (fun hc => ?_) | refine cU ?_ ?_)))
    exact DVR
  · cases hv : vO p p.inf.length p.start with
    | none => exact tight_none p m hq hrd hv
    | some c => exact tight_some p m hq hrd hv

end Go.Proofs.Ytlailhdmgehniaa
