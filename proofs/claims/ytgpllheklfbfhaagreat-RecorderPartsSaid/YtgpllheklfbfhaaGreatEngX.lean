/-
  A part of the engine that reckons calls at the level of data.
  No condition.
-/

import Derived.Test.YtgpllheklfbfhaaGreatEngH
import Derived.IntWalk
namespace Go.Eng
set_option linter.all false
section
variable [Dfr]
variable {P : Program} {B : Base} {N : Nat} {U : Nat -> Prop} {ρ : Nat -> Hd} {S : Nat -> Prop} {w : World} {f : Nat -> DV} {h : Nat -> Option HV} {a : Act}
theorem tk_arr {d : TypeDesc} {n : Nat} {e : TypeId} (h : tkOf d = .arr n e) : d = .array n e := by
  cases d <;> simp only [tkOf] at h <;> first | cases h | skip
  case array => rfl
  case struct => split at h <;> cases h
theorem build_arr_ok (H : HSat B U ρ S w h) (E : ESat N U ρ S w f a) {nid : Nat} {t e : TypeId} {T F : TD} {n : Nat} {ps : List (Nat × DV)} {vs : List (Nat × Value)} {l : List (Nat × DV)} {cs : List DV}
    (ht : td P t = some T) (hz : T.zero.all vcell = true) (hk : T.k = .arr n e) (hF : td P e = some F) (hr : PartsR ρ S w ps vs) (hu : ∀ x, x ∈ ps -> x.2.uses U)
    (hl : partsD (fun i => some (i * F.size, F.size)) ps = some l) (hf : fillD (cv T.zero) l = some cs) :
    StepOk P B N U nid f h a w (do pure (Next.value (<- Instr.build t vs.toArray))) { pre := True, fact := True, d := .agg cs, e := .no } := by
  obtain ⟨i, d, z, hi, hud, hzz, e1, e2, e3, e4, _⟩ := td_spec ht;obtain ⟨i', d', z', hi', hud', hzz', s1, _⟩ := td_spec hF;obtain rfl := tk_arr (e4 ▸ hk);obtain ⟨us', q1, q2⟩ := fill_rel ps vs (cv T.zero) cs l T.zero hr hl hf (cv_rel hz);refine step_no H E (v := .agg us'.toArray) ?_ ?_ ?_ trivial
  · have hze : z.cells = T.zero.toArray := by rw [e3]
    rw [s1] at q1;simp [Instr.build, r_zero hi hzz, r_und hud, r_size hi', hze, q1]
  · simp only [Rel]; exact ⟨us', rfl, q2⟩
  · refine fillD_uses l _ cs hf cv_uses fun x hx => ?_
    obtain ⟨y, hy, e⟩ := partsD_mem ps l hl x hx;rw [e]; exact hu y hy
theorem indexArr_ok (H : HSat B U ρ S w h) (E : ESat N U ρ S w f a) {nid : Nat} {t e : TypeId} {T F : TD} {n : Nat} {x d : DV} {v : Value} {kk : IntKind} {k : Int}
    (ht : td P t = some T) (hk : T.k = .arr n e) (hF : td P e = some F) (hx : Rel ρ S w x v) (hxu : x.uses U) (hd : dfieldAddr (k.toNat * F.size) x = some d) (hp : 0 <= k /\ k < n) :
    StepOk P B N U nid f h a w (do pure (Next.value (<- Instr.indexAt t v (.int kk k)))) { pre := 0 <= k /\ k < n, fact := True, d := d, e := .no } := by
  obtain ⟨i, dd, z, hi, hu, hz, e1, e2, e3, e4, _⟩ := td_spec ht;obtain ⟨i2, d2, z2, hi2, hu2, hz2, s1, _⟩ := td_spec hF;obtain rfl := tk_arr (e4 ▸ hk);obtain ⟨p1, p2⟩ := hp;have key : ∀ b o, v = .pointer (some ⟨b, o, none⟩) -> (Instr.indexAt t v (.int kk k)).run P w = .ok (.pointer (some ⟨b, o + k.toNat * F.size, none⟩)) w := fun b o e => by
    subst e;simp [Instr.indexAt, asIntOf, r_und hu, Instr.sureAddr, p1, p2, r_size hi2, addr_add, s1]
  unfold dfieldAddr at hd;split at hd
  · next id o =>
    obtain rfl := Option.some.inj hd;simp only [Rel] at hx; obtain ⟨b, hb, e⟩ := hx;exact step_no H E (v := .pointer (some ⟨b, o + k.toNat * F.size, none⟩)) (by simp [key _ _ e]) (by simp only [Rel]; exact ⟨b, hb, rfl⟩) hxu trivial
  · next id n2 i2 j2 =>
    obtain rfl := Option.some.inj hd;simp only [Rel] at hx; obtain ⟨b, hb, e⟩ := hx;exact step_no H E (v := .pointer (some ⟨b, i2 * n2 + j2 + k.toNat * F.size, none⟩)) (by simp [key _ _ e]) (by simp only [Rel]; exact ⟨b, hb, by rw [Nat.add_assoc]⟩) hxu trivial
  · next cs =>
    obtain rfl := Option.some.inj hd;simp only [Rel] at hx;generalize hy : PV.ptr cs = y at hx;cases hx with
    | ub b => cases hy
    | map => cases hy
    | lit => cases hy
    | dat => cases hy
    | ptr cs' b o c hS hc hr =>
      cases hy;refine step_no H E (v := .pointer (some ⟨b, o + k.toNat * F.size, none⟩)) (by simp [key _ _ rfl]) ?_ trivial trivial;simp only [Rel];refine .ptr _ b _ (fun j => c (k.toNat * F.size + j)) hS (fun j hj => ?_) (fun j hj => ?_)
      · rw [List.length_drop] at hj;rw [Nat.add_assoc]; exact hc _ (by omega)
      · rw [List.length_drop] at hj;have := hr (k.toNat * F.size + j) (by omega);have e : (cs.drop (k.toNat * F.size)).getD j default = cs.getD (k.toNat * F.size + j) default := by simp
        rw [e]; exact this
  · cases hd
theorem makeSlice_ok (H : HSat B U ρ S w h) (E : ESat N U ρ S w f a) {nid : Nat} (hn : ¬ U nid) (hn0 : ¬ B.U0 nid) {t e : TypeId} {T F : TD} {k1 k2 : IntKind} {n m : Int}
    (ht : td P t = some T) (hk : T.k = .slice e) (hF : td P e = some F) (hz : F.zero.all vcell = true) (hzl : F.zero.length = F.size) (h0 : 0 < F.size) (hp : 0 <= n /\ m = n /\ n <= 2 ^ 40 /\ n * (F.bytes : Int) <= 2 ^ 46) :
    StepOk P B N U nid f h a w (do pure (Next.value (<- Instr.makeSlice t (.int k1 n) (.int k2 m)))) { pre := 0 <= n /\ m = n /\ n <= 2 ^ 40 /\ n * (F.bytes : Int) <= 2 ^ 46, fact := True, d := .gl nid, e := .add nid (.lst e F.size (List.replicate n.toNat (cv F.zero))) } := by
  obtain ⟨i, d, z, hi, hud, hzz, e1, e2, e3, e4, _⟩ := td_spec ht;obtain ⟨i', d', z', hi', hud', hzz', s1, s2, s3, s4, _⟩ := td_spec hF;obtain rfl := tk_slice (e4 ▸ hk);obtain ⟨p1, rfl, p3, p4⟩ := hp;obtain ⟨k, rfl⟩ : ∃ k : Nat, m = k := ⟨m.toNat, by omega⟩;have hza : z'.cells = F.zero.toArray := by rw [s3]
  have hcells : ((Array.range (k * F.size)).map fun j => F.zero[j % F.zero.length]?.getD default) = (List.replicate k F.zero).flatten.toArray := by
    rw [<- zeros_eq F.zero k, hzl];apply Array.ext';simp
  have hlen : (List.replicate k F.zero).flatten.length = k * F.size := by simp [hzl]
  refine newlst_ok H E hn hn0 (cap := k) (vs := (List.replicate k F.zero).flatten) (sp := []) (w' := { w with heap := w.heap.push (.cells (List.replicate k F.zero).flatten.toArray e) }) (fz := (0, 0)) ?_ (by simp) rfl rfl rfl ?_ ?_ ?_ ?_ ?_ ?_ (by simp)
  · have hw : IntKind.i64.wrap (k : Int) = k := IntWalk.i64_in _ (by omega);have hb : ¬ ((k : Int) < 0 ∨ (2 : Int) ^ 48 < (i'.bytes : Int) * k) := by
      rw [<- s2, Int.mul_comm]; omega
    have hb1 : ¬ ((2 : Int) ^ 48 < (i'.bytes : Int) * k) := fun h => hb (.inr h)
    have hcond : ((decide ((k : Int) < 0) || decide ((i'.bytes : Int) * k > 2 ^ 48) || decide ((k : Int) < 0) || decide ((k : Int) > k)) = true) = False := by
      have h1 : decide ((k : Int) < 0) = false := decide_eq_false (by omega);have h2 : decide ((k : Int) > k) = false := decide_eq_false (by omega);have h3 : decide ((i'.bytes : Int) * k > 2 ^ 48) = false := decide_eq_false hb1;rw [h1, h2, h3]; simp
    have ha : ∀ q : IntKind, (asIntOf (Value.int q k)).run P w = .ok (q, (k : Int)) w := fun q => by simp [asIntOf]
    simp only [Instr.makeSlice, Sem.run_bind, r_und hud, Result.andThen_ok, asInt, Sem.run_pure, r_info hi', ha, hw, hcond, if_false, run_askRoom, r_size hi', Int.toNat_natCast];by_cases h0' : k * i'.size = 0
    · have hk0 : k = 0 := by
        rcases Nat.mul_eq_zero.1 h0' with h | h
        · exact h
        · omega
      subst hk0;have er : Array.map (fun _ => (default : Value)) (Array.range 0) = #[] := Array.ext' (by simp);simp [newRow, er]
    · rw [if_neg h0'];have e2 : Array.map (fun x => F.zero.toArray[x % F.zero.toArray.size]!) (Array.range (k * i'.size)) = (List.replicate k F.zero).flatten.toArray := by
        rw [<- s1, <- hcells]; apply Array.ext'; simp
      simp only [Sem.run_bind, r_zero hi' hzz', Result.andThen_ok, hza, Sem.run_pure, e2];simp [newRow]
  · rw [Int.toNat_natCast, cv_flatten]; refine cv_rel ?_;rw [List.all_eq_true]; intro x hx;obtain ⟨r, hr, hxr⟩ := List.mem_flatten.1 hx;rw [List.eq_of_mem_replicate hr] at hxr;exact List.all_eq_true.1 hz x hxr
  · rw [cv_flatten]; exact cv_uses
  · simp; unfold BL; omega
  · simp
  · intro r hr; rw [List.eq_of_mem_replicate hr]; simp [cv, hzl]
  · rw [List.append_nil, hlen]
end
end Go.Eng
