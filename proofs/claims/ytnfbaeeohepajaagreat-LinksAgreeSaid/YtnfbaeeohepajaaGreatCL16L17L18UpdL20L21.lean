/-
  Contracts of functions of the program, over the engine.
  No condition.
-/
import Derived.Test.YtnfbaeeohepajaaGreatCL10L11L12L13
import Derived.Test.YtnfbaeeohepajaaGreatCN0N1NBKSK1
namespace Go.Proofs.YtnfbaeeohepajaaGreat
open Go.Eng
set_option linter.all false
attribute [local irreducible] DCallsG SWp Fct CallQ XCallQ LCallQ XLCallQ drun xrun

theorem floorT_hi {t : List Knot} {x : Int} (h : tabB t = true) (hk : knX t x < t.length) : floorT t x ≤ (t.getD (knX t x) default).y := by
  unfold floorT
  split
  · exact Int.le_refl _
  · next q =>
    split
    · omega
    · have hk0 : 0 < knX t x := Nat.pos_of_ne_zero fun z => q (.inr z)
      have a1 := knX_lo (t := t) (x := x) (j := knX t x - 1) (by omega)
      have a2 := knX_hi (t := t) (x := x) h (Nat.le_refl _) hk
      have a3 := tab_mono2 h (knX t x) (knX t x - 1) (by omega) hk
      generalize (t.getD (knX t x) default) = kb at *
      generalize (t.getD (knX t x - 1) default) = ka at *
      have hU : 0 ≤ kb.y - ka.y := by omega
      have hD : 0 < kb.x - ka.x := by omega
      have c2 : (kb.y - ka.y) * (x - ka.x) / (kb.x - ka.x) ≤ kb.y - ka.y := by
        have := Int.mul_le_mul_of_nonneg_left (show x - ka.x ≤ kb.x - ka.x by omega) hU
        calc (kb.y - ka.y) * (x - ka.x) / (kb.x - ka.x) ≤ (kb.y - ka.y) * (kb.x - ka.x) / (kb.x - ka.x) := Int.ediv_le_ediv hD this
          _ = kb.y - ka.y := Int.mul_ediv_cancel _ (by omega)
      omega
theorem floorT_lo {t : List Knot} {x : Int} {i : Nat} (h : tabB t = true) (hi : i < knX t x) : (t.getD i default).y ≤ floorT t x := by
  have hk := knX_le t x
  unfold floorT
  split
  · next q =>
    rcases q with q | q
    · exact (tab_mono2 h _ i (by omega) q.1).2
    · omega
  · next q =>
    split
    · next e => exact (tab_mono2 h _ i (by omega) (by omega)).2
    · next e =>
      have a1 := knX_lo (t := t) (x := x) (j := knX t x - 1) (by omega)
      have a2 := knX_hi (t := t) (x := x) h (Nat.le_refl _) (by omega)
      have a3 := tab_mono2 h (knX t x) (knX t x - 1) (by omega) (by omega)
      have a4 := tab_mono2 h (knX t x - 1) i (by omega) (by omega)
      generalize (t.getD (knX t x) default) = kb at *
      generalize (t.getD (knX t x - 1) default) = ka at *
      have hU : 0 ≤ kb.y - ka.y := by omega
      have hD : 0 < kb.x - ka.x := by omega
      have c1 : 0 ≤ (kb.y - ka.y) * (x - ka.x) / (kb.x - ka.x) := Int.ediv_nonneg (Int.mul_nonneg hU (by omega)) (by omega)
      omega
theorem floorT_mono {t : List Knot} {x y : Int} (h : tabB t = true) (hxy : x ≤ y) : floorT t x ≤ floorT t y := by
  have hl := (tab_in h).1
  have lx := knX_le t x
  have ly := knX_le t y
  have hkk : knX t x ≤ knX t y := by
    refine Nat.le_of_not_lt fun hlt => ?_
    have h1 := knX_lo hlt
    have h2 := knX_hi (x := y) h (Nat.le_refl _) (show knX t y < t.length by omega)
    omega
  rcases Nat.lt_or_ge (knX t x) (knX t y) with hlt | hge
  · exact Int.le_trans (floorT_hi h (by omega)) (floorT_lo h hlt)
  have e : knX t x = knX t y := by omega
  by_cases hk : knX t y < t.length
  · by_cases hy : (t.getD (knX t y) default).x = y
    · have e1 : floorT t y = (t.getD (knX t y) default).y := by unfold floorT; rw [if_pos (.inl ⟨hk, hy⟩)]
      rw [e1, ← e]
      exact floorT_hi h (by omega)
    · have h2 := knX_hi (x := y) h (Nat.le_refl _) hk
      have h3 : ¬ (t.getD (knX t y) default).x = x := by omega
      by_cases h0 : knX t y = 0
      · have e1 : floorT t y = (t.getD (knX t y) default).y := by unfold floorT; rw [if_pos (.inr h0)]
        have e2 : floorT t x = (t.getD (knX t x) default).y := by unfold floorT; rw [if_pos (.inr (by omega))]
        rw [e1, e2, e]; exact Int.le_refl _
      · have a1 := knX_lo (t := t) (x := x) (j := knX t x - 1) (by omega)
        have a3 := tab_mono2 h (knX t y) (knX t y - 1) (by omega) hk
        unfold floorT
        rw [e] at a1 ⊢
        rw [if_neg (fun q => q.elim (fun q => h3 q.2) h0), if_neg (show ¬ knX t y = t.length by omega), if_neg (fun q => q.elim (fun q => hy q.2) h0), if_neg (show ¬ knX t y = t.length by omega)]
        generalize (t.getD (knX t y) default) = kb at *
        generalize (t.getD (knX t y - 1) default) = ka at *
        have hU : 0 ≤ kb.y - ka.y := by omega
        have hD : 0 < kb.x - ka.x := by omega
        have := Int.ediv_le_ediv hD (Int.mul_le_mul_of_nonneg_left (show x - ka.x ≤ y - ka.x by omega) hU)
        omega
  · have e1 : knX t y = t.length := by omega
    have e2 : knX t x = t.length := by omega
    unfold floorT
    rw [e1, e2]
    have n1 : ∀ z : Int, ¬ ((t.length < t.length ∧ (t.getD t.length default).x = z) ∨ t.length = 0) := fun z q => by omega
    rw [if_neg (n1 x), if_pos rfl, if_neg (n1 y), if_pos rfl]
    exact Int.le_refl _
theorem limI_min (q : Nat) : limI q = min (q : Int) 1099511627776 := by
  unfold limI bigB
  by_cases h : 1099511627776 < q
  · rw [decide_eq_true h, if_pos rfl]; omega
  · rw [decide_eq_false h, if_neg (by decide)]; omega
theorem limI_mono {a b : Nat} (h : a ≤ b) : limI a ≤ limI b := by rw [limI_min, limI_min]; omega
theorem limI_in (q : Nat) : 0 ≤ limI q ∧ limI q ≤ 1099511627776 := by rw [limI_min]; omega
theorem toNat_mono {a b : Int} (h : a ≤ b) : a.toNat ≤ b.toNat := by omega
theorem capaN_mono {s : Sect} {y y2 fall fall2 len : Nat} (h : secB s = true) (hy : y ≤ y2) (hf : fall ≤ fall2) (hf2 : fall2 ≤ 4194304) : capaN s y fall len ≤ capaN s y2 fall2 len := by
  unfold capaN
  have k1 := conv_in h y2
  have k2 := toNat_mono (floorT_mono (fitT_in (secB_in h).conv).1 (show (y : Int) ≤ (y2 : Int) by omega))
  have k3 := cap_fits (k := (floorT s.conv y2).toNat) (fall := fall2) (by omega) hf2
  have k4 := Nat.div_le_self ((floorT s.conv y2).toNat * (floorT s.conv y2).toNat * fall2) len
  generalize (floorT s.conv y2).toNat = b at *
  generalize (floorT s.conv y).toNat = a at *
  refine rt_mono (Nat.div_le_div_right (Nat.mul_le_mul (Nat.mul_le_mul k2 k2) hf)) (by omega)
theorem weirN_mono {b h h2 : Nat} (hh : h ≤ h2) (hb : b ≤ 1048576) (hm : h2 ≤ 1048576) : weirN b h ≤ weirN b h2 := by
  unfold weirN
  have k := weir_fits hb hm
  have k4 := Nat.div_le_self (b * b * (h2 * h2) * h2 * 289) 100000
  refine rt_mono (Nat.div_le_div_right (Nat.mul_le_mul_right _ (Nat.mul_le_mul (Nat.mul_le_mul_left _ (Nat.mul_le_mul hh hh)) hh))) (by omega)
theorem orifN_mono {a a2 h h2 : Nat} (ha : a ≤ a2) (hh : h ≤ h2) (hb : a2 ≤ 1073741824) (hm : h2 ≤ 1048576) : orifN a h ≤ orifN a2 h2 := by
  unfold orifN
  have k := orif_fits hb hm
  have k4 := Nat.div_le_self (a2 * a2 * h2 * 8829) 1250000
  refine rt_mono (Nat.div_le_div_right (Nat.mul_le_mul_right _ (Nat.mul_le_mul (Nat.mul_le_mul ha ha) hh))) (by omega)
theorem headI_max (x : Link) (up down : Int) : headI x up down = max 0 (up - max down x.up) := by
  unfold headI
  split <;> split at * <;> omega
theorem optL_in (o : Option Nat) : 0 ≤ optL o ∧ optL o ≤ 1099511627776 := by
  cases o with
  | none => exact ⟨by decide, by decide⟩
  | some q => exact limI_in q
theorem over_mono {x : Link} {up down up2 down2 : Int} (hx : weirB x = true) (hu : up ≤ up2) (hd : down2 ≤ down) : optL (overO x up down) ≤ optL (overO x up2 down2) := by
  have hin := weirB_in hx
  have hh : headI x up down ≤ headI x up2 down2 := by rw [headI_max, headI_max]; omega
  have h0 : 0 ≤ headI x up down := by rw [headI_max]; omega
  unfold overO
  by_cases h2 : headI x up2 down2 ≤ 1048576
  · rw [if_pos h2, if_pos (by omega)]
    exact limI_mono (weirN_mono (toNat_mono hh) (by omega) (by omega))
  · rw [if_neg h2]
    exact (optL_in _).2
theorem gate_area {W Z s h s2 h2 : Nat} (hs : s ≤ s2) (hh : h ≤ h2) (w1 : W ≤ 32768) (z1 : Z ≤ 32768) (s1 : s2 ≤ 1000) : W * min (Z * s / 1000) h ≤ W * min (Z * s2 / 1000) h2 ∧ W * min (Z * s2 / 1000) h2 ≤ 1073741824 := by
  have a1 : Z * s ≤ Z * s2 := Nat.mul_le_mul_left _ hs
  have a2 : Z * s2 ≤ 32768 * 1000 := Nat.mul_le_mul z1 s1
  have a3 : Z * s / 1000 ≤ Z * s2 / 1000 := Nat.div_le_div_right a1
  have a4 : Z * s2 / 1000 ≤ 32768 := by omega
  have a5 : min (Z * s2 / 1000) h2 ≤ 32768 := by omega
  exact ⟨Nat.mul_le_mul_left _ (by omega), Nat.mul_le_mul w1 a5⟩
theorem gate_mono {x : Link} {s s2 : Nat} {up down up2 down2 : Int} (hx : gateB x = true) (hs : s ≤ s2) (hs2 : s2 ≤ 1000) (hu : up ≤ up2) (hd : down2 ≤ down) : optL (gateO x s up down) ≤ optL (gateO x s2 up2 down2) := by
  have hin := gateB_in hx
  have hh : headI x up down ≤ headI x up2 down2 := by rw [headI_max, headI_max]; omega
  have h0 : 0 ≤ headI x up down := by rw [headI_max]; omega
  unfold gateO
  by_cases h2 : headI x up2 down2 ≤ 1048576
  · rw [if_pos h2, if_pos (by omega)]
    unfold gateN
    have k := gate_area (W := x.width.toNat) (Z := x.height.toNat) hs (toNat_mono hh) (by omega) (by omega) hs2
    exact limI_mono (orifN_mono k.1 (toNat_mono hh) k.2 (by omega))
  · rw [if_neg h2]
    exact (optL_in _).2
theorem pumpQ_mono {x : Link} {s s2 d d2 : Nat} (hp : pumpB x = true) (hs : s ≤ s2) (hd : d ≤ d2) : pumpQ x s d ≤ pumpQ x s2 d2 := by
  unfold pumpQ
  have k := toNat_mono (floorT_mono (pumpB_in hp).2.2.2.2.2.1 (show (d : Int) ≤ (d2 : Int) by omega))
  exact Nat.div_le_div_right (Nat.mul_le_mul k hs)
theorem pumpQ_max {x : Link} {s d : Nat} (hp : pumpB x = true) (hs : s ≤ 1000) : (pumpQ x s d : Int) ≤ 1099511627776 := by
  unfold pumpQ
  have k := (pumpB_in hp).2.2.2.2.2.2 d
  have := pumpQ_le (c := (floorT x.curve d).toNat) (by omega) hs
  omega
theorem pipe_mono {x : Link} {s : Sect} {up down up2 down2 : Int} (h : secB s = true) (hu : up ≤ up2) (hd : down2 ≤ down) : limI (pipeN x s up down) ≤ limI (pipeN x s up2 down2) := by
  have hs := secB_in h
  have h1 := hs.h1
  refine limI_mono ?_
  unfold pipeN
  refine capaN_mono h (toNat_mono ?_) (toNat_mono ?_) ?_
  · unfold pipY; omega
  · unfold pipH pipY; omega
  · have := pipH_in (x := x) (up := up2) (down := down2) (y := pipY x s up2); omega
theorem flowI_mono {n : Net} {l : List Sect} {x : Link} {up down up2 down2 : Int} {s s2 : Nat} (h : BtwIn n l x up down s) (h2 : BtwIn n l x up2 down2 s2) (hu : up ≤ up2) (hd : down2 ≤ down) (hs : s ≤ s2) : flowI n l x up down s true ≤ flowI n l x up2 down2 s2 true := by
  unfold flowI
  by_cases k1 : x.kind = 1
  · rw [if_pos k1, if_pos k1]
    obtain ⟨i, ei, hi⟩ := sect_at h.kn k1
    rw [ei, Int.toNat_natCast]
    exact pipe_mono (okS_in h.cb hi) hu hd
  by_cases k2 : x.kind = 2
  · rw [if_neg k1, if_pos k2, if_neg k1, if_pos k2]
    exact over_mono (kind2_in h.xr k2) hu hd
  by_cases k3 : x.kind = 3
  · rw [if_neg k1, if_neg k2, if_pos k3, if_neg k1, if_neg k2, if_pos k3]
    exact gate_mono (kind3_in h.xr k3) hs h2.se hu hd
  rw [if_neg k1, if_neg k2, if_neg k3, if_pos rfl, if_neg k1, if_neg k2, if_neg k3, if_pos rfl]
  have k4 : x.kind = 4 := by have := kind_in h.xr; omega
  have := pumpQ_mono (x := x) (s := s) (s2 := s2) (d := (min (up - (n.nodes.getD (nodeIx n.nodes x.fro).toNat default).inv) 4194304).toNat) (d2 := (min (up2 - (n.nodes.getD (nodeIx n.nodes x.fro).toNat default).inv) 4194304).toNat) (by unfold pumpB; simp [k4, h.xr]) hs (by omega)
  omega
theorem flowI_in {n : Net} {l : List Sect} {x : Link} {up down : Int} {s : Nat} {on : Bool} (h : BtwIn n l x up down s) : 0 ≤ flowI n l x up down s on ∧ flowI n l x up down s on ≤ 1099511627776 := by
  unfold flowI
  by_cases k1 : x.kind = 1
  · rw [if_pos k1]; exact limI_in _
  by_cases k2 : x.kind = 2
  · rw [if_neg k1, if_pos k2]; exact optL_in _
  by_cases k3 : x.kind = 3
  · rw [if_neg k1, if_neg k2, if_pos k3]; exact optL_in _
  rw [if_neg k1, if_neg k2, if_neg k3]
  have k4 : x.kind = 4 := by have := kind_in h.xr; omega
  cases on
  · rw [if_neg (by decide)]; exact ⟨by decide, by decide⟩
  · rw [if_pos rfl]
    exact ⟨by omega, pumpQ_max (by unfold pumpB; simp [k4, h.xr]) h.se⟩
theorem flowI_off {n : Net} {l : List Sect} {x : Link} {up down : Int} {s : Nat} (h : BtwIn n l x up down s) : 0 ≤ flowI n l x up down s false ∧ flowI n l x up down s false ≤ flowI n l x up down s true ∧ (x.kind = 4 → flowI n l x up down s false = 0) := by
  have h1 := flowI_in (on := false) h
  have h2 := flowI_in (on := true) h
  refine ⟨h1.1, ?_, ?_⟩
  · by_cases k4 : x.kind = 4
    · have e : flowI n l x up down s false = 0 := by unfold flowI; simp [k4]
      omega
    · have e : flowI n l x up down s false = flowI n l x up down s true := by
        have k := kind_in h.xr
        unfold flowI
        rcases k with k | k | k | k
        · simp [k]
        · simp [k]
        · simp [k]
        · exact absurd k k4
      omega
  · intro k4; unfold flowI; simp [k4]
theorem flowI_pump {n : Net} {l : List Sect} {x : Link} {up down down2 : Int} {s : Nat} {on : Bool} (k4 : x.kind = 4) : flowI n l x up down s on = flowI n l x up down2 s on := by
  unfold flowI; simp [k4]
theorem rt_0div (a len : Nat) : rt (a * 0 / len) = 0 := by rw [Nat.mul_zero, Nat.zero_div, rt_0]
theorem conv_0 {s : Sect} (h : secB s = true) : floorT s.conv 0 = 0 := by
  have k := fitT_in (secB_in h).conv
  have hl := (tab_in k.1).1
  have e : knX s.conv 0 = 0 := by
    refine Nat.eq_zero_of_not_pos fun hp => ?_
    have := knX_lo hp
    omega
  unfold floorT
  rw [if_pos (.inr e), e]; exact k.2.2.1
theorem limI_0 : limI 0 = 0 := by rw [limI_min]; decide
theorem flowI_up {n : Net} {l : List Sect} {x : Link} {up down : Int} {s : Nat} {on : Bool} (h : BtwIn n l x up down s) (k4 : ¬ x.kind = 4) (hud : up ≤ x.up ∨ up ≤ down) : flowI n l x up down s on = 0 := by
  unfold flowI
  by_cases k1 : x.kind = 1
  · rw [if_pos k1]
    obtain ⟨i, ei, hi⟩ := sect_at h.kn k1
    rw [ei, Int.toNat_natCast]
    have hs := okS_in h.cb hi
    have h1 := (secB_in hs).h1
    generalize l.getD i default = c at *
    have e : pipeN x c up down = 0 := by
      unfold pipeN capaN
      rcases hud with hu | hu
      · have e1 : pipY x c up = 0 := by unfold pipY; omega
        rw [e1]
        have e2 : floorT c.conv ((0 : Int).toNat : Nat) = 0 := conv_0 hs
        rw [e2]
        have e3 : (0 : Int).toNat = 0 := rfl
        rw [e3]; simp only [Nat.zero_mul, Nat.mul_zero, Nat.zero_div]; exact rt_0
      · have e1 : pipH x up down (pipY x c up) = 0 := by unfold pipH; omega
        rw [e1]
        exact rt_0div _ _
    rw [e, limI_0]
  have hh : headI x up down = 0 := by rw [headI_max]; omega
  by_cases k2 : x.kind = 2
  · rw [if_neg k1, if_pos k2]
    unfold overO
    rw [hh, if_pos (by decide)]
    have e : weirN x.width.toNat (0 : Int).toNat = 0 := by
      unfold weirN
      have e3 : (0 : Int).toNat = 0 := rfl
      rw [e3]; simp only [Nat.zero_mul, Nat.mul_zero, Nat.zero_div]; exact rt_0
    rw [e]; exact limI_0
  by_cases k3 : x.kind = 3
  · rw [if_neg k1, if_neg k2, if_pos k3]
    unfold gateO
    rw [hh, if_pos (by decide)]
    have e : gateN x s (0 : Int).toNat = 0 := by
      unfold gateN orifN
      have e3 : (0 : Int).toNat = 0 := rfl
      rw [e3]; simp only [Nat.zero_mul, Nat.mul_zero, Nat.zero_div]; exact rt_0
    rw [e]; exact limI_0
  have := kind_in h.xr
  omega
theorem flowI_free {n : Net} {l : List Sect} {x : Link} {up down down2 : Int} {s s2 : Nat} {on on2 : Bool} (h : BtwIn n l x up down s) (k1 : x.kind = 1) (hd : down ≤ x.down) (hd2 : down2 ≤ x.down) : flowI n l x up down s on = flowI n l x up down2 s2 on2 := by
  unfold flowI
  rw [if_pos k1, if_pos k1]
  obtain ⟨i, ei, hi⟩ := sect_at h.kn k1
  rw [ei, Int.toNat_natCast]
  have h1 := (secB_in (okS_in h.cb hi)).h1
  generalize l.getD i default = c at *
  have e : pipH x up down (pipY x c up) = pipH x up down2 (pipY x c up) := by unfold pipH pipY; omega
  unfold pipeN
  rw [e]
def outB (n : Net) (i : Nat) (v : Int) : Bool := !btwB v (n.nodes.getD i default).inv (n.nodes.getD i default).gnd
def intC (i : Int) : List PV := [.lit (.int .i64 i)]
theorem intC_map (i : Int) : (intC i).map DV.p = [.p (.lit (.int .i64 i))] := rfl
attribute [push_cast] intC_map
abbrev outH (n : Net) (i : Nat) : List (Nat × HV) := [(0, .blk 25 ((netP n).map .p)), (1, .blk 3 ((intC i).map .p))]
set_option maxHeartbeats 1000000 in
theorem idxInt2_f (g : FuncId) (t1 t2 : TypeId) (cs1 cs2 : List PV) (p : Int → Bool) (l : List Int) (hl : l.length ≤ 281474976710656) (hg : ∀ x, x ∈ l → ∀ m, DCalls Tryz.prog g [li x, .ptr 0 0, .ptr 1 0] (hget [(0, .blk t1 (cs1.map .p)), (1, .blk t2 (cs2.map .p))]) m (lb (p x)) (hget [(0, .blk t1 (cs1.map .p)), (1, .blk t2 (cs2.map .p))])) :
    DCalls Tryz.prog 158 [ints l, .clo g [.ptr 0 0, .ptr 1 0]] (hget [(0, .blk t1 (cs1.map .p)), (1, .blk t2 (cs2.map .p))]) 2 (li (idxI p l)) (hget [(0, .blk t1 (cs1.map .p)), (1, .blk t2 (cs2.map .p))]) := by
  refine contract (n := 19) (rs := [.tmp 4]) (ts := [3]) Tryz.func158 rfl (by decide) 2 2 [] [] [] (li (idxI p l)) [(0, .blk t1 (cs1.map .p)), (1, .blk t2 (cs2.map .p))] (by (exact SD)) (by (exact SD)) ?_
  (repeat' (first | refine swp_seq [0, 1, 4, 5, 7, 8, 9, 16] ?_ | refine st2 ?_ | (show Fct ..; refine fctI (fun hf => ?_)) | (show SWp _ _ _ (.cond _ _ _) _ _ _ _; first | refine cB (fun hc => ?_) (fun hc => ?_) | refine cU ?_ ?_)))
  refine loop_swp [0, 1, 7, 8] [0, 1] 2 (fun q A H => ∃ i : Nat, i ≤ l.length ∧ q = l.length - i ∧ (l.take i).any p = false ∧ A = [(0, ints l), (1, .clo g [.ptr 0 0, .ptr 1 0]), (7, li l.length), (8, li i)] ∧ H = [(0, .blk t1 (cs1.map .p)), (1, .blk t2 (cs2.map .p))]) (by omega) ?_ ?_ ?_
  · rintro q A H ⟨i, h1, h2, h3, rfl, rfl⟩
    exact ⟨by (exact SD), by (exact SD)⟩
  · refine ⟨_, 0, by omega, rfl, rfl, ?_, ?_⟩
    · exact DVR
    · exact DVR
  · rintro q A H ⟨i, h1, h2, h3, rfl, rfl⟩
    (repeat' (first | refine swp_seq [0, 1, 4, 5, 7, 8, 9, 16] ?_ | refine st2 ?_ | (show CallQ ..; first | refine cQ (fun hcc => (hg _ (getD_mem SC) _)) ?_ | (refine lP ?_; refine lQ (fun hcc m => (hg _ (getD_mem SC) _)) ?_)) | (show Fct ..; refine fctI (fun hf => ?_)) | (show SWp _ _ _ (.cond _ _ _) _ _ _ _; first | refine cB (fun hc => ?_) (fun hc => ?_) | refine cU ?_ ?_)))
    · (refine DVQ ?_)
      rw [idxI_hit h3 (by omega) (by assumption)]
    · (refine lN [0, 1] ?_)
      exact ⟨_, by omega, i + 1, by omega, rfl, any_step h3 (by omega) (by assumption), rfl, rfl⟩
    · (refine DVQ ?_)
      rw [List.take_of_length_le (by omega)] at h3
      rw [idxI_none h3]
theorem conInt2_f (g : FuncId) (t1 t2 : TypeId) (cs1 cs2 : List PV) (p : Int → Bool) (l : List Int) (hl : l.length ≤ 281474976710656) (hg : ∀ x, x ∈ l → ∀ m, DCalls Tryz.prog g [li x, .ptr 0 0, .ptr 1 0] (hget [(0, .blk t1 (cs1.map .p)), (1, .blk t2 (cs2.map .p))]) m (lb (p x)) (hget [(0, .blk t1 (cs1.map .p)), (1, .blk t2 (cs2.map .p))])) :
    DCalls Tryz.prog 114 [ints l, .clo g [.ptr 0 0, .ptr 1 0]] (hget [(0, .blk t1 (cs1.map .p)), (1, .blk t2 (cs2.map .p))]) 2 (lb (l.any p)) (hget [(0, .blk t1 (cs1.map .p)), (1, .blk t2 (cs2.map .p))]) := by
  have ci := idxInt2_f g t1 t2 cs1 cs2 p l hl hg
  refine contract (n := 9) (rs := [.tmp 4]) (ts := [4]) Tryz.func114 rfl (by decide) 2 2 [] [] [] (lb (l.any p)) [(0, .blk t1 (cs1.map .p)), (1, .blk t2 (cs2.map .p))] (by (exact SD)) (by (exact SD)) ?_
  (repeat' (first | refine swp_seq [0, 1, 4] ?_ | refine st2 ?_ | (show Fct ..; refine fctI (fun hf => ?_)) | (show SWp _ _ _ (.cond _ _ _) _ _ _ _; first | refine cB (fun hc => ?_) (fun hc => ?_) | refine cU ?_ ?_)))
  (refine cQT [0, 1] (fun hcc => ci) ?_)
  (repeat' (first | refine swp_seq [0, 1, 4] ?_ | refine st2 ?_ | (show Fct ..; refine fctI (fun hf => ?_)) | (show SWp _ _ _ (.cond _ _ _) _ _ _ _; first | refine cB (fun hc => ?_) (fun hc => ?_) | refine cU ?_ ?_)))
  (refine DVQ ?_)
  rw [idxI_any]
theorem given2_f (n : Net) (i : Nat) (v : Int) (m : Nat) (no : netOk n) (hi : i < n.nodes.length) : DCalls Tryz.prog 113 [li v, .ptr 0 0, .ptr 1 0] (hget (outH n i)) m (lb (outB n i v)) (hget (outH n i)) := by
  unfold outH
  have hn1 := no.1.1
  (have := Nonempty.intro hi)
  have cw := fun m => lwithin_f (n.nodes.getD i default) v m
  unfold outB
  generalize btwB v (n.nodes.getD i default).inv (n.nodes.getD i default).gnd = b at *
  refine contract (n := 13) (rs := [.tmp 4]) (ts := [4]) Tryz.func113 rfl (by decide) 2 2 [] [] [] (lb (!b)) [(0, .blk 25 ((netP n).map .p)), (1, .blk 3 ((intC i).map .p))] (by (exact SD)) (by (exact SD)) ?_
  (repeat' (first | refine swp_seq [0, 1, 2, 4] ?_ | refine st2 ?_ | (show CallQ ..; first | refine cQ (fun hcc => (by first | exact cw _)) ?_ | (refine lP ?_; refine lQ (fun hcc m => (by first | exact cw _)) ?_)) | (show Fct ..; refine fctI (fun hf => ?_)) | (show SWp _ _ _ (.cond _ _ _) _ _ _ _; first | refine cB (fun hc => ?_) (fun hc => ?_) | refine cU ?_ ?_)))
  exact DVR
theorem given1_f (n : Net) (i : Int) (m : Nat) : DCallsG Tryz.prog 112 [] [li i, .ptr 0 0] (hget [(0, .blk 25 ((netP n).map .p))]) m (.clo 113 [.ptr 0 0, .ptr m 0]) (hget [(0, .blk 25 ((netP n).map .p)), (m, .blk 3 ((intC i).map .p))]) := by
  refine contract (n := 5) (rs := [.tmp 3]) (ts := [103]) Tryz.func112 rfl (by decide) 1 1 [] [] [1] (.clo 113 [.ptr 0 0, .ptr 1 0]) [(0, .blk 25 ((netP n).map .p)), (1, .blk 3 ((intC i).map .p))] (by (exact SD)) (by (exact SD)) ?_
  (repeat' (first | refine swp_seq [0, 1, 2, 3] ?_ | refine st2 ?_ | (show Fct ..; refine fctI (fun hf => ?_)) | (show SWp _ _ _ (.cond _ _ _) _ _ _ _; first | refine cB (fun hc => ?_) (fun hc => ?_) | refine cU ?_ ?_)))
  exact DVR
def givE (n : Net) (l : List Sect) (k s : Int) (up down : List Int) : Int :=
  if linkedB n k s then
    if up.any (outB n (fromI n k.toNat)) || down.any (outB n (tillI n k.toNat)) then 2
    else if knownB l (n.links.getD k.toNat default) then 0 else 9
  else 2
set_option maxRecDepth 20000 in
set_option maxHeartbeats 4000000 in
theorem given_f (n : Net) (l : List Sect) (k s : Int) (up down : List Int) (m : Nat) (no : netOk n) (co : catOk l) (nb : netB n = true) (hu : up.length ≤ 281474976710656) (hd : down.length ≤ 281474976710656) : DCalls Tryz.prog 66 [netD n, sectL l, li k, li s, ints up, ints down] (hget []) m (li (givE n l k s up down)) (hget []) := by
  have c4 := fun m => lsetting_f s m
  have hll := no.2.1
  unfold givE linkedB
  by_cases k0 : k < 0
  · (have := Nonempty.intro k0)
    rw [decide_eq_false (show ¬ 0 ≤ k by omega)]
    refine pureC (n := 63) (rs := [.tmp 12]) (ts := [30]) Tryz.func66 rfl (by decide) [] (by (exact SD)) ?_
    (repeat' (first | refine swp_seq [0, 1, 2, 3, 4, 5, 6, 12, 13, 14, 15, 29, 41, 54] ?_ | refine st2 ?_ | (show Fct ..; refine fctI (fun hf => ?_)) | (show SWp _ _ _ (.cond _ _ _) _ _ _ _; first | refine cB (fun hc => ?_) (fun hc => ?_) | refine cU ?_ ?_)))
    exact DVR
  rw [decide_eq_true (show 0 ≤ k by omega)]
  obtain ⟨j, rfl⟩ : ∃ j : Nat, k = (j : Int) := ⟨k.toNat, by omega⟩
  rw [Int.toNat_natCast]
  (have := Nonempty.intro k0)
  by_cases kl : (j : Int) < (n.links.length : Int)
  · have kl2 : ¬ (n.links.length : Int) ≤ (j : Int) := by omega
    have hj : j < n.links.length := by omega
    (have := Nonempty.intro kl2)
    (have := Nonempty.intro hj)
    rw [decide_eq_true kl]
    cases hs : btwB s 0 1000 <;> simp only [hs] at c4
    · refine pureC (n := 63) (rs := [.tmp 12]) (ts := [30]) Tryz.func66 rfl (by decide) [] (by (exact SD)) ?_
      (repeat' (first | refine swp_seq [0, 1, 2, 3, 4, 5, 6, 12, 13, 14, 15, 29, 41, 54] ?_ | refine st2 ?_ | (show CallQ ..; first | refine cQ (fun hcc => (by first | exact c4 _)) ?_ | (refine lP ?_; refine lQ (fun hcc m => (by first | exact c4 _)) ?_)) | (show XCallQ ..; first | refine xQ (fun hcc => (by first | exact c4 _)) ?_ | (refine xlP ?_; refine xlQ (fun hcc m => (by first | exact c4 _)) ?_)) | (show Fct ..; refine fctI (fun hf => ?_)) | (show SWp _ _ _ (.cond _ _ _) _ _ _ _; first | refine cB (fun hc => ?_) (fun hc => ?_) | refine cU ?_ ?_)))
      exact DVR
    rw [if_pos (by rfl)]
    have hf := fromI_lt nb hj
    have ht := tillI_lt nb hj
    have c1 := fun m => ends_f n (n.links.getD j default) m no.1.1
    rw [hf.2, ht.2] at c1
    have c5 := fun m => known_f l (n.links.getD j default) m co.1
    have d1 := conInt2_f 113 25 3 (netP n) (intC (fromI n j)) (outB n (fromI n j)) up hu (fun x _ m => given2_f n (fromI n j) x m no hf.1)
    have d2 := conInt2_f 113 25 3 (netP n) (intC (tillI n j)) (outB n (tillI n j)) down hd (fun x _ m => given2_f n (tillI n j) x m no ht.1)
    generalize fromI n j = a at *
    generalize tillI n j = b at *
    have g1 := fun m => given1_f n a m
    have g2 := fun m => given1_f n b m
    generalize up.any (outB n a) = ua at *
    generalize down.any (outB n b) = ub at *
    generalize knownB l (n.links.getD j default) = kb at *
    clear hf ht
    refine pureC (n := 63) (rs := [.tmp 12]) (ts := [30]) Tryz.func66 rfl (by decide) [] (by (exact SD)) ?_
    cases ua
    · (repeat' (first | refine swp_seq [0, 1, 2, 3, 4, 5, 6, 12, 13, 14, 15, 29, 41, 54] ?_ | refine st2 ?_ | (show CallQ ..; first | refine cQ (fun hcc => (by first | exact c4 _ | exact c1 _)) ?_ | (refine lP ?_; refine lQ (fun hcc m => (by first | exact c4 _ | exact c1 _)) ?_)) | (show XCallQ ..; first | refine xQ (fun hcc => (by first | exact c4 _ | exact c1 _)) ?_ | (refine xlP ?_; refine xlQ (fun hcc m => (by first | exact c4 _ | exact c1 _)) ?_)) | (show Fct ..; refine fctI (fun hf => ?_)) | (show SWp _ _ _ (.cond _ _ _) _ _ _ _; first | refine cB (fun hc => ?_) (fun hc => ?_) | refine cU ?_ ?_)))
      (refine cQT [0] (fun hcc => (g1 1)) ?_)
      (repeat' (first | refine swp_seq [0, 1, 2, 3, 4, 5, 6, 12, 13, 14, 15, 29, 41, 54] ?_ | refine st2 ?_ | (show Fct ..; refine fctI (fun hf => ?_)) | (show SWp _ _ _ (.cond _ _ _) _ _ _ _; first | refine cB (fun hc => ?_) (fun hc => ?_) | refine cU ?_ ?_)))
      (refine cQT [0, 264] (fun hcc => d1) ?_)
      (repeat' (first | refine swp_seq [0, 1, 2, 3, 4, 5, 6, 12, 13, 14, 15, 29, 41, 54] ?_ | refine st2 ?_ | (show Fct ..; refine fctI (fun hf => ?_)) | (show SWp _ _ _ (.cond _ _ _) _ _ _ _; first | refine cB (fun hc => ?_) (fun hc => ?_) | refine cU ?_ ?_)))
      (refine cQT [0] (fun hcc => (g2 1)) ?_)
      (repeat' (first | refine swp_seq [0, 1, 2, 3, 4, 5, 6, 12, 13, 14, 15, 29, 41, 54] ?_ | refine st2 ?_ | (show Fct ..; refine fctI (fun hf => ?_)) | (show SWp _ _ _ (.cond _ _ _) _ _ _ _; first | refine cB (fun hc => ?_) (fun hc => ?_) | refine cU ?_ ?_)))
      (refine cQT [0, 312] (fun hcc => d2) ?_)
      cases ub
      · cases kb
        · (repeat' (first | refine swp_seq [0, 1, 2, 3, 4, 5, 6, 12, 13, 14, 15, 29, 41, 54] ?_ | refine st2 ?_ | (show CallQ ..; first | refine cQ (fun hcc => (by first | exact c5 _)) ?_ | (refine lP ?_; refine lQ (fun hcc m => (by first | exact c5 _)) ?_)) | (show XCallQ ..; first | refine xQ (fun hcc => (by first | exact c5 _)) ?_ | (refine xlP ?_; refine xlQ (fun hcc m => (by first | exact c5 _)) ?_)) | (show Fct ..; refine fctI (fun hf => ?_)) | (show SWp _ _ _ (.cond _ _ _) _ _ _ _; first | refine cB (fun hc => ?_) (fun hc => ?_) | refine cU ?_ ?_)))
          exact DVR
        · (repeat' (first | refine swp_seq [0, 1, 2, 3, 4, 5, 6, 12, 13, 14, 15, 29, 41, 54] ?_ | refine st2 ?_ | (show CallQ ..; first | refine cQ (fun hcc => (by first | exact c5 _)) ?_ | (refine lP ?_; refine lQ (fun hcc m => (by first | exact c5 _)) ?_)) | (show XCallQ ..; first | refine xQ (fun hcc => (by first | exact c5 _)) ?_ | (refine xlP ?_; refine xlQ (fun hcc m => (by first | exact c5 _)) ?_)) | (show Fct ..; refine fctI (fun hf => ?_)) | (show SWp _ _ _ (.cond _ _ _) _ _ _ _; first | refine cB (fun hc => ?_) (fun hc => ?_) | refine cU ?_ ?_)))
          exact DVR
      · (repeat' (first | refine swp_seq [0, 1, 2, 3, 4, 5, 6, 12, 13, 14, 15, 29, 41, 54] ?_ | refine st2 ?_ | (show Fct ..; refine fctI (fun hf => ?_)) | (show SWp _ _ _ (.cond _ _ _) _ _ _ _; first | refine cB (fun hc => ?_) (fun hc => ?_) | refine cU ?_ ?_)))
        exact DVR
    · (repeat' (first | refine swp_seq [0, 1, 2, 3, 4, 5, 6, 12, 13, 14, 15, 29, 41, 54] ?_ | refine st2 ?_ | (show CallQ ..; first | refine cQ (fun hcc => (by first | exact c4 _ | exact c1 _)) ?_ | (refine lP ?_; refine lQ (fun hcc m => (by first | exact c4 _ | exact c1 _)) ?_)) | (show XCallQ ..; first | refine xQ (fun hcc => (by first | exact c4 _ | exact c1 _)) ?_ | (refine xlP ?_; refine xlQ (fun hcc m => (by first | exact c4 _ | exact c1 _)) ?_)) | (show Fct ..; refine fctI (fun hf => ?_)) | (show SWp _ _ _ (.cond _ _ _) _ _ _ _; first | refine cB (fun hc => ?_) (fun hc => ?_) | refine cU ?_ ?_)))
      (refine cQT [0] (fun hcc => (g1 1)) ?_)
      (repeat' (first | refine swp_seq [0, 1, 2, 3, 4, 5, 6, 12, 13, 14, 15, 29, 41, 54] ?_ | refine st2 ?_ | (show Fct ..; refine fctI (fun hf => ?_)) | (show SWp _ _ _ (.cond _ _ _) _ _ _ _; first | refine cB (fun hc => ?_) (fun hc => ?_) | refine cU ?_ ?_)))
      (refine cQT [0, 264] (fun hcc => d1) ?_)
      (repeat' (first | refine swp_seq [0, 1, 2, 3, 4, 5, 6, 12, 13, 14, 15, 29, 41, 54] ?_ | refine st2 ?_ | (show Fct ..; refine fctI (fun hf => ?_)) | (show SWp _ _ _ (.cond _ _ _) _ _ _ _; first | refine cB (fun hc => ?_) (fun hc => ?_) | refine cU ?_ ?_)))
      exact DVR
  · have kl2 : (n.links.length : Int) ≤ (j : Int) := by omega
    (have := Nonempty.intro kl2)
    rw [decide_eq_false kl]
    refine pureC (n := 63) (rs := [.tmp 12]) (ts := [30]) Tryz.func66 rfl (by decide) [] (by (exact SD)) ?_
    (repeat' (first | refine swp_seq [0, 1, 2, 3, 4, 5, 6, 12, 13, 14, 15, 29, 41, 54] ?_ | refine st2 ?_ | (show Fct ..; refine fctI (fun hf => ?_)) | (show SWp _ _ _ (.cond _ _ _) _ _ _ _; first | refine cB (fun hc => ?_) (fun hc => ?_) | refine cU ?_ ?_)))
    exact DVR
def spB (a : Span) : Bool := decide (a.lo ≤ a.hi) && btwB a.lo (-72057594037927936) 72057594037927936 && btwB a.hi (-72057594037927936) 72057594037927936
theorem sfits_f (n : Int) (m : Nat) : DCalls Tryz.prog 123 [li n] (hget []) m (lb (btwB n (-72057594037927936) 72057594037927936)) (hget []) := by
  refine pureC (n := 9) (rs := [.tmp 2]) (ts := [4]) Tryz.func123 rfl (by decide) [] (by (exact SD)) ?_
  (repeat' (first | refine swp_seq [0, 2] ?_ | refine st2 ?_ | (show Fct ..; refine fctI (fun hf => ?_)) | (show SWp _ _ _ (.cond _ _ _) _ _ _ _; first | refine cB (fun hc => ?_) (fun hc => ?_) | refine cU ?_ ?_)))
  exact DVR
theorem spValid_f (a : Span) (m : Nat) : DCalls Tryz.prog 69 [spanD a] (hget []) m (lb (spB a)) (hget []) := by
  refine pureC (n := 18) (rs := [.tmp 2]) (ts := [4]) Tryz.func69 rfl (by decide) [] (by (exact SD)) ?_
  (repeat' (first | refine swp_seq [0, 1, 2] ?_ | refine st2 ?_ | (show CallQ ..; first | refine cQ (fun hcc => (sfits_f _ _)) ?_ | (refine lP ?_; refine lQ (fun hcc m => (sfits_f _ _)) ?_)) | (show Fct ..; refine fctI (fun hf => ?_)) | (show SWp _ _ _ (.cond _ _ _) _ _ _ _; first | refine cB (fun hc => ?_) (fun hc => ?_) | refine cU ?_ ?_)))
  exact DVR
theorem rSpValid_f (a : Span) (m : Nat) : DCalls Tryz.prog 71 [spanD a] (hget []) m (lb (spB a)) (hget []) := by
  refine pureC (n := 18) (rs := [.tmp 2]) (ts := [4]) Tryz.func71 rfl (by decide) [] (by (exact SD)) ?_
  (repeat' (first | refine swp_seq [0, 1, 2] ?_ | refine st2 ?_ | (show Fct ..; refine fctI (fun hf => ?_)) | (show SWp _ _ _ (.cond _ _ _) _ _ _ _; first | refine cB (fun hc => ?_) (fun hc => ?_) | refine cU ?_ ?_)))
  (refine DVQ ?_)
  refine lbC ?_
  unfold spB btwB
  grind
def inN (n : Net) (i : Nat) (a : Span) : Bool := !outB n i a.lo && !outB n i a.hi
theorem rWithin34_f (x : Node) (a : Span) (m : Nat) : DCalls Tryz.prog 72 [nodeD x, spanD a] (hget []) m (lb (btwB a.lo x.inv x.gnd && btwB a.hi x.inv x.gnd)) (hget []) := by
  refine pureC (n := 15) (rs := [.tmp 4]) (ts := [4]) Tryz.func72 rfl (by decide) [] (by (exact SD)) ?_
  (repeat' (first | refine swp_seq [0, 1, 2, 3, 4] ?_ | refine st2 ?_ | (show CallQ ..; first | refine cQ (fun hcc => (isLevel_f _ _ _)) ?_ | (refine lP ?_; refine lQ (fun hcc m => (isLevel_f _ _ _)) ?_)) | (show Fct ..; refine fctI (fun hf => ?_)) | (show SWp _ _ _ (.cond _ _ _) _ _ _ _; first | refine cB (fun hc => ?_) (fun hc => ?_) | refine cU ?_ ?_)))
  exact DVR
theorem give_v {d : DV} (n : Net) (l : List Sect) (k s v : Int) (h : DCalls Tryz.prog 66 [netD n, sectL l, li k, li s, ints [v], ints []] (hget []) 1 d (hget [])) :
    DCallsG Tryz.prog 66 [0] [netD n, sectL l, li k, li s, .gl 0, ints []] (hget [(0, .lst 3 1 [[li v]])]) 1 d (hget []) :=
  DCallsG.giveG (x := .elems 1 [inRow v]) (by show HV.fv (.lst _ 1 (rows inRow [v])) = _; simp only [HV.fv]; rw [rows_pv]; rfl) rfl h
theorem give_vs {d : DV} (n : Net) (l : List Sect) (k s a b e f : Int) (h : DCalls Tryz.prog 66 [netD n, sectL l, li k, li s, ints [a, b], ints [e, f]] (hget []) 2 d (hget [])) :
    DCallsG Tryz.prog 66 [0, 1] [netD n, sectL l, li k, li s, .gl 0, .gl 1] (hget [(0, .lst 3 1 [[li a], [li b]]), (1, .lst 3 1 [[li e], [li f]])]) 2 d (hget []) :=
  DCallsG.giveG (x := .elems 1 [inRow a, inRow b]) (by show HV.fv (.lst _ 1 (rows inRow [a, b])) = _; simp only [HV.fv]; rw [rows_pv]; rfl) rfl
    (DCallsG.giveG (x := .elems 1 [inRow e, inRow f]) (by show HV.fv (.lst _ 1 (rows inRow [e, f])) = _; simp only [HV.fv]; rw [rows_pv]; rfl) rfl h)
theorem givE_lk {n : Net} {l : List Sect} {k s : Int} {up down : List Int} (h : givE n l k s up down = 0) : linkedB n k s = true ∧ up.any (outB n (fromI n k.toNat)) = false ∧ down.any (outB n (tillI n k.toNat)) = false ∧ knownB l (n.links.getD k.toNat default) = true := by
  unfold givE at h
  cases h1 : linkedB n k s <;> rw [h1] at h
  · simp at h
  cases h2 : (up.any (outB n (fromI n k.toNat)) || down.any (outB n (tillI n k.toNat))) <;> rw [h2] at h
  · cases h3 : knownB l (n.links.getD k.toNat default) <;> rw [h3] at h
    · simp at h
    · simp only [Bool.or_eq_false_iff] at h2
      exact ⟨rfl, h2.1, h2.2, rfl⟩
  · simp at h
theorem inB_of {n : Net} {i : Nat} {v : Int} (h : outB n i v = false) : btwB v (n.nodes.getD i default).inv (n.nodes.getD i default).gnd = true := by
  unfold outB at h; simpa using h
theorem inv_btw {n : Net} {i : Nat} (nb : netB n = true) (hi : i < n.nodes.length) : btwB (n.nodes.getD i default).inv (n.nodes.getD i default).inv (n.nodes.getD i default).gnd = true := by
  have := (node_lev (netB_node nb hi)).2.2
  unfold btwB; simp; exact this
def mostR (n : Net) (l : List Sect) (k v s : Int) : Int × Int :=
  if netB n && catB l then
    if givE n l k s [v] [] = 0 then (flowI n l (n.links.getD k.toNat default) v (n.nodes.getD (tillI n k.toNat) default).inv s.toNat true, 0)
    else (0, givE n l k s [v] [])
  else (0, 1)
theorem most_in {n : Net} {l : List Sect} {j t : Nat} {v : Int} (no : netOk n) (co : catOk l) (nb : netB n = true) (cb : catB l = true) (h : givE n l j t [v] [] = 0) : j < n.links.length ∧ t ≤ 1000 ∧ fromI n j < n.nodes.length ∧ tillI n j < n.nodes.length ∧ BtwIn n l (n.links.getD j default) v (n.nodes.getD (tillI n j) default).inv t := by
  have g := givE_lk h
  have hk := linkedB_in g.1
  have g2 := g.2
  rw [Int.toNat_natCast] at g2
  have hj : j < n.links.length := by omega
  have hf := fromI_lt nb hj
  have ht := tillI_lt nb hj
  refine ⟨hj, by omega, hf.1, ht.1, btwIn_of no co nb cb hj g2.2.2 (by omega) (inB_of ?_) (inv_btw nb ht.1)⟩
  have := g2.1
  rw [List.any_cons, List.any_nil, Bool.or_false] at this; exact this
set_option maxRecDepth 20000 in
set_option maxHeartbeats 4000000 in
theorem Most_f (n : Net) (l : List Sect) (k v s : Int) (m : Nat) (no : netOk n) (co : catOk l) : DCalls Tryz.prog 23 [netD n, sectL l, li k, li v, li s] (hget []) m (.tup [li (mostR n l k v s).1, li (mostR n l k v s).2]) (hget []) := by
  have c1 := fun m => netValid_f n m no
  have c2 := fun m => cat_f l m co
  have hll := no.2.1
  have hnl := no.1.1
  unfold mostR
  cases hn : netB n <;> simp only [hn] at c1
  · refine pureC (n := 61) (rs := [.tmp 10, .tmp 11]) (ts := [3, 30]) Tryz.func23 rfl (by decide) [] (by (exact SD)) ?_
    (repeat' (first | refine swp_seq [0, 1, 2, 3, 4, 5, 10, 11, 12, 14, 22, 31] ?_ | refine st2 ?_ | (show CallQ ..; first | refine cQ (fun hcc => (by first | exact c1 _)) ?_ | (refine lP ?_; refine lQ (fun hcc m => (by first | exact c1 _)) ?_)) | (show XCallQ ..; first | refine xQ (fun hcc => (by first | exact c1 _)) ?_ | (refine xlP ?_; refine xlQ (fun hcc m => (by first | exact c1 _)) ?_)) | (show Fct ..; refine fctI (fun hf => ?_)) | (show SWp _ _ _ (.cond _ _ _) _ _ _ _; first | refine cB (fun hc => ?_) (fun hc => ?_) | refine cU ?_ ?_)))
    exact DVR
  cases hc : catB l <;> simp only [hc] at c2
  · refine pureC (n := 61) (rs := [.tmp 10, .tmp 11]) (ts := [3, 30]) Tryz.func23 rfl (by decide) [] (by (exact SD)) ?_
    (repeat' (first | refine swp_seq [0, 1, 2, 3, 4, 5, 10, 11, 12, 14, 22, 31] ?_ | refine st2 ?_ | (show CallQ ..; first | refine cQ (fun hcc => (by first | exact c1 _ | exact c2 _)) ?_ | (refine lP ?_; refine lQ (fun hcc m => (by first | exact c1 _ | exact c2 _)) ?_)) | (show XCallQ ..; first | refine xQ (fun hcc => (by first | exact c1 _ | exact c2 _)) ?_ | (refine xlP ?_; refine xlQ (fun hcc m => (by first | exact c1 _ | exact c2 _)) ?_)) | (show Fct ..; refine fctI (fun hf => ?_)) | (show SWp _ _ _ (.cond _ _ _) _ _ _ _; first | refine cB (fun hc => ?_) (fun hc => ?_) | refine cU ?_ ?_)))
    exact DVR
  rw [if_pos (by rfl)]
  have c3 := give_v n l k s v (given_f n l k s [v] [] 1 no co hn (by simp) (by simp))
  by_cases he : givE n l k s [v] [] = 0
  · rw [if_pos he]
    have hk := linkedB_in (givE_lk he).1
    rw [he] at c3
    obtain ⟨j, rfl⟩ : ∃ j : Nat, k = (j : Int) := ⟨k.toNat, by omega⟩
    obtain ⟨t, rfl⟩ : ∃ t : Nat, s = (t : Int) := ⟨s.toNat, by omega⟩
    rw [Int.toNat_natCast, Int.toNat_natCast]
    obtain ⟨hj, _, hf, ht, hb⟩ := most_in no co hn hc he
    have c4 := fun m => ends_f n (n.links.getD j default) m no.1.1
    rw [(fromI_lt hn hj).2, (tillI_lt hn hj).2] at c4
    have c5 := fun m => between_f' n l (n.links.getD j default) v (n.nodes.getD (tillI n j) default).inv t true m hb
    generalize flowI n l (n.links.getD j default) v (n.nodes.getD (tillI n j) default).inv t true = q at *
    generalize fromI n j = a at *
    generalize tillI n j = b at *
    (have := Nonempty.intro hj)
    (have := Nonempty.intro ht)
    clear he hb hk
    refine pureC (n := 61) (rs := [.tmp 10, .tmp 11]) (ts := [3, 30]) Tryz.func23 rfl (by decide) [] (by (exact SD)) ?_
    (repeat' (first | refine swp_seq [0, 1, 2, 3, 4, 5, 10, 11, 12, 14, 22, 31] ?_ | refine st2 ?_ | (show CallQ ..; first | refine cQ (fun hcc => (by first | exact c1 _ | exact c2 _)) ?_ | (refine lP ?_; refine lQ (fun hcc m => (by first | exact c1 _ | exact c2 _)) ?_)) | (show XCallQ ..; first | refine xQ (fun hcc => (by first | exact c1 _ | exact c2 _)) ?_ | (refine xlP ?_; refine xlQ (fun hcc m => (by first | exact c1 _ | exact c2 _)) ?_)) | (show Fct ..; refine fctI (fun hf => ?_)) | (show SWp _ _ _ (.cond _ _ _) _ _ _ _; first | refine cB (fun hc => ?_) (fun hc => ?_) | refine cU ?_ ?_)))
    refine cQT [128] (fun hcc => c3) ?_ (hC := fun _ _ => Nat.zero_le _) (hCn := by intro i hi; simp only [List.map_cons, List.map_nil, List.mem_cons, List.not_mem_nil, or_false] at hi; subst hi; rfl)
    (repeat' (first | refine swp_seq [0, 1, 2, 3, 4, 5, 10, 11, 12, 14, 22, 31] ?_ | refine st2 ?_ | (show CallQ ..; first | refine cQ (fun hcc => (by first | exact c4 _ | exact c5 _)) ?_ | (refine lP ?_; refine lQ (fun hcc m => (by first | exact c4 _ | exact c5 _)) ?_)) | (show XCallQ ..; first | refine xQ (fun hcc => (by first | exact c4 _ | exact c5 _)) ?_ | (refine xlP ?_; refine xlQ (fun hcc m => (by first | exact c4 _ | exact c5 _)) ?_)) | (show Fct ..; refine fctI (fun hf => ?_)) | (show SWp _ _ _ (.cond _ _ _) _ _ _ _; first | refine cB (fun hc => ?_) (fun hc => ?_) | refine cU ?_ ?_)))
    exact DVR
  · rw [if_neg he]
    generalize givE n l k s [v] [] = e at *
    (have := Nonempty.intro he)
    refine pureC (n := 61) (rs := [.tmp 10, .tmp 11]) (ts := [3, 30]) Tryz.func23 rfl (by decide) [] (by (exact SD)) ?_
    (repeat' (first | refine swp_seq [0, 1, 2, 3, 4, 5, 10, 11, 12, 14, 22, 31] ?_ | refine st2 ?_ | (show CallQ ..; first | refine cQ (fun hcc => (by first | exact c1 _ | exact c2 _)) ?_ | (refine lP ?_; refine lQ (fun hcc m => (by first | exact c1 _ | exact c2 _)) ?_)) | (show XCallQ ..; first | refine xQ (fun hcc => (by first | exact c1 _ | exact c2 _)) ?_ | (refine xlP ?_; refine xlQ (fun hcc m => (by first | exact c1 _ | exact c2 _)) ?_)) | (show Fct ..; refine fctI (fun hf => ?_)) | (show SWp _ _ _ (.cond _ _ _) _ _ _ _; first | refine cB (fun hc => ?_) (fun hc => ?_) | refine cU ?_ ?_)))
    refine cQT [128] (fun hcc => c3) ?_ (hC := fun _ _ => Nat.zero_le _) (hCn := by intro i hi; simp only [List.map_cons, List.map_nil, List.mem_cons, List.not_mem_nil, or_false] at hi; subst hi; rfl)
    (repeat' (first | refine swp_seq [0, 1, 2, 3, 4, 5, 10, 11, 12, 14, 22, 31] ?_ | refine st2 ?_ | (show Fct ..; refine fctI (fun hf => ?_)) | (show SWp _ _ _ (.cond _ _ _) _ _ _ _; first | refine cB (fun hc => ?_) (fun hc => ?_) | refine cU ?_ ?_)))
    exact DVR
def spansR (n : Net) (l : List Sect) (k : Int) (up down : Span) (s : Int) : Span × Int :=
  if netB n && catB l && spB up && spB down then
    if givE n l k s [up.lo, up.hi] [down.lo, down.hi] = 0 then (⟨flowI n l (n.links.getD k.toNat default) up.lo down.hi s.toNat true, flowI n l (n.links.getD k.toNat default) up.hi down.lo s.toNat true⟩, 0)
    else (⟨0, 0⟩, givE n l k s [up.lo, up.hi] [down.lo, down.hi])
  else (⟨0, 0⟩, 1)
theorem spans_in {n : Net} {l : List Sect} {j t : Nat} {up down : Span} (no : netOk n) (co : catOk l) (nb : netB n = true) (cb : catB l = true) (h : givE n l j t [up.lo, up.hi] [down.lo, down.hi] = 0) : j < n.links.length ∧ t ≤ 1000 ∧ fromI n j < n.nodes.length ∧ tillI n j < n.nodes.length ∧ BtwIn n l (n.links.getD j default) up.lo down.hi t ∧ BtwIn n l (n.links.getD j default) up.hi down.lo t := by
  have g := givE_lk h
  have hk := linkedB_in g.1
  have g2 := g.2
  rw [Int.toNat_natCast] at g2
  have hj : j < n.links.length := by omega
  have hf := fromI_lt nb hj
  have ht := tillI_lt nb hj
  have h1 := g2.1
  have h2 := g2.2.1
  simp only [List.any_cons, List.any_nil, Bool.or_false, Bool.or_eq_false_iff] at h1 h2
  exact ⟨hj, by omega, hf.1, ht.1, btwIn_of no co nb cb hj g2.2.2 (by omega) (inB_of h1.1) (inB_of h2.2), btwIn_of no co nb cb hj g2.2.2 (by omega) (inB_of h1.2) (inB_of h2.1)⟩
set_option maxRecDepth 20000 in
set_option maxHeartbeats 4000000 in
theorem Spans_f (n : Net) (l : List Sect) (k : Int) (up down : Span) (s : Int) (m : Nat) (no : netOk n) (co : catOk l) : DCalls Tryz.prog 25 [netD n, sectL l, li k, spanD up, spanD down, li s] (hget []) m (.tup [spanD (spansR n l k up down s).1, li (spansR n l k up down s).2]) (hget []) := by
  have c1 := fun m => netValid_f n m no
  have c2 := fun m => cat_f l m co
  have s1 := fun m => spValid_f up m
  have s2 := fun m => spValid_f down m
  have hll := no.2.1
  have hnl := no.1.1
  unfold spansR
  cases hn : netB n <;> simp only [hn] at c1
  · refine pureC (n := 99) (rs := [.cell 12 62, .tmp 13]) (ts := [62, 30]) Tryz.func25 rfl (by decide) [] (by (exact SD)) ?_
    (repeat' (first | refine swp_seq [0, 1, 2, 3, 4, 5, 6, 9, 10, 12, 13, 14, 15, 16, 17, 35, 53, 73, 93] ?_ | refine st2 ?_ | (show CallQ ..; first | refine cQ (fun hcc => (by first | exact c1 _)) ?_ | (refine lP ?_; refine lQ (fun hcc m => (by first | exact c1 _)) ?_)) | (show XCallQ ..; first | refine xQ (fun hcc => (by first | exact c1 _)) ?_ | (refine xlP ?_; refine xlQ (fun hcc m => (by first | exact c1 _)) ?_)) | (show Fct ..; refine fctI (fun hf => ?_)) | (show SWp _ _ _ (.cond _ _ _) _ _ _ _; first | refine cB (fun hc => ?_) (fun hc => ?_) | refine cU ?_ ?_)))
    exact DVR
  cases hc : catB l <;> simp only [hc] at c2
  · refine pureC (n := 99) (rs := [.cell 12 62, .tmp 13]) (ts := [62, 30]) Tryz.func25 rfl (by decide) [] (by (exact SD)) ?_
    (repeat' (first | refine swp_seq [0, 1, 2, 3, 4, 5, 6, 9, 10, 12, 13, 14, 15, 16, 17, 35, 53, 73, 93] ?_ | refine st2 ?_ | (show CallQ ..; first | refine cQ (fun hcc => (by first | exact c1 _ | exact c2 _)) ?_ | (refine lP ?_; refine lQ (fun hcc m => (by first | exact c1 _ | exact c2 _)) ?_)) | (show XCallQ ..; first | refine xQ (fun hcc => (by first | exact c1 _ | exact c2 _)) ?_ | (refine xlP ?_; refine xlQ (fun hcc m => (by first | exact c1 _ | exact c2 _)) ?_)) | (show Fct ..; refine fctI (fun hf => ?_)) | (show SWp _ _ _ (.cond _ _ _) _ _ _ _; first | refine cB (fun hc => ?_) (fun hc => ?_) | refine cU ?_ ?_)))
    exact DVR
  cases hs1 : spB up <;> simp only [hs1] at s1
  · refine pureC (n := 99) (rs := [.cell 12 62, .tmp 13]) (ts := [62, 30]) Tryz.func25 rfl (by decide) [] (by (exact SD)) ?_
    (repeat' (first | refine swp_seq [0, 1, 2, 3, 4, 5, 6, 9, 10, 12, 13, 14, 15, 16, 17, 35, 53, 73, 93] ?_ | refine st2 ?_ | (show CallQ ..; first | refine cQ (fun hcc => (by first | exact c1 _ | exact c2 _ | exact s1 _)) ?_ | (refine lP ?_; refine lQ (fun hcc m => (by first | exact c1 _ | exact c2 _ | exact s1 _)) ?_)) | (show XCallQ ..; first | refine xQ (fun hcc => (by first | exact c1 _ | exact c2 _ | exact s1 _)) ?_ | (refine xlP ?_; refine xlQ (fun hcc m => (by first | exact c1 _ | exact c2 _ | exact s1 _)) ?_)) | (show Fct ..; refine fctI (fun hf => ?_)) | (show SWp _ _ _ (.cond _ _ _) _ _ _ _; first | refine cB (fun hc => ?_) (fun hc => ?_) | refine cU ?_ ?_)))
    exact DVR
  cases hs2 : spB down <;> simp only [hs2] at s2
  · refine pureC (n := 99) (rs := [.cell 12 62, .tmp 13]) (ts := [62, 30]) Tryz.func25 rfl (by decide) [] (by (exact SD)) ?_
    (repeat' (first | refine swp_seq [0, 1, 2, 3, 4, 5, 6, 9, 10, 12, 13, 14, 15, 16, 17, 35, 53, 73, 93] ?_ | refine st2 ?_ | (show CallQ ..; first | refine cQ (fun hcc => (by first | exact c1 _ | exact c2 _ | exact s1 _ | exact s2 _)) ?_ | (refine lP ?_; refine lQ (fun hcc m => (by first | exact c1 _ | exact c2 _ | exact s1 _ | exact s2 _)) ?_)) | (show XCallQ ..; first | refine xQ (fun hcc => (by first | exact c1 _ | exact c2 _ | exact s1 _ | exact s2 _)) ?_ | (refine xlP ?_; refine xlQ (fun hcc m => (by first | exact c1 _ | exact c2 _ | exact s1 _ | exact s2 _)) ?_)) | (show Fct ..; refine fctI (fun hf => ?_)) | (show SWp _ _ _ (.cond _ _ _) _ _ _ _; first | refine cB (fun hc => ?_) (fun hc => ?_) | refine cU ?_ ?_)))
    exact DVR
  rw [if_pos (by rfl)]
  clear hs1 hs2
  have c3 := give_vs n l k s up.lo up.hi down.lo down.hi (given_f n l k s [up.lo, up.hi] [down.lo, down.hi] 2 no co hn (by simp) (by simp))
  by_cases he : givE n l k s [up.lo, up.hi] [down.lo, down.hi] = 0
  · rw [if_pos he]
    have hk := linkedB_in (givE_lk he).1
    rw [he] at c3
    obtain ⟨j, rfl⟩ : ∃ j : Nat, k = (j : Int) := ⟨k.toNat, by omega⟩
    obtain ⟨t, rfl⟩ : ∃ t : Nat, s = (t : Int) := ⟨s.toNat, by omega⟩
    rw [Int.toNat_natCast, Int.toNat_natCast]
    obtain ⟨hj, _, hf, ht, hb, hb2⟩ := spans_in no co hn hc he
    have c5 := fun m => between_f' n l (n.links.getD j default) up.lo down.hi t true m hb
    have c6 := fun m => between_f' n l (n.links.getD j default) up.hi down.lo t true m hb2
    generalize flowI n l (n.links.getD j default) up.lo down.hi t true = q at *
    generalize flowI n l (n.links.getD j default) up.hi down.lo t true = r at *
    (have := Nonempty.intro hj)
    clear he hb hb2 hk hf ht
    refine pureC (n := 99) (rs := [.cell 12 62, .tmp 13]) (ts := [62, 30]) Tryz.func25 rfl (by decide) [] (by (exact SD)) ?_
    (repeat' (first | refine swp_seq [0, 1, 2, 3, 4, 5, 6, 9, 10, 12, 13, 14, 15, 16, 17, 35, 53, 73, 93] ?_ | refine st2 ?_ | (show CallQ ..; first | refine cQ (fun hcc => (by first | exact c1 _ | exact c2 _ | exact s1 _ | exact s2 _)) ?_ | (refine lP ?_; refine lQ (fun hcc m => (by first | exact c1 _ | exact c2 _ | exact s1 _ | exact s2 _)) ?_)) | (show XCallQ ..; first | refine xQ (fun hcc => (by first | exact c1 _ | exact c2 _ | exact s1 _ | exact s2 _)) ?_ | (refine xlP ?_; refine xlQ (fun hcc m => (by first | exact c1 _ | exact c2 _ | exact s1 _ | exact s2 _)) ?_)) | (show Fct ..; refine fctI (fun hf => ?_)) | (show SWp _ _ _ (.cond _ _ _) _ _ _ _; first | refine cB (fun hc => ?_) (fun hc => ?_) | refine cU ?_ ?_)))
    refine cQT [248, 288] (fun hcc => c3) ?_ (hC := fun _ _ => Nat.zero_le _) (hCn := by intro i hi; simp only [List.map_cons, List.map_nil, List.mem_cons, List.not_mem_nil, or_false] at hi; rcases hi with rfl | rfl <;> rfl)
    (repeat' (first | refine swp_seq [0, 1, 2, 3, 4, 5, 6, 9, 10, 12, 13, 14, 15, 16, 17, 35, 53, 73, 93] ?_ | refine st2 ?_ | (show CallQ ..; first | refine cQ (fun hcc => (by first | exact c5 _ | exact c6 _)) ?_ | (refine lP ?_; refine lQ (fun hcc m => (by first | exact c5 _ | exact c6 _)) ?_)) | (show XCallQ ..; first | refine xQ (fun hcc => (by first | exact c5 _ | exact c6 _)) ?_ | (refine xlP ?_; refine xlQ (fun hcc m => (by first | exact c5 _ | exact c6 _)) ?_)) | (show Fct ..; refine fctI (fun hf => ?_)) | (show SWp _ _ _ (.cond _ _ _) _ _ _ _; first | refine cB (fun hc => ?_) (fun hc => ?_) | refine cU ?_ ?_)))
    exact DVR
  · rw [if_neg he]
    generalize givE n l k s [up.lo, up.hi] [down.lo, down.hi] = e at *
    (have := Nonempty.intro he)
    refine pureC (n := 99) (rs := [.cell 12 62, .tmp 13]) (ts := [62, 30]) Tryz.func25 rfl (by decide) [] (by (exact SD)) ?_
    (repeat' (first | refine swp_seq [0, 1, 2, 3, 4, 5, 6, 9, 10, 12, 13, 14, 15, 16, 17, 35, 53, 73, 93] ?_ | refine st2 ?_ | (show CallQ ..; first | refine cQ (fun hcc => (by first | exact c1 _ | exact c2 _ | exact s1 _ | exact s2 _)) ?_ | (refine lP ?_; refine lQ (fun hcc m => (by first | exact c1 _ | exact c2 _ | exact s1 _ | exact s2 _)) ?_)) | (show XCallQ ..; first | refine xQ (fun hcc => (by first | exact c1 _ | exact c2 _ | exact s1 _ | exact s2 _)) ?_ | (refine xlP ?_; refine xlQ (fun hcc m => (by first | exact c1 _ | exact c2 _ | exact s1 _ | exact s2 _)) ?_)) | (show Fct ..; refine fctI (fun hf => ?_)) | (show SWp _ _ _ (.cond _ _ _) _ _ _ _; first | refine cB (fun hc => ?_) (fun hc => ?_) | refine cU ?_ ?_)))
    refine cQT [248, 288] (fun hcc => c3) ?_ (hC := fun _ _ => Nat.zero_le _) (hCn := by intro i hi; simp only [List.map_cons, List.map_nil, List.mem_cons, List.not_mem_nil, or_false] at hi; rcases hi with rfl | rfl <;> rfl)
    (repeat' (first | refine swp_seq [0, 1, 2, 3, 4, 5, 6, 9, 10, 12, 13, 14, 15, 16, 17, 35, 53, 73, 93] ?_ | refine st2 ?_ | (show Fct ..; refine fctI (fun hf => ?_)) | (show SWp _ _ _ (.cond _ _ _) _ _ _ _; first | refine cB (fun hc => ?_) (fun hc => ?_) | refine cU ?_ ?_)))
    exact DVR
set_option maxRecDepth 20000 in
set_option maxHeartbeats 4000000 in
theorem rMost_f (n : Net) (l : List Sect) (k v s : Int) (m : Nat) (no : netOk n) (co : catOk l) : DCalls Tryz.prog 28 [netD n, sectL l, li k, li v, li s] (hget []) m (.tup [li (mostR n l k v s).1, li (mostR n l k v s).2]) (hget []) := by
  have c1 := fun m => rNetValid_f n m no
  have c2 := fun m => rCat_f l m co
  have c3 := fun m => linked_f n k s m
  have hll := no.2.1
  have hnl := no.1.1
  unfold mostR
  cases hn : netB n <;> simp only [hn] at c1
  · refine pureC (n := 61) (rs := [.tmp 10, .tmp 11]) (ts := [3, 3]) Tryz.func28 rfl (by decide) [] (by (exact SD)) ?_
    (repeat' (first | refine swp_seq [0, 1, 2, 3, 4, 5, 10, 11, 12, 13, 21, 26, 40, 48] ?_ | refine st2 ?_ | (show CallQ ..; first | refine cQ (fun hcc => (by first | exact c1 _)) ?_ | (refine lP ?_; refine lQ (fun hcc m => (by first | exact c1 _)) ?_)) | (show XCallQ ..; first | refine xQ (fun hcc => (by first | exact c1 _)) ?_ | (refine xlP ?_; refine xlQ (fun hcc m => (by first | exact c1 _)) ?_)) | (show Fct ..; refine fctI (fun hf => ?_)) | (show SWp _ _ _ (.cond _ _ _) _ _ _ _; first | refine cB (fun hc => ?_) (fun hc => ?_) | refine cU ?_ ?_)))
    exact DVR
  cases hc : catB l <;> simp only [hc] at c2
  · refine pureC (n := 61) (rs := [.tmp 10, .tmp 11]) (ts := [3, 3]) Tryz.func28 rfl (by decide) [] (by (exact SD)) ?_
    (repeat' (first | refine swp_seq [0, 1, 2, 3, 4, 5, 10, 11, 12, 13, 21, 26, 40, 48] ?_ | refine st2 ?_ | (show CallQ ..; first | refine cQ (fun hcc => (by first | exact c1 _ | exact c2 _)) ?_ | (refine lP ?_; refine lQ (fun hcc m => (by first | exact c1 _ | exact c2 _)) ?_)) | (show XCallQ ..; first | refine xQ (fun hcc => (by first | exact c1 _ | exact c2 _)) ?_ | (refine xlP ?_; refine xlQ (fun hcc m => (by first | exact c1 _ | exact c2 _)) ?_)) | (show Fct ..; refine fctI (fun hf => ?_)) | (show SWp _ _ _ (.cond _ _ _) _ _ _ _; first | refine cB (fun hc => ?_) (fun hc => ?_) | refine cU ?_ ?_)))
    exact DVR
  rw [if_pos (by rfl)]
  unfold givE
  cases hk : linkedB n k s <;> simp only [hk] at c3
  · refine pureC (n := 61) (rs := [.tmp 10, .tmp 11]) (ts := [3, 3]) Tryz.func28 rfl (by decide) [] (by (exact SD)) ?_
    (repeat' (first | refine swp_seq [0, 1, 2, 3, 4, 5, 10, 11, 12, 13, 21, 26, 40, 48] ?_ | refine st2 ?_ | (show CallQ ..; first | refine cQ (fun hcc => (by first | exact c1 _ | exact c2 _ | exact c3 _)) ?_ | (refine lP ?_; refine lQ (fun hcc m => (by first | exact c1 _ | exact c2 _ | exact c3 _)) ?_)) | (show XCallQ ..; first | refine xQ (fun hcc => (by first | exact c1 _ | exact c2 _ | exact c3 _)) ?_ | (refine xlP ?_; refine xlQ (fun hcc m => (by first | exact c1 _ | exact c2 _ | exact c3 _)) ?_)) | (show Fct ..; refine fctI (fun hf => ?_)) | (show SWp _ _ _ (.cond _ _ _) _ _ _ _; first | refine cB (fun hc => ?_) (fun hc => ?_) | refine cU ?_ ?_)))
    exact DVR
  have hki := linkedB_in hk
  obtain ⟨j, rfl⟩ : ∃ j : Nat, k = (j : Int) := ⟨k.toNat, by omega⟩
  obtain ⟨t, rfl⟩ : ∃ t : Nat, s = (t : Int) := ⟨s.toNat, by omega⟩
  rw [Int.toNat_natCast, Int.toNat_natCast]
  have hj : j < n.links.length := by omega
  have hf := fromI_lt hn hj
  have ht := tillI_lt hn hj
  have c4 := fun m => ends34_f n j m no hn hj
  have c5 := fun m => isLevel_f (n.nodes.getD (fromI n j) default) v m
  have c6 := fun m => named_f l (n.links.getD j default) m co.1
  have e1 : ([v].any (outB n (fromI n j)) || [].any (outB n (tillI n j))) = !btwB v (n.nodes.getD (fromI n j) default).inv (n.nodes.getD (fromI n j) default).gnd := by
    rw [List.any_cons, List.any_nil, List.any_nil, Bool.or_false, Bool.or_false]; rfl
  rw [e1]
  have hf1 := hf.1
  have ht1 := ht.1
  cases hb : btwB v (n.nodes.getD (fromI n j) default).inv (n.nodes.getD (fromI n j) default).gnd <;> simp only [hb] at c5
  · generalize fromI n j = a at *
    generalize tillI n j = b at *
    (have := Nonempty.intro hf1)
    (have := Nonempty.intro ht1)
    refine pureC (n := 61) (rs := [.tmp 10, .tmp 11]) (ts := [3, 3]) Tryz.func28 rfl (by decide) [] (by (exact SD)) ?_
    (repeat' (first | refine swp_seq [0, 1, 2, 3, 4, 5, 10, 11, 12, 13, 21, 26, 40, 48] ?_ | refine st2 ?_ | (show CallQ ..; first | refine cQ (fun hcc => (by first | exact c1 _ | exact c2 _ | exact c3 _ | exact c4 _ | exact c5 _)) ?_ | (refine lP ?_; refine lQ (fun hcc m => (by first | exact c1 _ | exact c2 _ | exact c3 _ | exact c4 _ | exact c5 _)) ?_)) | (show XCallQ ..; first | refine xQ (fun hcc => (by first | exact c1 _ | exact c2 _ | exact c3 _ | exact c4 _ | exact c5 _)) ?_ | (refine xlP ?_; refine xlQ (fun hcc m => (by first | exact c1 _ | exact c2 _ | exact c3 _ | exact c4 _ | exact c5 _)) ?_)) | (show Fct ..; refine fctI (fun hf => ?_)) | (show SWp _ _ _ (.cond _ _ _) _ _ _ _; first | refine cB (fun hc => ?_) (fun hc => ?_) | refine cU ?_ ?_)))
    exact DVR
  cases hkn : knownB l (n.links.getD j default) <;> simp only [hkn] at c6
  · generalize fromI n j = a at *
    generalize tillI n j = b at *
    (have := Nonempty.intro hf1)
    (have := Nonempty.intro ht1)
    (have := Nonempty.intro hj)
    refine pureC (n := 61) (rs := [.tmp 10, .tmp 11]) (ts := [3, 3]) Tryz.func28 rfl (by decide) [] (by (exact SD)) ?_
    (repeat' (first | refine swp_seq [0, 1, 2, 3, 4, 5, 10, 11, 12, 13, 21, 26, 40, 48] ?_ | refine st2 ?_ | (show CallQ ..; first | refine cQ (fun hcc => (by first | exact c1 _ | exact c2 _ | exact c3 _ | exact c4 _ | exact c5 _ | exact c6 _)) ?_ | (refine lP ?_; refine lQ (fun hcc m => (by first | exact c1 _ | exact c2 _ | exact c3 _ | exact c4 _ | exact c5 _ | exact c6 _)) ?_)) | (show XCallQ ..; first | refine xQ (fun hcc => (by first | exact c1 _ | exact c2 _ | exact c3 _ | exact c4 _ | exact c5 _ | exact c6 _)) ?_ | (refine xlP ?_; refine xlQ (fun hcc m => (by first | exact c1 _ | exact c2 _ | exact c3 _ | exact c4 _ | exact c5 _ | exact c6 _)) ?_)) | (show Fct ..; refine fctI (fun hf => ?_)) | (show SWp _ _ _ (.cond _ _ _) _ _ _ _; first | refine cB (fun hc => ?_) (fun hc => ?_) | refine cU ?_ ?_)))
    exact DVR
  have c7 := fun m => rBetween_f n l j v (n.nodes.getD (tillI n j) default).inv t true m hj (btwIn_of no co hn hc hj hkn (by omega) hb (inv_btw hn ht1))
  generalize flowI n l (n.links.getD j default) v (n.nodes.getD (tillI n j) default).inv t true = q at *
  generalize fromI n j = a at *
  generalize tillI n j = b at *
  (have := Nonempty.intro hf1)
  (have := Nonempty.intro ht1)
  (have := Nonempty.intro hj)
  refine pureC (n := 61) (rs := [.tmp 10, .tmp 11]) (ts := [3, 3]) Tryz.func28 rfl (by decide) [] (by (exact SD)) ?_
  (repeat' (first | refine swp_seq [0, 1, 2, 3, 4, 5, 10, 11, 12, 13, 21, 26, 40, 48] ?_ | refine st2 ?_ | (show CallQ ..; first | refine cQ (fun hcc => (by first | exact c1 _ | exact c2 _ | exact c3 _ | exact c4 _ | exact c5 _ | exact c6 _ | exact c7 _)) ?_ | (refine lP ?_; refine lQ (fun hcc m => (by first | exact c1 _ | exact c2 _ | exact c3 _ | exact c4 _ | exact c5 _ | exact c6 _ | exact c7 _)) ?_)) | (show XCallQ ..; first | refine xQ (fun hcc => (by first | exact c1 _ | exact c2 _ | exact c3 _ | exact c4 _ | exact c5 _ | exact c6 _ | exact c7 _)) ?_ | (refine xlP ?_; refine xlQ (fun hcc m => (by first | exact c1 _ | exact c2 _ | exact c3 _ | exact c4 _ | exact c5 _ | exact c6 _ | exact c7 _)) ?_)) | (show Fct ..; refine fctI (fun hf => ?_)) | (show SWp _ _ _ (.cond _ _ _) _ _ _ _; first | refine cB (fun hc => ?_) (fun hc => ?_) | refine cU ?_ ?_)))
  exact DVR
set_option maxRecDepth 20000 in
set_option maxHeartbeats 4000000 in
theorem rSpans_f (n : Net) (l : List Sect) (k : Int) (up down : Span) (s : Int) (m : Nat) (no : netOk n) (co : catOk l) : DCalls Tryz.prog 29 [netD n, sectL l, li k, spanD up, spanD down, li s] (hget []) m (.tup [spanD (spansR n l k up down s).1, li (spansR n l k up down s).2]) (hget []) := by
  have c1 := fun m => rNetValid_f n m no
  have c2 := fun m => rCat_f l m co
  have s1 := fun m => rSpValid_f up m
  have s2 := fun m => rSpValid_f down m
  have c3 := fun m => linked_f n k s m
  have hll := no.2.1
  have hnl := no.1.1
  unfold spansR
  cases hn : netB n <;> simp only [hn] at c1
  · refine pureC (n := 94) (rs := [.cell 12 62, .tmp 13]) (ts := [62, 3]) Tryz.func29 rfl (by decide) [] (by (exact SD)) ?_
    (repeat' (first | refine swp_seq [0, 1, 2, 3, 4, 5, 6, 9, 10, 12, 13, 14, 15, 33, 39, 64, 73] ?_ | refine st2 ?_ | (show CallQ ..; first | refine cQ (fun hcc => (by first | exact c1 _)) ?_ | (refine lP ?_; refine lQ (fun hcc m => (by first | exact c1 _)) ?_)) | (show XCallQ ..; first | refine xQ (fun hcc => (by first | exact c1 _)) ?_ | (refine xlP ?_; refine xlQ (fun hcc m => (by first | exact c1 _)) ?_)) | (show Fct ..; refine fctI (fun hf => ?_)) | (show SWp _ _ _ (.cond _ _ _) _ _ _ _; first | refine cB (fun hc => ?_) (fun hc => ?_) | refine cU ?_ ?_)))
    exact DVR
  cases hc : catB l <;> simp only [hc] at c2
  · refine pureC (n := 94) (rs := [.cell 12 62, .tmp 13]) (ts := [62, 3]) Tryz.func29 rfl (by decide) [] (by (exact SD)) ?_
    (repeat' (first | refine swp_seq [0, 1, 2, 3, 4, 5, 6, 9, 10, 12, 13, 14, 15, 33, 39, 64, 73] ?_ | refine st2 ?_ | (show CallQ ..; first | refine cQ (fun hcc => (by first | exact c1 _ | exact c2 _)) ?_ | (refine lP ?_; refine lQ (fun hcc m => (by first | exact c1 _ | exact c2 _)) ?_)) | (show XCallQ ..; first | refine xQ (fun hcc => (by first | exact c1 _ | exact c2 _)) ?_ | (refine xlP ?_; refine xlQ (fun hcc m => (by first | exact c1 _ | exact c2 _)) ?_)) | (show Fct ..; refine fctI (fun hf => ?_)) | (show SWp _ _ _ (.cond _ _ _) _ _ _ _; first | refine cB (fun hc => ?_) (fun hc => ?_) | refine cU ?_ ?_)))
    exact DVR
  cases hs1 : spB up <;> simp only [hs1] at s1
  · refine pureC (n := 94) (rs := [.cell 12 62, .tmp 13]) (ts := [62, 3]) Tryz.func29 rfl (by decide) [] (by (exact SD)) ?_
    (repeat' (first | refine swp_seq [0, 1, 2, 3, 4, 5, 6, 9, 10, 12, 13, 14, 15, 33, 39, 64, 73] ?_ | refine st2 ?_ | (show CallQ ..; first | refine cQ (fun hcc => (by first | exact c1 _ | exact c2 _ | exact s1 _)) ?_ | (refine lP ?_; refine lQ (fun hcc m => (by first | exact c1 _ | exact c2 _ | exact s1 _)) ?_)) | (show XCallQ ..; first | refine xQ (fun hcc => (by first | exact c1 _ | exact c2 _ | exact s1 _)) ?_ | (refine xlP ?_; refine xlQ (fun hcc m => (by first | exact c1 _ | exact c2 _ | exact s1 _)) ?_)) | (show Fct ..; refine fctI (fun hf => ?_)) | (show SWp _ _ _ (.cond _ _ _) _ _ _ _; first | refine cB (fun hc => ?_) (fun hc => ?_) | refine cU ?_ ?_)))
    exact DVR
  cases hs2 : spB down <;> simp only [hs2] at s2
  · refine pureC (n := 94) (rs := [.cell 12 62, .tmp 13]) (ts := [62, 3]) Tryz.func29 rfl (by decide) [] (by (exact SD)) ?_
    (repeat' (first | refine swp_seq [0, 1, 2, 3, 4, 5, 6, 9, 10, 12, 13, 14, 15, 33, 39, 64, 73] ?_ | refine st2 ?_ | (show CallQ ..; first | refine cQ (fun hcc => (by first | exact c1 _ | exact c2 _ | exact s1 _ | exact s2 _)) ?_ | (refine lP ?_; refine lQ (fun hcc m => (by first | exact c1 _ | exact c2 _ | exact s1 _ | exact s2 _)) ?_)) | (show XCallQ ..; first | refine xQ (fun hcc => (by first | exact c1 _ | exact c2 _ | exact s1 _ | exact s2 _)) ?_ | (refine xlP ?_; refine xlQ (fun hcc m => (by first | exact c1 _ | exact c2 _ | exact s1 _ | exact s2 _)) ?_)) | (show Fct ..; refine fctI (fun hf => ?_)) | (show SWp _ _ _ (.cond _ _ _) _ _ _ _; first | refine cB (fun hc => ?_) (fun hc => ?_) | refine cU ?_ ?_)))
    exact DVR
  rw [if_pos (by rfl)]
  clear hs1 hs2
  unfold givE
  cases hk : linkedB n k s <;> simp only [hk] at c3
  · refine pureC (n := 94) (rs := [.cell 12 62, .tmp 13]) (ts := [62, 3]) Tryz.func29 rfl (by decide) [] (by (exact SD)) ?_
    (repeat' (first | refine swp_seq [0, 1, 2, 3, 4, 5, 6, 9, 10, 12, 13, 14, 15, 33, 39, 64, 73] ?_ | refine st2 ?_ | (show CallQ ..; first | refine cQ (fun hcc => (by first | exact c1 _ | exact c2 _ | exact s1 _ | exact s2 _ | exact c3 _)) ?_ | (refine lP ?_; refine lQ (fun hcc m => (by first | exact c1 _ | exact c2 _ | exact s1 _ | exact s2 _ | exact c3 _)) ?_)) | (show XCallQ ..; first | refine xQ (fun hcc => (by first | exact c1 _ | exact c2 _ | exact s1 _ | exact s2 _ | exact c3 _)) ?_ | (refine xlP ?_; refine xlQ (fun hcc m => (by first | exact c1 _ | exact c2 _ | exact s1 _ | exact s2 _ | exact c3 _)) ?_)) | (show Fct ..; refine fctI (fun hf => ?_)) | (show SWp _ _ _ (.cond _ _ _) _ _ _ _; first | refine cB (fun hc => ?_) (fun hc => ?_) | refine cU ?_ ?_)))
    exact DVR
  have hki := linkedB_in hk
  obtain ⟨j, rfl⟩ : ∃ j : Nat, k = (j : Int) := ⟨k.toNat, by omega⟩
  obtain ⟨t, rfl⟩ : ∃ t : Nat, s = (t : Int) := ⟨s.toNat, by omega⟩
  rw [Int.toNat_natCast, Int.toNat_natCast]
  have hj : j < n.links.length := by omega
  have hf := fromI_lt hn hj
  have ht := tillI_lt hn hj
  have c4 := fun m => ends34_f n j m no hn hj
  have w1 := fun m => rWithin34_f (n.nodes.getD (fromI n j) default) up m
  have w2 := fun m => rWithin34_f (n.nodes.getD (tillI n j) default) down m
  have c6 := fun m => named_f l (n.links.getD j default) m co.1
  have hf1 := hf.1
  have ht1 := ht.1
  have e1 : ([up.lo, up.hi].any (outB n (fromI n j)) || [down.lo, down.hi].any (outB n (tillI n j))) = (!(btwB up.lo (n.nodes.getD (fromI n j) default).inv (n.nodes.getD (fromI n j) default).gnd && btwB up.hi (n.nodes.getD (fromI n j) default).inv (n.nodes.getD (fromI n j) default).gnd) || !(btwB down.lo (n.nodes.getD (tillI n j) default).inv (n.nodes.getD (tillI n j) default).gnd && btwB down.hi (n.nodes.getD (tillI n j) default).inv (n.nodes.getD (tillI n j) default).gnd)) := by
    rw [List.any_cons, List.any_cons, List.any_nil, List.any_cons, List.any_cons, List.any_nil, Bool.or_false, Bool.or_false, Bool.not_and, Bool.not_and]; rfl
  rw [e1]
  cases hb : (btwB up.lo (n.nodes.getD (fromI n j) default).inv (n.nodes.getD (fromI n j) default).gnd && btwB up.hi (n.nodes.getD (fromI n j) default).inv (n.nodes.getD (fromI n j) default).gnd) <;> simp only [hb] at w1
  · generalize fromI n j = a at *
    generalize tillI n j = b at *
    (have := Nonempty.intro hf1)
    (have := Nonempty.intro ht1)
    refine pureC (n := 94) (rs := [.cell 12 62, .tmp 13]) (ts := [62, 3]) Tryz.func29 rfl (by decide) [] (by (exact SD)) ?_
    (repeat' (first | refine swp_seq [0, 1, 2, 3, 4, 5, 6, 9, 10, 12, 13, 14, 15, 33, 39, 64, 73] ?_ | refine st2 ?_ | (show CallQ ..; first | refine cQ (fun hcc => (by first | exact c1 _ | exact c2 _ | exact s1 _ | exact s2 _ | exact c3 _ | exact c4 _ | exact w1 _)) ?_ | (refine lP ?_; refine lQ (fun hcc m => (by first | exact c1 _ | exact c2 _ | exact s1 _ | exact s2 _ | exact c3 _ | exact c4 _ | exact w1 _)) ?_)) | (show XCallQ ..; first | refine xQ (fun hcc => (by first | exact c1 _ | exact c2 _ | exact s1 _ | exact s2 _ | exact c3 _ | exact c4 _ | exact w1 _)) ?_ | (refine xlP ?_; refine xlQ (fun hcc m => (by first | exact c1 _ | exact c2 _ | exact s1 _ | exact s2 _ | exact c3 _ | exact c4 _ | exact w1 _)) ?_)) | (show Fct ..; refine fctI (fun hf => ?_)) | (show SWp _ _ _ (.cond _ _ _) _ _ _ _; first | refine cB (fun hc => ?_) (fun hc => ?_) | refine cU ?_ ?_)))
    exact DVR
  cases hd : (btwB down.lo (n.nodes.getD (tillI n j) default).inv (n.nodes.getD (tillI n j) default).gnd && btwB down.hi (n.nodes.getD (tillI n j) default).inv (n.nodes.getD (tillI n j) default).gnd) <;> simp only [hd] at w2
  · generalize fromI n j = a at *
    generalize tillI n j = b at *
    (have := Nonempty.intro hf1)
    (have := Nonempty.intro ht1)
    refine pureC (n := 94) (rs := [.cell 12 62, .tmp 13]) (ts := [62, 3]) Tryz.func29 rfl (by decide) [] (by (exact SD)) ?_
    (repeat' (first | refine swp_seq [0, 1, 2, 3, 4, 5, 6, 9, 10, 12, 13, 14, 15, 33, 39, 64, 73] ?_ | refine st2 ?_ | (show CallQ ..; first | refine cQ (fun hcc => (by first | exact c1 _ | exact c2 _ | exact s1 _ | exact s2 _ | exact c3 _ | exact c4 _ | exact w1 _ | exact w2 _)) ?_ | (refine lP ?_; refine lQ (fun hcc m => (by first | exact c1 _ | exact c2 _ | exact s1 _ | exact s2 _ | exact c3 _ | exact c4 _ | exact w1 _ | exact w2 _)) ?_)) | (show XCallQ ..; first | refine xQ (fun hcc => (by first | exact c1 _ | exact c2 _ | exact s1 _ | exact s2 _ | exact c3 _ | exact c4 _ | exact w1 _ | exact w2 _)) ?_ | (refine xlP ?_; refine xlQ (fun hcc m => (by first | exact c1 _ | exact c2 _ | exact s1 _ | exact s2 _ | exact c3 _ | exact c4 _ | exact w1 _ | exact w2 _)) ?_)) | (show Fct ..; refine fctI (fun hf => ?_)) | (show SWp _ _ _ (.cond _ _ _) _ _ _ _; first | refine cB (fun hc => ?_) (fun hc => ?_) | refine cU ?_ ?_)))
    exact DVR
  cases hkn : knownB l (n.links.getD j default) <;> simp only [hkn] at c6
  · generalize fromI n j = a at *
    generalize tillI n j = b at *
    (have := Nonempty.intro hf1)
    (have := Nonempty.intro ht1)
    (have := Nonempty.intro hj)
    refine pureC (n := 94) (rs := [.cell 12 62, .tmp 13]) (ts := [62, 3]) Tryz.func29 rfl (by decide) [] (by (exact SD)) ?_
    (repeat' (first | refine swp_seq [0, 1, 2, 3, 4, 5, 6, 9, 10, 12, 13, 14, 15, 33, 39, 64, 73] ?_ | refine st2 ?_ | (show CallQ ..; first | refine cQ (fun hcc => (by first | exact c1 _ | exact c2 _ | exact s1 _ | exact s2 _ | exact c3 _ | exact c4 _ | exact w1 _ | exact w2 _ | exact c6 _)) ?_ | (refine lP ?_; refine lQ (fun hcc m => (by first | exact c1 _ | exact c2 _ | exact s1 _ | exact s2 _ | exact c3 _ | exact c4 _ | exact w1 _ | exact w2 _ | exact c6 _)) ?_)) | (show XCallQ ..; first | refine xQ (fun hcc => (by first | exact c1 _ | exact c2 _ | exact s1 _ | exact s2 _ | exact c3 _ | exact c4 _ | exact w1 _ | exact w2 _ | exact c6 _)) ?_ | (refine xlP ?_; refine xlQ (fun hcc m => (by first | exact c1 _ | exact c2 _ | exact s1 _ | exact s2 _ | exact c3 _ | exact c4 _ | exact w1 _ | exact w2 _ | exact c6 _)) ?_)) | (show Fct ..; refine fctI (fun hf => ?_)) | (show SWp _ _ _ (.cond _ _ _) _ _ _ _; first | refine cB (fun hc => ?_) (fun hc => ?_) | refine cU ?_ ?_)))
    exact DVR
  simp only [Bool.and_eq_true] at hb hd
  have c7 := fun m => rBetween_f n l j up.lo down.hi t true m hj (btwIn_of no co hn hc hj hkn (by omega) hb.1 hd.2)
  have c8 := fun m => rBetween_f n l j up.hi down.lo t true m hj (btwIn_of no co hn hc hj hkn (by omega) hb.2 hd.1)
  generalize flowI n l (n.links.getD j default) up.lo down.hi t true = q at *
  generalize flowI n l (n.links.getD j default) up.hi down.lo t true = r at *
  clear hb hd
  generalize fromI n j = a at *
  generalize tillI n j = b at *
  (have := Nonempty.intro hf1)
  (have := Nonempty.intro ht1)
  (have := Nonempty.intro hj)
  refine pureC (n := 94) (rs := [.cell 12 62, .tmp 13]) (ts := [62, 3]) Tryz.func29 rfl (by decide) [] (by (exact SD)) ?_
  (repeat' (first | refine swp_seq [0, 1, 2, 3, 4, 5, 6, 9, 10, 12, 13, 14, 15, 33, 39, 64, 73] ?_ | (show SWp _ _ _ (.region _ _ true) _ _ _ _; refine xG mixed [24, 1000008, 1000017] ?_) | refine st2 ?_ | (show CallQ ..; first | refine cQ (fun hcc => (by first | exact c1 _ | exact c2 _ | exact s1 _ | exact s2 _ | exact c3 _ | exact c4 _ | exact w1 _ | exact w2 _ | exact c6 _ | exact c7 _ | exact c8 _)) ?_ | (refine lP ?_; refine lQ (fun hcc m => (by first | exact c1 _ | exact c2 _ | exact s1 _ | exact s2 _ | exact c3 _ | exact c4 _ | exact w1 _ | exact w2 _ | exact c6 _ | exact c7 _ | exact c8 _)) ?_)) | (show XCallQ ..; first | refine xQ (fun hcc => (by first | exact c1 _ | exact c2 _ | exact s1 _ | exact s2 _ | exact c3 _ | exact c4 _ | exact w1 _ | exact w2 _ | exact c6 _ | exact c7 _ | exact c8 _)) ?_ | (refine xlP ?_; refine xlQ (fun hcc m => (by first | exact c1 _ | exact c2 _ | exact s1 _ | exact s2 _ | exact c3 _ | exact c4 _ | exact w1 _ | exact w2 _ | exact c6 _ | exact c7 _ | exact c8 _)) ?_)) | (show Fct ..; refine fctI (fun hf => ?_)) | (show SWp _ _ _ (.cond _ _ _) _ _ _ _; first | refine cB (fun hc => ?_) (fun hc => ?_) | refine cU ?_ ?_)))
  exact DVR
theorem upd_get {α : Type} {h v : List α} {i : Nat} (d : α) (hl : h.length = v.length) (hi : i < v.length) : (h.take i ++ v.drop i).getD i d = v.getD i d := by
  simp only [List.getD_eq_getElem?_getD]
  rw [List.getElem?_append_right (by simp; omega)]
  simp; congr 2; omega
theorem upd_step {α : Type} [Inhabited α] {h v : List α} {i : Nat} {x : α} (hl : h.length = v.length) (hi : i < v.length) (hx : x = h.getD i default) : (h.take i ++ v.drop i).set i x = h.take (i + 1) ++ v.drop (i + 1) := by
  have e : h.getD i default = h[i]'(by omega) := by simp [List.getD_eq_getElem?_getD, List.getElem?_eq_getElem (by omega : i < h.length)]
  rw [hx, e, List.drop_eq_getElem_cons hi, List.take_succ_eq_append_getElem (by omega : i < h.length), List.set_append_right _ _ (by simp; omega)]
  have : i - (h.take i).length = 0 := by simp; omega
  rw [this, List.set_cons_zero]; simp only [List.append_assoc, List.cons_append, List.nil_append]
theorem upd_len {α : Type} {h v : List α} {i : Nat} (hl : h.length = v.length) (hi : i ≤ v.length) : (h.take i ++ v.drop i).length = v.length := by simp; omega
theorem upd_end {α : Type} {h v : List α} (hl : h.length = v.length) : h.take v.length ++ v.drop v.length = h := by
  rw [← hl, List.take_length, hl, List.drop_length, List.append_nil]
def readyB (n : Net) (l : List Sect) : Bool := !largeB n l && netB n && catB l && !(n.links.any fun x => !knownB l x)
structure ReadyIn (n : Net) (l : List Sect) : Prop where
  no : netOk n
  co : catOk l
  nb : netB n = true
  cb : catB l = true
  kn : ∀ j, j < n.links.length → knownB l (n.links.getD j default) = true
  lg : n.nodes.length ≤ 12
theorem readyB_in {n : Net} {l : List Sect} (no : netOk n) (co : catOk l) (h : readyB n l = true) : ReadyIn n l := by
  unfold readyB at h
  simp only [Bool.and_eq_true, Bool.not_eq_true'] at h
  refine ⟨no, co, h.1.1.2, h.1.2, fun j hj => ?_, ?_⟩
  · have := h.2
    rw [List.any_eq_false] at this
    have := this _ (getD_mem hj)
    simpa using this
  · have := h.1.1.1
    unfold largeB at this
    simp only [Bool.or_eq_false_iff, decide_eq_false_iff_not] at this
    omega
theorem ready1_f (x : Link) (l : List Sect) (m : Nat) (hl : l.length ≤ 281474976710656) : DCalls Tryz.prog 64 [linkD x, .ptr 0 0] (hget [(0, .blk 26 ([.dat 5 (l.map sectP)].map .p))]) m (lb (!knownB l x)) (hget [(0, .blk 26 ([.dat 5 (l.map sectP)].map .p))]) := by
  refine contract (n := 8) (rs := [.tmp 3]) (ts := [4]) Tryz.func64 rfl (by decide) 1 1 [] [] [] (lb (!knownB l x)) [(0, .blk 26 ([.dat 5 (l.map sectP)].map .p))] (by (exact SD)) (by (exact SD)) ?_
  (repeat' (first | refine swp_seq [0, 1, 2, 3] ?_ | refine st2 ?_ | (show CallQ ..; first | refine cQ (fun hcc => (by first | exact named_f _ _ _ hl)) ?_ | (refine lP ?_; refine lQ (fun hcc m => (by first | exact named_f _ _ _ hl)) ?_)) | (show Fct ..; refine fctI (fun hf => ?_)) | (show SWp _ _ _ (.cond _ _ _) _ _ _ _; first | refine cB (fun hc => ?_) (fun hc => ?_) | refine cU ?_ ?_)))
  exact DVR
theorem conLinkC_f (g : FuncId) (t : TypeId) (cs : List PV) (p : Link → Bool) (l : List Link) (hl : l.length ≤ 281474976710656) (hg : ∀ x, x ∈ l → ∀ m, DCalls Tryz.prog g [linkD x, .ptr 0 0] (hget [(0, .blk t (cs.map .p))]) m (lb (p x)) (hget [(0, .blk t (cs.map .p))])) :
    DCalls Tryz.prog 42 [linkL l, .clo g [.ptr 0 0]] (hget [(0, .blk t (cs.map .p))]) 1 (lb (l.any p)) (hget [(0, .blk t (cs.map .p))]) := by
  have ci := idxLinkC_f g t cs p l hl hg
  refine contract (n := 9) (rs := [.tmp 4]) (ts := [4]) Tryz.func42 rfl (by decide) 1 1 [] [] [] (lb (l.any p)) [(0, .blk t (cs.map .p))] (by (exact SD)) (by (exact SD)) ?_
  (repeat' (first | refine swp_seq [0, 1, 4] ?_ | refine st2 ?_ | (show Fct ..; refine fctI (fun hf => ?_)) | (show SWp _ _ _ (.cond _ _ _) _ _ _ _; first | refine cB (fun hc => ?_) (fun hc => ?_) | refine cU ?_ ?_)))
  (refine cQT [0] (fun hcc => ci) ?_)
  (repeat' (first | refine swp_seq [0, 1, 4] ?_ | refine st2 ?_ | (show Fct ..; refine fctI (fun hf => ?_)) | (show SWp _ _ _ (.cond _ _ _) _ _ _ _; first | refine cB (fun hc => ?_) (fun hc => ?_) | refine cU ?_ ?_)))
  (refine DVQ ?_)
  rw [idxI_any]
set_option maxHeartbeats 1000000 in
theorem ready_f (n : Net) (l : List Sect) (m : Nat) (no : netOk n) (co : catOk l) : DCalls Tryz.prog 19 [netD n, sectL l] (hget []) m (lb (readyB n l)) (hget []) := by
  have c1 := fun m => large_f n l m no co
  have c2 := fun m => rNetValid_f n m no
  have c3 := fun m => rCat_f l m co
  have c4 := conLinkC_f 64 26 [.dat 5 (l.map sectP)] (fun x => !knownB l x) n.links no.2.1 (fun x _ m => ready1_f x l m co.1)
  unfold readyB
  generalize (n.links.any fun x => !knownB l x) = k at *
  refine pureC (n := 24) (rs := [.tmp 4]) (ts := [4]) Tryz.func19 rfl (by decide) [] (by (exact SD)) ?_
  cases h1 : largeB n l <;> simp only [h1] at c1
  · cases h2 : netB n <;> simp only [h2] at c2
    · (repeat' (first | refine swp_seq [0, 1, 2, 3, 4] ?_ | refine st2 ?_ | (show CallQ ..; first | refine cQ (fun hcc => (by first | exact c1 _ | exact c2 _)) ?_ | (refine lP ?_; refine lQ (fun hcc m => (by first | exact c1 _ | exact c2 _)) ?_)) | (show Fct ..; refine fctI (fun hf => ?_)) | (show SWp _ _ _ (.cond _ _ _) _ _ _ _; first | refine cB (fun hc => ?_) (fun hc => ?_) | refine cU ?_ ?_)))
      exact DVR
    cases h3 : catB l <;> simp only [h3] at c3
    · (repeat' (first | refine swp_seq [0, 1, 2, 3, 4] ?_ | refine st2 ?_ | (show CallQ ..; first | refine cQ (fun hcc => (by first | exact c1 _ | exact c2 _ | exact c3 _)) ?_ | (refine lP ?_; refine lQ (fun hcc m => (by first | exact c1 _ | exact c2 _ | exact c3 _)) ?_)) | (show Fct ..; refine fctI (fun hf => ?_)) | (show SWp _ _ _ (.cond _ _ _) _ _ _ _; first | refine cB (fun hc => ?_) (fun hc => ?_) | refine cU ?_ ?_)))
      exact DVR
    · (repeat' (first | refine swp_seq [0, 1, 2, 3, 4] ?_ | refine st2 ?_ | (show CallQ ..; first | refine cQ (fun hcc => (by first | exact c1 _ | exact c2 _ | exact c3 _)) ?_ | (refine lP ?_; refine lQ (fun hcc m => (by first | exact c1 _ | exact c2 _ | exact c3 _)) ?_)) | (show Fct ..; refine fctI (fun hf => ?_)) | (show SWp _ _ _ (.cond _ _ _) _ _ _ _; first | refine cB (fun hc => ?_) (fun hc => ?_) | refine cU ?_ ?_)))
      (refine cQT [8] (fun hcc => c4) ?_)
      (repeat' (first | refine swp_seq [0, 1, 2, 3, 4] ?_ | refine st2 ?_ | (show Fct ..; refine fctI (fun hf => ?_)) | (show SWp _ _ _ (.cond _ _ _) _ _ _ _; first | refine cB (fun hc => ?_) (fun hc => ?_) | refine cU ?_ ?_)))
      exact DVR
  · (repeat' (first | refine swp_seq [0, 1, 2, 3, 4] ?_ | refine st2 ?_ | (show CallQ ..; first | refine cQ (fun hcc => (by first | exact c1 _)) ?_ | (refine lP ?_; refine lQ (fun hcc m => (by first | exact c1 _)) ?_)) | (show Fct ..; refine fctI (fun hf => ?_)) | (show SWp _ _ _ (.cond _ _ _) _ _ _ _; first | refine cB (fun hc => ?_) (fun hc => ?_) | refine cU ?_ ?_)))
    exact DVR
def pickI (a b k : Int) : Int := a + k.tmod (b - a + 1)
theorem pickI_in {a b k : Int} (h : a ≤ b) (hk : 0 ≤ k) : a ≤ pickI a b k ∧ pickI a b k ≤ b := by
  unfold pickI
  have h1 := Int.tmod_nonneg (b - a + 1) hk
  have h2 := Int.tmod_lt_of_pos k (show 0 < b - a + 1 by omega)
  omega
theorem some34_f (x : Node) (k : Int) (m : Nat) (h : nodeR x = true) (hk : 0 ≤ k ∧ k ≤ 4294967295) : DCalls Tryz.prog 21 [nodeD x, lv (.int .u32 k)] (hget []) m (li (pickI x.inv x.gnd k)) (hget []) := by
  have hn := node_lev h
  have a1 := lev_in hn.1
  have a2 := lev_in hn.2.1
  have hp := pickI_in hn.2.2 hk.1
  unfold pickI at hp ⊢
  obtain ⟨q, hq⟩ : ∃ q, k.tmod (x.gnd - x.inv + 1) = q := ⟨_, rfl⟩
  have i1 : ModOk k (x.gnd - x.inv + 1) q := ⟨hq⟩
  rw [hq] at hp ⊢
  have h0 : ¬ x.gnd - x.inv + 1 = 0 := by omega
  (have := Nonempty.intro h0)
  clear hq
  refine pureC (n := 17) (rs := [.tmp 4]) (ts := [3]) Tryz.func21 rfl (by decide) [] (by (exact SD)) ?_
  (repeat' (first | refine swp_seq [0, 1, 2, 4] ?_ | refine st2 ?_ | (show Fct ..; refine fctI (fun hf => ?_)) | (show SWp _ _ _ (.cond _ _ _) _ _ _ _; first | refine cB (fun hc => ?_) (fun hc => ?_) | refine cU ?_ ?_)))
  exact DVR
theorem at34_f (a : Span) (k : Int) (m : Nat) (h : a.lo ≤ a.hi ∧ -4194304 ≤ a.lo ∧ a.hi ≤ 4194304) (hk : 0 ≤ k ∧ k ≤ 4294967295) : DCalls Tryz.prog 24 [spanD a, lv (.int .u32 k)] (hget []) m (li (pickI a.lo a.hi k)) (hget []) := by
  have hp := pickI_in h.1 hk.1
  unfold pickI at hp ⊢
  obtain ⟨q, hq⟩ : ∃ q, k.tmod (a.hi - a.lo + 1) = q := ⟨_, rfl⟩
  have i1 : ModOk k (a.hi - a.lo + 1) q := ⟨hq⟩
  rw [hq] at hp ⊢
  have h0 : ¬ a.hi - a.lo + 1 = 0 := by omega
  (have := Nonempty.intro h0)
  clear hq
  refine pureC (n := 17) (rs := [.tmp 4]) (ts := [3]) Tryz.func24 rfl (by decide) [] (by (exact SD)) ?_
  (repeat' (first | refine swp_seq [0, 1, 2, 4] ?_ | refine st2 ?_ | (show Fct ..; refine fctI (fun hf => ?_)) | (show SWp _ _ _ (.cond _ _ _) _ _ _ _; first | refine cB (fun hc => ?_) (fun hc => ?_) | refine cU ?_ ?_)))
  exact DVR
def hasB (a : Span) (v : Int) : Bool := decide (a.lo ≤ v) && decide (v ≤ a.hi)
def insB (a b : Span) : Bool := decide (b.lo ≤ a.lo) && decide (a.hi ≤ b.hi)
theorem has_f (a : Span) (v : Int) (m : Nat) : DCalls Tryz.prog 26 [spanD a, li v] (hget []) m (lb (hasB a v)) (hget []) := by
  refine pureC (n := 15) (rs := [.tmp 4]) (ts := [4]) Tryz.func26 rfl (by decide) [] (by (exact SD)) ?_
  (repeat' (first | refine swp_seq [0, 1, 2, 4] ?_ | refine st2 ?_ | (show Fct ..; refine fctI (fun hf => ?_)) | (show SWp _ _ _ (.cond _ _ _) _ _ _ _; first | refine cB (fun hc => ?_) (fun hc => ?_) | refine cU ?_ ?_)))
  exact DVR
theorem inside_f (a b : Span) (m : Nat) : DCalls Tryz.prog 27 [spanD a, spanD b] (hget []) m (lb (insB a b)) (hget []) := by
  refine pureC (n := 17) (rs := [.tmp 4]) (ts := [4]) Tryz.func27 rfl (by decide) [] (by (exact SD)) ?_
  (repeat' (first | refine swp_seq [0, 1, 2, 3, 4] ?_ | refine st2 ?_ | (show Fct ..; refine fctI (fun hf => ?_)) | (show SWp _ _ _ (.cond _ _ _) _ _ _ _; first | refine cB (fun hc => ?_) (fun hc => ?_) | refine cU ?_ ?_)))
  exact DVR
def invs (n : Net) : List Int := n.nodes.map fun x => x.inv
def lvS (n : Net) (k : Nat) (up down : Int) : List Int := ((invs n).set (fromI n k) up).set (tillI n k) down
theorem invs_len (n : Net) : (invs n).length = n.nodes.length := List.length_map _
theorem invs_at {n : Net} {i : Nat} (hi : i < n.nodes.length) : (invs n).getD i default = (n.nodes.getD i default).inv := by
  simp [invs, List.getD_eq_getElem?_getD, hi]
theorem nodeIx_name {n : Net} {s : ByteArray} {i : Nat} (h : nodeIx n.nodes s = (i : Int)) (hi : i < n.nodes.length) : (n.nodes.getD i default).name = s := by
  unfold nodeIx idxI at h
  cases hf : n.nodes.findIdx? fun x => decide (x.name = s) with
  | none => rw [hf] at h; simp at h
  | some q =>
    rw [hf] at h
    obtain ⟨hq, hp, _⟩ := List.findIdx?_eq_some_iff_getElem.1 hf
    have e : q = i := by simp at h; omega
    subst e
    rw [List.getD_eq_getElem?_getD, List.getElem?_eq_getElem hi]
    simpa using hp
theorem from_ne {n : Net} (h : netB n = true) {k : Nat} (hk : k < n.links.length) : ¬ fromI n k = tillI n k := fun e => by
  have hf := fromI_lt h hk
  have ht := tillI_lt h hk
  have hr := linkR_in (okL_in h hk).1
  have h1 := nodeIx_name (n := n) (s := (n.links.getD k default).fro) hf.2 hf.1
  have h2 := nodeIx_name (n := n) (s := (n.links.getD k default).til) ht.2 ht.1
  rw [e, h2] at h1
  exact hr.2.2.2.1 h1.symm
theorem setD_ne {l : List Int} {i j : Nat} {v : Int} (h : ¬ i = j) : (l.set i v).getD j default = l.getD j default := by
  simp only [List.getD_eq_getElem?_getD]; rw [List.getElem?_set_ne h]
theorem setD_eq {l : List Int} {i : Nat} {v : Int} (h : i < l.length) : (l.set i v).getD i default = v := by
  simp only [List.getD_eq_getElem?_getD]; rw [List.getElem?_set_self h]; rfl
theorem lvS_len (n : Net) (k : Nat) (up down : Int) : (lvS n k up down).length = n.nodes.length := by
  unfold lvS; rw [List.length_set, List.length_set, invs_len]
theorem lvS_from {n : Net} (h : netB n = true) {k : Nat} (hk : k < n.links.length) (up down : Int) : (lvS n k up down).getD (fromI n k) default = up := by
  have hf := fromI_lt h hk
  have hne := from_ne h hk
  unfold lvS
  rw [setD_ne (fun e => hne e.symm), setD_eq (by rw [invs_len]; exact hf.1)]
theorem lvS_till {n : Net} (h : netB n = true) {k : Nat} (hk : k < n.links.length) (up down : Int) : (lvS n k up down).getD (tillI n k) default = down := by
  have ht := tillI_lt h hk
  unfold lvS
  rw [setD_eq (by rw [List.length_set, invs_len]; exact ht.1)]
def inNode (n : Net) (i : Nat) (v : Int) : Prop := (n.nodes.getD i default).inv ≤ v ∧ v ≤ (n.nodes.getD i default).gnd
theorem inNode_b {n : Net} {i : Nat} {v : Int} (h : inNode n i v) : btwB v (n.nodes.getD i default).inv (n.nodes.getD i default).gnd = true := by
  unfold btwB; simp; exact h
theorem lvS_ok {n : Net} (h : netB n = true) {k : Nat} (hk : k < n.links.length) {up down : Int} (hu : inNode n (fromI n k) up) (hd : inNode n (tillI n k) down) : lvE n (lvS n k up down) = 0 := by
  unfold lvE
  rw [if_pos (lvS_len n k up down), if_pos]
  refine lvA_yes fun i hi => ?_
  unfold lvB
  by_cases e1 : i = tillI n k
  · subst e1; rw [lvS_till h hk]; exact inNode_b hd
  by_cases e2 : i = fromI n k
  · subst e2; rw [lvS_from h hk]; exact inNode_b hu
  unfold lvS
  rw [setD_ne (fun e => e1 e.symm), setD_ne (fun e => e2 e.symm), invs_at hi]
  exact inv_btw h hi
theorem ready_btw {n : Net} {l : List Sect} (R : ReadyIn n l) {k : Nat} (hk : k < n.links.length) {up down : Int} {t : Nat} (ht : t ≤ 1000) (hu : inNode n (fromI n k) up) (hd : inNode n (tillI n k) down) : BtwIn n l (n.links.getD k default) up down t :=
  btwIn_of R.no R.co R.nb R.cb hk (R.kn k hk) ht (inNode_b hu) (inNode_b hd)
theorem flow_set {n : Net} {l : List Sect} (R : ReadyIn n l) {k : Nat} (hk : k < n.links.length) {up down : Int} {t : Nat} {on : Bool} (ht : t ≤ 1000) (hu : inNode n (fromI n k) up) (hd : inNode n (tillI n k) down) : flowR n l k (lvS n k up down) t on = (flowI n l (n.links.getD k default) up down t on, 0) := by
  unfold flowR
  simp only [Int.toNat_natCast]
  rw [R.nb, R.cb, if_pos (show (true && true) = true from rfl), if_pos (lvS_ok R.nb hk hu hd), if_pos (by unfold linkedB btwB; simp; omega), if_pos (R.kn k hk), lvS_from R.nb hk, lvS_till R.nb hk]
theorem set_set_down {n : Net} {k : Nat} {up down v : Int} : (lvS n k up down).set (tillI n k) v = lvS n k up v := by
  unfold lvS; rw [List.set_set]
theorem rep_in (k : Nat) : List.replicate k [DV.p (.lit (.int .i64 0))] = rows inRow (List.replicate k 0) := by
  unfold rows; rw [List.map_replicate]; rfl
attribute [push_cast] rep_in
set_option maxRecDepth 20000 in
set_option maxHeartbeats 4000000 in
theorem flowC_f (n : Net) (l : List Sect) (k : Nat) (up down : Int) (t : Nat) (on : Bool) (m : Nat) (R : ReadyIn n l) (hk : k < n.links.length) (ht : t ≤ 1000) (hu : inNode n (fromI n k) up) (hd : inNode n (tillI n k) down) :
    DCalls Tryz.prog 22 [li up, li down, li t, lb on, .ptr 0 0, .ptr 1 0, .ptr 2 0, .ptr 3 0, .ptr 4 0] (hget [(0, .blk 25 (netC n)), (1, .blk 3 [li (fromI n k)]), (2, .blk 3 [li (tillI n k)]), (3, .blk 26 [sectL l]), (4, .blk 3 [li k])]) m (li (flowI n l (n.links.getD k default) up down t on)) (hget [(0, .blk 25 (netC n)), (1, .blk 3 [li (fromI n k)]), (2, .blk 3 [li (tillI n k)]), (3, .blk 26 [sectL l]), (4, .blk 3 [li k])]) := by
  have hlg := R.lg
  have c1 := fun m => Flow_f n l k (lvS n k up down) t on m R.no R.co (by rw [lvS_len]; omega)
  simp only [flow_set R hk ht hu hd] at c1
  have hf := (fromI_lt R.nb hk).1
  have hti := (tillI_lt R.nb hk).1
  have hin := flowI_in (on := on) (ready_btw R hk ht hu hd)
  generalize flowI n l (n.links.getD k default) up down t on = q at *
  unfold lvS at c1
  have hl0 : (invs n).length = (List.replicate n.nodes.length (0 : Int)).length := by rw [invs_len, List.length_replicate]
  have hil := invs_len n
  have hat := fun i hi => invs_at (n := n) (i := i) hi
  generalize invs n = I at *
  generalize fromI n k = a at *
  generalize tillI n k = b at *
  refine contract (n := 58) (rs := [.tmp 13]) (ts := [3]) Tryz.func22 rfl (by decide) 5 5 [] [] [] (li q) [(0, .blk 25 (netC n)), (1, .blk 3 [li a]), (2, .blk 3 [li b]), (3, .blk 26 [sectL l]), (4, .blk 3 [li k])] (by (exact SD)) (by (exact SD)) ?_
  (repeat' (first | refine swp_seq [0, 1, 2, 3, 4, 5, 6, 7, 8, 13, 14, 15, 16, 17, 18, 24, 25, 26, 27, 56] ?_ | refine st2 ?_ | (show Fct ..; refine fctI (fun hf => ?_)) | (show SWp _ _ _ (.cond _ _ _) _ _ _ _; first | refine cB (fun hc => ?_) (fun hc => ?_) | refine cU ?_ ?_)))
  refine loop_swp [0, 1, 2, 3, 4, 5, 6, 7, 8, 14, 24, 25, 26] [0, 1, 2, 3, 4, 37] 38 (fun z A H => ∃ i : Nat, i ≤ n.nodes.length ∧ z = n.nodes.length - i ∧ A = [(0, li up), (1, li down), (2, li t), (3, lb on), (4, .ptr 0 0), (5, .ptr 1 0), (6, .ptr 2 0), (7, .ptr 3 0), (8, .ptr 4 0), (14, .gl 37), (24, nodeL n.nodes), (25, li n.nodes.length), (26, li i)] ∧ H = [(0, .blk 25 (netC n)), (1, .blk 3 [li a]), (2, .blk 3 [li b]), (3, .blk 26 [sectL l]), (4, .blk 3 [li k]), (37, inLt (I.take i ++ (List.replicate n.nodes.length 0).drop i))]) (by omega) ?_ ?_ ?_
  · rintro z A H ⟨i, h1, h2, rfl, rfl⟩
    exact ⟨by (exact SD), by (exact SD)⟩
  · refine ⟨_, 0, by omega, rfl, ?_, ?_⟩
    · exact DVR
    · exact DVR
  rintro z A H ⟨i, h1, h2, rfl, rfl⟩
  by_cases hi : i < n.nodes.length
  · have hL := upd_len (i := i) hl0 (by rw [List.length_replicate]; omega)
    have hst := fun x hx => upd_step (x := x) (i := i) hl0 (by rw [List.length_replicate]; omega) hx
    rw [List.length_replicate] at hL
    have hx := hat i hi
    have hi3 : (i : Int) < (n.nodes.length : Int) := by omega
    (have := Nonempty.intro hi)
    (have := Nonempty.intro hi3)
    generalize hX : I.take i ++ (List.replicate n.nodes.length (0 : Int)).drop i = X at *
    have hi2 : i < X.length := by omega
    (have := Nonempty.intro hi2)
    (repeat' (first | refine swp_seq [0, 1, 2, 3, 4, 5, 6, 7, 8, 13, 14, 15, 16, 17, 18, 24, 25, 26, 27, 56] ?_ | (show SWp _ _ _ (.region _ _ true) _ _ _ _; refine xG mixed [37] ?_) | refine st2 ?_ | (show Fct ..; refine fctI (fun hf => ?_)) | (show SWp _ _ _ (.cond _ _ _) _ _ _ _; first | refine cB (fun hc => ?_) (fun hc => ?_) | refine cU ?_ ?_)))
    rw [hst _ hx.symm]
    (refine lN [0, 1, 2, 3, 4, 37] ?_)
    exact ⟨_, by omega, i + 1, by omega, rfl, rfl, rfl⟩
  · obtain rfl : i = n.nodes.length := by omega
    have he := upd_end hl0
    rw [List.length_replicate] at he
    rw [he]
    have hi3 : ¬ ((n.nodes.length : Int) < (n.nodes.length : Int)) := by omega
    (have := Nonempty.intro hi3)
    have f1 : a < I.length := by omega
    have f2 : b < (I.set a up).length := by rw [List.length_set]; omega
    (have := Nonempty.intro f1)
    (have := Nonempty.intro f2)
    clear hat he hl0
    (repeat' (first | refine swp_seq [0, 1, 2, 3, 4, 5, 6, 7, 8, 13, 14, 15, 16, 17, 18, 24, 25, 26, 27, 56] ?_ | (show SWp _ _ _ (.region _ _ true) _ _ _ _; refine xG mixed [37] ?_) | refine st2 ?_ | (show CallQ ..; first | refine cQ (fun hcc => (by first | exact c1 _)) ?_ | (refine lP ?_; refine lQ (fun hcc m => (by first | exact c1 _)) ?_)) | (show XCallQ ..; first | refine xQ (fun hcc => (by first | exact c1 _)) ?_ | (refine xlP ?_; refine xlQ (fun hcc m => (by first | exact c1 _)) ?_)) | (show Fct ..; refine fctI (fun hf => ?_)) | (show SWp _ _ _ (.cond _ _ _) _ _ _ _; first | refine cB (fun hc => ?_) (fun hc => ?_) | refine cU ?_ ?_)))
    exact DVR

end Go.Proofs.YtnfbaeeohepajaaGreat
