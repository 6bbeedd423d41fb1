/-
  Contracts of functions of the program, over the engine.
  No condition.
-/
import Derived.Test.YtkhddlhhbanebaaCa26
namespace Go.Proofs.Ytkhddlhhbanebaa
open Go.Eng
set_option linter.all false

def encR (rs : List Rec) : List UInt8 := rs.flatMap fun r => frameB (recBytes r)
theorem encR_cons (r : Rec) (rs : List Rec) : encR (r :: rs) = frameB (recBytes r) ++ encR rs := rfl
theorem encR_app (a b : List Rec) : encR (a ++ b) = encR a ++ encR b := List.flatMap_append
theorem un64_nat (n : Nat) (h : n < 18446744073709551616) : un64 (n : Int) = n := by unfold un64; omega
theorem nAt_at {l pre post : List UInt8} {p u : Nat} (hl : l = pre ++ (beBytes 4 u ++ post)) (hp : pre.length = p) : nAt l p = u % 4294967296 := by
  have h1 : l.drop p = beBytes 4 u ++ post := by rw [hl, ← hp, List.drop_left]
  have h2 : (l.drop p).take 4 = beBytes 4 u := by
    rw [h1]
    have := List.take_left (l₁ := beBytes 4 u) (l₂ := post)
    rwa [beBytes_length] at this
  unfold nAt
  rw [h2, numU_be 4 u (by omega) (by omega)]
theorem frame_split (b : List UInt8) : frameB b = beBytes 4 (un64 b.length) ++ (b ++ beBytes 4 (un64 (sumN (beBytes 4 (un64 b.length) ++ b)))) := by unfold frameB; simp
theorem frame_at {l pre b post : List UInt8} {p : Nat} (hl : l = pre ++ (frameB b ++ post)) (hp : pre.length = p) (hb : b.length ≤ 65535) :
    nAt l p = b.length ∧ okF l p = true ∧ (l.drop (p + 4)).take b.length = b ∧ p + b.length + 8 ≤ l.length := by
  have hu : un64 (b.length : Int) = b.length := un64_nat _ (by omega)
  have hs := sumN_lt (beBytes 4 (un64 b.length) ++ b)
  have hus : un64 (sumN (beBytes 4 (un64 b.length) ++ b) : Int) = sumN (beBytes 4 (un64 b.length) ++ b) := un64_nat _ (by omega)
  rw [frame_split] at hl
  have h1 : nAt l p = b.length := by
    have := nAt_at (l := l) (pre := pre) (p := p) (u := un64 b.length) (post := b ++ beBytes 4 (un64 (sumN (beBytes 4 (un64 b.length) ++ b))) ++ post) (by rw [hl]; simp) hp
    rw [this, hu]; omega
  have hlen : p + b.length + 8 ≤ l.length := by rw [hl]; simp [beBytes_length]; omega
  have hd : l.drop p = (beBytes 4 (un64 b.length) ++ b) ++ (beBytes 4 (un64 (sumN (beBytes 4 (un64 b.length) ++ b))) ++ post) := by rw [hl, ← hp, List.drop_left]; simp
  have h2 : nAt l (p + 4 + b.length) = sumN (beBytes 4 (un64 b.length) ++ b) := by
    have := nAt_at (l := l) (pre := pre ++ (beBytes 4 (un64 b.length) ++ b)) (p := p + 4 + b.length) (u := un64 (sumN (beBytes 4 (un64 b.length) ++ b))) (post := post) (by rw [hl]; simp) (by simp [beBytes_length]; omega)
    rw [this, hus]; omega
  have h3 : (l.drop p).take (4 + b.length) = beBytes 4 (un64 b.length) ++ b := by
    rw [hd]
    have := List.take_left (l₁ := beBytes 4 (un64 b.length) ++ b) (l₂ := beBytes 4 (un64 (sumN (beBytes 4 (un64 b.length) ++ b))) ++ post)
    rwa [List.length_append, beBytes_length] at this
  refine ⟨h1, ?_, ?_, hlen⟩
  · unfold okF
    rw [h1, h2, h3]
    simp; omega
  · have : l.drop (p + 4) = b ++ (beBytes 4 (un64 (sumN (beBytes 4 (un64 b.length) ++ b))) ++ post) := by
      have e : l = (pre ++ beBytes 4 (un64 b.length)) ++ (b ++ (beBytes 4 (un64 (sumN (beBytes 4 (un64 b.length) ++ b))) ++ post)) := by rw [hl]; simp
      rw [e, show p + 4 = (pre ++ beBytes 4 (un64 b.length)).length by simp [beBytes_length, hp], List.drop_left]
    rw [this, List.take_left]
def endsOf : Nat → List Rec → List Int
  | _, [] => []
  | p, r :: rs => ((p + (frameB (recBytes r)).length : Nat) : Int) :: endsOf (p + (frameB (recBytes r)).length) rs
theorem bodAt_enc : ∀ (rs : List Rec) (l pre post : List UInt8) (p : Nat), l = pre ++ (encR rs ++ post) → pre.length = p → (∀ r ∈ rs, recB r = true) → ¬ okF l (p + (encR rs).length) = true →
    bodAt l p = rs.map recBytes ∧ endsAt l p = endsOf p rs
  | [], l, pre, post, p, hl, hp, _, hk => by
    have : (encR []).length = 0 := rfl
    rw [this, Nat.add_zero] at hk
    exact ⟨bodAt_stop l p hk, endsAt_stop l p hk⟩
  | r :: rs, l, pre, post, p, hl, hp, hr, hk => by
    have hlen := recBytes_len (hr r (by simp))
    have hf := frameB_len (recBytes r)
    rw [encR_cons, List.append_assoc] at hl
    obtain ⟨h1, h2, h3, h4⟩ := frame_at hl hp (by omega)
    have hp0 : p ≤ l.length := by omega
    obtain ⟨i1, i2⟩ := bodAt_enc rs l (pre ++ frameB (recBytes r)) post (p + (frameB (recBytes r)).length) (by rw [hl]; simp) (by simp [hp]) (fun x hx => hr x (by simp [hx])) (by rw [encR_cons, List.length_append] at hk; rwa [Nat.add_assoc])
    have e : p + nAt l p + 8 = p + (frameB (recBytes r)).length := by rw [h1]; omega
    rw [bodAt_step l p hp0 h2, endsAt_step l p hp0 h2, e, i1, i2, h1, h3]
    exact ⟨rfl, rfl⟩
theorem endsOf_last : ∀ (rs : List Rec) (p : Nat), (endsOf p rs).getLastD (p : Int) = ((p + (encR rs).length : Nat) : Int)
  | [], p => by simp [endsOf, encR]
  | r :: rs, p => by
    rw [endsOf, List.getLastD_cons, endsOf_last rs, encR_cons, List.length_append, Nat.add_assoc]
theorem okF_end (l : List UInt8) (p : Nat) (h : l.length ≤ p) : ¬ okF l p = true := by unfold okF; grind
theorem frames_of {rs : List Rec} {l post : List UInt8} (hl : l = encR rs ++ post) (hr : ∀ r ∈ rs, recB r = true) (hk : ¬ okF l (encR rs).length = true) :
    bods l = rs.map recBytes ∧ ends l = endsOf 0 rs ∧ wholeV l = (encR rs).length := by
  obtain ⟨h1, h2⟩ := bodAt_enc rs l [] post 0 (by simpa using hl) rfl hr (by simpa using hk)
  refine ⟨h1, h2, ?_⟩
  have h3 : ends l = endsOf 0 rs := h2
  unfold wholeV
  rw [h3]
  have := endsOf_last rs 0
  rw [Nat.zero_add] at this
  exact this
theorem recsGo_back : ∀ (rs acc : List Rec), (∀ r ∈ rs, recB r = true) → recsGo acc (rs.map recBytes) = (acc ++ rs, 0)
  | [], acc, _ => by simp [recsGo]
  | r :: rs, acc, h => by
    have hb := decD_back (h r (by simp))
    simp only [List.map_cons, recsGo, hb, if_true]
    rw [recsGo_back rs (acc ++ [r]) fun x hx => h x (by simp [hx])]
    simp
theorem sumStep_inj {n m : Nat} {c : UInt8} (hn : n < 4294967296) (hm : m < 4294967296) (h : sumStep n c = sumStep m c) : n = m := by unfold sumStep at h; omega
theorem sumStep_lt (n : Nat) (c : UInt8) : sumStep n c < 4294967296 := Nat.mod_lt _ (by decide)
theorem sum_inj : ∀ (l : List UInt8) (n m : Nat), n < 4294967296 → m < 4294967296 → l.foldl sumStep n = l.foldl sumStep m → n = m
  | [], _, _, _, _, h => h
  | c :: l, n, m, hn, hm, h => sumStep_inj hn hm (sum_inj l _ _ (sumStep_lt _ _) (sumStep_lt _ _) h)
theorem sumN_ne {a b : List UInt8} {c c' : UInt8} (h : c ≠ c') : sumN (a ++ c :: b) ≠ sumN (a ++ c' :: b) := by
  unfold sumN
  rw [List.foldl_append, List.foldl_append, List.foldl_cons, List.foldl_cons]
  intro k
  have := sum_inj b _ _ (sumStep_lt _ _) (sumStep_lt _ _) k
  have h1 := u8lt c
  have h2 := u8lt c'
  have h3 : c.toNat ≠ c'.toNat := fun e => h (UInt8.toNat_inj.1 e)
  unfold sumStep at this
  omega
theorem num4_inj {a b : List UInt8} (ha : a.length = 4) (hb : b.length = 4) (h : numU a = numU b) : a = b := by
  match a, b, ha, hb with
  | [a1, a2, a3, a4], [b1, b2, b3, b4], _, _ =>
    have p1 := u8lt a1; have p2 := u8lt a2; have p3 := u8lt a3; have p4 := u8lt a4
    have q1 := u8lt b1; have q2 := u8lt b2; have q3 := u8lt b3; have q4 := u8lt b4
    simp only [numU, List.foldl_cons, List.foldl_nil, numStep] at h
    have e1 : a1.toNat = b1.toNat := by omega
    have e2 : a2.toNat = b2.toNat := by omega
    have e3 : a3.toNat = b3.toNat := by omega
    have e4 : a4.toNat = b4.toNat := by omega
    rw [UInt8.toNat_inj.1 e1, UInt8.toNat_inj.1 e2, UInt8.toNat_inj.1 e3, UInt8.toNat_inj.1 e4]
theorem frame_bad {l pre post b f : List UInt8} {p j : Nat} {c : UInt8} (hb : b.length ≤ 65535) (hf : f = (frameB b).set j c) (hj : 4 ≤ j) (hj2 : j < (frameB b).length) (hc : (frameB b).getD j default ≠ c)
    (hl : l = pre ++ (f ++ post)) (hp : pre.length = p) : ¬ okF l p = true := by
  have hu : un64 (b.length : Int) = b.length := un64_nat _ (by omega)
  have hs := sumN_lt (beBytes 4 (un64 b.length) ++ b)
  have hus : un64 (sumN (beBytes 4 (un64 b.length) ++ b) : Int) = sumN (beBytes 4 (un64 b.length) ++ b) := un64_nat _ (by omega)
  have hfl := frameB_len b
  obtain ⟨h4, hh4⟩ : ∃ h4, h4 = beBytes 4 (un64 b.length) := ⟨_, rfl⟩
  obtain ⟨s4, hs4⟩ : ∃ s4, s4 = beBytes 4 (un64 (sumN (beBytes 4 (un64 b.length) ++ b))) := ⟨_, rfl⟩
  have l4 : h4.length = 4 := by rw [hh4, beBytes_length]
  have l4s : s4.length = 4 := by rw [hs4, beBytes_length]
  have hfs := frame_split b
  rw [← hs4, ← hh4] at hfs
  have e1 : f = h4 ++ (b ++ s4).set (j - 4) c := by rw [hf, hfs, List.set_append_right _ _ (by omega), l4]
  have h1 : nAt l p = b.length := by
    have := nAt_at (l := l) (pre := pre) (p := p) (u := un64 b.length) (post := (b ++ s4).set (j - 4) c ++ post) (by rw [hl, e1, hh4]; simp) hp
    rw [this, hu]; omega
  intro hk
  unfold okF at hk
  simp only [Bool.and_eq_true, decide_eq_true_eq, beq_iff_eq] at hk
  obtain ⟨_, hk⟩ := hk
  rw [h1] at hk
  by_cases hjb : j - 4 < b.length
  · -- in the body
    have e2 : (b ++ s4).set (j - 4) c = b.set (j - 4) c ++ s4 := List.set_append_left _ _ hjb
    have h2 : nAt l (p + 4 + b.length) = sumN (h4 ++ b) := by
      have := nAt_at (l := l) (pre := pre ++ (h4 ++ b.set (j - 4) c)) (p := p + 4 + b.length) (u := un64 (sumN (beBytes 4 (un64 b.length) ++ b))) (post := post) (by rw [hl, e1, e2, ← hs4]; simp) (by simp [l4]; omega)
      rw [this, hus, ← hh4]
      rw [← hh4] at hs; omega
    have h3 : (l.drop p).take (4 + b.length) = h4 ++ b.set (j - 4) c := by
      have hd : l.drop p = (h4 ++ b.set (j - 4) c) ++ (s4 ++ post) := by rw [hl, e1, e2, ← hp, List.drop_left]; simp
      rw [hd]
      have := List.take_left (l₁ := h4 ++ b.set (j - 4) c) (l₂ := s4 ++ post)
      rwa [List.length_append, List.length_set, l4] at this
    rw [h2, h3] at hk
    have hx : b = b.take (j - 4) ++ b[j - 4] :: b.drop (j - 4 + 1) := by rw [← List.drop_eq_getElem_cons hjb, List.take_append_drop]
    have hy : b.set (j - 4) c = b.take (j - 4) ++ c :: b.drop (j - 4 + 1) := by rw [List.set_eq_take_append_cons_drop, if_pos hjb]
    have hg : b[j - 4] ≠ c := fun e => hc (by
      rw [hfs, List.getD_eq_getElem?_getD, List.getElem?_append_right (by omega), l4, List.getElem?_append_left hjb, List.getElem?_eq_getElem hjb]
      exact e)
    rw [hy] at hk
    have := sumN_ne (a := h4 ++ b.take (j - 4)) (b := b.drop (j - 4 + 1)) hg
    rw [List.append_assoc, List.append_assoc, ← hx] at this
    exact this hk
  · -- in the sum
    have e2 : (b ++ s4).set (j - 4) c = b ++ s4.set (j - 4 - b.length) c := List.set_append_right _ _ (by omega)
    have h3 : (l.drop p).take (4 + b.length) = h4 ++ b := by
      have hd : l.drop p = (h4 ++ b) ++ (s4.set (j - 4 - b.length) c ++ post) := by rw [hl, e1, e2, ← hp, List.drop_left]; simp
      rw [hd]
      have := List.take_left (l₁ := h4 ++ b) (l₂ := s4.set (j - 4 - b.length) c ++ post)
      rwa [List.length_append, l4] at this
    have h2 : nAt l (p + 4 + b.length) = numU (s4.set (j - 4 - b.length) c) := by
      unfold nAt
      have hd : l.drop (p + 4 + b.length) = s4.set (j - 4 - b.length) c ++ post := by
        have : l = (pre ++ (h4 ++ b)) ++ (s4.set (j - 4 - b.length) c ++ post) := by rw [hl, e1, e2]; simp
        rw [this, show p + 4 + b.length = (pre ++ (h4 ++ b)).length by simp [l4]; omega, List.drop_left]
      rw [hd]
      have := List.take_left (l₁ := s4.set (j - 4 - b.length) c) (l₂ := post)
      rw [List.length_set, l4s] at this
      rw [this]
    have h5 : numU s4 = sumN (h4 ++ b) := by
      rw [hs4, numU_be 4 _ (by omega) (by omega), hus, ← hh4]
      rw [← hh4] at hs
      have : (256 : Nat) ^ 4 = 4294967296 := by decide
      rw [this]; omega
    rw [h2, h3, ← h5] at hk
    have hq := num4_inj (by rw [List.length_set, l4s]) l4s hk
    have hjs : j - 4 - b.length < s4.length := by omega
    have hg : s4[j - 4 - b.length] ≠ c := fun e => hc (by
      rw [hfs, List.getD_eq_getElem?_getD, List.getElem?_append_right (by omega), l4, List.getElem?_append_right (by omega), List.getElem?_eq_getElem hjs]
      exact e)
    have := congrArg (fun z : List UInt8 => z[j - 4 - b.length]?) hq
    simp [hjs] at this
    exact hg this.symm

end Go.Proofs.Ytkhddlhhbanebaa
