/-
  Contracts of functions of the program, over the engine.
  No condition.
-/
import Derived.Test.YtkhddlhhbanebaaCa20
namespace Go.Proofs.Ytkhddlhhbanebaa
open Go.Eng
set_option linter.all false

theorem foldl_be (n : Nat) : ∀ (u acc : Nat), (beBytes n u).foldl numStep acc = (acc * 256 ^ n + u % 256 ^ n) % 18446744073709551616 ∨ n = 0 := by
  induction n with
  | zero => intro u acc; exact .inr rfl
  | succ n ih =>
    intro u acc
    refine .inl ?_
    have hc : (UInt8.ofNat (u / 256 ^ n)).toNat = u / 256 ^ n % 256 := by simp
    have e1 : u % 256 ^ (n + 1) = u % 256 ^ n + 256 ^ n * (u / 256 ^ n % 256) := Nat.mod_pow_succ
    simp only [beBytes, List.foldl_cons]
    have e2 : numStep acc (UInt8.ofNat (u / 256 ^ n)) = (acc * 256 + u / 256 ^ n % 256) % 18446744073709551616 := by unfold numStep; rw [hc]
    rcases ih u (numStep acc (UInt8.ofNat (u / 256 ^ n))) with h | h
    · rw [h, e1, e2]
      generalize u / 256 ^ n % 256 = c
      generalize u % 256 ^ n = v
      rw [Nat.pow_succ]
      generalize 256 ^ n = k
      rw [Nat.add_mod, Nat.mod_mul_mod, ← Nat.add_mod]
      congr 1
      rw [Nat.add_mul, Nat.mul_assoc, Nat.mul_comm 256 k, Nat.mul_comm c k]; omega
    · subst h
      have hv : u % 256 ^ 0 = 0 := by simp [Nat.mod_one]
      rw [e1, e2, hv]
      simp [beBytes]
theorem numU_be (n u : Nat) (hn : 1 ≤ n) (hn2 : n ≤ 8) : numU (beBytes n u) = u % 256 ^ n := by
  unfold numU
  rcases foldl_be n u 0 with h | h
  · rw [h, Nat.zero_mul, Nat.zero_add]
    refine Nat.mod_eq_of_lt ?_
    have h1 : u % 256 ^ n < 256 ^ n := Nat.mod_lt _ (Nat.pow_pos (by decide))
    have h2 : 256 ^ n ≤ 256 ^ 8 := Nat.pow_le_pow_right (by decide) hn2
    have h3 : (256 : Nat) ^ 8 = 18446744073709551616 := by decide
    omega
  · omega
theorem gN_at {b pre post : List UInt8} {p n u : Nat} (hb : b = pre ++ (beBytes n u ++ post)) (hp : pre.length = p) (hn : 1 ≤ n) (hn2 : n ≤ 8) : gN b p n = IntKind.i64.wrap ((u % 256 ^ n : Nat) : Int) := by
  unfold gN
  have h1 : b.drop p = beBytes n u ++ post := by rw [hb, ← hp, List.drop_left]
  have h2 : (b.drop p).take n = beBytes n u := by
    rw [h1]
    have := List.take_left (l₁ := beBytes n u) (l₂ := post)
    rwa [beBytes_length] at this
  rw [h2, numU_be n u hn hn2]
theorem gN_nn {b pre post : List UInt8} {p n : Nat} {x : Int} (hb : b = pre ++ (beBytes n (un64 x) ++ post)) (hp : pre.length = p) (hn : 1 ≤ n) (hn2 : n ≤ 4) (h0 : 0 ≤ x) (hx : x < 256 ^ n) : gN b p n = x := by
  rw [gN_at hb hp hn (by omega)]
  obtain ⟨m, rfl⟩ : ∃ m : Nat, x = m := ⟨x.toNat, by omega⟩
  have h2 : (256 : Nat) ^ n ≤ 256 ^ 4 := Nat.pow_le_pow_right (by decide) hn2
  have h3 : (256 : Nat) ^ 4 = 4294967296 := by decide
  have h4 : m < 256 ^ n := by
    have : ((256 ^ n : Nat) : Int) = (256 : Int) ^ n := Int.natCast_pow 256 n
    omega
  have h6 : m < 4294967296 := by rw [h3] at h2; exact Nat.lt_of_lt_of_le h4 h2
  have h5 : un64 (m : Int) = m := by unfold un64; omega
  rw [h5, Nat.mod_eq_of_lt h4]
  exact i64w (by omega)
theorem wrap64_mod {x : Int} (h0 : -9223372036854775808 ≤ x) (hx : x ≤ 9223372036854775807) : IntKind.i64.wrap (x % 18446744073709551616) = x := by
  rw [IntKind.wrap_i64]; omega
theorem gN_8 {b pre post : List UInt8} {p : Nat} {x : Int} (hb : b = pre ++ (beBytes 8 (un64 x) ++ post)) (hp : pre.length = p) (h0 : -9223372036854775808 ≤ x) (hx : x ≤ 9223372036854775807) : gN b p 8 = x := by
  rw [gN_at hb hp (by omega) (by omega)]
  have h3 : (256 : Nat) ^ 8 = 18446744073709551616 := by decide
  rw [h3]
  have h4 : ((un64 x % 18446744073709551616 : Nat) : Int) = x % 18446744073709551616 := by unfold un64; omega
  rw [h4]
  exact wrap64_mod h0 hx
theorem timeB_in {n : Int} (h : timeB n = true) : -68719476736 ≤ n ∧ n ≤ 68719476736 := by unfold timeB inB at h; grind
theorem recB_plain {r : Rec} (h : recB r = true) : r = recPlain r := by
  unfold recB at h
  rw [Bool.and_eq_true] at h
  exact (recSame_iff _ _).1 h.1
theorem kind_u8 (k : Int) (h0 : 0 ≤ k) (h : k < 256) : ((UInt8.ofNat (un64 k)).toNat : Int) = k := by
  have : (UInt8.ofNat (un64 k)).toNat = un64 k % 256 := by simp
  rw [this]; unfold un64; omega
theorem str_bs (s : ByteArray) : str s.data.toList = s := by cases s; simp [str]
theorem rec1 {k s l : _} : ({ zRec with kind := k, seconds := s, inflows := l } : Rec) = ⟨k, s, l, .empty, 0, zMsg, .empty⟩ := rfl
theorem dec_back {r : Rec} (h : recB r = true) : decF (recBytes r) = some r := by
  have hk := recB_sz h
  have hp := recB_plain h
  have b1 : r.link.data.toList.length = r.link.size := by simp
  have b2 : r.msg.node.data.toList.length = r.msg.node.size := by simp
  have b3 : r.text.data.toList.length = r.text.size := by simp
  have hcons : ∃ t, recBytes r = UInt8.ofNat (un64 r.kind) :: t := ⟨_, rfl⟩
  have h1 : 1 ≤ (recBytes r).length := by obtain ⟨t, ht⟩ := hcons; rw [ht]; simp
  have hkind : gN (recBytes r) 0 1 = r.kind := by
    rw [gN_one _ h1]
    obtain ⟨t, ht⟩ := hcons
    rw [ht]
    exact kind_u8 _ (by omega) (by omega)
  rw [decF_I _ h1]
  unfold decI
  rw [hkind]
  by_cases k1 : r.kind = 1
  · have hs : 1 ≤ r.seconds ∧ r.seconds ≤ 86400 ∧ r.inflows.length ≤ 300 ∧ volsB r.inflows = true := by unfold recB at h; grind
    obtain ⟨s1, s2, s3, s4⟩ := hs
    have e := recB1 k1
    generalize UInt8.ofNat (un64 r.kind) = c at e
    have e4 : gN (recBytes r) 1 4 = r.seconds := gN_nn (pre := [c]) (post := beBytes 2 (un64 r.inflows.length) ++ flat8 r.inflows) (by rw [e]; simp) rfl (by omega) (by omega) (by omega) (by omega)
    have e2 : gN (recBytes r) 5 2 = r.inflows.length := gN_nn (pre := c :: beBytes 4 (un64 r.seconds)) (post := flat8 r.inflows) (by rw [e]; simp) (by simp [beBytes_length]) (by omega) (by omega) (by omega) (by omega)
    have el : (recBytes r).length = 7 + 8 * r.inflows.length := by rw [e]; simp [beBytes_length, flat8_len]; omega
    rw [if_pos k1, e2, if_pos ⟨by omega, by omega⟩, Int.toNat_natCast, e4]
    have ei : ((List.range r.inflows.length).map fun i => gN (recBytes r) (7 + 8 * i) 8) = r.inflows := by
      refine List.ext_getElem (by simp) fun i hi1 hi2 => ?_
      simp only [List.getElem_map, List.getElem_range]
      have hv : volB r.inflows[i] = true := List.all_eq_true.1 s4 _ (List.getElem_mem hi2)
      have hv2 : 0 ≤ r.inflows[i] ∧ r.inflows[i] ≤ 1125899906842624 := by unfold volB at hv; grind
      have hf : flat8 r.inflows = flat8 (r.inflows.take i) ++ (beBytes 8 (un64 r.inflows[i]) ++ flat8 (r.inflows.drop (i + 1))) := by
        have q : r.inflows.take i ++ r.inflows[i] :: r.inflows.drop (i + 1) = r.inflows := by rw [← List.drop_eq_getElem_cons hi2, List.take_append_drop]
        rw [← congrArg flat8 q]
        unfold flat8
        rw [List.flatMap_append, List.flatMap_cons]
      refine gN_8 (pre := c :: (beBytes 4 (un64 r.seconds) ++ beBytes 2 (un64 r.inflows.length) ++ flat8 (r.inflows.take i))) (post := flat8 (r.inflows.drop (i + 1))) ?_ ?_ (by omega) (by omega)
      · rw [e, hf]; simp
      · simp [beBytes_length, flat8_len]; omega
    rw [ei]
    conv => rhs; rw [hp]
    simp [recPlain, k1, zRec]
  by_cases k2 : r.kind = 2
  · have hs : nameB r.link = true ∧ 0 ≤ r.setting ∧ r.setting ≤ 1000 := by unfold recB inB at h; grind
    obtain ⟨s1, s2, s3⟩ := hs
    have s4 := nameB_sz s1
    have e := recB2 k2
    generalize UInt8.ofNat (un64 r.kind) = c at e
    have e1 : gN (recBytes r) 1 1 = r.link.size := gN_nn (pre := [c]) (post := r.link.data.toList ++ beBytes 2 (un64 r.setting)) (by rw [e]; simp) rfl (by omega) (by omega) (by omega) (by omega)
    have e2 : gN (recBytes r) (2 + r.link.size) 2 = r.setting := gN_nn (pre := c :: (beBytes 1 (un64 r.link.size) ++ r.link.data.toList)) (post := []) (by rw [e]; simp) (by simp [beBytes_length]; omega) (by omega) (by omega) (by omega) (by omega)
    have el : (recBytes r).length = 4 + r.link.size := by rw [e]; simp [beBytes_length]; omega
    have ed : ((recBytes r).drop 2).take r.link.size = r.link.data.toList := by
      have : recBytes r = (c :: beBytes 1 (un64 r.link.size)) ++ (r.link.data.toList ++ beBytes 2 (un64 r.setting)) := by rw [e]; simp
      rw [this, show 2 = (c :: beBytes 1 (un64 r.link.size)).length by simp [beBytes_length], List.drop_left, ← b1, List.take_left]
    rw [if_neg k1, if_pos k2, e1, if_pos ⟨by omega, by omega⟩, Int.toNat_natCast, e2, ed, str_bs]
    conv => rhs; rw [hp]
    simp [recPlain, k2, zRec]
  by_cases k3 : r.kind = 3
  · have hs : msgB r.msg = true := by unfold recB at h; grind
    have hs2 : nameB r.msg.node = true ∧ (0 ≤ r.msg.number ∧ r.msg.number ≤ 1073741824) ∧ timeB r.msg.att = true ∧ timeB r.msg.arrived = true ∧ (-4194304 ≤ r.msg.level ∧ r.msg.level ≤ 4194304) := by unfold msgB inB at hs; grind
    obtain ⟨s1, s2, s3, s5, s6⟩ := hs2
    have s4 := nameB_sz s1
    have t1 := timeB_in s3
    have t2 := timeB_in s5
    have e := recB3 k3
    generalize UInt8.ofNat (un64 r.kind) = c at e
    have e1 : gN (recBytes r) 1 1 = r.msg.node.size := gN_nn (pre := [c]) (post := r.msg.node.data.toList ++ beBytes 4 (un64 r.msg.number) ++ beBytes 8 (un64 r.msg.att) ++ beBytes 8 (un64 r.msg.arrived) ++ beBytes 8 (un64 r.msg.level)) (by rw [e]; simp) rfl (by omega) (by omega) (by omega) (by omega)
    have e2 : gN (recBytes r) (2 + r.msg.node.size) 4 = r.msg.number := gN_nn (pre := c :: (beBytes 1 (un64 r.msg.node.size) ++ r.msg.node.data.toList)) (post := beBytes 8 (un64 r.msg.att) ++ beBytes 8 (un64 r.msg.arrived) ++ beBytes 8 (un64 r.msg.level)) (by rw [e]; simp) (by simp [beBytes_length]; omega) (by omega) (by omega) (by omega) (by omega)
    have e3 : gN (recBytes r) (2 + r.msg.node.size + 4) 8 = r.msg.att := gN_8 (pre := c :: (beBytes 1 (un64 r.msg.node.size) ++ r.msg.node.data.toList ++ beBytes 4 (un64 r.msg.number))) (post := beBytes 8 (un64 r.msg.arrived) ++ beBytes 8 (un64 r.msg.level)) (by rw [e]; simp) (by simp [beBytes_length]; omega) (by omega) (by omega)
    have e4 : gN (recBytes r) (2 + r.msg.node.size + 12) 8 = r.msg.arrived := gN_8 (pre := c :: (beBytes 1 (un64 r.msg.node.size) ++ r.msg.node.data.toList ++ beBytes 4 (un64 r.msg.number) ++ beBytes 8 (un64 r.msg.att))) (post := beBytes 8 (un64 r.msg.level)) (by rw [e]; simp) (by simp [beBytes_length]; omega) (by omega) (by omega)
    have e5 : gN (recBytes r) (2 + r.msg.node.size + 20) 8 = r.msg.level := gN_8 (pre := c :: (beBytes 1 (un64 r.msg.node.size) ++ r.msg.node.data.toList ++ beBytes 4 (un64 r.msg.number) ++ beBytes 8 (un64 r.msg.att) ++ beBytes 8 (un64 r.msg.arrived))) (post := []) (by rw [e]; simp) (by simp [beBytes_length]; omega) (by omega) (by omega)
    have el : (recBytes r).length = 30 + r.msg.node.size := by rw [e]; simp [beBytes_length]; omega
    have ed : ((recBytes r).drop 2).take r.msg.node.size = r.msg.node.data.toList := by
      have : recBytes r = (c :: beBytes 1 (un64 r.msg.node.size)) ++ (r.msg.node.data.toList ++ (beBytes 4 (un64 r.msg.number) ++ beBytes 8 (un64 r.msg.att) ++ beBytes 8 (un64 r.msg.arrived) ++ beBytes 8 (un64 r.msg.level))) := by rw [e]; simp
      rw [this, show 2 = (c :: beBytes 1 (un64 r.msg.node.size)).length by simp [beBytes_length], List.drop_left, ← b2, List.take_left]
    rw [if_neg k1, if_neg k2, if_pos k3, e1, if_pos ⟨by omega, by omega⟩, Int.toNat_natCast, e2, e3, e4, e5, ed, str_bs]
    conv => rhs; rw [hp]
    simp [recPlain, k3, zRec]
  · have k4 : r.kind = 4 := by omega
    have hs : textB r.text = true := by unfold recB at h; grind
    have s4 := textB_sz hs
    have e := recB4 k1 k2 k3
    generalize UInt8.ofNat (un64 r.kind) = c at e
    have e1 : gN (recBytes r) 1 2 = r.text.size := gN_nn (pre := [c]) (post := r.text.data.toList) (by rw [e]; simp) rfl (by omega) (by omega) (by omega) (by omega)
    have el : (recBytes r).length = 3 + r.text.size := by rw [e]; simp [beBytes_length]; omega
    have ed : (recBytes r).drop 3 = r.text.data.toList := by
      have : recBytes r = (c :: beBytes 2 (un64 r.text.size)) ++ r.text.data.toList := by rw [e]; simp
      rw [this, show 3 = (c :: beBytes 2 (un64 r.text.size)).length by simp [beBytes_length], List.drop_left]
    rw [if_neg k1, if_neg k2, if_neg k3, if_pos k4, e1, if_pos ⟨by omega, by omega⟩, ed, str_bs]
    conv => rhs; rw [hp]
    simp [recPlain, k4, zRec]
theorem decD_back {r : Rec} (h : recB r = true) : decD (recBytes r) = (r, 0) := by rw [decD_ok (dec_back h), if_pos h]
theorem decF_ok {b : List UInt8} {r : Rec} (h : decF b = some r) (hb : b.length ≤ 1048576) : recOk r := by
  by_cases h1 : 1 ≤ b.length
  · rw [decF_I b h1] at h
    unfold decI at h
    have e0 : ByteArray.empty.size = 0 := rfl
    repeat' split at h
    all_goals first
      | cases h; done
      | (obtain rfl := Option.some.inj h
         refine ⟨?_, ?_, ?_, ?_⟩ <;> simp [zRec, zMsg, str_size] <;> omega)
  · have : b = [] := List.eq_nil_of_length_eq_zero (by omega)
    subst this
    rw [decF_nil] at h; cases h
theorem decD_recOk (b : List UInt8) (hb : b.length ≤ 1048576) : recOk (decD b).1 := by
  unfold decD
  have hz : recOk zRec := ⟨by decide, by decide, by decide, by decide⟩
  cases h : decF b with
  | none => exact hz
  | some r =>
    dsimp only
    split
    · exact decF_ok h hb
    · exact hz

end Go.Proofs.Ytkhddlhhbanebaa
