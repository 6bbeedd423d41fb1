/-
  Contracts of functions of the program, over the engine.
  No condition.
-/
import Derived.Test.YtnfbaeeohepajaaGreatCN0N1NBKSK1
import Derived.Test.YtnfbaeeohepajaaGreatEngV
import Derived.Test.YtnfbaeeohepajaaGreatRows
import Derived.Test.YtnfbaeeohepajaaGreatCT7T7b
import Derived.Test.YtnfbaeeohepajaaGreatCL16L17L18UpdL20L21
import Derived.Test.YtnfbaeeohepajaaGreatCL10L11L12L13
import Derived.Test.YtnfbaeeohepajaaGreatCW6
namespace Go.Proofs.YtnfbaeeohepajaaGreat
open Go.Eng
set_option linter.all false
attribute [local irreducible] DCallsG SWp Fct CallQ XCallQ LCallQ XLCallQ drun xrun
theorem own54 : ownKnob Tryz.prog.godebug = none := by kernel_rfl
theorem laid54 : laidOutB Tryz.prog = true := by kernel_rfl
theorem exMap {α : Type} (f : α → List PV) (p : α → Prop) : ∀ (l : List (List PV)), (∀ r, r ∈ l → ∃ x, r = f x ∧ p x) → ∃ xs : List α, l = xs.map f ∧ ∀ x, x ∈ xs → p x
  | [], _ => ⟨[], rfl, by simp⟩
  | r :: l, h => by
    obtain ⟨x, hx, hp⟩ := h r (by simp)
    obtain ⟨xs, hxs, hq⟩ := exMap f p l fun r hr => h r (by simp [hr])
    refine ⟨x :: xs, by simp [hx, hxs], fun y hy => ?_⟩
    rcases List.mem_cons.1 hy with rfl | hy
    · exact hp
    · exact hq y hy
theorem PT_slice {P : Program} {n : Nat} {t e : TypeId} {xs : List PV} (hu : P.underlying t = some (.slice e)) (h : PT P (n + 1) t xs) : ∃ l, xs = [.dat (P.cellsOf e) l] ∧ l.length * P.bytesOf e ≤ reachBytes ∧ ∀ r, r ∈ l → PT P n e r := by
  unfold PT at h; rw [hu] at h; exact h
theorem PT_struct {P : Program} {n : Nat} {t : TypeId} {fs : Array Field} {xs : List PV} (hu : P.underlying t = some (.struct fs)) (h : PT P (n + 1) t xs) : PTf P (PT P n) fs.toList xs := by
  unfold PT at h; rw [hu] at h; exact h
theorem PT_int {P : Program} {n : Nat} {t : TypeId} {k : IntKind} {xs : List PV} (hu : P.underlying t = some (.int k)) (h : PT P (n + 1) t xs) : ∃ z, xs = [.lit (.int k z)] ∧ (Lit.int k z).wf = true := by
  unfold PT at h; rw [hu] at h; exact h
theorem PT_str {P : Program} {n : Nat} {t : TypeId} {xs : List PV} (hu : P.underlying t = some .string) (h : PT P (n + 1) t xs) : ∃ s : ByteArray, xs = [.lit (.string s)] ∧ s.size ≤ reachBytes := by
  unfold PT at h; rw [hu] at h; exact h
theorem PT_bool {P : Program} {n : Nat} {t : TypeId} {xs : List PV} (hu : P.underlying t = some .bool) (h : PT P (n + 1) t xs) : ∃ b : Bool, xs = [.lit (.bool b)] := by
  unfold PT at h; rw [hu] at h; exact h
attribute [local irreducible] PT
theorem reachB : reachBytes ≤ 281474976710656 := by decide
theorem len_le {l k : Nat} (hk : 0 < k) (h : l * k ≤ reachBytes) : l ≤ 281474976710656 := Nat.le_trans (Nat.le_mul_of_pos_right l hk) (Nat.le_trans h reachB)
theorem pt_int {n : Nat} {xs : List PV} (h : PT Tryz.prog (n + 1) 3 xs) : ∃ z : Int, xs = [.lit (.int .i64 z)] ∧ i64ok z := by
  obtain ⟨z, rfl, hz⟩ := PT_int (P := Tryz.prog) (t := 3) Tryz.underlying3 h
  refine ⟨z, rfl, ?_⟩
  unfold i64ok
  simpa [Lit.wf, IntKind.min, IntKind.max, IntKind.signed, IntKind.bits] using hz
theorem pt_bool {n : Nat} {xs : List PV} (h : PT Tryz.prog (n + 1) 4 xs) : ∃ b : Bool, xs = [.lit (.bool b)] := PT_bool (P := Tryz.prog) (t := 4) Tryz.underlying4 h
theorem pt_str {n : Nat} {xs : List PV} (h : PT Tryz.prog (n + 1) 9 xs) : ∃ s : ByteArray, xs = [.lit (.string s)] ∧ s.size ≤ 281474976710656 := by
  obtain ⟨z, rfl, hz⟩ := PT_str (P := Tryz.prog) (t := 9) Tryz.underlying9 h
  exact ⟨z, rfl, Nat.le_trans hz reachB⟩
theorem cells_ints : Tryz.prog.cellsOf 3 = 1 := by kernel_rfl
theorem bytes_ints : 0 < Tryz.prog.bytesOf 3 := by rw [show Tryz.prog.bytesOf 3 = 8 from by kernel_rfl]; decide
theorem pt_ints {n : Nat} {xs : List PV} (h : PT Tryz.prog (n + 2) 27 xs) : ∃ l : List Int, xs = [.dat 1 (l.map inRow)] ∧ intsOk l := by
  obtain ⟨l, rfl, hl, hr⟩ := PT_slice (P := Tryz.prog) (t := 27) Tryz.underlying27 h
  obtain ⟨zs, rfl, hz⟩ := exMap inRow i64ok l fun r hr2 => by
    obtain ⟨z, rfl, hz⟩ := pt_int (hr r hr2)
    exact ⟨z, rfl, hz⟩
  rw [cells_ints]
  have := len_le bytes_ints hl
  rw [List.length_map] at this
  exact ⟨zs, rfl, this, hz⟩
theorem cells_bools : Tryz.prog.cellsOf 4 = 1 := by kernel_rfl
theorem bytes_bools : 0 < Tryz.prog.bytesOf 4 := by rw [show Tryz.prog.bytesOf 4 = 1 from by kernel_rfl]; decide
theorem pt_bools {n : Nat} {xs : List PV} (h : PT Tryz.prog (n + 2) 73 xs) : ∃ l : List Bool, xs = [.dat 1 (l.map boRow)] ∧ l.length ≤ 281474976710656 := by
  obtain ⟨l, rfl, hl, hr⟩ := PT_slice (P := Tryz.prog) (t := 73) Tryz.underlying73 h
  obtain ⟨zs, rfl, hz⟩ := exMap boRow (fun _ => True) l fun r hr2 => by
    obtain ⟨z, rfl⟩ := pt_bool (hr r hr2)
    exact ⟨z, rfl, trivial⟩
  rw [cells_bools]
  have := len_le bytes_bools hl
  rw [List.length_map] at this
  exact ⟨zs, rfl, this⟩
theorem pt_knot {n : Nat} {xs : List PV} (h : PT Tryz.prog (n + 2) 128 xs) : ∃ x : Knot, xs = knotP x ∧ knotOk x := by
  replace h := PT_struct (P := Tryz.prog) (t := 128) Tryz.underlying128 h
  obtain ⟨_, _, rfl, h0, _, _, rfl, h1, rfl⟩ := h
  obtain ⟨a0, rfl, k0⟩ := pt_int h0
  obtain ⟨a1, rfl, k1⟩ := pt_int h1
  exact ⟨⟨a0, a1⟩, rfl, ⟨k0, k1⟩⟩
theorem cells_knots : Tryz.prog.cellsOf 128 = 2 := by kernel_rfl
theorem bytes_knots : 0 < Tryz.prog.bytesOf 128 := by rw [show Tryz.prog.bytesOf 128 = 16 from by kernel_rfl]; decide
theorem pt_knots {n : Nat} {xs : List PV} (h : PT Tryz.prog (n + 3) 37 xs) : ∃ l : List Knot, xs = [.dat 2 (l.map knotP)] ∧ l.length ≤ 281474976710656 ∧ ∀ x, x ∈ l → knotOk x := by
  obtain ⟨l, rfl, hl, hr⟩ := PT_slice (P := Tryz.prog) (t := 37) Tryz.underlying37 h
  obtain ⟨zs, rfl, hz⟩ := exMap knotP knotOk l fun r hr2 => by
    obtain ⟨z, rfl, hz⟩ := pt_knot (hr r hr2)
    exact ⟨z, rfl, hz⟩
  rw [cells_knots]
  have := len_le bytes_knots hl
  rw [List.length_map] at this
  exact ⟨zs, rfl, this, hz⟩
theorem pt_point {n : Nat} {xs : List PV} (h : PT Tryz.prog (n + 2) 53 xs) : ∃ x : Point, xs = pointP x ∧ pointOk x := by
  replace h := PT_struct (P := Tryz.prog) (t := 53) Tryz.underlying53 h
  obtain ⟨_, _, rfl, h0, _, _, rfl, h1, rfl⟩ := h
  obtain ⟨a0, rfl, k0⟩ := pt_int h0
  obtain ⟨a1, rfl, k1⟩ := pt_int h1
  exact ⟨⟨a0, a1⟩, rfl, ⟨k0, k1⟩⟩
theorem pt_node {n : Nat} {xs : List PV} (h : PT Tryz.prog (n + 4) 55 xs) : ∃ x : Node, xs = nodeP x ∧ nodeOk x := by
  replace h := PT_struct (P := Tryz.prog) (t := 55) Tryz.underlying55 h
  obtain ⟨_, _, rfl, h0, _, _, rfl, h1, _, _, rfl, h2, _, _, rfl, h3, _, _, rfl, h4, _, _, rfl, h5, _, _, rfl, h6, _, _, rfl, h7, rfl⟩ := h
  obtain ⟨a0, rfl, k0⟩ := pt_str h0
  obtain ⟨a1, rfl, k1⟩ := pt_int h1
  obtain ⟨a2, rfl, k2⟩ := pt_point h2
  obtain ⟨a3, rfl, k3⟩ := pt_int h3
  obtain ⟨a4, rfl, k4⟩ := pt_int h4
  obtain ⟨a5, rfl, k5⟩ := pt_knots h5
  obtain ⟨a6, rfl⟩ := pt_bool h6
  obtain ⟨a7, rfl, k7⟩ := pt_int h7
  exact ⟨⟨a0, a1, a2, a3, a4, a5, a6, a7⟩, rfl, ⟨k0, k1, k2, k3, k4, k5, k7⟩⟩
theorem cells_nodes : Tryz.prog.cellsOf 55 = 9 := by kernel_rfl
theorem bytes_nodes : 0 < Tryz.prog.bytesOf 55 := by rw [show Tryz.prog.bytesOf 55 = 96 from by kernel_rfl]; decide
theorem pt_nodes {n : Nat} {xs : List PV} (h : PT Tryz.prog (n + 5) 22 xs) : ∃ l : List Node, xs = [.dat 9 (l.map nodeP)] ∧ l.length ≤ 281474976710656 ∧ ∀ x, x ∈ l → nodeOk x := by
  obtain ⟨l, rfl, hl, hr⟩ := PT_slice (P := Tryz.prog) (t := 22) Tryz.underlying22 h
  obtain ⟨zs, rfl, hz⟩ := exMap nodeP nodeOk l fun r hr2 => by
    obtain ⟨z, rfl, hz⟩ := pt_node (hr r hr2)
    exact ⟨z, rfl, hz⟩
  rw [cells_nodes]
  have := len_le bytes_nodes hl
  rw [List.length_map] at this
  exact ⟨zs, rfl, this, hz⟩
theorem pt_link {n : Nat} {xs : List PV} (h : PT Tryz.prog (n + 4) 39 xs) : ∃ x : Link, xs = linkP x ∧ linkOk x := by
  replace h := PT_struct (P := Tryz.prog) (t := 39) Tryz.underlying39 h
  obtain ⟨_, _, rfl, h0, _, _, rfl, h1, _, _, rfl, h2, _, _, rfl, h3, _, _, rfl, h4, _, _, rfl, h5, _, _, rfl, h6, _, _, rfl, h7, _, _, rfl, h8, _, _, rfl, h9, _, _, rfl, h10, rfl⟩ := h
  obtain ⟨a0, rfl, k0⟩ := pt_str h0
  obtain ⟨a1, rfl, k1⟩ := pt_str h1
  obtain ⟨a2, rfl, k2⟩ := pt_str h2
  obtain ⟨a3, rfl, k3⟩ := pt_int h3
  obtain ⟨a4, rfl, k4⟩ := pt_int h4
  obtain ⟨a5, rfl, k5⟩ := pt_int h5
  obtain ⟨a6, rfl, k6⟩ := pt_int h6
  obtain ⟨a7, rfl, k7⟩ := pt_str h7
  obtain ⟨a8, rfl, k8⟩ := pt_int h8
  obtain ⟨a9, rfl, k9⟩ := pt_int h9
  obtain ⟨a10, rfl, k10⟩ := pt_knots h10
  exact ⟨⟨a0, a1, a2, a3, a4, a5, a6, a7, a8, a9, a10⟩, rfl, ⟨k0, k1, k2, k3, k4, k5, k6, k7, k8, k9, k10⟩⟩
theorem cells_links : Tryz.prog.cellsOf 39 = 11 := by kernel_rfl
theorem bytes_links : 0 < Tryz.prog.bytesOf 39 := by rw [show Tryz.prog.bytesOf 39 = 136 from by kernel_rfl]; decide
theorem pt_links {n : Nat} {xs : List PV} (h : PT Tryz.prog (n + 5) 23 xs) : ∃ l : List Link, xs = [.dat 11 (l.map linkP)] ∧ l.length ≤ 281474976710656 ∧ ∀ x, x ∈ l → linkOk x := by
  obtain ⟨l, rfl, hl, hr⟩ := PT_slice (P := Tryz.prog) (t := 23) Tryz.underlying23 h
  obtain ⟨zs, rfl, hz⟩ := exMap linkP linkOk l fun r hr2 => by
    obtain ⟨z, rfl, hz⟩ := pt_link (hr r hr2)
    exact ⟨z, rfl, hz⟩
  rw [cells_links]
  have := len_le bytes_links hl
  rw [List.length_map] at this
  exact ⟨zs, rfl, this, hz⟩
theorem pt_net {n : Nat} {xs : List PV} (h : PT Tryz.prog (n + 6) 25 xs) : ∃ x : Net, xs = netP x ∧ netOk x := by
  replace h := PT_struct (P := Tryz.prog) (t := 25) Tryz.underlying25 h
  obtain ⟨_, _, rfl, h0, _, _, rfl, h1, rfl⟩ := h
  obtain ⟨a0, rfl, k0⟩ := pt_nodes h0
  obtain ⟨a1, rfl, k1⟩ := pt_links h1
  exact ⟨⟨a0, a1⟩, rfl, ⟨k0, k1⟩⟩
theorem pt_sta {n : Nat} {xs : List PV} (h : PT Tryz.prog (n + 3) 75 xs) : ∃ x : Sta, xs = staP x ∧ staOk x := by
  replace h := PT_struct (P := Tryz.prog) (t := 75) Tryz.underlying75 h
  obtain ⟨_, _, rfl, h0, _, _, rfl, h1, _, _, rfl, h2, _, _, rfl, h3, rfl⟩ := h
  obtain ⟨a0, rfl, k0⟩ := pt_ints h0
  obtain ⟨a1, rfl, k1⟩ := pt_ints h1
  obtain ⟨a2, rfl, k2⟩ := pt_ints h2
  obtain ⟨a3, rfl, k3⟩ := pt_bools h3
  exact ⟨⟨a0, a1, a2, a3⟩, rfl, ⟨k0, k1, k2, k3⟩⟩
theorem dv_net (n : Net) : dvT Tryz.prog 25 (netP n) = netD n := by unfold dvT; rw [Tryz.underlying25]; rfl
theorem dv_sta (s : Sta) : dvT Tryz.prog 75 (staP s) = staD s := by unfold dvT; rw [Tryz.underlying75]; rfl
theorem dv_ints (l : List Int) : dvT Tryz.prog 27 [.dat 1 (l.map inRow)] = ints l := by unfold dvT; rw [Tryz.underlying27]; rfl
theorem dv_int (n : Int) : dvT Tryz.prog 3 [.lit (.int .i64 n)] = li n := by unfold dvT; rw [Tryz.underlying3]; rfl
theorem pt_sect {n : Nat} {xs : List PV} (h : PT Tryz.prog (n + 4) 98 xs) : ∃ x : Sect, xs = sectP x ∧ sectOk x := by
  replace h := PT_struct (P := Tryz.prog) (t := 98) Tryz.underlying98 h
  obtain ⟨_, _, rfl, h0, _, _, rfl, h1, _, _, rfl, h2, _, _, rfl, h3, _, _, rfl, h4, rfl⟩ := h
  obtain ⟨a0, rfl, k0⟩ := pt_str h0
  obtain ⟨a1, rfl, k1⟩ := pt_int h1
  obtain ⟨a2, rfl, k2⟩ := pt_int h2
  obtain ⟨a3, rfl, k3⟩ := pt_knots h3
  obtain ⟨a4, rfl, k4⟩ := pt_knots h4
  exact ⟨⟨a0, a1, a2, a3, a4⟩, rfl, ⟨k0, k1, k2, k3, k4⟩⟩
theorem cells_sects : Tryz.prog.cellsOf 98 = 5 := by kernel_rfl
theorem bytes_sects : 0 < Tryz.prog.bytesOf 98 := by rw [show Tryz.prog.bytesOf 98 = 80 from by kernel_rfl]; decide
theorem pt_sects {n : Nat} {xs : List PV} (h : PT Tryz.prog (n + 5) 26 xs) : ∃ l : List Sect, xs = [.dat 5 (l.map sectP)] ∧ l.length ≤ 281474976710656 ∧ ∀ x, x ∈ l → sectOk x := by
  obtain ⟨l, rfl, hl, hr⟩ := PT_slice (P := Tryz.prog) (t := 26) Tryz.underlying26 h
  obtain ⟨zs, rfl, hz⟩ := exMap sectP sectOk l fun r hr2 => by
    obtain ⟨z, rfl, hz⟩ := pt_sect (hr r hr2)
    exact ⟨z, rfl, hz⟩
  rw [cells_sects]
  have := len_le bytes_sects hl
  rw [List.length_map] at this
  exact ⟨zs, rfl, this, hz⟩
theorem pt_span {n : Nat} {xs : List PV} (h : PT Tryz.prog (n + 2) 62 xs) : ∃ x : Span, xs = spanP x ∧ spanOk x := by
  replace h := PT_struct (P := Tryz.prog) (t := 62) Tryz.underlying62 h
  obtain ⟨_, _, rfl, h0, _, _, rfl, h1, rfl⟩ := h
  obtain ⟨a0, rfl, k0⟩ := pt_int h0
  obtain ⟨a1, rfl, k1⟩ := pt_int h1
  exact ⟨⟨a0, a1⟩, rfl, ⟨k0, k1⟩⟩
theorem pt_u8 {n : Nat} {xs : List PV} (h : PT Tryz.prog (n + 1) 5 xs) : ∃ z : Int, xs = [.lit (.int .u8 z)] ∧ 0 ≤ z ∧ z ≤ 255 := by
  obtain ⟨z, rfl, hz⟩ := PT_int (P := Tryz.prog) (t := 5) Tryz.underlying5 h
  refine ⟨z, rfl, ?_⟩
  simpa [Lit.wf, IntKind.min, IntKind.max, IntKind.signed, IntKind.bits] using hz
theorem pt_u16 {n : Nat} {xs : List PV} (h : PT Tryz.prog (n + 1) 50 xs) : ∃ z : Int, xs = [.lit (.int .u16 z)] ∧ 0 ≤ z ∧ z ≤ 65535 := by
  obtain ⟨z, rfl, hz⟩ := PT_int (P := Tryz.prog) (t := 50) Tryz.underlying50 h
  refine ⟨z, rfl, ?_⟩
  simpa [Lit.wf, IntKind.min, IntKind.max, IntKind.signed, IntKind.bits] using hz
theorem pt_u32 {n : Nat} {xs : List PV} (h : PT Tryz.prog (n + 1) 49 xs) : ∃ z : Int, xs = [.lit (.int .u32 z)] ∧ 0 ≤ z ∧ z ≤ 4294967295 := by
  obtain ⟨z, rfl, hz⟩ := PT_int (P := Tryz.prog) (t := 49) Tryz.underlying49 h
  refine ⟨z, rfl, ?_⟩
  simpa [Lit.wf, IntKind.min, IntKind.max, IntKind.signed, IntKind.bits] using hz
theorem dv_sects (l : List Sect) : dvT Tryz.prog 26 [.dat 5 (l.map sectP)] = sectL l := by unfold dvT; rw [Tryz.underlying26]; rfl
theorem dv_link (x : Link) : dvT Tryz.prog 39 (linkP x) = linkD x := by unfold dvT; rw [Tryz.underlying39]; rfl
theorem dv_span (x : Span) : dvT Tryz.prog 62 (spanP x) = spanD x := by unfold dvT; rw [Tryz.underlying62]; rfl
theorem dv_bool (b : Bool) : dvT Tryz.prog 4 [.lit (.bool b)] = lb b := by unfold dvT; rw [Tryz.underlying4]; rfl
theorem dv_u8 (n : Int) : dvT Tryz.prog 5 [.lit (.int .u8 n)] = lv (.int .u8 n) := by unfold dvT; rw [Tryz.underlying5]; rfl
theorem dv_u16 (n : Int) : dvT Tryz.prog 50 [.lit (.int .u16 n)] = lv (.int .u16 n) := by unfold dvT; rw [Tryz.underlying50]; rfl
theorem dv_u32 (n : Int) : dvT Tryz.prog 49 [.lit (.int .u32 n)] = lv (.int .u32 n) := by unfold dvT; rw [Tryz.underlying49]; rfl
set_option maxRecDepth 20000 in
set_option maxHeartbeats 8000000 in
theorem rStaValid_f (n : Net) (s : Sta) (m : Nat) (hv : netB n = true) (hs : staOk s) : DCalls Tryz.prog 37 [netD n, staD s] (hget []) m (lb (staB n s)) (hget []) := by
  have a1 := netB_len hv
  obtain ⟨⟨s1, _⟩, ⟨s2, _⟩, ⟨s3, _⟩, s4⟩ := hs
  refine pureC (n := 131) (rs := [.tmp 4]) (ts := [4]) Tryz.func37 rfl (by decide) [] (by (exact SD)) ?_
  cases hl : lensB n s
  · (repeat' (first | refine swp_seq [0, 1, 2, 3, 4, 5, 6, 40, 45, 93, 98, 130] ?_ | refine st2 ?_ | (show Fct ..; refine fctI (fun hf => ?_)) | (show SWp _ _ _ (.cond _ _ _) _ _ _ _; first | refine cB (fun hc => ?_) (fun hc => ?_) | refine cU ?_ ?_)))
    · (refine DVQ ?_)
      rw [staB_no0 hl]
    · exfalso
      unfold lensB at hl; simp at hl; omega
  obtain ⟨l1, l2, l3, l4⟩ := lensB_of hl
  (repeat' (first | refine swp_seq [0, 1, 2, 3, 4, 5, 6, 40, 45, 93, 98, 130] ?_ | refine st2 ?_ | (show Fct ..; refine fctI (fun hf => ?_)) | (show SWp _ _ _ (.cond _ _ _) _ _ _ _; first | refine cB (fun hc => ?_) (fun hc => ?_) | refine cU ?_ ?_)))
  · omega
  refine loop_swp [2, 3, 5] [0, 8] 9 (fun q A H => ∃ i : Nat, i ≤ n.nodes.length ∧ q = n.nodes.length - i ∧ (∀ j, j < i → okSN n s j = true) ∧ A = [(2, .ptr 0 0), (3, .ptr 8 0), (5, li i)] ∧ H = [(0, .blk 25 (netC n)), (8, .blk 75 (staC s))]) (by omega) ?_ ?_ ?_
  · rintro q A H ⟨i, h1, h2, h3, rfl, rfl⟩
    exact ⟨by (exact SD), by (exact SD)⟩
  · refine ⟨_, 0, by omega, rfl, by omega, ?_, ?_⟩
    · exact DVR
    · exact DVR
  rintro q A H ⟨i, h1, h2, h3, rfl, rfl⟩
  by_cases hi : i < n.nodes.length
  · have cc := fun m => rCapacity_f (n.nodes.getD i default) m (nodeR_shape (netB_node hv hi))
    (repeat' (first | refine swp_seq [0, 1, 2, 3, 4, 5, 6, 40, 45, 93, 98, 130] ?_ | refine st2 ?_ | (show CallQ ..; first | refine cQ (fun hcc => (by first | exact cc _ | exact rVol_f _ _)) ?_ | (refine lP ?_; refine lQ (fun hcc m => (by first | exact cc _ | exact rVol_f _ _)) ?_)) | (show XCallQ ..; first | refine xQ (fun hcc => (by first | exact cc _ | exact rVol_f _ _)) ?_ | (refine xlP ?_; refine xlQ (fun hcc m => (by first | exact cc _ | exact rVol_f _ _)) ?_)) | (show Fct ..; refine fctI (fun hf => ?_)) | (show SWp _ _ _ (.cond _ _ _) _ _ _ _; first | refine cB (fun hc => ?_) (fun hc => ?_) | refine cU ?_ ?_)))
    · (refine DVQ ?_)
      refine lbC ?_
      rw [staB_no1 hi (by unfold okSN btwB; clear cc h3; grind)]
    · (refine lN [0, 8] ?_)
      exact ⟨_, by omega, i + 1, by omega, rfl, all_next h3 (by unfold okSN btwB; clear cc h3; grind), rfl, rfl⟩
    · omega
  have hi2 : i = n.nodes.length := by omega
  subst hi2
  (repeat' (first | refine swp_seq [0, 1, 2, 3, 4, 5, 6, 40, 45, 93, 98, 130] ?_ | refine st2 ?_ | (show Fct ..; refine fctI (fun hf => ?_)) | (show SWp _ _ _ (.cond _ _ _) _ _ _ _; first | refine cB (fun hc => ?_) (fun hc => ?_) | refine cU ?_ ?_)))
  · omega
  clear h1 h2 hi hc
  refine loop_swp [2, 3, 6] [0, 8] 9 (fun q A H => ∃ i : Nat, i ≤ n.links.length ∧ q = n.links.length - i ∧ (∀ j, j < i → okSL n s j = true) ∧ A = [(2, .ptr 0 0), (3, .ptr 8 0), (6, li i)] ∧ H = [(0, .blk 25 (netC n)), (8, .blk 75 (staC s))]) (by omega) ?_ ?_ ?_
  · rintro q A H ⟨i, h1, h2, h3, rfl, rfl⟩
    exact ⟨by (exact SD), by (exact SD)⟩
  · refine ⟨_, 0, by omega, rfl, by omega, ?_, ?_⟩
    · exact DVR
    · exact DVR
  rintro q A H ⟨i, h1, h2, h4, rfl, rfl⟩
  by_cases hi : i < n.links.length
  · (repeat' (first | refine swp_seq [0, 1, 2, 3, 4, 5, 6, 40, 45, 93, 98, 130] ?_ | refine st2 ?_ | (show Fct ..; refine fctI (fun hf => ?_)) | (show SWp _ _ _ (.cond _ _ _) _ _ _ _; first | refine cB (fun hc => ?_) (fun hc => ?_) | refine cU ?_ ?_)))
    · (refine DVQ ?_)
      refine lbC ?_
      rw [staB_no2 hi (by unfold okSL btwB; clear h3 h4; grind)]
    · (refine lN [0, 8] ?_)
      exact ⟨_, by omega, i + 1, by omega, rfl, all_next h4 (by unfold okSL btwB; clear h3 h4; grind), rfl, rfl⟩
    · omega
  have hi2 : i = n.links.length := by omega
  subst hi2
  (repeat' (first | refine swp_seq [0, 1, 2, 3, 4, 5, 6, 40, 45, 93, 98, 130] ?_ | refine st2 ?_ | (show Fct ..; refine fctI (fun hf => ?_)) | (show SWp _ _ _ (.cond _ _ _) _ _ _ _; first | refine cB (fun hc => ?_) (fun hc => ?_) | refine cU ?_ ?_)))
  · omega
  (refine DVQ ?_)
  refine lbC ?_
  rw [staB_yes hl h3 h4]
theorem take_sn {α : Type} [Inhabited α] {l : List α} {i : Nat} (h : i < l.length) : l.take (i + 1) = l.take i ++ [l.getD i default] := by
  rw [List.take_succ_eq_append_getElem h]
  simp [List.getD_eq_getElem?_getD, List.getElem?_eq_getElem h]
def flowAt (n : Net) (l : List Sect) (lv : List Int) (s : Sta) (i : Nat) : Int := flowI n l (n.links.getD i default) (lv.getD (fromI n i) default) (lv.getD (tillI n i) default) (s.set.getD i default).toNat (s.on.getD i default)
def flowsL (n : Net) (l : List Sect) (lv : List Int) (s : Sta) : List Int := (List.range n.links.length).map (flowAt n l lv s)
def pumpAt (n : Net) (lv : List Int) (on : List Bool) (i : Nat) : Bool := decide ((n.links.getD i default).kind = 4) && onB (n.links.getD i default) (on.getD i default) (lv.getD (fromI n i) default)
def pumpsL (n : Net) (lv : List Int) (on : List Bool) : List Bool := (List.range n.links.length).map (pumpAt n lv on)
theorem rng_len {α : Type} (k : Nat) (f : Nat → α) : ((List.range k).map f).length = k := by rw [List.length_map, List.length_range]
theorem rng_at {α : Type} [Inhabited α] {k i : Nat} {f : Nat → α} (h : i < k) : ((List.range k).map f).getD i default = f i := by
  simp [List.getD_eq_getElem?_getD, h]
theorem okSL_in {n : Net} {s : Sta} (h : staB n s = true) {i : Nat} (hi : i < n.links.length) : (0 ≤ s.set.getD i default ∧ s.set.getD i default ≤ 1000) ∧ (s.on.getD i default = true → (n.links.getD i default).kind = 4) := by
  unfold staB at h
  simp only [Bool.and_eq_true, List.all_eq_true, List.mem_range] at h
  have := h.2 i hi
  unfold okSL at this
  simp only [Bool.and_eq_true, Bool.not_eq_true', Bool.and_eq_false_iff, Bool.not_eq_false', decide_eq_true_eq] at this
  refine ⟨btwB_in this.1, fun e => ?_⟩
  rcases this.2 with h | h
  · rw [e] at h; cases h
  · exact h
structure FlowsIn (n : Net) (l : List Sect) (lv : List Int) (s : Sta) : Prop where
  no : netOk n
  co : catOk l
  nb : netB n = true
  cb : catB l = true
  sb : staB n s = true
  ll : lv.length = n.nodes.length
  la : lvA n lv = true
  kn : ∀ i, i < n.links.length → knownB l (n.links.getD i default) = true
theorem FlowsIn.btw {n : Net} {l : List Sect} {lv : List Int} {s : Sta} (F : FlowsIn n l lv s) {i : Nat} (hi : i < n.links.length) : BtwIn n l (n.links.getD i default) (lv.getD (fromI n i) default) (lv.getD (tillI n i) default) (s.set.getD i default).toNat :=
  btwIn_of F.no F.co F.nb F.cb hi (F.kn i hi) (by have := (okSL_in F.sb hi).1; omega) (by have := lvA_in F.la (fromI_lt F.nb hi).1; unfold btwB; simp; exact this) (by have := lvA_in F.la (tillI_lt F.nb hi).1; unfold btwB; simp; exact this)
theorem known_no {n : Net} {l : List Sect} (h : (n.links.any fun x => !knownB l x) = false) : ∀ i, i < n.links.length → knownB l (n.links.getD i default) = true := fun i hi => by
  rw [List.any_eq_false] at h
  have := h _ (getD_mem hi)
  simpa using this
theorem flows1_f (x : Link) (l : List Sect) (m : Nat) (hl : l.length ≤ 281474976710656) : DCalls Tryz.prog 74 [linkD x, .ptr 0 0] (hget [(0, .blk 26 ([.dat 5 (l.map sectP)].map .p))]) m (lb (!knownB l x)) (hget [(0, .blk 26 ([.dat 5 (l.map sectP)].map .p))]) := by
  refine contract (n := 8) (rs := [.tmp 3]) (ts := [4]) Tryz.func74 rfl (by decide) 1 1 [] [] [] (lb (!knownB l x)) [(0, .blk 26 ([.dat 5 (l.map sectP)].map .p))] (by (exact SD)) (by (exact SD)) ?_
  (repeat' (first | refine swp_seq [0, 1, 2, 3] ?_ | refine st2 ?_ | (show CallQ ..; first | refine cQ (fun hcc => (by first | exact known_f _ _ _ hl)) ?_ | (refine lP ?_; refine lQ (fun hcc m => (by first | exact known_f _ _ _ hl)) ?_)) | (show Fct ..; refine fctI (fun hf => ?_)) | (show SWp _ _ _ (.cond _ _ _) _ _ _ _; first | refine cB (fun hc => ?_) (fun hc => ?_) | refine cU ?_ ?_)))
  exact DVR
def flowsR (n : Net) (l : List Sect) (lv : List Int) (s : Sta) : List Int × Int :=
  if catB l && (netB n && staB n s) then
    if lvE n lv = 0 then
      if (n.links.any fun x => !knownB l x) then ([], 9) else (flowsL n l lv s, 0)
    else ([], lvE n lv)
  else ([], 1)
def onR (n : Net) (s : Sta) (lv : List Int) : List Bool × Int :=
  if netB n && staB n s then
    if lvE n lv = 0 then (pumpsL n lv s.on, 0) else ([], lvE n lv)
  else ([], 1)
set_option maxRecDepth 20000 in
set_option maxHeartbeats 8000000 in
theorem Flows_f (n : Net) (l : List Sect) (lv : List Int) (s : Sta) (m : Nat) (no : netOk n) (co : catOk l) (hl : lv.length ≤ 281474976710656) (so : staOk s) : DCalls Tryz.prog 31 [netD n, sectL l, ints lv, staD s] (hget []) m (.tup [ints (flowsR n l lv s).1, li (flowsR n l lv s).2]) (hget []) := by
  have c1 := fun m => cat_f l m co
  have c2 := fun m => staValid_f n s m no so
  have c3 := fun m => levelled_f n lv m no hl
  have hll := no.2.1
  unfold flowsR
  cases hc : catB l <;> simp only [hc] at c1
  · refine pureC (n := 70) (rs := [.tmp 8, .tmp 9]) (ts := [27, 30]) Tryz.func31 rfl (by decide) [] (by (exact SD)) ?_
    (repeat' (first | refine swp_seq [0, 1, 2, 3, 4, 5, 7, 8, 9, 10, 11, 12, 13, 14, 15, 24, 29, 34, 36, 37, 38, 39, 62] ?_ | refine st2 ?_ | (show CallQ ..; first | refine cQ (fun hcc => (by first | exact c1 _)) ?_ | (refine lP ?_; refine lQ (fun hcc m => (by first | exact c1 _)) ?_)) | (show XCallQ ..; first | refine xQ (fun hcc => (by first | exact c1 _)) ?_ | (refine xlP ?_; refine xlQ (fun hcc m => (by first | exact c1 _)) ?_)) | (show Fct ..; refine fctI (fun hf => ?_)) | (show SWp _ _ _ (.cond _ _ _) _ _ _ _; first | refine cB (fun hc => ?_) (fun hc => ?_) | refine cU ?_ ?_)))
    exact DVR
  cases hv : (netB n && staB n s) <;> simp only [hv] at c2
  · refine pureC (n := 70) (rs := [.tmp 8, .tmp 9]) (ts := [27, 30]) Tryz.func31 rfl (by decide) [] (by (exact SD)) ?_
    (repeat' (first | refine swp_seq [0, 1, 2, 3, 4, 5, 7, 8, 9, 10, 11, 12, 13, 14, 15, 24, 29, 34, 36, 37, 38, 39, 62] ?_ | refine st2 ?_ | (show CallQ ..; first | refine cQ (fun hcc => (by first | exact c1 _ | exact c2 _)) ?_ | (refine lP ?_; refine lQ (fun hcc m => (by first | exact c1 _ | exact c2 _)) ?_)) | (show XCallQ ..; first | refine xQ (fun hcc => (by first | exact c1 _ | exact c2 _)) ?_ | (refine xlP ?_; refine xlQ (fun hcc m => (by first | exact c1 _ | exact c2 _)) ?_)) | (show Fct ..; refine fctI (fun hf => ?_)) | (show SWp _ _ _ (.cond _ _ _) _ _ _ _; first | refine cB (fun hc => ?_) (fun hc => ?_) | refine cU ?_ ?_)))
    exact DVR
  rw [if_pos (show (true && true) = true from rfl)]
  by_cases he : lvE n lv = 0
  case neg =>
    rw [if_neg he]
    generalize lvE n lv = e at *
    (have := Nonempty.intro he)
    refine pureC (n := 70) (rs := [.tmp 8, .tmp 9]) (ts := [27, 30]) Tryz.func31 rfl (by decide) [] (by (exact SD)) ?_
    (repeat' (first | refine swp_seq [0, 1, 2, 3, 4, 5, 7, 8, 9, 10, 11, 12, 13, 14, 15, 24, 29, 34, 36, 37, 38, 39, 62] ?_ | refine st2 ?_ | (show CallQ ..; first | refine cQ (fun hcc => (by first | exact c1 _ | exact c2 _ | exact c3 _)) ?_ | (refine lP ?_; refine lQ (fun hcc m => (by first | exact c1 _ | exact c2 _ | exact c3 _)) ?_)) | (show XCallQ ..; first | refine xQ (fun hcc => (by first | exact c1 _ | exact c2 _ | exact c3 _)) ?_ | (refine xlP ?_; refine xlQ (fun hcc m => (by first | exact c1 _ | exact c2 _ | exact c3 _)) ?_)) | (show Fct ..; refine fctI (fun hf => ?_)) | (show SWp _ _ _ (.cond _ _ _) _ _ _ _; first | refine cB (fun hc => ?_) (fun hc => ?_) | refine cU ?_ ?_)))
    exact DVR
  rw [if_pos he]
  rw [he] at c3
  have ck := conLinkC_f 74 26 [.dat 5 (l.map sectP)] (fun x => !knownB l x) n.links no.2.1 (fun x _ m => flows1_f x l m co.1)
  cases hk : (n.links.any fun x => !knownB l x) <;> rw [hk] at ck
  case true =>
    refine pureC (n := 70) (rs := [.tmp 8, .tmp 9]) (ts := [27, 30]) Tryz.func31 rfl (by decide) [] (by (exact SD)) ?_
    (repeat' (first | refine swp_seq [0, 1, 2, 3, 4, 5, 7, 8, 9, 10, 11, 12, 13, 14, 15, 24, 29, 34, 36, 37, 38, 39, 62] ?_ | refine st2 ?_ | (show CallQ ..; first | refine cQ (fun hcc => (by first | exact c1 _ | exact c2 _ | exact c3 _)) ?_ | (refine lP ?_; refine lQ (fun hcc m => (by first | exact c1 _ | exact c2 _ | exact c3 _)) ?_)) | (show XCallQ ..; first | refine xQ (fun hcc => (by first | exact c1 _ | exact c2 _ | exact c3 _)) ?_ | (refine xlP ?_; refine xlQ (fun hcc m => (by first | exact c1 _ | exact c2 _ | exact c3 _)) ?_)) | (show Fct ..; refine fctI (fun hf => ?_)) | (show SWp _ _ _ (.cond _ _ _) _ _ _ _; first | refine cB (fun hc => ?_) (fun hc => ?_) | refine cU ?_ ?_)))
    (refine cQT [8] (fun hcc => ck) ?_)
    (repeat' (first | refine swp_seq [0, 1, 2, 3, 4, 5, 7, 8, 9, 10, 11, 12, 13, 14, 15, 24, 29, 34, 36, 37, 38, 39, 62] ?_ | refine st2 ?_ | (show Fct ..; refine fctI (fun hf => ?_)) | (show SWp _ _ _ (.cond _ _ _) _ _ _ _; first | refine cB (fun hc => ?_) (fun hc => ?_) | refine cU ?_ ?_)))
    exact DVR
  rw [if_neg (by decide)]
  simp only [Bool.and_eq_true] at hv
  have F : FlowsIn n l lv s := ⟨no, co, hv.1, hc, hv.2, (lvE_0 he).1, (lvE_0 he).2, known_no hk⟩
  have hlen := lensB_of (show lensB n s = true by have := hv.2; unfold staB at this; simp only [Bool.and_eq_true] at this; exact this.1.1)
  have h400 := (netB_len hv.1).2
  have hfl : (flowsL n l lv s).length = n.links.length := rng_len _ _
  have hfa : ∀ i, i < n.links.length → (flowsL n l lv s).getD i default = flowAt n l lv s i := fun i hi => rng_at hi
  have ca := fun i hi m => at_f n l i lv (s.set.getD i default).toNat (s.on.getD i default) m no F.nb hi F.ll (F.btw hi)
  generalize flowsL n l lv s = O at *
  refine pureC (n := 70) (rs := [.tmp 8, .tmp 9]) (ts := [27, 30]) Tryz.func31 rfl (by decide) [232] (by (exact SD)) ?_
  (repeat' (first | refine swp_seq [0, 1, 2, 3, 4, 5, 7, 8, 9, 10, 11, 12, 13, 14, 15, 24, 29, 34, 36, 37, 38, 39, 62] ?_ | refine st2 ?_ | (show CallQ ..; first | refine cQ (fun hcc => (by first | exact c1 _ | exact c2 _ | exact c3 _)) ?_ | (refine lP ?_; refine lQ (fun hcc m => (by first | exact c1 _ | exact c2 _ | exact c3 _)) ?_)) | (show XCallQ ..; first | refine xQ (fun hcc => (by first | exact c1 _ | exact c2 _ | exact c3 _)) ?_ | (refine xlP ?_; refine xlQ (fun hcc m => (by first | exact c1 _ | exact c2 _ | exact c3 _)) ?_)) | (show Fct ..; refine fctI (fun hf => ?_)) | (show SWp _ _ _ (.cond _ _ _) _ _ _ _; first | refine cB (fun hc => ?_) (fun hc => ?_) | refine cU ?_ ?_)))
  (refine cQT [8] (fun hcc => ck) ?_)
  (repeat' (first | refine swp_seq [0, 1, 2, 3, 4, 5, 7, 8, 9, 10, 11, 12, 13, 14, 15, 24, 29, 34, 36, 37, 38, 39, 62] ?_ | refine st2 ?_ | (show Fct ..; refine fctI (fun hf => ?_)) | (show SWp _ _ _ (.cond _ _ _) _ _ _ _; first | refine cB (fun hc => ?_) (fun hc => ?_) | refine cU ?_ ?_)))
  (refine sN 11 3 1 ?_)
  refine loop_swp [2, 4, 5, 7, 11, 36, 37, 38] [0, 8, 16, 232] 233 (fun z A H => ∃ i : Nat, i ≤ n.links.length ∧ z = n.links.length - i ∧ A = [(2, ints lv), (4, .ptr 0 0), (5, .ptr 8 0), (7, .ptr 16 0), (11, .gl 232), (36, linkL n.links), (37, li n.links.length), (38, li i)] ∧ H = [(0, .blk 25 (netC n)), (8, .blk 26 [sectL l]), (16, .blk 75 (staC s)), (232, inLt (O.take i))]) (by omega) ?_ ?_ ?_
  · rintro z A H ⟨i, h1, h2, rfl, rfl⟩
    exact ⟨by (exact SD), by (exact SD)⟩
  · refine ⟨_, 0, by omega, rfl, ?_, ?_⟩
    · exact DVR
    · exact DVR
  rintro z A H ⟨i, h1, h2, rfl, rfl⟩
  by_cases hi : i < n.links.length
  · have hi3 : (i : Int) < (n.links.length : Int) := by omega
    have hnx := take_sn (l := O) (i := i) (by omega)
    rw [hfa i hi] at hnx
    have hti : (O.take i).length = i := by rw [List.length_take]; omega
    have cx := ca i hi
    have hst := (okSL_in F.sb hi).1
    rw [show ((s.set.getD i default).toNat : Int) = s.set.getD i default by omega] at cx
    change ∀ m, DCalls _ _ _ _ m (.tup [li (flowAt n l lv s i), li 0]) _ at cx
    generalize flowAt n l lv s i = q at *
    generalize O.take i = X at *
    have hs1 : i < s.set.length := by omega
    have hs2 : i < s.on.length := by omega
    (have := Nonempty.intro hi)
    (have := Nonempty.intro hi3)
    (have := Nonempty.intro hs1)
    (have := Nonempty.intro hs2)
    clear ca c1 c2 c3 ck F hfa hk
    (repeat' (first | refine swp_seq [0, 1, 2, 3, 4, 5, 7, 8, 9, 10, 11, 12, 13, 14, 15, 24, 29, 34, 36, 37, 38, 39, 62] ?_ | refine st2 ?_ | (show CallQ ..; first | refine cQ (fun hcc => (by first | exact cx _)) ?_ | (refine lP ?_; refine lQ (fun hcc m => (by first | exact cx _)) ?_)) | (show XCallQ ..; first | refine xQ (fun hcc => (by first | exact cx _)) ?_ | (refine xlP ?_; refine xlQ (fun hcc m => (by first | exact cx _)) ?_)) | (show Fct ..; refine fctI (fun hf => ?_)) | (show SWp _ _ _ (.cond _ _ _) _ _ _ _; first | refine cB (fun hc => ?_) (fun hc => ?_) | refine cU ?_ ?_)))
    rw [← hnx]
    (refine lN [0, 8, 16, 232] ?_)
    exact ⟨_, by omega, i + 1, by omega, rfl, rfl, rfl⟩
  obtain rfl : i = n.links.length := by omega
  have hi3 : ¬ ((n.links.length : Int) < (n.links.length : Int)) := by omega
  (have := Nonempty.intro hi3)
  rw [show O.take n.links.length = O by rw [← hfl, List.take_length]]
  (repeat' (first | refine swp_seq [0, 1, 2, 3, 4, 5, 7, 8, 9, 10, 11, 12, 13, 14, 15, 24, 29, 34, 36, 37, 38, 39, 62] ?_ | refine st2 ?_ | (show Fct ..; refine fctI (fun hf => ?_)) | (show SWp _ _ _ (.cond _ _ _) _ _ _ _; first | refine cB (fun hc => ?_) (fun hc => ?_) | refine cU ?_ ?_)))
  exact DVR
theorem app_bo (X : List Bool) (b : Bool) : rows boRow X ++ [[DV.p (.lit (.bool b))]] = rows boRow (X ++ [b]) := by
  unfold rows; rw [List.map_append]; rfl
attribute [push_cast] app_bo
set_option maxRecDepth 20000 in
set_option maxHeartbeats 8000000 in
theorem On_f (n : Net) (s : Sta) (lv : List Int) (m : Nat) (no : netOk n) (hl : lv.length ≤ 281474976710656) (so : staOk s) : DCalls Tryz.prog 32 [netD n, staD s, ints lv] (hget []) m (.tup [bools (onR n s lv).1, li (onR n s lv).2]) (hget []) := by
  have c2 := fun m => staValid_f n s m no so
  have c3 := fun m => levelled_f n lv m no hl
  have hll := no.2.1
  unfold onR
  cases hv : (netB n && staB n s) <;> simp only [hv] at c2
  · refine pureC (n := 66) (rs := [.tmp 6, .tmp 7]) (ts := [73, 30]) Tryz.func32 rfl (by decide) [] (by (exact SD)) ?_
    (repeat' (first | refine swp_seq [0, 1, 2, 3, 4, 6, 7, 8, 9, 10, 11, 12, 13, 15, 19, 24, 27, 28, 29, 30, 36, 58] ?_ | refine st2 ?_ | (show CallQ ..; first | refine cQ (fun hcc => (by first | exact c2 _)) ?_ | (refine lP ?_; refine lQ (fun hcc m => (by first | exact c2 _)) ?_)) | (show XCallQ ..; first | refine xQ (fun hcc => (by first | exact c2 _)) ?_ | (refine xlP ?_; refine xlQ (fun hcc m => (by first | exact c2 _)) ?_)) | (show Fct ..; refine fctI (fun hf => ?_)) | (show SWp _ _ _ (.cond _ _ _) _ _ _ _; first | refine cB (fun hc => ?_) (fun hc => ?_) | refine cU ?_ ?_)))
    exact DVR
  rw [if_pos rfl]
  by_cases he : lvE n lv = 0
  case neg =>
    rw [if_neg he]
    generalize lvE n lv = e at *
    (have := Nonempty.intro he)
    refine pureC (n := 66) (rs := [.tmp 6, .tmp 7]) (ts := [73, 30]) Tryz.func32 rfl (by decide) [] (by (exact SD)) ?_
    (repeat' (first | refine swp_seq [0, 1, 2, 3, 4, 6, 7, 8, 9, 10, 11, 12, 13, 15, 19, 24, 27, 28, 29, 30, 36, 58] ?_ | refine st2 ?_ | (show CallQ ..; first | refine cQ (fun hcc => (by first | exact c2 _ | exact c3 _)) ?_ | (refine lP ?_; refine lQ (fun hcc m => (by first | exact c2 _ | exact c3 _)) ?_)) | (show XCallQ ..; first | refine xQ (fun hcc => (by first | exact c2 _ | exact c3 _)) ?_ | (refine xlP ?_; refine xlQ (fun hcc m => (by first | exact c2 _ | exact c3 _)) ?_)) | (show Fct ..; refine fctI (fun hf => ?_)) | (show SWp _ _ _ (.cond _ _ _) _ _ _ _; first | refine cB (fun hc => ?_) (fun hc => ?_) | refine cU ?_ ?_)))
    exact DVR
  rw [if_pos he]
  rw [he] at c3
  simp only [Bool.and_eq_true] at hv
  have hlv := lvE_0 he
  have hlen := lensB_of (show lensB n s = true by have := hv.2; unfold staB at this; simp only [Bool.and_eq_true] at this; exact this.1.1)
  have h400 := (netB_len hv.1).2
  have hfl : (pumpsL n lv s.on).length = n.links.length := rng_len _ _
  have hfa : ∀ i, i < n.links.length → (pumpsL n lv s.on).getD i default = pumpAt n lv s.on i := fun i hi => rng_at hi
  generalize pumpsL n lv s.on = O at *
  refine pureC (n := 66) (rs := [.tmp 6, .tmp 7]) (ts := [73, 30]) Tryz.func32 rfl (by decide) [152] (by (exact SD)) ?_
  (repeat' (first | refine swp_seq [0, 1, 2, 3, 4, 6, 7, 8, 9, 10, 11, 12, 13, 15, 19, 24, 27, 28, 29, 30, 36, 58] ?_ | refine st2 ?_ | (show CallQ ..; first | refine cQ (fun hcc => (by first | exact c2 _ | exact c3 _)) ?_ | (refine lP ?_; refine lQ (fun hcc m => (by first | exact c2 _ | exact c3 _)) ?_)) | (show XCallQ ..; first | refine xQ (fun hcc => (by first | exact c2 _ | exact c3 _)) ?_ | (refine xlP ?_; refine xlQ (fun hcc m => (by first | exact c2 _ | exact c3 _)) ?_)) | (show Fct ..; refine fctI (fun hf => ?_)) | (show SWp _ _ _ (.cond _ _ _) _ _ _ _; first | refine cB (fun hc => ?_) (fun hc => ?_) | refine cU ?_ ?_)))
  (refine sN 9 4 1 ?_)
  refine loop_swp [2, 3, 4, 9, 27, 28, 29] [0, 8, 152] 153 (fun z A H => ∃ i : Nat, i ≤ n.links.length ∧ z = n.links.length - i ∧ A = [(2, ints lv), (3, .ptr 0 0), (4, .ptr 8 0), (9, .gl 152), (27, linkL n.links), (28, li n.links.length), (29, li i)] ∧ H = [(0, .blk 25 (netC n)), (8, .blk 75 (staC s)), (152, boL (O.take i))]) (by omega) ?_ ?_ ?_
  · rintro z A H ⟨i, h1, h2, rfl, rfl⟩
    exact ⟨by (exact SD), by (exact SD)⟩
  · refine ⟨_, 0, by omega, rfl, ?_, ?_⟩
    · exact DVR
    · exact DVR
  rintro z A H ⟨i, h1, h2, rfl, rfl⟩
  by_cases hi : i < n.links.length
  · have hi3 : (i : Int) < (n.links.length : Int) := by omega
    have hnx := take_sn (l := O) (i := i) (by omega)
    rw [hfa i hi] at hnx
    have hti : (O.take i).length = i := by rw [List.length_take]; omega
    have ce := fun m => ends_f n (n.links.getD i default) m no.1.1
    have hf := fromI_lt hv.1 hi
    have ht := tillI_lt hv.1 hi
    rw [hf.2, ht.2] at ce
    unfold pumpAt at hnx
    have hs2 : i < s.on.length := by omega
    have hf2 : fromI n i < lv.length := by omega
    have hlev : levB (lv.getD (fromI n i) default) = true := by
      have := lvA_in hlv.2 hf.1
      exact lev_btw (netB_node hv.1 hf.1) this.1 this.2
    have hrx := (okL_in hv.1 hi).1
    have hxo := no.2.2 _ (getD_mem hi)
    generalize O.take i = X at *
    (have := Nonempty.intro hi)
    (have := Nonempty.intro hi3)
    (have := Nonempty.intro hs2)
    (have := Nonempty.intro hf2)
    by_cases k4 : (n.links.getD i default).kind = 4
    · have cp := fun m => pumpsOn_f (n.links.getD i default) (s.on.getD i default) (lv.getD (fromI n i) default) m hxo (by unfold pumpB; rw [decide_eq_true k4, hrx]; rfl) hlev
      rw [decide_eq_true k4, Bool.true_and] at hnx
      generalize onB (n.links.getD i default) (s.on.getD i default) (lv.getD (fromI n i) default) = b at *
      generalize fromI n i = fr at *
      generalize tillI n i = tl at *
      (have := Nonempty.intro k4)
      clear c2 c3 hfa hf ht hlv hlev
      (repeat' (first | refine swp_seq [0, 1, 2, 3, 4, 6, 7, 8, 9, 10, 11, 12, 13, 15, 19, 24, 27, 28, 29, 30, 36, 58] ?_ | refine st2 ?_ | (show CallQ ..; first | refine cQ (fun hcc => (by first | exact ce _ | exact cp _)) ?_ | (refine lP ?_; refine lQ (fun hcc m => (by first | exact ce _ | exact cp _)) ?_)) | (show XCallQ ..; first | refine xQ (fun hcc => (by first | exact ce _ | exact cp _)) ?_ | (refine xlP ?_; refine xlQ (fun hcc m => (by first | exact ce _ | exact cp _)) ?_)) | (show Fct ..; refine fctI (fun hf => ?_)) | (show SWp _ _ _ (.cond _ _ _) _ _ _ _; first | refine cB (fun hc => ?_) (fun hc => ?_) | refine cU ?_ ?_)))
      rw [← hnx]
      (refine lN [0, 8, 152] ?_)
      exact ⟨_, by omega, i + 1, by omega, rfl, rfl, rfl⟩
    · rw [decide_eq_false k4, Bool.false_and] at hnx
      (have := Nonempty.intro k4)
      clear c2 c3 hfa hf ht hlv hlev
      (repeat' (first | refine swp_seq [0, 1, 2, 3, 4, 6, 7, 8, 9, 10, 11, 12, 13, 15, 19, 24, 27, 28, 29, 30, 36, 58] ?_ | refine st2 ?_ | (show Fct ..; refine fctI (fun hf => ?_)) | (show SWp _ _ _ (.cond _ _ _) _ _ _ _; first | refine cB (fun hc => ?_) (fun hc => ?_) | refine cU ?_ ?_)))
      rw [← hnx]
      (refine lN [0, 8, 152] ?_)
      exact ⟨_, by omega, i + 1, by omega, rfl, rfl, rfl⟩
  obtain rfl : i = n.links.length := by omega
  have hi3 : ¬ ((n.links.length : Int) < (n.links.length : Int)) := by omega
  (have := Nonempty.intro hi3)
  rw [show O.take n.links.length = O by rw [← hfl, List.take_length]]
  (repeat' (first | refine swp_seq [0, 1, 2, 3, 4, 6, 7, 8, 9, 10, 11, 12, 13, 15, 19, 24, 27, 28, 29, 30, 36, 58] ?_ | refine st2 ?_ | (show Fct ..; refine fctI (fun hf => ?_)) | (show SWp _ _ _ (.cond _ _ _) _ _ _ _; first | refine cB (fun hc => ?_) (fun hc => ?_) | refine cU ?_ ?_)))
  exact DVR
set_option maxRecDepth 20000 in
set_option maxHeartbeats 8000000 in
theorem rAll_f (n : Net) (l : List Sect) (lv : List Int) (s : Sta) (m : Nat) (F : FlowsIn n l lv s) : DCalls Tryz.prog 77 [netD n, sectL l, ints lv, staD s] (hget []) m (ints (flowsL n l lv s)) (hget []) := by
  have hll := F.no.2.1
  have hv := F.sb
  have hlen := lensB_of (show lensB n s = true by unfold staB at hv; simp only [Bool.and_eq_true] at hv; exact hv.1.1)
  have h400 := (netB_len F.nb).2
  have hfl : (flowsL n l lv s).length = n.links.length := rng_len _ _
  have hfa : ∀ i, i < n.links.length → (flowsL n l lv s).getD i default = flowAt n l lv s i := fun i hi => rng_at hi
  generalize flowsL n l lv s = O at *
  refine pureC (n := 52) (rs := [.tmp 8]) (ts := [27]) Tryz.func77 rfl (by decide) [40] (by (exact SD)) ?_
  (repeat' (first | refine swp_seq [0, 1, 2, 3, 4, 7, 8, 9, 10, 11, 12, 17] ?_ | refine st2 ?_ | (show Fct ..; refine fctI (fun hf => ?_)) | (show SWp _ _ _ (.cond _ _ _) _ _ _ _; first | refine cB (fun hc => ?_) (fun hc => ?_) | refine cU ?_ ?_)))
  (refine sN 9 3 1 ?_)
  refine loop_swp [1, 2, 4, 7, 9, 10] [0, 8, 40] 41 (fun z A H => ∃ i : Nat, i ≤ n.links.length ∧ z = n.links.length - i ∧ A = [(1, sectL l), (2, ints lv), (4, .ptr 0 0), (7, .ptr 8 0), (9, .gl 40), (10, li i)] ∧ H = [(0, .blk 25 (netC n)), (8, .blk 75 (staC s)), (40, inLt (O.take i))]) (by omega) ?_ ?_ ?_
  · rintro z A H ⟨i, h1, h2, rfl, rfl⟩
    exact ⟨by (exact SD), by (exact SD)⟩
  · refine ⟨_, 0, by omega, rfl, ?_, ?_⟩
    · exact DVR
    · exact DVR
  rintro z A H ⟨i, h1, h2, rfl, rfl⟩
  by_cases hi : i < n.links.length
  · have hi3 : (i : Int) < (n.links.length : Int) := by omega
    have hnx := take_sn (l := O) (i := i) (by omega)
    rw [hfa i hi] at hnx
    have hti : (O.take i).length = i := by rw [List.length_take]; omega
    have ce := fun m => ends34_f n i m F.no F.nb hi
    have hf := (fromI_lt F.nb hi).1
    have ht := (tillI_lt F.nb hi).1
    have cb := fun m => rBetween_f n l i (lv.getD (fromI n i) default) (lv.getD (tillI n i) default) (s.set.getD i default).toNat (s.on.getD i default) m hi (F.btw hi)
    have hst := (okSL_in F.sb hi).1
    rw [show ((s.set.getD i default).toNat : Int) = s.set.getD i default by omega] at cb
    change ∀ m, DCalls _ _ _ _ m (li (flowAt n l lv s i)) _ at cb
    generalize flowAt n l lv s i = q at *
    generalize O.take i = X at *
    have hs1 : i < s.set.length := by omega
    have hs2 : i < s.on.length := by omega
    have hf2 : fromI n i < lv.length := by have := F.ll; omega
    have ht2 : tillI n i < lv.length := by have := F.ll; omega
    generalize fromI n i = fr at *
    generalize tillI n i = tl at *
    (have := Nonempty.intro hi)
    (have := Nonempty.intro hi3)
    (have := Nonempty.intro hs1)
    (have := Nonempty.intro hs2)
    (have := Nonempty.intro hf2)
    (have := Nonempty.intro ht2)
    clear hfa F
    (repeat' (first | refine swp_seq [0, 1, 2, 3, 4, 7, 8, 9, 10, 11, 12, 17] ?_ | (show SWp _ _ _ (.region _ _ true) _ _ _ _; refine xG mixed [40, 1000022] ?_) | refine st2 ?_ | (show CallQ ..; first | refine cQ (fun hcc => (by first | exact ce _ | exact cb _)) ?_ | (refine lP ?_; refine lQ (fun hcc m => (by first | exact ce _ | exact cb _)) ?_)) | (show XCallQ ..; first | refine xQ (fun hcc => (by first | exact ce _ | exact cb _)) ?_ | (refine xlP ?_; refine xlQ (fun hcc m => (by first | exact ce _ | exact cb _)) ?_)) | (show Fct ..; refine fctI (fun hf => ?_)) | (show SWp _ _ _ (.cond _ _ _) _ _ _ _; first | refine cB (fun hc => ?_) (fun hc => ?_) | refine cU ?_ ?_)))
    rw [← hnx]
    (refine lR 337 40 [0, 8, 337] ?_)
    exact ⟨_, by omega, i + 1, by omega, rfl, rfl, rfl⟩
  obtain rfl : i = n.links.length := by omega
  have hi3 : ¬ ((n.links.length : Int) < (n.links.length : Int)) := by omega
  (have := Nonempty.intro hi3)
  rw [show O.take n.links.length = O by rw [← hfl, List.take_length]]
  (repeat' (first | refine swp_seq [0, 1, 2, 3, 4, 7, 8, 9, 10, 11, 12, 17] ?_ | refine st2 ?_ | (show Fct ..; refine fctI (fun hf => ?_)) | (show SWp _ _ _ (.cond _ _ _) _ _ _ _; first | refine cB (fun hc => ?_) (fun hc => ?_) | refine cU ?_ ?_)))
  exact DVR
set_option maxRecDepth 20000 in
set_option maxHeartbeats 8000000 in
theorem rPumps_f (n : Net) (on : List Bool) (lv : List Int) (m : Nat) (no : netOk n) (nb : netB n = true) (ho : on.length = n.links.length) (hl : lv.length = n.nodes.length) : DCalls Tryz.prog 78 [netD n, bools on, ints lv] (hget []) m (bools (pumpsL n lv on)) (hget []) := by
  have hll := no.2.1
  have h400 := (netB_len nb).2
  have hfl : (pumpsL n lv on).length = n.links.length := rng_len _ _
  have hfa : ∀ i, i < n.links.length → (pumpsL n lv on).getD i default = pumpAt n lv on i := fun i hi => rng_at hi
  generalize pumpsL n lv on = O at *
  refine pureC (n := 51) (rs := [.tmp 6]) (ts := [73]) Tryz.func78 rfl (by decide) [32] (by (exact SD)) ?_
  (repeat' (first | refine swp_seq [0, 1, 2, 3, 6, 7, 8, 9, 15] ?_ | refine st2 ?_ | (show Fct ..; refine fctI (fun hf => ?_)) | (show SWp _ _ _ (.cond _ _ _) _ _ _ _; first | refine cB (fun hc => ?_) (fun hc => ?_) | refine cU ?_ ?_)))
  (refine sN 7 4 1 ?_)
  refine loop_swp [1, 2, 3, 7, 8] [0, 32] 33 (fun z A H => ∃ i : Nat, i ≤ n.links.length ∧ z = n.links.length - i ∧ A = [(1, bools on), (2, ints lv), (3, .ptr 0 0), (7, .gl 32), (8, li i)] ∧ H = [(0, .blk 25 (netC n)), (32, boL (O.take i))]) (by omega) ?_ ?_ ?_
  · rintro z A H ⟨i, h1, h2, rfl, rfl⟩
    exact ⟨by (exact SD), by (exact SD)⟩
  · refine ⟨_, 0, by omega, rfl, ?_, ?_⟩
    · exact DVR
    · exact DVR
  rintro z A H ⟨i, h1, h2, rfl, rfl⟩
  by_cases hi : i < n.links.length
  · have hi3 : (i : Int) < (n.links.length : Int) := by omega
    have hnx := take_sn (l := O) (i := i) (by omega)
    rw [hfa i hi] at hnx
    have hti : (O.take i).length = i := by rw [List.length_take]; omega
    have ce := fun m => ends34_f n i m no nb hi
    have hf := (fromI_lt nb hi).1
    unfold pumpAt at hnx
    have hs2 : i < on.length := by omega
    have hf2 : fromI n i < lv.length := by omega
    generalize O.take i = X at *
    (have := Nonempty.intro hi)
    (have := Nonempty.intro hi3)
    (have := Nonempty.intro hs2)
    (have := Nonempty.intro hf2)
    by_cases k4 : (n.links.getD i default).kind = 4
    · have cp := fun m => rOn33_f (n.links.getD i default) (on.getD i default) (lv.getD (fromI n i) default) m
      rw [decide_eq_true k4, Bool.true_and] at hnx
      generalize onB (n.links.getD i default) (on.getD i default) (lv.getD (fromI n i) default) = b at *
      generalize fromI n i = fr at *
      generalize tillI n i = tl at *
      (have := Nonempty.intro k4)
      clear hfa hf
      (repeat' (first | refine swp_seq [0, 1, 2, 3, 6, 7, 8, 9, 15] ?_ | (show SWp _ _ _ (.region _ _ true) _ _ _ _; refine xG mixed [32, 1000022] ?_) | refine st2 ?_ | (show CallQ ..; first | refine cQ (fun hcc => (by first | exact ce _ | exact cp _)) ?_ | (refine lP ?_; refine lQ (fun hcc m => (by first | exact ce _ | exact cp _)) ?_)) | (show XCallQ ..; first | refine xQ (fun hcc => (by first | exact ce _ | exact cp _)) ?_ | (refine xlP ?_; refine xlQ (fun hcc m => (by first | exact ce _ | exact cp _)) ?_)) | (show Fct ..; refine fctI (fun hf => ?_)) | (show SWp _ _ _ (.cond _ _ _) _ _ _ _; first | refine cB (fun hc => ?_) (fun hc => ?_) | refine cU ?_ ?_)))
      rw [← hnx]
      (refine lR 337 32 [0, 337] ?_)
      exact ⟨_, by omega, i + 1, by omega, rfl, rfl, rfl⟩
    · rw [decide_eq_false k4, Bool.false_and] at hnx
      generalize fromI n i = fr at *
      generalize tillI n i = tl at *
      (have := Nonempty.intro k4)
      clear hfa hf
      (repeat' (first | refine swp_seq [0, 1, 2, 3, 6, 7, 8, 9, 15] ?_ | (show SWp _ _ _ (.region _ _ true) _ _ _ _; refine xG mixed [32] ?_) | refine st2 ?_ | (show CallQ ..; first | refine cQ (fun hcc => (by first | exact ce _)) ?_ | (refine lP ?_; refine lQ (fun hcc m => (by first | exact ce _)) ?_)) | (show XCallQ ..; first | refine xQ (fun hcc => (by first | exact ce _)) ?_ | (refine xlP ?_; refine xlQ (fun hcc m => (by first | exact ce _)) ?_)) | (show Fct ..; refine fctI (fun hf => ?_)) | (show SWp _ _ _ (.cond _ _ _) _ _ _ _; first | refine cB (fun hc => ?_) (fun hc => ?_) | refine cU ?_ ?_)))
      rw [← hnx]
      (refine lR 337 32 [0, 337] ?_)
      exact ⟨_, by omega, i + 1, by omega, rfl, rfl, rfl⟩
  obtain rfl : i = n.links.length := by omega
  have hi3 : ¬ ((n.links.length : Int) < (n.links.length : Int)) := by omega
  (have := Nonempty.intro hi3)
  rw [show O.take n.links.length = O by rw [← hfl, List.take_length]]
  (repeat' (first | refine swp_seq [0, 1, 2, 3, 6, 7, 8, 9, 15] ?_ | refine st2 ?_ | (show Fct ..; refine fctI (fun hf => ?_)) | (show SWp _ _ _ (.cond _ _ _) _ _ _ _; first | refine cB (fun hc => ?_) (fun hc => ?_) | refine cU ?_ ?_)))
  exact DVR
theorem rRight_f (n : Net) (s : Sta) (m : Nat) (no : netOk n) (so : staOk s) : DCalls Tryz.prog 76 [netD n, staD s] (hget []) m (lb (netB n && staB n s)) (hget []) := by
  have c1 := fun m => rNetValid_f n m no
  cases hn : netB n <;> simp only [hn] at c1
  · refine pureC (n := 12) (rs := [.tmp 4]) (ts := [4]) Tryz.func76 rfl (by decide) [] (by (exact SD)) ?_
    (repeat' (first | refine swp_seq [0, 1, 2, 3, 4] ?_ | refine st2 ?_ | (show CallQ ..; first | refine cQ (fun hcc => (by first | exact c1 _)) ?_ | (refine lP ?_; refine lQ (fun hcc m => (by first | exact c1 _)) ?_)) | (show Fct ..; refine fctI (fun hf => ?_)) | (show SWp _ _ _ (.cond _ _ _) _ _ _ _; first | refine cB (fun hc => ?_) (fun hc => ?_) | refine cU ?_ ?_)))
    exact DVR
  · have c2 := fun m => rStaValid_f n s m hn so
    refine pureC (n := 12) (rs := [.tmp 4]) (ts := [4]) Tryz.func76 rfl (by decide) [] (by (exact SD)) ?_
    (repeat' (first | refine swp_seq [0, 1, 2, 3, 4] ?_ | refine st2 ?_ | (show CallQ ..; first | refine cQ (fun hcc => (by first | exact c1 _ | exact c2 _)) ?_ | (refine lP ?_; refine lQ (fun hcc m => (by first | exact c1 _ | exact c2 _)) ?_)) | (show Fct ..; refine fctI (fun hf => ?_)) | (show SWp _ _ _ (.cond _ _ _) _ _ _ _; first | refine cB (fun hc => ?_) (fun hc => ?_) | refine cU ?_ ?_)))
    exact DVR
set_option maxRecDepth 20000 in
set_option maxHeartbeats 8000000 in
theorem rFlows_f (n : Net) (l : List Sect) (lv : List Int) (s : Sta) (m : Nat) (no : netOk n) (co : catOk l) (so : staOk s) : DCalls Tryz.prog 33 [netD n, sectL l, ints lv, staD s] (hget []) m (.tup [ints (flowsR n l lv s).1, li (flowsR n l lv s).2]) (hget []) := by
  have c1 := fun m => rRight_f n s m no so
  have c2 := fun m => given34_f n l lv m no co
  have hll := no.2.1
  unfold flowsR
  cases hv : (netB n && staB n s) <;> simp only [hv] at c1
  · rw [Bool.and_false]
    refine pureC (n := 47) (rs := [.tmp 8, .tmp 9]) (ts := [27, 3]) Tryz.func33 rfl (by decide) [] (by (exact SD)) ?_
    (repeat' (first | refine swp_seq [0, 1, 2, 3, 4, 7, 8, 9, 10, 11, 15, 21, 26, 31, 41] ?_ | refine st2 ?_ | (show CallQ ..; first | refine cQ (fun hcc => (by first | exact c1 _)) ?_ | (refine lP ?_; refine lQ (fun hcc m => (by first | exact c1 _)) ?_)) | (show Fct ..; refine fctI (fun hf => ?_)) | (show SWp _ _ _ (.cond _ _ _) _ _ _ _; first | refine cB (fun hc => ?_) (fun hc => ?_) | refine cU ?_ ?_)))
    exact DVR
  have hv2 := hv
  simp only [Bool.and_eq_true] at hv2
  rw [Bool.and_true]
  cases hcb : catB l
  · rw [hv2.1, hcb, if_neg (by decide)] at c2
    refine pureC (n := 47) (rs := [.tmp 8, .tmp 9]) (ts := [27, 3]) Tryz.func33 rfl (by decide) [] (by (exact SD)) ?_
    (repeat' (first | refine swp_seq [0, 1, 2, 3, 4, 7, 8, 9, 10, 11, 15, 21, 26, 31, 41] ?_ | refine st2 ?_ | (show CallQ ..; first | refine cQ (fun hcc => (by first | exact c1 _ | exact c2 _)) ?_ | (refine lP ?_; refine lQ (fun hcc m => (by first | exact c1 _ | exact c2 _)) ?_)) | (show Fct ..; refine fctI (fun hf => ?_)) | (show SWp _ _ _ (.cond _ _ _) _ _ _ _; first | refine cB (fun hc => ?_) (fun hc => ?_) | refine cU ?_ ?_)))
    exact DVR
  rw [hv2.1, hcb, if_pos (show (true && true) = true from rfl)] at c2
  rw [if_pos rfl]
  by_cases hl : lv.length = n.nodes.length
  case neg =>
    rw [if_neg hl] at c2
    have e1 : lvE n lv = 3 := by unfold lvE; rw [if_neg hl]
    rw [e1]
    refine pureC (n := 47) (rs := [.tmp 8, .tmp 9]) (ts := [27, 3]) Tryz.func33 rfl (by decide) [] (by (exact SD)) ?_
    (repeat' (first | refine swp_seq [0, 1, 2, 3, 4, 7, 8, 9, 10, 11, 15, 21, 26, 31, 41] ?_ | refine st2 ?_ | (show CallQ ..; first | refine cQ (fun hcc => (by first | exact c1 _ | exact c2 _)) ?_ | (refine lP ?_; refine lQ (fun hcc m => (by first | exact c1 _ | exact c2 _)) ?_)) | (show Fct ..; refine fctI (fun hf => ?_)) | (show SWp _ _ _ (.cond _ _ _) _ _ _ _; first | refine cB (fun hc => ?_) (fun hc => ?_) | refine cU ?_ ?_)))
    exact DVR
  rw [if_pos hl] at c2
  have c3 := fun m => rLevelled_f n lv m no hl
  have e1 : lvE n lv = if lvA n lv then 0 else 2 := by unfold lvE; rw [if_pos hl]
  rw [e1]
  cases ha : lvA n lv <;> simp only [ha] at c3
  · refine pureC (n := 47) (rs := [.tmp 8, .tmp 9]) (ts := [27, 3]) Tryz.func33 rfl (by decide) [] (by (exact SD)) ?_
    (repeat' (first | refine swp_seq [0, 1, 2, 3, 4, 7, 8, 9, 10, 11, 15, 21, 26, 31, 41] ?_ | refine st2 ?_ | (show CallQ ..; first | refine cQ (fun hcc => (by first | exact c1 _ | exact c2 _ | exact c3 _)) ?_ | (refine lP ?_; refine lQ (fun hcc m => (by first | exact c1 _ | exact c2 _ | exact c3 _)) ?_)) | (show Fct ..; refine fctI (fun hf => ?_)) | (show SWp _ _ _ (.cond _ _ _) _ _ _ _; first | refine cB (fun hc => ?_) (fun hc => ?_) | refine cU ?_ ?_)))
    exact DVR
  rw [if_pos rfl, if_pos rfl]
  refine pureC (n := 47) (rs := [.tmp 8, .tmp 9]) (ts := [27, 3]) Tryz.func33 rfl (by decide) [] (by (exact SD)) ?_
  (repeat' (first | refine swp_seq [0, 1, 2, 3, 4, 7, 8, 9, 10, 11, 15, 21, 26, 31, 41] ?_ | refine st2 ?_ | (show CallQ ..; first | refine cQ (fun hcc => (by first | exact c1 _ | exact c2 _ | exact c3 _)) ?_ | (refine lP ?_; refine lQ (fun hcc m => (by first | exact c1 _ | exact c2 _ | exact c3 _)) ?_)) | (show Fct ..; refine fctI (fun hf => ?_)) | (show SWp _ _ _ (.cond _ _ _) _ _ _ _; first | refine cB (fun hc => ?_) (fun hc => ?_) | refine cU ?_ ?_)))
  refine loop_swp [1, 2, 4, 7, 11] [0, 8] 9 (fun z A H => ∃ i : Nat, i ≤ n.links.length ∧ z = n.links.length - i ∧ ((n.links.take i).any fun x => !knownB l x) = false ∧ A = [(1, sectL l), (2, ints lv), (4, .ptr 0 0), (7, .ptr 8 0), (11, li i)] ∧ H = [(0, .blk 25 (netC n)), (8, .blk 75 (staC s))]) (by omega) ?_ ?_ ?_
  · rintro z A H ⟨i, h1, h2, h3, rfl, rfl⟩
    exact ⟨by (exact SD), by (exact SD)⟩
  · refine ⟨_, 0, by omega, rfl, rfl, ?_, ?_⟩
    · exact DVR
    · exact DVR
  rintro z A H ⟨i, h1, h2, h3, rfl, rfl⟩
  by_cases hi : i < n.links.length
  · have hi3 : (i : Int) < (n.links.length : Int) := by omega
    have cn := fun m => named_f l (n.links.getD i default) m co.1
    (have := Nonempty.intro hi)
    (have := Nonempty.intro hi3)
    cases hk : knownB l (n.links.getD i default) <;> simp only [hk] at cn
    · have e2 : (n.links.any fun x => !knownB l x) = true := List.any_eq_true.2 ⟨_, getD_mem hi, by rw [hk]; rfl⟩
      rw [e2]
      (repeat' (first | refine swp_seq [0, 1, 2, 3, 4, 7, 8, 9, 10, 11, 15, 21, 26, 31, 41] ?_ | refine st2 ?_ | (show CallQ ..; first | refine cQ (fun hcc => (by first | exact cn _)) ?_ | (refine lP ?_; refine lQ (fun hcc m => (by first | exact cn _)) ?_)) | (show Fct ..; refine fctI (fun hf => ?_)) | (show SWp _ _ _ (.cond _ _ _) _ _ _ _; first | refine cB (fun hc => ?_) (fun hc => ?_) | refine cU ?_ ?_)))
      exact DVR
    · (repeat' (first | refine swp_seq [0, 1, 2, 3, 4, 7, 8, 9, 10, 11, 15, 21, 26, 31, 41] ?_ | refine st2 ?_ | (show CallQ ..; first | refine cQ (fun hcc => (by first | exact cn _)) ?_ | (refine lP ?_; refine lQ (fun hcc m => (by first | exact cn _)) ?_)) | (show Fct ..; refine fctI (fun hf => ?_)) | (show SWp _ _ _ (.cond _ _ _) _ _ _ _; first | refine cB (fun hc => ?_) (fun hc => ?_) | refine cU ?_ ?_)))
      (refine lN [0, 8] ?_)
      exact ⟨_, by omega, i + 1, by omega, rfl, any_step h3 (by omega) (by rw [hk]; rfl), rfl, rfl⟩
  obtain rfl : i = n.links.length := by omega
  have hi3 : ¬ ((n.links.length : Int) < (n.links.length : Int)) := by omega
  (have := Nonempty.intro hi3)
  rw [List.take_length] at h3
  rw [h3, if_neg (by decide)]
  have F : FlowsIn n l lv s := ⟨no, co, hv2.1, hcb, hv2.2, hl, ha, known_no h3⟩
  have cA := fun m => rAll_f n l lv s m F
  generalize flowsL n l lv s = O at *
  (repeat' (first | refine swp_seq [0, 1, 2, 3, 4, 7, 8, 9, 10, 11, 15, 21, 26, 31, 41] ?_ | refine st2 ?_ | (show CallQ ..; first | refine cQ (fun hcc => (by first | exact cA _)) ?_ | (refine lP ?_; refine lQ (fun hcc m => (by first | exact cA _)) ?_)) | (show Fct ..; refine fctI (fun hf => ?_)) | (show SWp _ _ _ (.cond _ _ _) _ _ _ _; first | refine cB (fun hc => ?_) (fun hc => ?_) | refine cU ?_ ?_)))
  exact DVR
set_option maxRecDepth 20000 in
set_option maxHeartbeats 8000000 in
theorem rOn34_f (n : Net) (s : Sta) (lv : List Int) (m : Nat) (no : netOk n) (hl : lv.length ≤ 281474976710656) (so : staOk s) : DCalls Tryz.prog 34 [netD n, staD s, ints lv] (hget []) m (.tup [bools (onR n s lv).1, li (onR n s lv).2]) (hget []) := by
  have c1 := fun m => rRight_f n s m no so
  have hnn := no.1.1
  unfold onR
  cases hv : (netB n && staB n s) <;> simp only [hv] at c1
  · refine pureC (n := 27) (rs := [.tmp 6, .tmp 7]) (ts := [73, 3]) Tryz.func34 rfl (by decide) [] (by (exact SD)) ?_
    (repeat' (first | refine swp_seq [0, 1, 2, 3, 4, 6, 7, 11, 17, 21] ?_ | refine st2 ?_ | (show CallQ ..; first | refine cQ (fun hcc => (by first | exact c1 _)) ?_ | (refine lP ?_; refine lQ (fun hcc m => (by first | exact c1 _)) ?_)) | (show Fct ..; refine fctI (fun hf => ?_)) | (show SWp _ _ _ (.cond _ _ _) _ _ _ _; first | refine cB (fun hc => ?_) (fun hc => ?_) | refine cU ?_ ?_)))
    exact DVR
  simp only [Bool.and_eq_true] at hv
  rw [if_pos rfl]
  by_cases he : lv.length = n.nodes.length
  case neg =>
    have e1 : lvE n lv = 3 := by unfold lvE; rw [if_neg he]
    rw [e1]
    have he2 : ¬ (lv.length : Int) = (n.nodes.length : Int) := by omega
    (have := Nonempty.intro he2)
    refine pureC (n := 27) (rs := [.tmp 6, .tmp 7]) (ts := [73, 3]) Tryz.func34 rfl (by decide) [] (by (exact SD)) ?_
    (repeat' (first | refine swp_seq [0, 1, 2, 3, 4, 6, 7, 11, 17, 21] ?_ | refine st2 ?_ | (show CallQ ..; first | refine cQ (fun hcc => (by first | exact c1 _)) ?_ | (refine lP ?_; refine lQ (fun hcc m => (by first | exact c1 _)) ?_)) | (show Fct ..; refine fctI (fun hf => ?_)) | (show SWp _ _ _ (.cond _ _ _) _ _ _ _; first | refine cB (fun hc => ?_) (fun hc => ?_) | refine cU ?_ ?_)))
    exact DVR
  have he2 : (lv.length : Int) = (n.nodes.length : Int) := by omega
  (have := Nonempty.intro he2)
  have c3 := fun m => rLevelled_f n lv m no he
  have e1 : lvE n lv = if lvA n lv then 0 else 2 := by unfold lvE; rw [if_pos he]
  rw [e1]
  cases ha : lvA n lv <;> simp only [ha] at c3
  · refine pureC (n := 27) (rs := [.tmp 6, .tmp 7]) (ts := [73, 3]) Tryz.func34 rfl (by decide) [] (by (exact SD)) ?_
    (repeat' (first | refine swp_seq [0, 1, 2, 3, 4, 6, 7, 11, 17, 21] ?_ | refine st2 ?_ | (show CallQ ..; first | refine cQ (fun hcc => (by first | exact c1 _ | exact c3 _)) ?_ | (refine lP ?_; refine lQ (fun hcc m => (by first | exact c1 _ | exact c3 _)) ?_)) | (show Fct ..; refine fctI (fun hf => ?_)) | (show SWp _ _ _ (.cond _ _ _) _ _ _ _; first | refine cB (fun hc => ?_) (fun hc => ?_) | refine cU ?_ ?_)))
    exact DVR
  rw [if_pos rfl, if_pos rfl]
  have hlen := lensB_of (show lensB n s = true by have := hv.2; unfold staB at this; simp only [Bool.and_eq_true] at this; exact this.1.1)
  have cp := fun m => rPumps_f n s.on lv m no hv.1 hlen.2.2.2 he
  generalize pumpsL n lv s.on = O at *
  refine pureC (n := 27) (rs := [.tmp 6, .tmp 7]) (ts := [73, 3]) Tryz.func34 rfl (by decide) [] (by (exact SD)) ?_
  (repeat' (first | refine swp_seq [0, 1, 2, 3, 4, 6, 7, 11, 17, 21] ?_ | refine st2 ?_ | (show CallQ ..; first | refine cQ (fun hcc => (by first | exact c1 _ | exact c3 _ | exact cp _)) ?_ | (refine lP ?_; refine lQ (fun hcc m => (by first | exact c1 _ | exact c3 _ | exact cp _)) ?_)) | (show Fct ..; refine fctI (fun hf => ?_)) | (show SWp _ _ _ (.cond _ _ _) _ _ _ _; first | refine cB (fun hc => ?_) (fun hc => ?_) | refine cU ?_ ?_)))
  exact DVR
def fewB (s : Sta) : Bool := decide (s.vol.length ≤ 25) && decide (s.pon.length ≤ 25) && decide (s.set.length ≤ 25) && decide (s.on.length ≤ 25)
theorem nat_le (a b : Nat) : decide ((a : Int) ≤ (b : Int)) = decide (a ≤ b) := by rw [decide_eq_decide]; omega
theorem few_f (s : Sta) (m : Nat) (so : staOk s) : DCalls Tryz.prog 30 [staD s] (hget []) m (lb (fewB s)) (hget []) := by
  obtain ⟨⟨h1, _⟩, ⟨h2, _⟩, ⟨h3, _⟩, h4⟩ := so
  unfold fewB
  rw [← nat_le, ← nat_le, ← nat_le, ← nat_le]
  refine pureC (n := 25) (rs := [.tmp 2]) (ts := [4]) Tryz.func30 rfl (by decide) [] (by (exact SD)) ?_
  (repeat' (first | refine swp_seq [0, 1, 2] ?_ | refine st2 ?_ | (show Fct ..; refine fctI (fun hf => ?_)) | (show SWp _ _ _ (.cond _ _ _) _ _ _ _; first | refine cB (fun hc => ?_) (fun hc => ?_) | refine cU ?_ ?_)))
  exact DVR
set_option maxHeartbeats 4000000 in
theorem lawFlows_f (n : Net) (l : List Sect) (lv : List Int) (s : Sta) (m : Nat) (no : netOk n) (co : catOk l) (hl : lv.length ≤ 281474976710656) (so : staOk s) : DCalls Tryz.prog 9 [netD n, sectL l, ints lv, staD s] (hget []) m (lb true) (hget []) := by
  have c1 := fun m => large_f n l m no co
  have c2 := fun m => few_f s m so
  have c3 := fun m => Flows_f n l lv s m no co hl so
  have c4 := fun m => On_f n s lv m no hl so
  have c5 := fun m => rFlows_f n l lv s m no co so
  have c6 := fun m => rOn34_f n s lv m no hl so
  have h1 : (flowsR n l lv s).1.length ≤ 281474976710656 := by
    unfold flowsR
    split
    · split
      · split
        · exact Nat.zero_le _
        · show (flowsL n l lv s).length ≤ _
          unfold flowsL; rw [rng_len]; exact no.2.1
      · exact Nat.zero_le _
    · exact Nat.zero_le _
  have h2 : (onR n s lv).1.length ≤ 281474976710656 := by
    unfold onR
    split
    · split
      · show (pumpsL n lv s.on).length ≤ _
        unfold pumpsL; rw [rng_len]; exact no.2.1
      · exact Nat.zero_le _
    · exact Nat.zero_le _
  have c7 := fun m => eqlInt_f (flowsR n l lv s).1 (flowsR n l lv s).1 m h1 h1
  have c8 := fun m => eqlBool_f (onR n s lv).1 (onR n s lv).1 m h2 h2
  rw [decide_eq_true rfl] at c7 c8
  generalize (flowsR n l lv s).1 = a at *
  generalize (flowsR n l lv s).2 = b at *
  generalize (onR n s lv).1 = c at *
  generalize (onR n s lv).2 = d at *
  generalize largeB n l = g at *
  generalize fewB s = f at *
  by_cases h25 : (25 : Int) < (lv.length : Int)
  · (have := Nonempty.intro h25)
    refine pureC (n := 80) (rs := [.tmp 8]) (ts := [4]) Tryz.func9 rfl (by decide) [] (by (exact SD)) ?_
    cases g
    · (repeat' (first | refine swp_seq [0, 1, 2, 3, 4, 7, 8, 9, 10, 11, 12, 13, 14, 15, 16, 18, 31] ?_ | refine st2 ?_ | (show CallQ ..; first | refine cQ (fun hcc => (by first | exact awake_f _ | exact c1 _)) ?_ | (refine lP ?_; refine lQ (fun hcc m => (by first | exact awake_f _ | exact c1 _)) ?_)) | (show Fct ..; refine fctI (fun hf => ?_)) | (show SWp _ _ _ (.cond _ _ _) _ _ _ _; first | refine cB (fun hc => ?_) (fun hc => ?_) | refine cU ?_ ?_)))
      exact DVR
    · (repeat' (first | refine swp_seq [0, 1, 2, 3, 4, 7, 8, 9, 10, 11, 12, 13, 14, 15, 16, 18, 31] ?_ | refine st2 ?_ | (show CallQ ..; first | refine cQ (fun hcc => (by first | exact awake_f _ | exact c1 _)) ?_ | (refine lP ?_; refine lQ (fun hcc m => (by first | exact awake_f _ | exact c1 _)) ?_)) | (show Fct ..; refine fctI (fun hf => ?_)) | (show SWp _ _ _ (.cond _ _ _) _ _ _ _; first | refine cB (fun hc => ?_) (fun hc => ?_) | refine cU ?_ ?_)))
      exact DVR
  (have := Nonempty.intro h25)
  refine pureC (n := 80) (rs := [.tmp 8]) (ts := [4]) Tryz.func9 rfl (by decide) [] (by (exact SD)) ?_
  cases g
  · cases f
    · (repeat' (first | refine swp_seq [0, 1, 2, 3, 4, 7, 8, 9, 10, 11, 12, 13, 14, 15, 16, 18, 31] ?_ | refine st2 ?_ | (show CallQ ..; first | refine cQ (fun hcc => (by first | exact awake_f _ | exact c1 _ | exact c2 _)) ?_ | (refine lP ?_; refine lQ (fun hcc m => (by first | exact awake_f _ | exact c1 _ | exact c2 _)) ?_)) | (show Fct ..; refine fctI (fun hf => ?_)) | (show SWp _ _ _ (.cond _ _ _) _ _ _ _; first | refine cB (fun hc => ?_) (fun hc => ?_) | refine cU ?_ ?_)))
      exact DVR
    · (repeat' (first | refine swp_seq [0, 1, 2, 3, 4, 7, 8, 9, 10, 11, 12, 13, 14, 15, 16, 18, 31] ?_ | refine st2 ?_ | (show CallQ ..; first | refine cQ (fun hcc => (by first | exact awake_f _ | exact c1 _ | exact c2 _ | exact c3 _ | exact c4 _ | exact c5 _ | exact c6 _ | exact c7 _ | exact c8 _)) ?_ | (refine lP ?_; refine lQ (fun hcc m => (by first | exact awake_f _ | exact c1 _ | exact c2 _ | exact c3 _ | exact c4 _ | exact c5 _ | exact c6 _ | exact c7 _ | exact c8 _)) ?_)) | (show Fct ..; refine fctI (fun hf => ?_)) | (show SWp _ _ _ (.cond _ _ _) _ _ _ _; first | refine cB (fun hc => ?_) (fun hc => ?_) | refine cU ?_ ?_)))
      exact DVR
  · (repeat' (first | refine swp_seq [0, 1, 2, 3, 4, 7, 8, 9, 10, 11, 12, 13, 14, 15, 16, 18, 31] ?_ | refine st2 ?_ | (show CallQ ..; first | refine cQ (fun hcc => (by first | exact awake_f _ | exact c1 _)) ?_ | (refine lP ?_; refine lQ (fun hcc m => (by first | exact awake_f _ | exact c1 _)) ?_)) | (show Fct ..; refine fctI (fun hf => ?_)) | (show SWp _ _ _ (.cond _ _ _) _ _ _ _; first | refine cB (fun hc => ?_) (fun hc => ?_) | refine cU ?_ ?_)))
    exact DVR
set_option maxHeartbeats 1000000 in
theorem idxKnotC_f (g : FuncId) (t : TypeId) (cs : List PV) (p : Knot → Bool) (l : List (Knot)) (hl : l.length ≤ 281474976710656) (hg : ∀ x, x ∈ l → ∀ m, DCalls Tryz.prog g [knotD x, .ptr 0 0] (hget [(0, .blk t (cs.map .p))]) m (lb (p x)) (hget [(0, .blk t (cs.map .p))])) :
    DCalls Tryz.prog 171 [knotL l, .clo g [.ptr 0 0]] (hget [(0, .blk t (cs.map .p))]) 1 (li (idxI p l)) (hget [(0, .blk t (cs.map .p))]) := by
  refine contract (n := 19) (rs := [.tmp 4]) (ts := [3]) Tryz.func171 rfl (by decide) 1 1 [] [] [] (li (idxI p l)) [(0, .blk t (cs.map .p))] (by (exact SD)) (by (exact SD)) ?_
  (repeat' (first | refine swp_seq [0, 1, 4, 5, 7, 8, 9, 16] ?_ | refine st2 ?_ | (show Fct ..; refine fctI (fun hf => ?_)) | (show SWp _ _ _ (.cond _ _ _) _ _ _ _; first | refine cB (fun hc => ?_) (fun hc => ?_) | refine cU ?_ ?_)))
  refine loop_swp [0, 1, 7, 8] [0] 1 (fun q A H => ∃ i : Nat, i ≤ l.length ∧ q = l.length - i ∧ (l.take i).any p = false ∧ A = [(0, knotL l), (1, .clo g [.ptr 0 0]), (7, li l.length), (8, li i)] ∧ H = [(0, .blk t (cs.map .p))]) (by omega) ?_ ?_ ?_
  · rintro q A H ⟨i, h1, h2, h3, rfl, rfl⟩
    exact ⟨by (exact SD), by (exact SD)⟩
  · refine ⟨_, 0, by omega, rfl, rfl, ?_, ?_⟩
    · exact DVR
    · exact DVR
  · rintro q A H ⟨i, h1, h2, h3, rfl, rfl⟩
    (repeat' (first | refine swp_seq [0, 1, 4, 5, 7, 8, 9, 16] ?_ | refine st2 ?_ | (show CallQ ..; first | refine cQ (fun hcc => (hg _ (getD_mem SC) _)) ?_ | (refine lP ?_; refine lQ (fun hcc m => (hg _ (getD_mem SC) _)) ?_)) | (show Fct ..; refine fctI (fun hf => ?_)) | (show SWp _ _ _ (.cond _ _ _) _ _ _ _; first | refine cB (fun hc => ?_) (fun hc => ?_) | refine cU ?_ ?_)))
    · (refine DVQ ?_)
      rw [idxI_hit h3 (by omega) (by assumption)]
    · (refine lN [0] ?_)
      exact ⟨_, by omega, i + 1, by omega, rfl, any_step h3 (by omega) (by assumption), rfl, rfl⟩
    · (refine DVQ ?_)
      rw [List.take_of_length_le (by omega)] at h3
      rw [idxI_none h3]
def mostIx (t : List Knot) (y : Int) : Int := idxI (fun a => decide (y < a.y)) t
def mostT (t : List Knot) (y : Int) : Int :=
  if mostIx t y = -1 then (t.getD (t.length - 1) default).x
  else (t.getD ((mostIx t y).toNat - 1) default).x + (y - (t.getD ((mostIx t y).toNat - 1) default).y) * ((t.getD (mostIx t y).toNat default).x - (t.getD ((mostIx t y).toNat - 1) default).x) / ((t.getD (mostIx t y).toNat default).y - (t.getD ((mostIx t y).toNat - 1) default).y)
theorem most1_f (k : Knot) (y : Int) (m : Nat) : DCalls Tryz.prog 172 [knotD k, .ptr 0 0] (hget [(0, .blk 3 ((intC y).map .p))]) m (lb (decide (y < k.y))) (hget [(0, .blk 3 ((intC y).map .p))]) := by
  refine contract (n := 8) (rs := [.tmp 3]) (ts := [4]) Tryz.func172 rfl (by decide) 1 1 [] [] [] (lb (decide (y < k.y))) [(0, .blk 3 ((intC y).map .p))] (by (exact SD)) (by (exact SD)) ?_
  (repeat' (first | refine swp_seq [0, 1, 2, 3] ?_ | refine st2 ?_ | (show Fct ..; refine fctI (fun hf => ?_)) | (show SWp _ _ _ (.cond _ _ _) _ _ _ _; first | refine cB (fun hc => ?_) (fun hc => ?_) | refine cU ?_ ?_)))
  exact DVR
theorem idxI_spec {α : Type} [Inhabited α] (p : α → Bool) (l : List α) : (idxI p l = -1 ∧ ∀ j, j < l.length → p (l.getD j default) = false) ∨ ∃ k : Nat, idxI p l = (k : Int) ∧ k < l.length ∧ p (l.getD k default) = true ∧ ∀ j, j < k → p (l.getD j default) = false := by
  have hd : ∀ j (hj : j < l.length), l.getD j default = l[j] := fun j hj => by rw [List.getD_eq_getElem?_getD, List.getElem?_eq_getElem hj]; rfl
  unfold idxI
  cases hf : l.findIdx? p with
  | none =>
    refine .inl ⟨rfl, fun j hj => ?_⟩
    rw [hd j hj]
    have := List.findIdx?_eq_none_iff.1 hf l[j] (List.getElem_mem hj)
    simpa using this
  | some q =>
    obtain ⟨hq, hp, hm⟩ := List.findIdx?_eq_some_iff_getElem.1 hf
    refine .inr ⟨q, rfl, hq, by rw [hd q hq]; exact hp, fun j hj => ?_⟩
    rw [hd j (by omega)]
    have := hm j hj
    simpa using this
theorem most_at {t : List Knot} {y : Int} (h : tabB t = true) (h0 : (t.getD 0 default).y ≤ y) : mostIx t y = -1 ∨ ∃ k : Nat, mostIx t y = ((k + 1 : Nat) : Int) ∧ k + 1 < t.length ∧ (t.getD k default).y ≤ y ∧ y < (t.getD (k + 1) default).y := by
  rcases idxI_spec (fun a : Knot => decide (y < a.y)) t with ⟨e, _⟩ | ⟨k, e, hk, hp, hm⟩
  · exact .inl e
  · have hk0 : k ≠ 0 := fun z => by subst z; have := of_decide_eq_true hp; omega
    obtain ⟨j, rfl⟩ : ∃ j, k = j + 1 := ⟨k - 1, by omega⟩
    have h1 := of_decide_eq_true hp
    have h2 := of_decide_eq_false (hm j (by omega))
    exact .inr ⟨j, e, hk, by omega, h1⟩
theorem mostT_in {t : List Knot} {y : Int} (h : tabB t = true) (h0 : (t.getD 0 default).y ≤ y) : (t.getD 0 default).x ≤ mostT t y ∧ mostT t y ≤ (t.getD (t.length - 1) default).x := by
  have hl := (tab_in h).1
  have hm := tab_mono2 h
  unfold mostT
  rcases most_at h h0 with e | ⟨k, e, hk, h1, h2⟩
  · rw [if_pos e]
    exact ⟨(hm (t.length - 1) 0 (Nat.zero_le _) (by omega)).1, Int.le_refl _⟩
  · rw [if_neg (by omega), e, Int.toNat_natCast, Nat.add_sub_cancel]
    have a1 := (hm (k + 1) k (by omega) hk).1
    have a2 := (hm k 0 (Nat.zero_le _) (by omega)).1
    have a3 := (hm (t.length - 1) (k + 1) (by omega) (by omega)).1
    generalize t.getD k default = a at *
    generalize t.getD (k + 1) default = b at *
    have hD : 0 < b.y - a.y := by omega
    have c1 : 0 ≤ (y - a.y) * (b.x - a.x) / (b.y - a.y) := Int.ediv_nonneg (Int.mul_nonneg (by omega) (by omega)) (by omega)
    have c2 : (y - a.y) * (b.x - a.x) / (b.y - a.y) ≤ b.x - a.x := by
      have := Int.mul_le_mul_of_nonneg_right (show y - a.y ≤ b.y - a.y by omega) (show 0 ≤ b.x - a.x by omega)
      calc (y - a.y) * (b.x - a.x) / (b.y - a.y) ≤ (b.y - a.y) * (b.x - a.x) / (b.y - a.y) := Int.ediv_le_ediv hD this
        _ = b.x - a.x := Int.mul_ediv_cancel_left _ (by omega)
    omega
set_option maxHeartbeats 4000000 in
theorem tmost_f (t : List Knot) (y : Int) (m : Nat) (h : tabB t = true) (h0 : (t.getD 0 default).y ≤ y) (hy : 0 ≤ y ∧ y ≤ 1125899906842624) : DCalls Tryz.prog 130 [knotL t, li y] (hget []) m (.tup [li (mostT t y), li 0]) (hget []) := by
  have hin := tab_in h
  have ct := fun m => tab_f t m (by omega)
  rw [h] at ct
  have ci := idxKnotC_f 172 3 (intC y) (fun a => decide (y < a.y)) t (by omega) (fun x _ m => most1_f x y m)
  change DCalls _ _ _ _ _ (li (mostIx t y)) _ at ci
  unfold mostT
  rcases most_at h h0 with e | ⟨k, e, hk, h1, h2⟩
  · rw [e] at ci ⊢
    rw [if_pos rfl]
    have hl : t.length - 1 < t.length := by omega
    have hl2 : (t.length : Int) - 1 = ((t.length - 1 : Nat) : Int) := by omega
    (have := Nonempty.intro hl)
    refine pureC (n := 63) (rs := [.tmp 4, .tmp 5]) (ts := [3, 30]) Tryz.func130 rfl (by decide) [] (by (exact SD)) ?_
    (repeat' (first | refine swp_seq [0, 1, 3, 4, 5, 6, 7, 8, 9, 11, 14, 18, 19, 28] ?_ | refine st2 ?_ | (show CallQ ..; first | refine cQ (fun hcc => (by first | exact ct _)) ?_ | (refine lP ?_; refine lQ (fun hcc m => (by first | exact ct _)) ?_)) | (show XCallQ ..; first | refine xQ (fun hcc => (by first | exact ct _)) ?_ | (refine xlP ?_; refine xlQ (fun hcc m => (by first | exact ct _)) ?_)) | (show Fct ..; refine fctI (fun hf => ?_)) | (show SWp _ _ _ (.cond _ _ _) _ _ _ _; first | refine cB (fun hc => ?_) (fun hc => ?_) | refine cU ?_ ?_)))
    (refine cQT [0] (fun hcc => ci) ?_)
    (repeat' (first | refine swp_seq [0, 1, 3, 4, 5, 6, 7, 8, 9, 11, 14, 18, 19, 28] ?_ | refine st2 ?_ | (show Fct ..; refine fctI (fun hf => ?_)) | (show SWp _ _ _ (.cond _ _ _) _ _ _ _; first | refine cB (fun hc => ?_) (fun hc => ?_) | refine cU ?_ ?_)))
    exact DVR
  · rw [if_neg (by omega), e, Int.toNat_natCast, Nat.add_sub_cancel]
    rw [e] at ci
    have b1 := hin.2.2.1 k (by omega)
    have b2 := hin.2.2.1 (k + 1) hk
    have a1 := (hin.2.2.2 k hk)
    obtain ⟨N, hN⟩ : ∃ N : Nat, y - (t.getD k default).y = (N : Int) := ⟨(y - (t.getD k default).y).toNat, by omega⟩
    obtain ⟨K, hK⟩ : ∃ K : Nat, (t.getD (k + 1) default).x - (t.getD k default).x = (K : Int) := ⟨((t.getD (k + 1) default).x - (t.getD k default).x).toNat, by omega⟩
    obtain ⟨D, hD⟩ : ∃ D : Nat, (t.getD (k + 1) default).y - (t.getD k default).y = (D : Int) := ⟨((t.getD (k + 1) default).y - (t.getD k default).y).toNat, by omega⟩
    have hQ : N * K / D ≤ K := by
      have := Nat.div_le_div_right (c := D) (Nat.mul_le_mul_right K (show N ≤ D by omega))
      rw [Nat.mul_div_cancel_left _ (show 0 < D by omega)] at this
      exact this
    have cs := fun m => scale_f N K D (N * K / D) (N * K % D) m (by omega) (by omega) (by omega) (Nat.div_add_mod (N * K) D).symm (Nat.mod_lt _ (by omega)) (by omega)
    have eq : (y - (t.getD k default).y) * ((t.getD (k + 1) default).x - (t.getD k default).x) / ((t.getD (k + 1) default).y - (t.getD k default).y) = ((N * K / D : Nat) : Int) := by
      rw [hN, hK, hD, Int.natCast_ediv, Int.natCast_mul]
    rw [eq]
    rw [← hN, ← hK, ← hD] at cs
    generalize qtR (N * K / D) (N * K % D) true = Z at *
    generalize N * K / D = Q at *
    have hk2 : k < t.length := by omega
    (have := Nonempty.intro hk)
    (have := Nonempty.intro hk2)
    have hk3 : ¬ (((k + 1 : Nat) : Int) = -1) := by omega
    have hk4 : ¬ (((k + 1 : Nat) : Int) = 0) := by omega
    have hk5 : ((k + 1 : Nat) : Int) = (k : Int) + 1 := by omega
    rw [hk5] at hk3 hk4 ci
    (have := Nonempty.intro hk3)
    (have := Nonempty.intro hk4)
    clear eq hD
    refine pureC (n := 63) (rs := [.tmp 4, .tmp 5]) (ts := [3, 30]) Tryz.func130 rfl (by decide) [] (by (exact SD)) ?_
    (repeat' (first | refine swp_seq [0, 1, 3, 4, 5, 6, 7, 8, 9, 11, 14, 18, 19, 28] ?_ | refine st2 ?_ | (show CallQ ..; first | refine cQ (fun hcc => (by first | exact ct _)) ?_ | (refine lP ?_; refine lQ (fun hcc m => (by first | exact ct _)) ?_)) | (show XCallQ ..; first | refine xQ (fun hcc => (by first | exact ct _)) ?_ | (refine xlP ?_; refine xlQ (fun hcc m => (by first | exact ct _)) ?_)) | (show Fct ..; refine fctI (fun hf => ?_)) | (show SWp _ _ _ (.cond _ _ _) _ _ _ _; first | refine cB (fun hc => ?_) (fun hc => ?_) | refine cU ?_ ?_)))
    (refine cQT [0] (fun hcc => ci) ?_)
    (repeat' (first | refine swp_seq [0, 1, 3, 4, 5, 6, 7, 8, 9, 11, 14, 18, 19, 28] ?_ | (show SWp _ _ _ (.region _ _ true) _ _ _ _; refine xG mixed [192, 200] ?_) | refine st2 ?_ | (show CallQ ..; first | refine cQ (fun hcc => (by first | exact cs _)) ?_ | (refine lP ?_; refine lQ (fun hcc m => (by first | exact cs _)) ?_)) | (show XCallQ ..; first | refine xQ (fun hcc => (by first | exact cs _)) ?_ | (refine xlP ?_; refine xlQ (fun hcc m => (by first | exact cs _)) ?_)) | (show Fct ..; refine fctI (fun hf => ?_)) | (show SWp _ _ _ (.cond _ _ _) _ _ _ _; first | refine cB (fun hc => ?_) (fun hc => ?_) | refine cU ?_ ?_)))
    exact DVR
def levelI (x : Node) (v : Int) : Int := if x.kind = 3 then x.inv else x.inv + mostT x.shape v
theorem nodeR_tab {x : Node} (h : nodeR x = true) (k : ¬ x.kind = 3) : tabB x.shape = true ∧ (x.shape.getD 0 default).x = 0 ∧ (x.shape.getD 0 default).y = 0 ∧ (x.shape.getD (x.shape.length - 1) default).x = x.gnd - x.inv ∧ (x.shape.getD (x.shape.length - 1) default).y ≤ 1125899906842624 := by
  unfold nodeR at h
  simp only [Bool.and_eq_true] at h
  have h2 := h.2
  unfold kindB at h2
  split at h2
  · simp only [Bool.and_eq_true] at h2
    have h3 := h2.1.1.2
    unfold shapeB at h3
    simp only [Bool.and_eq_true, decide_eq_true_eq] at h3
    exact ⟨h3.1.1.1.1, h3.1.1.1.2, h3.1.1.2, h3.1.2, h3.2⟩
  · cases h2
theorem levelI_in {x : Node} {v : Int} (h : nodeR x = true) (hv : 0 ≤ v) : x.inv ≤ levelI x v ∧ levelI x v ≤ x.gnd := by
  unfold levelI
  by_cases k : x.kind = 3
  · rw [if_pos k]; exact ⟨Int.le_refl _, (node_lev h).2.2⟩
  · rw [if_neg k]
    have ht := nodeR_tab h k
    have := mostT_in ht.1 (y := v) (by omega)
    omega
theorem capN_le {x : Node} (h : nodeR x = true) : capN x ≤ 1125899906842624 := by
  unfold capN
  by_cases k : x.kind = 3
  · rw [if_pos k]; decide
  · rw [if_neg k]; exact (nodeR_tab h k).2.2.2.2
set_option maxHeartbeats 4000000 in
theorem slevel_f (x : Node) (v : Int) (m : Nat) (h : nodeR x = true) (hv : 0 ≤ v ∧ v ≤ 1125899906842624) : DCalls Tryz.prog 84 [nodeD x, li v] (hget []) m (.tup [li (levelI x v), li 0]) (hget []) := by
  have hl := levelI_in h hv.1
  have a1 := lev_in (node_lev h).1
  have a2 := lev_in (node_lev h).2.1
  unfold levelI at hl ⊢
  by_cases k : x.kind = 3
  · rw [if_pos k]
    (have := Nonempty.intro k)
    refine pureC (n := 25) (rs := [.tmp 4, .tmp 5]) (ts := [3, 30]) Tryz.func84 rfl (by decide) [] (by (exact SD)) ?_
    (repeat' (first | refine swp_seq [0, 1, 2, 4, 5, 6, 7, 10] ?_ | refine st2 ?_ | (show Fct ..; refine fctI (fun hf => ?_)) | (show SWp _ _ _ (.cond _ _ _) _ _ _ _; first | refine cB (fun hc => ?_) (fun hc => ?_) | refine cU ?_ ?_)))
    exact DVR
  · rw [if_neg k] at hl ⊢
    (have := Nonempty.intro k)
    have ht := nodeR_tab h k
    have ct := fun m => tmost_f x.shape v m ht.1 (by omega) hv
    generalize mostT x.shape v = q at *
    refine pureC (n := 25) (rs := [.tmp 4, .tmp 5]) (ts := [3, 30]) Tryz.func84 rfl (by decide) [] (by (exact SD)) ?_
    (repeat' (first | refine swp_seq [0, 1, 2, 4, 5, 6, 7, 10] ?_ | refine st2 ?_ | (show CallQ ..; first | refine cQ (fun hcc => (by first | exact ct _)) ?_ | (refine lP ?_; refine lQ (fun hcc m => (by first | exact ct _)) ?_)) | (show Fct ..; refine fctI (fun hf => ?_)) | (show SWp _ _ _ (.cond _ _ _) _ _ _ _; first | refine cB (fun hc => ?_) (fun hc => ?_) | refine cU ?_ ?_)))
    exact DVR
theorem levels1_f (x : Node) (v : Int) (m : Nat) (hv : 0 ≤ v ∧ v ≤ 1125899906842624) : DCalls Tryz.prog 82 [nodeD x, li v] (hget []) m (lb true) (hget []) := by
  have c1 := fun m => sholds_f v m
  rw [show volB v = true by unfold volB; simp; exact hv] at c1
  refine pureC (n := 7) (rs := [.tmp 4]) (ts := [4]) Tryz.func82 rfl (by decide) [] (by (exact SD)) ?_
  (repeat' (first | refine swp_seq [0, 1, 4] ?_ | refine st2 ?_ | (show CallQ ..; first | refine cQ (fun hcc => (by first | exact c1 _)) ?_ | (refine lP ?_; refine lQ (fun hcc m => (by first | exact c1 _)) ?_)) | (show Fct ..; refine fctI (fun hf => ?_)) | (show SWp _ _ _ (.cond _ _ _) _ _ _ _; first | refine cB (fun hc => ?_) (fun hc => ?_) | refine cU ?_ ?_)))
  exact DVR
def levelsL (n : Net) (vol : List Int) : List Int := (List.range n.nodes.length).map fun i => levelI (n.nodes.getD i default) (vol.getD i default)
set_option maxRecDepth 20000 in
set_option maxHeartbeats 8000000 in
theorem each_f (n : Net) (vol : List Int) (m : Nat) (no : netOk n) (nb : netB n = true) (hl : vol.length = n.nodes.length) (hv : ∀ i, i < n.nodes.length → 0 ≤ vol.getD i default ∧ vol.getD i default ≤ 1125899906842624) :
    DCalls Tryz.prog 81 [netD n, ints vol, .clo 82 [], .clo 84 []] (hget []) m (.tup [ints (levelsL n vol), li 0]) (hget []) := by
  have c1 := fun m => netValid_f n m no
  rw [nb] at c1
  have hnn := (netB_len nb).1
  have he : (vol.length : Int) = (n.nodes.length : Int) := by omega
  (have := Nonempty.intro he)
  have hfl : (levelsL n vol).length = n.nodes.length := rng_len _ _
  have hfa : ∀ i, i < n.nodes.length → (levelsL n vol).getD i default = levelI (n.nodes.getD i default) (vol.getD i default) := fun i hi => rng_at hi
  generalize levelsL n vol = O at *
  refine pureC (n := 72) (rs := [.tmp 8, .tmp 9]) (ts := [27, 30]) Tryz.func81 rfl (by decide) [49] (by (exact SD)) ?_
  (repeat' (first | refine swp_seq [0, 1, 2, 3, 4, 8, 9, 10, 11, 12, 13, 14, 15, 16, 17, 21, 29, 30, 31, 32, 43, 46, 47, 48, 49, 64] ?_ | refine st2 ?_ | (show CallQ ..; first | refine cQ (fun hcc => (by first | exact c1 _)) ?_ | (refine lP ?_; refine lQ (fun hcc m => (by first | exact c1 _)) ?_)) | (show XCallQ ..; first | refine xQ (fun hcc => (by first | exact c1 _)) ?_ | (refine xlP ?_; refine xlQ (fun hcc m => (by first | exact c1 _)) ?_)) | (show Fct ..; refine fctI (fun hf => ?_)) | (show SWp _ _ _ (.cond _ _ _) _ _ _ _; first | refine cB (fun hc => ?_) (fun hc => ?_) | refine cU ?_ ?_)))
  refine loop_swp [1, 2, 3, 4, 29, 30, 31] [0] 1 (fun z A H => ∃ i : Nat, i ≤ n.nodes.length ∧ z = n.nodes.length - i ∧ A = [(1, ints vol), (2, .clo 82 []), (3, .clo 84 []), (4, .ptr 0 0), (29, nodeL n.nodes), (30, li n.nodes.length), (31, li i)] ∧ H = [(0, .blk 25 (netC n))]) (by omega) ?_ ?_ ?_
  · rintro z A H ⟨i, h1, h2, rfl, rfl⟩
    exact ⟨by (exact SD), by (exact SD)⟩
  · refine ⟨_, 0, by omega, rfl, ?_, ?_⟩
    · exact DVR
    · exact DVR
  rintro z A H ⟨i, h1, h2, rfl, rfl⟩
  by_cases hi : i < n.nodes.length
  · have hi3 : (i : Int) < (n.nodes.length : Int) := by omega
    have hi4 : i < vol.length := by omega
    have cl := fun m => levels1_f (n.nodes.getD i default) (vol.getD i default) m (hv i hi)
    (have := Nonempty.intro hi)
    (have := Nonempty.intro hi3)
    (have := Nonempty.intro hi4)
    (repeat' (first | refine swp_seq [0, 1, 2, 3, 4, 8, 9, 10, 11, 12, 13, 14, 15, 16, 17, 21, 29, 30, 31, 32, 43, 46, 47, 48, 49, 64] ?_ | refine st2 ?_ | (show CallQ ..; first | refine cQ (fun hcc => (by first | exact cl _)) ?_ | (refine lP ?_; refine lQ (fun hcc m => (by first | exact cl _)) ?_)) | (show XCallQ ..; first | refine xQ (fun hcc => (by first | exact cl _)) ?_ | (refine xlP ?_; refine xlQ (fun hcc m => (by first | exact cl _)) ?_)) | (show Fct ..; refine fctI (fun hf => ?_)) | (show SWp _ _ _ (.cond _ _ _) _ _ _ _; first | refine cB (fun hc => ?_) (fun hc => ?_) | refine cU ?_ ?_)))
    (refine lN [0] ?_)
    exact ⟨_, by omega, i + 1, by omega, rfl, rfl, rfl⟩
  obtain rfl : i = n.nodes.length := by omega
  have hi3 : ¬ ((n.nodes.length : Int) < (n.nodes.length : Int)) := by omega
  (have := Nonempty.intro hi3)
  (repeat' (first | refine swp_seq [0, 1, 2, 3, 4, 8, 9, 10, 11, 12, 13, 14, 15, 16, 17, 21, 29, 30, 31, 32, 43, 46, 47, 48, 49, 64] ?_ | refine st2 ?_ | (show Fct ..; refine fctI (fun hf => ?_)) | (show SWp _ _ _ (.cond _ _ _) _ _ _ _; first | refine cB (fun hc => ?_) (fun hc => ?_) | refine cU ?_ ?_)))
  (refine sN 12 3 1 ?_)
  refine loop_swp [1, 3, 4, 12, 46, 47, 48] [0, 49] 50 (fun z A H => ∃ i : Nat, i ≤ n.nodes.length ∧ z = n.nodes.length - i ∧ A = [(1, ints vol), (3, .clo 84 []), (4, .ptr 0 0), (12, .gl 49), (46, nodeL n.nodes), (47, li n.nodes.length), (48, li i)] ∧ H = [(0, .blk 25 (netC n)), (49, inLt (O.take i))]) (by omega) ?_ ?_ ?_
  · rintro z A H ⟨i, h1, h2, rfl, rfl⟩
    exact ⟨by (exact SD), by (exact SD)⟩
  · refine ⟨_, 0, by omega, rfl, ?_, ?_⟩
    · exact DVR
    · exact DVR
  rintro z A H ⟨i, h1, h2, rfl, rfl⟩
  by_cases hi : i < n.nodes.length
  · have hi4 : i < vol.length := by omega
    have hi5 : (i : Int) < (n.nodes.length : Int) := by omega
    have hnx := take_sn (l := O) (i := i) (by omega)
    rw [hfa i hi] at hnx
    have hti : (O.take i).length = i := by rw [List.length_take]; omega
    have cl := fun m => slevel_f (n.nodes.getD i default) (vol.getD i default) m (netB_node nb hi) (hv i hi)
    generalize levelI (n.nodes.getD i default) (vol.getD i default) = q at *
    generalize O.take i = X at *
    (have := Nonempty.intro hi)
    (have := Nonempty.intro hi4)
    (have := Nonempty.intro hi5)
    clear hfa hv
    (repeat' (first | refine swp_seq [0, 1, 2, 3, 4, 8, 9, 10, 11, 12, 13, 14, 15, 16, 17, 21, 29, 30, 31, 32, 43, 46, 47, 48, 49, 64] ?_ | refine st2 ?_ | (show CallQ ..; first | refine cQ (fun hcc => (by first | exact cl _)) ?_ | (refine lP ?_; refine lQ (fun hcc m => (by first | exact cl _)) ?_)) | (show XCallQ ..; first | refine xQ (fun hcc => (by first | exact cl _)) ?_ | (refine xlP ?_; refine xlQ (fun hcc m => (by first | exact cl _)) ?_)) | (show Fct ..; refine fctI (fun hf => ?_)) | (show SWp _ _ _ (.cond _ _ _) _ _ _ _; first | refine cB (fun hc => ?_) (fun hc => ?_) | refine cU ?_ ?_)))
    rw [← hnx]
    (refine lN [0, 49] ?_)
    exact ⟨_, by omega, i + 1, by omega, rfl, rfl, rfl⟩
  obtain rfl : i = n.nodes.length := by omega
  rw [show O.take n.nodes.length = O by rw [← hfl, List.take_length]]
  (repeat' (first | refine swp_seq [0, 1, 2, 3, 4, 8, 9, 10, 11, 12, 13, 14, 15, 16, 17, 21, 29, 30, 31, 32, 43, 46, 47, 48, 49, 64] ?_ | refine st2 ?_ | (show Fct ..; refine fctI (fun hf => ?_)) | (show SWp _ _ _ (.cond _ _ _) _ _ _ _; first | refine cB (fun hc => ?_) (fun hc => ?_) | refine cU ?_ ?_)))
  exact DVR
theorem Levels_f (n : Net) (vol : List Int) (m : Nat) (no : netOk n) (nb : netB n = true) (hl : vol.length = n.nodes.length) (hv : ∀ i, i < n.nodes.length → 0 ≤ vol.getD i default ∧ vol.getD i default ≤ 1125899906842624) :
    DCalls Tryz.prog 38 [netD n, ints vol] (hget []) m (.tup [ints (levelsL n vol), li 0]) (hget []) := by
  have ce := fun m => each_f n vol m no nb hl hv
  generalize levelsL n vol = O at *
  refine pureC (n := 11) (rs := [.tmp 4, .tmp 5]) (ts := [27, 30]) Tryz.func38 rfl (by decide) [] (by (exact SD)) ?_
  (repeat' (first | refine swp_seq [0, 1, 2, 4, 5] ?_ | refine st2 ?_ | (show CallQ ..; first | refine cQ (fun hcc => (by first | exact ce _)) ?_ | (refine lP ?_; refine lQ (fun hcc m => (by first | exact ce _)) ?_)) | (show Fct ..; refine fctI (fun hf => ?_)) | (show SWp _ _ _ (.cond _ _ _) _ _ _ _; first | refine cB (fun hc => ?_) (fun hc => ?_) | refine cU ?_ ?_)))
  exact DVR
theorem flow_at {n : Net} {l : List Sect} {lv : List Int} {s : Sta} (F : FlowsIn n l lv s) {i : Nat} (hi : i < n.links.length) : flowR n l i lv (s.set.getD i default) (s.on.getD i default) = (flowAt n l lv s i, 0) := by
  have h0 : lvE n lv = 0 := by unfold lvE; rw [if_pos F.ll, if_pos F.la]
  have hs := (okSL_in F.sb hi).1
  have hk : linkedB n i (s.set.getD i default) = true := by
    unfold linkedB btwB
    rw [decide_eq_true (show (0 : Int) ≤ (i : Int) by omega), decide_eq_true (show (i : Int) < n.links.length by omega), decide_eq_true hs.1, decide_eq_true hs.2]; rfl
  unfold flowR
  simp only [Int.toNat_natCast]
  rw [F.nb, F.cb, if_pos (show (true && true) = true from rfl), if_pos h0, if_pos hk, if_pos (F.kn i hi)]
  rfl
theorem okSN_in {n : Net} {s : Sta} (h : staB n s = true) {i : Nat} (hi : i < n.nodes.length) : 0 ≤ s.vol.getD i default ∧ s.vol.getD i default ≤ capN (n.nodes.getD i default) := by
  unfold staB at h
  simp only [Bool.and_eq_true, List.all_eq_true, List.mem_range] at h
  have := h.1.2 i hi
  unfold okSN at this
  simp only [Bool.and_eq_true] at this
  exact btwB_in this.1.1
theorem pump_by {x : Link} {b o : Bool} {v : Int} (h : b = (decide (x.kind = 4) && (decide (x.up ≤ v) || (o && decide (x.down ≤ v))))) : (¬ x.kind = 4 → b = false) ∧ (x.kind = 4 → x.up ≤ v → b = true) ∧ (x.kind = 4 → v < x.up → v < x.down → b = false) ∧ (x.kind = 4 → v < x.up → x.down ≤ v → b = o) := by
  subst h
  refine ⟨fun k => ?_, fun k u => ?_, fun k u d => ?_, fun k u d => ?_⟩
  · rw [decide_eq_false k]; rfl
  · rw [decide_eq_true k, decide_eq_true u]; rfl
  · rw [decide_eq_true k, decide_eq_false (show ¬ x.up ≤ v by omega), decide_eq_false (show ¬ x.down ≤ v by omega), Bool.and_false]; rfl
  · rw [decide_eq_true k, decide_eq_false (show ¬ x.up ≤ v by omega), decide_eq_true d, Bool.and_true]; rfl
set_option maxRecDepth 20000 in
set_option maxHeartbeats 16000000 in
theorem lawAgree_f (n : Net) (l : List Sect) (s : Sta) (m : Nat) (no : netOk n) (co : catOk l) (so : staOk s) : DCalls Tryz.prog 10 [netD n, sectL l, staD s] (hget []) m (lb true) (hget []) := by
  have c1 := fun m => ready_f n l m no co
  have c2 := fun m => few_f s m so
  have hll := no.2.1
  refine pureC (n := 179) (rs := [.tmp 6]) (ts := [4]) Tryz.func10 rfl (by decide) [] (by (exact SD)) ?_
  cases hr : readyB n l <;> simp only [hr] at c1
  · (repeat' (first | refine swp_seq [0, 1, 2, 3, 5, 6, 7, 8, 9, 10, 11, 12, 13, 14, 15, 16, 17, 20, 35, 91, 93, 94, 95, 96, 127, 134, 141, 142, 154, 155, 166, 167] ?_ | refine st2 ?_ | (show CallQ ..; first | refine cQ (fun hcc => (by first | exact awake_f _ | exact c1 _)) ?_ | (refine lP ?_; refine lQ (fun hcc m => (by first | exact awake_f _ | exact c1 _)) ?_)) | (show XCallQ ..; first | refine xQ (fun hcc => (by first | exact awake_f _ | exact c1 _)) ?_ | (refine xlP ?_; refine xlQ (fun hcc m => (by first | exact awake_f _ | exact c1 _)) ?_)) | (show Fct ..; refine fctI (fun hf => ?_)) | (show SWp _ _ _ (.cond _ _ _) _ _ _ _; first | refine cB (fun hc => ?_) (fun hc => ?_) | refine cU ?_ ?_)))
    exact DVR
  cases hfw : fewB s <;> simp only [hfw] at c2
  · (repeat' (first | refine swp_seq [0, 1, 2, 3, 5, 6, 7, 8, 9, 10, 11, 12, 13, 14, 15, 16, 17, 20, 35, 91, 93, 94, 95, 96, 127, 134, 141, 142, 154, 155, 166, 167] ?_ | refine st2 ?_ | (show CallQ ..; first | refine cQ (fun hcc => (by first | exact awake_f _ | exact c1 _ | exact c2 _)) ?_ | (refine lP ?_; refine lQ (fun hcc m => (by first | exact awake_f _ | exact c1 _ | exact c2 _)) ?_)) | (show XCallQ ..; first | refine xQ (fun hcc => (by first | exact awake_f _ | exact c1 _ | exact c2 _)) ?_ | (refine xlP ?_; refine xlQ (fun hcc m => (by first | exact awake_f _ | exact c1 _ | exact c2 _)) ?_)) | (show Fct ..; refine fctI (fun hf => ?_)) | (show SWp _ _ _ (.cond _ _ _) _ _ _ _; first | refine cB (fun hc => ?_) (fun hc => ?_) | refine cU ?_ ?_)))
    exact DVR
  have R := readyB_in no co hr
  have c3 := fun m => rStaValid_f n s m R.nb so
  cases hsb : staB n s <;> simp only [hsb] at c3
  · (repeat' (first | refine swp_seq [0, 1, 2, 3, 5, 6, 7, 8, 9, 10, 11, 12, 13, 14, 15, 16, 17, 20, 35, 91, 93, 94, 95, 96, 127, 134, 141, 142, 154, 155, 166, 167] ?_ | refine st2 ?_ | (show CallQ ..; first | refine cQ (fun hcc => (by first | exact awake_f _ | exact c1 _ | exact c2 _ | exact c3 _)) ?_ | (refine lP ?_; refine lQ (fun hcc m => (by first | exact awake_f _ | exact c1 _ | exact c2 _ | exact c3 _)) ?_)) | (show XCallQ ..; first | refine xQ (fun hcc => (by first | exact awake_f _ | exact c1 _ | exact c2 _ | exact c3 _)) ?_ | (refine xlP ?_; refine xlQ (fun hcc m => (by first | exact awake_f _ | exact c1 _ | exact c2 _ | exact c3 _)) ?_)) | (show Fct ..; refine fctI (fun hf => ?_)) | (show SWp _ _ _ (.cond _ _ _) _ _ _ _; first | refine cB (fun hc => ?_) (fun hc => ?_) | refine cU ?_ ?_)))
    exact DVR
  have hlen := lensB_of (show lensB n s = true by unfold staB at hsb; simp only [Bool.and_eq_true] at hsb; exact hsb.1.1)
  have h400 := netB_len R.nb
  have hvol : ∀ i, i < n.nodes.length → 0 ≤ s.vol.getD i default ∧ s.vol.getD i default ≤ 1125899906842624 := fun i hi => by
    have h1 := okSN_in hsb hi
    have h2 := capN_le (netB_node R.nb hi)
    omega
  have c4 := fun m => Levels_f n s.vol m no R.nb hlen.1 hvol
  have hLl : (levelsL n s.vol).length = n.nodes.length := rng_len _ _
  have hLa : ∀ i, i < n.nodes.length → (levelsL n s.vol).getD i default = levelI (n.nodes.getD i default) (s.vol.getD i default) := fun i hi => rng_at hi
  have hlvA : lvA n (levelsL n s.vol) = true := lvA_yes fun i hi => by
    unfold lvB
    rw [hLa i hi]
    have := levelI_in (netB_node R.nb hi) (hvol i hi).1
    unfold btwB; simp only [Bool.and_eq_true, decide_eq_true_eq]; exact this
  generalize levelsL n s.vol = L at *
  clear hLa hvol
  have F : FlowsIn n l L s := ⟨no, co, R.nb, R.cb, hsb, hLl, hlvA, R.kn⟩
  have h0 : lvE n L = 0 := by unfold lvE; rw [if_pos hLl, if_pos hlvA]
  have hkn : (n.links.any fun x => !knownB l x) = false := by
    unfold readyB at hr
    simp only [Bool.and_eq_true, Bool.not_eq_true'] at hr
    exact hr.2
  have c5 := fun m => Flows_f n l L s m no co (by omega) so
  have e5 : flowsR n l L s = (flowsL n l L s, 0) := by
    unfold flowsR
    rw [R.cb, R.nb, hsb, if_pos (show (true && (true && true)) = true from rfl), if_pos h0, hkn, if_neg (by decide)]
  simp only [e5] at c5
  have c6 := fun m => On_f n s L m no (by omega) so
  have e6 : onR n s L = (pumpsL n L s.on, 0) := by
    unfold onR
    rw [R.nb, hsb, if_pos (show (true && true) = true from rfl), if_pos h0]
  simp only [e6] at c6
  have c7 := fun (i : Nat) m => Flow_f n l (i : Int) L (s.set.getD i default) (s.on.getD i default) m no co (by omega)
  have e7 := fun i (hi : i < n.links.length) => flow_at F hi
  have hOl : ((flowsL n l L s).length : Int) = (n.links.length : Int) := by unfold flowsL; rw [rng_len]
  have hOa : ∀ i, i < n.links.length → (flowsL n l L s).getD i default = flowAt n l L s i := fun i hi => rng_at hi
  have hPl : ((pumpsL n L s.on).length : Int) = (n.links.length : Int) := by unfold pumpsL; rw [rng_len]
  have hPa : ∀ i, i < n.links.length → (pumpsL n L s.on).getD i default = pumpAt n L s.on i := fun i hi => rng_at hi
  have hLi : (L.length : Int) = (n.nodes.length : Int) := by omega
  generalize flowsL n l L s = O at *
  generalize pumpsL n L s.on = P at *
  (have := Nonempty.intro hOl)
  (have := Nonempty.intro hPl)
  (have := Nonempty.intro hLi)
  (repeat' (first | refine swp_seq [0, 1, 2, 3, 5, 6, 7, 8, 9, 10, 11, 12, 13, 14, 15, 16, 17, 20, 35, 91, 93, 94, 95, 96, 127, 134, 141, 142, 154, 155, 166, 167] ?_ | refine st2 ?_ | (show CallQ ..; first | refine cQ (fun hcc => (by first | exact awake_f _ | exact c1 _ | exact c2 _ | exact c3 _ | exact c4 _ | exact c5 _ | exact c6 _)) ?_ | (refine lP ?_; refine lQ (fun hcc m => (by first | exact awake_f _ | exact c1 _ | exact c2 _ | exact c3 _ | exact c4 _ | exact c5 _ | exact c6 _)) ?_)) | (show XCallQ ..; first | refine xQ (fun hcc => (by first | exact awake_f _ | exact c1 _ | exact c2 _ | exact c3 _ | exact c4 _ | exact c5 _ | exact c6 _)) ?_ | (refine xlP ?_; refine xlQ (fun hcc m => (by first | exact awake_f _ | exact c1 _ | exact c2 _ | exact c3 _ | exact c4 _ | exact c5 _ | exact c6 _)) ?_)) | (show Fct ..; refine fctI (fun hf => ?_)) | (show SWp _ _ _ (.cond _ _ _) _ _ _ _; first | refine cB (fun hc => ?_) (fun hc => ?_) | refine cU ?_ ?_)))
  refine loop_swp [1, 3, 5, 7, 9, 11, 93, 94, 95] [0, 8] 9 (fun z A H => ∃ i : Nat, i ≤ n.links.length ∧ z = n.links.length - i ∧ A = [(1, sectL l), (3, .ptr 0 0), (5, .ptr 8 0), (7, ints L), (9, ints O), (11, bools P), (93, linkL n.links), (94, li n.links.length), (95, li i)] ∧ H = [(0, .blk 25 (netC n)), (8, .blk 75 (staC s))]) (by omega) ?_ ?_ ?_
  · rintro z A H ⟨i, h1, h2, rfl, rfl⟩
    exact ⟨by (exact SD), by (exact SD)⟩
  · refine ⟨_, 0, by omega, rfl, ?_, ?_⟩
    · exact DVR
    · exact DVR
  rintro z A H ⟨i, h1, h2, rfl, rfl⟩
  clear c1 c2 c3 c4 c5 c6
  by_cases hi : i < n.links.length
  · have hi3 : (i : Int) < (n.links.length : Int) := by omega
    have cf := c7 i
    simp only [e7 i hi] at cf
    have ce := fun m => ends34_f n i m no R.nb hi
    have hf := (fromI_lt R.nb hi).1
    have hO := hOa i hi
    have hP := hPa i hi
    have hon := (okSL_in hsb hi).2
    unfold pumpAt onB at hP
    have pb := pump_by hP
    have hs1 : i < s.set.length := by omega
    have hs2 : i < s.on.length := by omega
    have hs3 : i < O.length := by omega
    have hs4 : i < P.length := by omega
    have hs5 : fromI n i < L.length := by omega
    generalize flowAt n l L s i = q at *
    generalize fromI n i = fr at *
    generalize tillI n i = tl at *
    have hq : q = O.getD i default := hO.symm
    (have := Nonempty.intro hi)
    (have := Nonempty.intro hi3)
    (have := Nonempty.intro hs1)
    (have := Nonempty.intro hs2)
    (have := Nonempty.intro hs3)
    (have := Nonempty.intro hs4)
    (have := Nonempty.intro hs5)
    (have := Nonempty.intro hq)
    clear c7 e7 hOa hPa hO F hP hon
    (repeat' (first | refine swp_seq [0, 1, 2, 3, 5, 6, 7, 8, 9, 10, 11, 12, 13, 14, 15, 16, 17, 20, 35, 91, 93, 94, 95, 96, 127, 134, 141, 142, 154, 155, 166, 167] ?_ | refine st2 ?_ | (show CallQ ..; first | refine cQ (fun hcc => (by first | exact cf _ | exact ce _)) ?_ | (refine lP ?_; refine lQ (fun hcc m => (by first | exact cf _ | exact ce _)) ?_)) | (show XCallQ ..; first | refine xQ (fun hcc => (by first | exact cf _ | exact ce _)) ?_ | (refine xlP ?_; refine xlQ (fun hcc m => (by first | exact cf _ | exact ce _)) ?_)) | (show Fct ..; refine fctI (fun hf => ?_)) | (show SWp _ _ _ (.cond _ _ _) _ _ _ _; first | refine cB (fun hc => ?_) (fun hc => ?_) | refine cU ?_ ?_)))
    · rw [pb.1 (by assumption)] at hc; cases hc
    · (refine lN [0, 8] ?_)
      exact ⟨_, by omega, i + 1, by omega, rfl, rfl, rfl⟩
    · rw [pb.2.1 (by assumption) (by assumption)] at hc; cases hc
    · (refine lN [0, 8] ?_)
      exact ⟨_, by omega, i + 1, by omega, rfl, rfl, rfl⟩
    · rw [pb.2.2.1 (by assumption) (by assumption) (by assumption)] at hc; cases hc
    · (refine lN [0, 8] ?_)
      exact ⟨_, by omega, i + 1, by omega, rfl, rfl, rfl⟩
    · exact absurd (pb.2.2.2 (by assumption) (by assumption) (by assumption)) hc
    · (refine lN [0, 8] ?_)
      exact ⟨_, by omega, i + 1, by omega, rfl, rfl, rfl⟩
  obtain rfl : i = n.links.length := by omega
  have hi3 : ¬ ((n.links.length : Int) < (n.links.length : Int)) := by omega
  (have := Nonempty.intro hi3)
  (repeat' (first | refine swp_seq [0, 1, 2, 3, 5, 6, 7, 8, 9, 10, 11, 12, 13, 14, 15, 16, 17, 20, 35, 91, 93, 94, 95, 96, 127, 134, 141, 142, 154, 155, 166, 167] ?_ | refine st2 ?_ | (show Fct ..; refine fctI (fun hf => ?_)) | (show SWp _ _ _ (.cond _ _ _) _ _ _ _; first | refine cB (fun hc => ?_) (fun hc => ?_) | refine cU ?_ ?_)))
  exact DVR

end Go.Proofs.YtnfbaeeohepajaaGreat
