/-
  Contracts of functions of the program, over the engine.
  No condition.
-/
import Derived.Test.YtnfbaeeohepajaaGreatCN0N1NBKSK1
import Derived.Test.YtnfbaeeohepajaaGreatEngV
import Derived.Test.YtnfbaeeohepajaaGreatRows
import Derived.Test.YtnfbaeeohepajaaGreatCL16L17L18UpdL20L21
import Derived.Test.YtnfbaeeohepajaaGreatCL10L11L12L13
namespace Go.Proofs.YtnfbaeeohepajaaGreat
open Go.Eng
set_option linter.all false
attribute [local irreducible] DCallsG SWp Fct CallQ XCallQ LCallQ XLCallQ drun xrun
theorem own54 : ownKnob Tryz.prog.godebug = none := by kernel_rfl
theorem laid54 : laidOutB Tryz.prog = true := by kernel_rfl
theorem exMap {α : Type} (f : α → List PV) (p : α → Prop) : ∀ (l : List (List PV)), (∀ r, r ∈ l → ∃ x, r = f x ∧ p x) → ∃ xs : List α, l = xs.map f ∧ ∀ x, x ∈ xs → p x
  | [], _ => ⟨[], rfl, by simp⟩
  | r :: l, h => by
    obtain ⟨x, hx, hp⟩ := h r (by simp)
    obtain ⟨xs, hxs, hq⟩ := exMap f p l fun r hr => h r (by simp [hr])
    refine ⟨x :: xs, by simp [hx, hxs], fun y hy => ?_⟩
    rcases List.mem_cons.1 hy with rfl | hy
    · exact hp
    · exact hq y hy
theorem PT_slice {P : Program} {n : Nat} {t e : TypeId} {xs : List PV} (hu : P.underlying t = some (.slice e)) (h : PT P (n + 1) t xs) : ∃ l, xs = [.dat (P.cellsOf e) l] ∧ l.length * P.bytesOf e ≤ reachBytes ∧ ∀ r, r ∈ l → PT P n e r := by
  unfold PT at h; rw [hu] at h; exact h
theorem PT_struct {P : Program} {n : Nat} {t : TypeId} {fs : Array Field} {xs : List PV} (hu : P.underlying t = some (.struct fs)) (h : PT P (n + 1) t xs) : PTf P (PT P n) fs.toList xs := by
  unfold PT at h; rw [hu] at h; exact h
theorem PT_int {P : Program} {n : Nat} {t : TypeId} {k : IntKind} {xs : List PV} (hu : P.underlying t = some (.int k)) (h : PT P (n + 1) t xs) : ∃ z, xs = [.lit (.int k z)] ∧ (Lit.int k z).wf = true := by
  unfold PT at h; rw [hu] at h; exact h
theorem PT_str {P : Program} {n : Nat} {t : TypeId} {xs : List PV} (hu : P.underlying t = some .string) (h : PT P (n + 1) t xs) : ∃ s : ByteArray, xs = [.lit (.string s)] ∧ s.size ≤ reachBytes := by
  unfold PT at h; rw [hu] at h; exact h
theorem PT_bool {P : Program} {n : Nat} {t : TypeId} {xs : List PV} (hu : P.underlying t = some .bool) (h : PT P (n + 1) t xs) : ∃ b : Bool, xs = [.lit (.bool b)] := by
  unfold PT at h; rw [hu] at h; exact h
attribute [local irreducible] PT
theorem reachB : reachBytes ≤ 281474976710656 := by decide
theorem len_le {l k : Nat} (hk : 0 < k) (h : l * k ≤ reachBytes) : l ≤ 281474976710656 := Nat.le_trans (Nat.le_mul_of_pos_right l hk) (Nat.le_trans h reachB)
theorem pt_int {n : Nat} {xs : List PV} (h : PT Tryz.prog (n + 1) 3 xs) : ∃ z : Int, xs = [.lit (.int .i64 z)] ∧ i64ok z := by
  obtain ⟨z, rfl, hz⟩ := PT_int (P := Tryz.prog) (t := 3) Tryz.underlying3 h
  refine ⟨z, rfl, ?_⟩
  unfold i64ok
  simpa [Lit.wf, IntKind.min, IntKind.max, IntKind.signed, IntKind.bits] using hz
theorem pt_bool {n : Nat} {xs : List PV} (h : PT Tryz.prog (n + 1) 4 xs) : ∃ b : Bool, xs = [.lit (.bool b)] := PT_bool (P := Tryz.prog) (t := 4) Tryz.underlying4 h
theorem pt_str {n : Nat} {xs : List PV} (h : PT Tryz.prog (n + 1) 9 xs) : ∃ s : ByteArray, xs = [.lit (.string s)] ∧ s.size ≤ 281474976710656 := by
  obtain ⟨z, rfl, hz⟩ := PT_str (P := Tryz.prog) (t := 9) Tryz.underlying9 h
  exact ⟨z, rfl, Nat.le_trans hz reachB⟩
theorem cells_ints : Tryz.prog.cellsOf 3 = 1 := by kernel_rfl
theorem bytes_ints : 0 < Tryz.prog.bytesOf 3 := by rw [show Tryz.prog.bytesOf 3 = 8 from by kernel_rfl]; decide
theorem pt_ints {n : Nat} {xs : List PV} (h : PT Tryz.prog (n + 2) 27 xs) : ∃ l : List Int, xs = [.dat 1 (l.map inRow)] ∧ intsOk l := by
  obtain ⟨l, rfl, hl, hr⟩ := PT_slice (P := Tryz.prog) (t := 27) Tryz.underlying27 h
  obtain ⟨zs, rfl, hz⟩ := exMap inRow i64ok l fun r hr2 => by
    obtain ⟨z, rfl, hz⟩ := pt_int (hr r hr2)
    exact ⟨z, rfl, hz⟩
  rw [cells_ints]
  have := len_le bytes_ints hl
  rw [List.length_map] at this
  exact ⟨zs, rfl, this, hz⟩
theorem cells_bools : Tryz.prog.cellsOf 4 = 1 := by kernel_rfl
theorem bytes_bools : 0 < Tryz.prog.bytesOf 4 := by rw [show Tryz.prog.bytesOf 4 = 1 from by kernel_rfl]; decide
theorem pt_bools {n : Nat} {xs : List PV} (h : PT Tryz.prog (n + 2) 73 xs) : ∃ l : List Bool, xs = [.dat 1 (l.map boRow)] ∧ l.length ≤ 281474976710656 := by
  obtain ⟨l, rfl, hl, hr⟩ := PT_slice (P := Tryz.prog) (t := 73) Tryz.underlying73 h
  obtain ⟨zs, rfl, hz⟩ := exMap boRow (fun _ => True) l fun r hr2 => by
    obtain ⟨z, rfl⟩ := pt_bool (hr r hr2)
    exact ⟨z, rfl, trivial⟩
  rw [cells_bools]
  have := len_le bytes_bools hl
  rw [List.length_map] at this
  exact ⟨zs, rfl, this⟩
theorem pt_knot {n : Nat} {xs : List PV} (h : PT Tryz.prog (n + 2) 128 xs) : ∃ x : Knot, xs = knotP x ∧ knotOk x := by
  replace h := PT_struct (P := Tryz.prog) (t := 128) Tryz.underlying128 h
  obtain ⟨_, _, rfl, h0, _, _, rfl, h1, rfl⟩ := h
  obtain ⟨a0, rfl, k0⟩ := pt_int h0
  obtain ⟨a1, rfl, k1⟩ := pt_int h1
  exact ⟨⟨a0, a1⟩, rfl, ⟨k0, k1⟩⟩
theorem cells_knots : Tryz.prog.cellsOf 128 = 2 := by kernel_rfl
theorem bytes_knots : 0 < Tryz.prog.bytesOf 128 := by rw [show Tryz.prog.bytesOf 128 = 16 from by kernel_rfl]; decide
theorem pt_knots {n : Nat} {xs : List PV} (h : PT Tryz.prog (n + 3) 37 xs) : ∃ l : List Knot, xs = [.dat 2 (l.map knotP)] ∧ l.length ≤ 281474976710656 ∧ ∀ x, x ∈ l → knotOk x := by
  obtain ⟨l, rfl, hl, hr⟩ := PT_slice (P := Tryz.prog) (t := 37) Tryz.underlying37 h
  obtain ⟨zs, rfl, hz⟩ := exMap knotP knotOk l fun r hr2 => by
    obtain ⟨z, rfl, hz⟩ := pt_knot (hr r hr2)
    exact ⟨z, rfl, hz⟩
  rw [cells_knots]
  have := len_le bytes_knots hl
  rw [List.length_map] at this
  exact ⟨zs, rfl, this, hz⟩
theorem pt_point {n : Nat} {xs : List PV} (h : PT Tryz.prog (n + 2) 53 xs) : ∃ x : Point, xs = pointP x ∧ pointOk x := by
  replace h := PT_struct (P := Tryz.prog) (t := 53) Tryz.underlying53 h
  obtain ⟨_, _, rfl, h0, _, _, rfl, h1, rfl⟩ := h
  obtain ⟨a0, rfl, k0⟩ := pt_int h0
  obtain ⟨a1, rfl, k1⟩ := pt_int h1
  exact ⟨⟨a0, a1⟩, rfl, ⟨k0, k1⟩⟩
theorem pt_node {n : Nat} {xs : List PV} (h : PT Tryz.prog (n + 4) 55 xs) : ∃ x : Node, xs = nodeP x ∧ nodeOk x := by
  replace h := PT_struct (P := Tryz.prog) (t := 55) Tryz.underlying55 h
  obtain ⟨_, _, rfl, h0, _, _, rfl, h1, _, _, rfl, h2, _, _, rfl, h3, _, _, rfl, h4, _, _, rfl, h5, _, _, rfl, h6, _, _, rfl, h7, rfl⟩ := h
  obtain ⟨a0, rfl, k0⟩ := pt_str h0
  obtain ⟨a1, rfl, k1⟩ := pt_int h1
  obtain ⟨a2, rfl, k2⟩ := pt_point h2
  obtain ⟨a3, rfl, k3⟩ := pt_int h3
  obtain ⟨a4, rfl, k4⟩ := pt_int h4
  obtain ⟨a5, rfl, k5⟩ := pt_knots h5
  obtain ⟨a6, rfl⟩ := pt_bool h6
  obtain ⟨a7, rfl, k7⟩ := pt_int h7
  exact ⟨⟨a0, a1, a2, a3, a4, a5, a6, a7⟩, rfl, ⟨k0, k1, k2, k3, k4, k5, k7⟩⟩
theorem cells_nodes : Tryz.prog.cellsOf 55 = 9 := by kernel_rfl
theorem bytes_nodes : 0 < Tryz.prog.bytesOf 55 := by rw [show Tryz.prog.bytesOf 55 = 96 from by kernel_rfl]; decide
theorem pt_nodes {n : Nat} {xs : List PV} (h : PT Tryz.prog (n + 5) 22 xs) : ∃ l : List Node, xs = [.dat 9 (l.map nodeP)] ∧ l.length ≤ 281474976710656 ∧ ∀ x, x ∈ l → nodeOk x := by
  obtain ⟨l, rfl, hl, hr⟩ := PT_slice (P := Tryz.prog) (t := 22) Tryz.underlying22 h
  obtain ⟨zs, rfl, hz⟩ := exMap nodeP nodeOk l fun r hr2 => by
    obtain ⟨z, rfl, hz⟩ := pt_node (hr r hr2)
    exact ⟨z, rfl, hz⟩
  rw [cells_nodes]
  have := len_le bytes_nodes hl
  rw [List.length_map] at this
  exact ⟨zs, rfl, this, hz⟩
theorem pt_link {n : Nat} {xs : List PV} (h : PT Tryz.prog (n + 4) 39 xs) : ∃ x : Link, xs = linkP x ∧ linkOk x := by
  replace h := PT_struct (P := Tryz.prog) (t := 39) Tryz.underlying39 h
  obtain ⟨_, _, rfl, h0, _, _, rfl, h1, _, _, rfl, h2, _, _, rfl, h3, _, _, rfl, h4, _, _, rfl, h5, _, _, rfl, h6, _, _, rfl, h7, _, _, rfl, h8, _, _, rfl, h9, _, _, rfl, h10, rfl⟩ := h
  obtain ⟨a0, rfl, k0⟩ := pt_str h0
  obtain ⟨a1, rfl, k1⟩ := pt_str h1
  obtain ⟨a2, rfl, k2⟩ := pt_str h2
  obtain ⟨a3, rfl, k3⟩ := pt_int h3
  obtain ⟨a4, rfl, k4⟩ := pt_int h4
  obtain ⟨a5, rfl, k5⟩ := pt_int h5
  obtain ⟨a6, rfl, k6⟩ := pt_int h6
  obtain ⟨a7, rfl, k7⟩ := pt_str h7
  obtain ⟨a8, rfl, k8⟩ := pt_int h8
  obtain ⟨a9, rfl, k9⟩ := pt_int h9
  obtain ⟨a10, rfl, k10⟩ := pt_knots h10
  exact ⟨⟨a0, a1, a2, a3, a4, a5, a6, a7, a8, a9, a10⟩, rfl, ⟨k0, k1, k2, k3, k4, k5, k6, k7, k8, k9, k10⟩⟩
theorem cells_links : Tryz.prog.cellsOf 39 = 11 := by kernel_rfl
theorem bytes_links : 0 < Tryz.prog.bytesOf 39 := by rw [show Tryz.prog.bytesOf 39 = 136 from by kernel_rfl]; decide
theorem pt_links {n : Nat} {xs : List PV} (h : PT Tryz.prog (n + 5) 23 xs) : ∃ l : List Link, xs = [.dat 11 (l.map linkP)] ∧ l.length ≤ 281474976710656 ∧ ∀ x, x ∈ l → linkOk x := by
  obtain ⟨l, rfl, hl, hr⟩ := PT_slice (P := Tryz.prog) (t := 23) Tryz.underlying23 h
  obtain ⟨zs, rfl, hz⟩ := exMap linkP linkOk l fun r hr2 => by
    obtain ⟨z, rfl, hz⟩ := pt_link (hr r hr2)
    exact ⟨z, rfl, hz⟩
  rw [cells_links]
  have := len_le bytes_links hl
  rw [List.length_map] at this
  exact ⟨zs, rfl, this, hz⟩
theorem pt_net {n : Nat} {xs : List PV} (h : PT Tryz.prog (n + 6) 25 xs) : ∃ x : Net, xs = netP x ∧ netOk x := by
  replace h := PT_struct (P := Tryz.prog) (t := 25) Tryz.underlying25 h
  obtain ⟨_, _, rfl, h0, _, _, rfl, h1, rfl⟩ := h
  obtain ⟨a0, rfl, k0⟩ := pt_nodes h0
  obtain ⟨a1, rfl, k1⟩ := pt_links h1
  exact ⟨⟨a0, a1⟩, rfl, ⟨k0, k1⟩⟩
theorem pt_sta {n : Nat} {xs : List PV} (h : PT Tryz.prog (n + 3) 75 xs) : ∃ x : Sta, xs = staP x ∧ staOk x := by
  replace h := PT_struct (P := Tryz.prog) (t := 75) Tryz.underlying75 h
  obtain ⟨_, _, rfl, h0, _, _, rfl, h1, _, _, rfl, h2, _, _, rfl, h3, rfl⟩ := h
  obtain ⟨a0, rfl, k0⟩ := pt_ints h0
  obtain ⟨a1, rfl, k1⟩ := pt_ints h1
  obtain ⟨a2, rfl, k2⟩ := pt_ints h2
  obtain ⟨a3, rfl, k3⟩ := pt_bools h3
  exact ⟨⟨a0, a1, a2, a3⟩, rfl, ⟨k0, k1, k2, k3⟩⟩
theorem dv_net (n : Net) : dvT Tryz.prog 25 (netP n) = netD n := by unfold dvT; rw [Tryz.underlying25]; rfl
theorem dv_sta (s : Sta) : dvT Tryz.prog 75 (staP s) = staD s := by unfold dvT; rw [Tryz.underlying75]; rfl
theorem dv_ints (l : List Int) : dvT Tryz.prog 27 [.dat 1 (l.map inRow)] = ints l := by unfold dvT; rw [Tryz.underlying27]; rfl
theorem dv_int (n : Int) : dvT Tryz.prog 3 [.lit (.int .i64 n)] = li n := by unfold dvT; rw [Tryz.underlying3]; rfl
theorem pt_sect {n : Nat} {xs : List PV} (h : PT Tryz.prog (n + 4) 98 xs) : ∃ x : Sect, xs = sectP x ∧ sectOk x := by
  replace h := PT_struct (P := Tryz.prog) (t := 98) Tryz.underlying98 h
  obtain ⟨_, _, rfl, h0, _, _, rfl, h1, _, _, rfl, h2, _, _, rfl, h3, _, _, rfl, h4, rfl⟩ := h
  obtain ⟨a0, rfl, k0⟩ := pt_str h0
  obtain ⟨a1, rfl, k1⟩ := pt_int h1
  obtain ⟨a2, rfl, k2⟩ := pt_int h2
  obtain ⟨a3, rfl, k3⟩ := pt_knots h3
  obtain ⟨a4, rfl, k4⟩ := pt_knots h4
  exact ⟨⟨a0, a1, a2, a3, a4⟩, rfl, ⟨k0, k1, k2, k3, k4⟩⟩
theorem cells_sects : Tryz.prog.cellsOf 98 = 5 := by kernel_rfl
theorem bytes_sects : 0 < Tryz.prog.bytesOf 98 := by rw [show Tryz.prog.bytesOf 98 = 80 from by kernel_rfl]; decide
theorem pt_sects {n : Nat} {xs : List PV} (h : PT Tryz.prog (n + 5) 26 xs) : ∃ l : List Sect, xs = [.dat 5 (l.map sectP)] ∧ l.length ≤ 281474976710656 ∧ ∀ x, x ∈ l → sectOk x := by
  obtain ⟨l, rfl, hl, hr⟩ := PT_slice (P := Tryz.prog) (t := 26) Tryz.underlying26 h
  obtain ⟨zs, rfl, hz⟩ := exMap sectP sectOk l fun r hr2 => by
    obtain ⟨z, rfl, hz⟩ := pt_sect (hr r hr2)
    exact ⟨z, rfl, hz⟩
  rw [cells_sects]
  have := len_le bytes_sects hl
  rw [List.length_map] at this
  exact ⟨zs, rfl, this, hz⟩
theorem pt_span {n : Nat} {xs : List PV} (h : PT Tryz.prog (n + 2) 62 xs) : ∃ x : Span, xs = spanP x ∧ spanOk x := by
  replace h := PT_struct (P := Tryz.prog) (t := 62) Tryz.underlying62 h
  obtain ⟨_, _, rfl, h0, _, _, rfl, h1, rfl⟩ := h
  obtain ⟨a0, rfl, k0⟩ := pt_int h0
  obtain ⟨a1, rfl, k1⟩ := pt_int h1
  exact ⟨⟨a0, a1⟩, rfl, ⟨k0, k1⟩⟩
theorem pt_u8 {n : Nat} {xs : List PV} (h : PT Tryz.prog (n + 1) 5 xs) : ∃ z : Int, xs = [.lit (.int .u8 z)] ∧ 0 ≤ z ∧ z ≤ 255 := by
  obtain ⟨z, rfl, hz⟩ := PT_int (P := Tryz.prog) (t := 5) Tryz.underlying5 h
  refine ⟨z, rfl, ?_⟩
  simpa [Lit.wf, IntKind.min, IntKind.max, IntKind.signed, IntKind.bits] using hz
theorem pt_u16 {n : Nat} {xs : List PV} (h : PT Tryz.prog (n + 1) 50 xs) : ∃ z : Int, xs = [.lit (.int .u16 z)] ∧ 0 ≤ z ∧ z ≤ 65535 := by
  obtain ⟨z, rfl, hz⟩ := PT_int (P := Tryz.prog) (t := 50) Tryz.underlying50 h
  refine ⟨z, rfl, ?_⟩
  simpa [Lit.wf, IntKind.min, IntKind.max, IntKind.signed, IntKind.bits] using hz
theorem pt_u32 {n : Nat} {xs : List PV} (h : PT Tryz.prog (n + 1) 49 xs) : ∃ z : Int, xs = [.lit (.int .u32 z)] ∧ 0 ≤ z ∧ z ≤ 4294967295 := by
  obtain ⟨z, rfl, hz⟩ := PT_int (P := Tryz.prog) (t := 49) Tryz.underlying49 h
  refine ⟨z, rfl, ?_⟩
  simpa [Lit.wf, IntKind.min, IntKind.max, IntKind.signed, IntKind.bits] using hz
theorem dv_sects (l : List Sect) : dvT Tryz.prog 26 [.dat 5 (l.map sectP)] = sectL l := by unfold dvT; rw [Tryz.underlying26]; rfl
theorem dv_link (x : Link) : dvT Tryz.prog 39 (linkP x) = linkD x := by unfold dvT; rw [Tryz.underlying39]; rfl
theorem dv_span (x : Span) : dvT Tryz.prog 62 (spanP x) = spanD x := by unfold dvT; rw [Tryz.underlying62]; rfl
theorem dv_bool (b : Bool) : dvT Tryz.prog 4 [.lit (.bool b)] = lb b := by unfold dvT; rw [Tryz.underlying4]; rfl
theorem dv_u8 (n : Int) : dvT Tryz.prog 5 [.lit (.int .u8 n)] = lv (.int .u8 n) := by unfold dvT; rw [Tryz.underlying5]; rfl
theorem dv_u16 (n : Int) : dvT Tryz.prog 50 [.lit (.int .u16 n)] = lv (.int .u16 n) := by unfold dvT; rw [Tryz.underlying50]; rfl
theorem dv_u32 (n : Int) : dvT Tryz.prog 49 [.lit (.int .u32 n)] = lv (.int .u32 n) := by unfold dvT; rw [Tryz.underlying49]; rfl
set_option maxRecDepth 20000 in
set_option maxHeartbeats 8000000 in
theorem lawNever_f (n : Net) (l : List Sect) (k a b s : Int) (m : Nat) (no : netOk n) (co : catOk l) (hk0 : 0 ≤ k ∧ k ≤ 255) (ha : 0 ≤ a ∧ a ≤ 4294967295) (hb : 0 ≤ b ∧ b ≤ 4294967295) (hs : 0 ≤ s ∧ s ≤ 65535) :
    DCalls Tryz.prog 5 [netD n, sectL l, lv (.int .u8 k), lv (.int .u32 a), lv (.int .u32 b), lv (.int .u16 s)] (hget []) m (lb true) (hget []) := by
  have c1 := fun m => ready_f n l m no co
  have hll := no.2.1
  refine pureC (n := 167) (rs := [.tmp 12]) (ts := [4]) Tryz.func5 rfl (by decide) [] (by (exact SD)) ?_
  cases hr : readyB n l <;> simp only [hr] at c1
  · (repeat' (first | refine swp_seq [0, 1, 2, 3, 4, 5, 6, 12, 13, 14, 15, 16, 17, 18, 19, 20, 21, 22, 23, 24, 25, 27, 37, 60, 61, 62, 63, 117, 120, 133, 142] ?_ | refine st2 ?_ | (show CallQ ..; first | refine cQ (fun hcc => (by first | exact awake_f _ | exact c1 _)) ?_ | (refine lP ?_; refine lQ (fun hcc m => (by first | exact awake_f _ | exact c1 _)) ?_)) | (show XCallQ ..; first | refine xQ (fun hcc => (by first | exact awake_f _ | exact c1 _)) ?_ | (refine xlP ?_; refine xlQ (fun hcc m => (by first | exact awake_f _ | exact c1 _)) ?_)) | (show Fct ..; refine fctI (fun hf => ?_)) | (show SWp _ _ _ (.cond _ _ _) _ _ _ _; first | refine cB (fun hc => ?_) (fun hc => ?_) | refine cU ?_ ?_)))
    exact DVR
  have R := readyB_in no co hr
  have hlg := R.lg
  by_cases h0 : (n.links.length : Int) = 0
  · (have := Nonempty.intro h0)
    (repeat' (first | refine swp_seq [0, 1, 2, 3, 4, 5, 6, 12, 13, 14, 15, 16, 17, 18, 19, 20, 21, 22, 23, 24, 25, 27, 37, 60, 61, 62, 63, 117, 120, 133, 142] ?_ | refine st2 ?_ | (show CallQ ..; first | refine cQ (fun hcc => (by first | exact awake_f _ | exact c1 _)) ?_ | (refine lP ?_; refine lQ (fun hcc m => (by first | exact awake_f _ | exact c1 _)) ?_)) | (show XCallQ ..; first | refine xQ (fun hcc => (by first | exact awake_f _ | exact c1 _)) ?_ | (refine xlP ?_; refine xlQ (fun hcc m => (by first | exact awake_f _ | exact c1 _)) ?_)) | (show Fct ..; refine fctI (fun hf => ?_)) | (show SWp _ _ _ (.cond _ _ _) _ _ _ _; first | refine cB (fun hc => ?_) (fun hc => ?_) | refine cU ?_ ?_)))
    exact DVR
  (have := Nonempty.intro h0)
  obtain ⟨K, rfl⟩ : ∃ K : Nat, k = (K : Int) := ⟨k.toNat, by omega⟩
  obtain ⟨S, rfl⟩ : ∃ S : Nat, s = (S : Int) := ⟨s.toNat, by omega⟩
  have hj : K % n.links.length < n.links.length := Nat.mod_lt _ (by omega)
  have i1 := mod_nat K n.links.length
  have ht : S % 1001 ≤ 1000 := by omega
  have i2 : ModOk (S : Int) 1001 ((S % 1001 : Nat) : Int) := mod_nat S 1001
  generalize K % n.links.length = j at *
  generalize S % 1001 = t at *
  have hf := (fromI_lt R.nb hj).1
  have hti := (tillI_lt R.nb hj).1
  have c2 := fun m => ends34_f n j m no R.nb hj
  have c3 := fun m => some34_f (n.nodes.getD (fromI n j) default) a m (netB_node R.nb hf) ha
  have c4 := fun m => some34_f (n.nodes.getD (tillI n j) default) b m (netB_node R.nb hti) hb
  have hu : inNode n (fromI n j) (pickI (n.nodes.getD (fromI n j) default).inv (n.nodes.getD (fromI n j) default).gnd a) := pickI_in (node_lev (netB_node R.nb hf)).2.2 ha.1
  have hd : inNode n (tillI n j) (pickI (n.nodes.getD (tillI n j) default).inv (n.nodes.getD (tillI n j) default).gnd b) := pickI_in (node_lev (netB_node R.nb hti)).2.2 hb.1
  have hv : inNode n (tillI n j) (n.nodes.getD (tillI n j) default).inv := ⟨Int.le_refl _, (node_lev (netB_node R.nb hti)).2.2⟩
  generalize pickI (n.nodes.getD (fromI n j) default).inv (n.nodes.getD (fromI n j) default).gnd a = up at *
  generalize pickI (n.nodes.getD (tillI n j) default).inv (n.nodes.getD (tillI n j) default).gnd b = down at *
  have hb1 := ready_btw R hj ht hu hd
  have c5 := fun m => Flow_f n l j (lvS n j up down) t true m no co (by rw [lvS_len]; omega)
  simp only [flow_set R hj ht hu hd] at c5
  have e0 : flowR n l j (lvS n j up (n.nodes.getD (tillI n j) default).inv) 0 false = (flowI n l (n.links.getD j default) up (n.nodes.getD (tillI n j) default).inv 0 false, 0) := flow_set (t := 0) R hj (Nat.zero_le _) hu hv
  have c6 := fun m => Flow_f n l j (lvS n j up (n.nodes.getD (tillI n j) default).inv) 0 false m no co (by rw [lvS_len]; omega)
  simp only [e0] at c6
  have hin := flowI_in (on := true) hb1
  have hup := flowI_up (on := true) hb1
  have hfr := fun k1 hd1 => flowI_free (down2 := (n.nodes.getD (tillI n j) default).inv) (s2 := 0) (on := true) (on2 := false) hb1 k1 hd1 (by have := hd.1; omega)
  obtain ⟨q, hq⟩ : ∃ q, flowI n l (n.links.getD j default) up down t true = q := ⟨_, rfl⟩
  obtain ⟨r, hr2⟩ : ∃ r, flowI n l (n.links.getD j default) up (n.nodes.getD (tillI n j) default).inv 0 false = r := ⟨_, rfl⟩
  simp only [hq] at c5 hin hup hfr
  simp only [hr2] at c6 hfr
  clear hq hr2 e0 hb1
  unfold lvS at c5 c6
  have hl0 : (invs n).length = (List.replicate n.nodes.length (0 : Int)).length := by rw [invs_len, List.length_replicate]
  have hil := invs_len n
  have hat := fun i hi => invs_at (n := n) (i := i) hi
  have hne := from_ne R.nb hj
  generalize invs n = I at *
  generalize fromI n j = x at *
  generalize tillI n j = y at *
  (have := Nonempty.intro hj)
  (have := Nonempty.intro hf)
  (have := Nonempty.intro hti)
  (repeat' (first | refine swp_seq [0, 1, 2, 3, 4, 5, 6, 12, 13, 14, 15, 16, 17, 18, 19, 20, 21, 22, 23, 24, 25, 27, 37, 60, 61, 62, 63, 117, 120, 133, 142] ?_ | refine st2 ?_ | (show CallQ ..; first | refine cQ (fun hcc => (by first | exact awake_f _ | exact c1 _ | exact c2 _)) ?_ | (refine lP ?_; refine lQ (fun hcc m => (by first | exact awake_f _ | exact c1 _ | exact c2 _)) ?_)) | (show XCallQ ..; first | refine xQ (fun hcc => (by first | exact awake_f _ | exact c1 _ | exact c2 _)) ?_ | (refine xlP ?_; refine xlQ (fun hcc m => (by first | exact awake_f _ | exact c1 _ | exact c2 _)) ?_)) | (show Fct ..; refine fctI (fun hf => ?_)) | (show SWp _ _ _ (.cond _ _ _) _ _ _ _; first | refine cB (fun hc => ?_) (fun hc => ?_) | refine cU ?_ ?_)))
  refine loop_swp [1, 3, 4, 5, 6, 13, 14, 15, 16, 17, 60, 61, 62] [0, 272, 312] 313 (fun z A H => ∃ i : Nat, i ≤ n.nodes.length ∧ z = n.nodes.length - i ∧ A = [(1, sectL l), (3, lv (.int .u32 a)), (4, lv (.int .u32 b)), (5, lv (.int .u16 S)), (6, .ptr 0 0), (13, li j), (14, li x), (15, li y), (16, .ptr 272 0), (17, .gl 312), (60, nodeL n.nodes), (61, li n.nodes.length), (62, li i)] ∧ H = [(0, .blk 25 (netC n)), (272, .blk 39 (linkC (n.links.getD j default))), (312, inLt (I.take i ++ (List.replicate n.nodes.length 0).drop i))]) (by omega) ?_ ?_ ?_
  · rintro z A H ⟨i, h1, h2, rfl, rfl⟩
    exact ⟨by (exact SD), by (exact SD)⟩
  · refine ⟨_, 0, by omega, rfl, ?_, ?_⟩
    · exact DVR
    · exact DVR
  rintro z A H ⟨i, h1, h2, rfl, rfl⟩
  by_cases hi : i < n.nodes.length
  · have hL := upd_len (i := i) hl0 (by rw [List.length_replicate]; omega)
    have hst := fun x hx => upd_step (x := x) (i := i) hl0 (by rw [List.length_replicate]; omega) hx
    rw [List.length_replicate] at hL
    have hx := hat i hi
    have hi3 : (i : Int) < (n.nodes.length : Int) := by omega
    (have := Nonempty.intro hi)
    (have := Nonempty.intro hi3)
    clear c1 c2 c3 c4 c5 c6 hfr hup hin hat hu hd hv
    generalize hX : I.take i ++ (List.replicate n.nodes.length (0 : Int)).drop i = X at *
    have hi2 : i < X.length := by omega
    (have := Nonempty.intro hi2)
    (repeat' (first | refine swp_seq [0, 1, 2, 3, 4, 5, 6, 12, 13, 14, 15, 16, 17, 18, 19, 20, 21, 22, 23, 24, 25, 27, 37, 60, 61, 62, 63, 117, 120, 133, 142] ?_ | (show SWp _ _ _ (.region _ _ true) _ _ _ _; refine xG mixed [312] ?_) | refine st2 ?_ | (show Fct ..; refine fctI (fun hf => ?_)) | (show SWp _ _ _ (.cond _ _ _) _ _ _ _; first | refine cB (fun hc => ?_) (fun hc => ?_) | refine cU ?_ ?_)))
    rw [hst _ hx.symm]
    (refine lN [0, 272, 312] ?_)
    exact ⟨_, by omega, i + 1, by omega, rfl, rfl, rfl⟩
  obtain rfl : i = n.nodes.length := by omega
  have he := upd_end hl0
  rw [List.length_replicate] at he
  rw [he]
  have hi3 : ¬ ((n.nodes.length : Int) < (n.nodes.length : Int)) := by omega
  have f1 : x < I.length := by omega
  have f2 : y < (I.set x up).length := by rw [List.length_set]; omega
  have f3 : x < ((I.set x up).set y down).length := by rw [List.length_set, List.length_set]; omega
  have f4 : y < ((I.set x up).set y down).length := by rw [List.length_set, List.length_set]; omega
  have hq0 : ¬ q < 0 := by omega
  (have := Nonempty.intro hi3)
  (have := Nonempty.intro f1)
  (have := Nonempty.intro f2)
  (have := Nonempty.intro f3)
  (have := Nonempty.intro f4)
  (have := Nonempty.intro hq0)
  have gx : ((I.set x up).set y down).getD x default = up := by rw [setD_ne (fun e => hne e.symm), setD_eq f1]
  clear hat hl0 hd hv hu c1 c2 he
  (repeat' (first | refine swp_seq [0, 1, 2, 3, 4, 5, 6, 12, 13, 14, 15, 16, 17, 18, 19, 20, 21, 22, 23, 24, 25, 27, 37, 60, 61, 62, 63, 117, 120, 133, 142] ?_ | (show SWp _ _ _ (.region _ _ true) _ _ _ _; refine xG mixed [312, 1000010, 1000017] ?_) | refine st2 ?_ | (show CallQ ..; first | refine cQ (fun hcc => (by first | exact c3 _ | exact c4 _ | exact c5 _ | exact c6 _)) ?_ | (refine lP ?_; refine lQ (fun hcc m => (by first | exact c3 _ | exact c4 _ | exact c5 _ | exact c6 _)) ?_)) | (show XCallQ ..; first | refine xQ (fun hcc => (by first | exact c3 _ | exact c4 _ | exact c5 _ | exact c6 _)) ?_ | (refine xlP ?_; refine xlQ (fun hcc m => (by first | exact c3 _ | exact c4 _ | exact c5 _ | exact c6 _)) ?_)) | (show Fct ..; refine fctI (fun hf => ?_)) | (show SWp _ _ _ (.cond _ _ _) _ _ _ _; first | refine cB (fun hc => ?_) (fun hc => ?_) | refine cU ?_ ?_)))
  · exact DVR
  · rw [gx] at hc
    exact absurd (hup (by assumption) hc.1) hc.2
  · have e := hfr hc.1 hc.2
    subst e
    (repeat' (first | refine swp_seq [0, 1, 2, 3, 4, 5, 6, 12, 13, 14, 15, 16, 17, 18, 19, 20, 21, 22, 23, 24, 25, 27, 37, 60, 61, 62, 63, 117, 120, 133, 142] ?_ | (show SWp _ _ _ (.region _ _ true) _ _ _ _; refine xG mixed [312] ?_) | refine st2 ?_ | (show CallQ ..; first | refine cQ (fun hcc => (by first | exact c6 _)) ?_ | (refine lP ?_; refine lQ (fun hcc m => (by first | exact c6 _)) ?_)) | (show XCallQ ..; first | refine xQ (fun hcc => (by first | exact c6 _)) ?_ | (refine xlP ?_; refine xlQ (fun hcc m => (by first | exact c6 _)) ?_)) | (show Fct ..; refine fctI (fun hf => ?_)) | (show SWp _ _ _ (.cond _ _ _) _ _ _ _; first | refine cB (fun hc => ?_) (fun hc => ?_) | refine cU ?_ ?_)))
    exact DVR
  · exact DVR

end Go.Proofs.YtnfbaeeohepajaaGreat
