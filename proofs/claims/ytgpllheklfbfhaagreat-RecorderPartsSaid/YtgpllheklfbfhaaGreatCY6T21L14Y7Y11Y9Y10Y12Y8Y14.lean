/-
  Contracts of functions of the program, over the engine.
  No condition.
-/
import Derived.Test.YtgpllheklfbfhaaGreatCY2Y3Y4
import Derived.Test.YtgpllheklfbfhaaGreatCN0N1NBNmT1T2T2eT3
import Derived.Test.YtgpllheklfbfhaaGreatEngV
import Derived.Test.YtgpllheklfbfhaaGreatRows
import Derived.Test.YtgpllheklfbfhaaGreatCL9L10L11L12L16L20RL25L27
import Derived.Test.YtgpllheklfbfhaaGreatCL1L2L2cL2oL3L4L5
import Derived.Test.YtgpllheklfbfhaaGreatCT12T13T14T2IT16T15T18T20Y0Y5Y1
import Derived.Test.YtgpllheklfbfhaaGreatCT8T9T9bT9cT9eT10T11
import Derived.Test.YtgpllheklfbfhaaGreatCT5T6T6bT7T7bT7c
import Derived.Test.YtgpllheklfbfhaaGreatEngDf
namespace Go.Proofs.YtgpllheklfbfhaaGreat
open Go.Eng
set_option linter.all false
attribute [local irreducible] DCallsG SWp Fct CallQ XCallQ LCallQ XLCallQ drun xrun
set_option maxHeartbeats 64000000

section
variable {n : Net} {l : List Sect} {s : Sta} {inf : List Int} {sec : Int} {held w : List Int}
structure PassIn (n : Net) (held w : List Int) : Prop where
  w0 : ∀ k, k < n.links.length -> 0 <= w.getD k default /\ w.getD k default <= 1125899906842624
  h0 : ∀ q, q < n.nodes.length -> 0 <= held.getD q default
theorem PassIn.x (W : PassIn n held w) (E : EndsIn n) {k : Nat} (hk : k < n.links.length) : 0 <= (limR n held w).getD k default /\ (limR n held w).getD k default <= 1125899906842624 := by
  have h1 := lim_in (n := n) (held := held) (w := w) (fun k hk => by rw [E.fro hk]; exact decide_eq_true rfl) (fun i hi => (W.w0 i hi).1) (fun k hk => W.h0 _ (E.f k hk).1) hk;have h2 := (W.w0 k hk).2;rw [limR_at hk]; omega
theorem PassIn.le (W : PassIn n held w) (E : EndsIn n) {q : Nat} (hq : q < n.nodes.length) : selI (froQ n q) (limR n held w) n.links.length <= held.getD q default :=
  lim_all (fun q k hk hf => by rw [E.fro hk] at hf; exact (of_decide_eq_true hf).symm) (fun i hi => (W.w0 i hi).1) (W.h0 q hq)
end
theorem own54 : ownKnob Tryz.prog.godebug = none := by kernel_rfl
theorem laid54 : laidOutB Tryz.prog = true := by kernel_rfl
theorem exMap {α : Type} (f : α -> List PV) (p : α -> Prop) : ∀ (l : List (List PV)), (∀ r, r ∈ l -> ∃ x, r = f x /\ p x) -> ∃ xs : List α, l = xs.map f /\ ∀ x, x ∈ xs -> p x
  | [], _ => ⟨[], rfl, by simp⟩
  | r :: l, h => by
    obtain ⟨x, hx, hp⟩ := h r (by simp);obtain ⟨xs, hxs, hq⟩ := exMap f p l fun r hr => h r (by simp [hr])
    refine ⟨x :: xs, by simp [hx, hxs], fun y hy => ?_⟩;rcases List.mem_cons.1 hy with rfl | hy
    · exact hp
    · exact hq y hy
theorem PT_slice {P : Program} {n : Nat} {t e : TypeId} {xs : List PV} (hu : P.underlying t = some (.slice e)) (h : PT P (n + 1) t xs) : ∃ l, xs = [.dat (P.cellsOf e) l] /\ l.length * P.bytesOf e <= reachBytes /\ ∀ r, r ∈ l -> PT P n e r := by
  unfold PT at h; rw [hu] at h; exact h
theorem PT_struct {P : Program} {n : Nat} {t : TypeId} {fs : Array Field} {xs : List PV} (hu : P.underlying t = some (.struct fs)) (h : PT P (n + 1) t xs) : PTf P (PT P n) fs.toList xs := by
  unfold PT at h; rw [hu] at h; exact h
theorem PT_int {P : Program} {n : Nat} {t : TypeId} {k : IntKind} {xs : List PV} (hu : P.underlying t = some (.int k)) (h : PT P (n + 1) t xs) : ∃ z, xs = [.lit (.int k z)] /\ (Lit.int k z).wf = true := by
  unfold PT at h; rw [hu] at h; exact h
theorem PT_str {P : Program} {n : Nat} {t : TypeId} {xs : List PV} (hu : P.underlying t = some .string) (h : PT P (n + 1) t xs) : ∃ s : ByteArray, xs = [.lit (.string s)] /\ s.size <= reachBytes := by
  unfold PT at h; rw [hu] at h; exact h
theorem PT_bool {P : Program} {n : Nat} {t : TypeId} {xs : List PV} (hu : P.underlying t = some .bool) (h : PT P (n + 1) t xs) : ∃ b : Bool, xs = [.lit (.bool b)] := by
  unfold PT at h; rw [hu] at h; exact h
attribute [local irreducible] PT
theorem reachB : reachBytes <= 281474976710656 := by decide
theorem len_le {l k : Nat} (hk : 0 < k) (h : l * k <= reachBytes) : l <= 281474976710656 := Nat.le_trans (Nat.le_mul_of_pos_right l hk) (Nat.le_trans h reachB)
theorem pt_int {n : Nat} {xs : List PV} (h : PT Tryz.prog (n + 1) 3 xs) : ∃ z : Int, xs = [.lit (.int .i64 z)] /\ i64ok z := by
  obtain ⟨z, rfl, hz⟩ := PT_int (P := Tryz.prog) (t := 3) Tryz.underlying3 h;refine ⟨z, rfl, ?_⟩;unfold i64ok;simpa [Lit.wf, IntKind.min, IntKind.max, IntKind.signed, IntKind.bits] using hz
theorem pt_bool {n : Nat} {xs : List PV} (h : PT Tryz.prog (n + 1) 4 xs) : ∃ b : Bool, xs = [.lit (.bool b)] := PT_bool (P := Tryz.prog) (t := 4) Tryz.underlying4 h
theorem pt_str {n : Nat} {xs : List PV} (h : PT Tryz.prog (n + 1) 9 xs) : ∃ s : ByteArray, xs = [.lit (.string s)] /\ s.size <= 281474976710656 := by
  obtain ⟨z, rfl, hz⟩ := PT_str (P := Tryz.prog) (t := 9) Tryz.underlying9 h;exact ⟨z, rfl, Nat.le_trans hz reachB⟩
theorem cells_ints : Tryz.prog.cellsOf 3 = 1 := by kernel_rfl
theorem bytes_ints : 0 < Tryz.prog.bytesOf 3 := by rw [show Tryz.prog.bytesOf 3 = 8 from by kernel_rfl]; decide
theorem pt_ints {n : Nat} {xs : List PV} (h : PT Tryz.prog (n + 2) 28 xs) : ∃ l : List Int, xs = [.dat 1 (l.map inRow)] /\ intsOk l := by
  obtain ⟨l, rfl, hl, hr⟩ := PT_slice (P := Tryz.prog) (t := 28) Tryz.underlying28 h;obtain ⟨zs, rfl, hz⟩ := exMap inRow i64ok l fun r hr2 => by
    obtain ⟨z, rfl, hz⟩ := pt_int (hr r hr2);exact ⟨z, rfl, hz⟩
  rw [cells_ints];have := len_le bytes_ints hl;rw [List.length_map] at this;exact ⟨zs, rfl, this, hz⟩
theorem cells_bools : Tryz.prog.cellsOf 4 = 1 := by kernel_rfl
theorem bytes_bools : 0 < Tryz.prog.bytesOf 4 := by rw [show Tryz.prog.bytesOf 4 = 1 from by kernel_rfl]; decide
theorem pt_bools {n : Nat} {xs : List PV} (h : PT Tryz.prog (n + 2) 29 xs) : ∃ l : List Bool, xs = [.dat 1 (l.map boRow)] /\ l.length <= 281474976710656 := by
  obtain ⟨l, rfl, hl, hr⟩ := PT_slice (P := Tryz.prog) (t := 29) Tryz.underlying29 h;obtain ⟨zs, rfl, hz⟩ := exMap boRow (fun _ => True) l fun r hr2 => by
    obtain ⟨z, rfl⟩ := pt_bool (hr r hr2);exact ⟨z, rfl, trivial⟩
  rw [cells_bools];have := len_le bytes_bools hl;rw [List.length_map] at this;exact ⟨zs, rfl, this⟩
theorem pt_knot {n : Nat} {xs : List PV} (h : PT Tryz.prog (n + 2) 160 xs) : ∃ x : Knot, xs = knotP x /\ knotOk x := by
  replace h := PT_struct (P := Tryz.prog) (t := 160) Tryz.underlying160 h
  obtain ⟨_, _, rfl, h0, _, _, rfl, h1, rfl⟩ := h;obtain ⟨a0, rfl, k0⟩ := pt_int h0;obtain ⟨a1, rfl, k1⟩ := pt_int h1;exact ⟨⟨a0, a1⟩, rfl, ⟨k0, k1⟩⟩
theorem cells_knots : Tryz.prog.cellsOf 160 = 2 := by kernel_rfl
theorem bytes_knots : 0 < Tryz.prog.bytesOf 160 := by rw [show Tryz.prog.bytesOf 160 = 16 from by kernel_rfl]; decide
theorem pt_knots {n : Nat} {xs : List PV} (h : PT Tryz.prog (n + 3) 54 xs) : ∃ l : List Knot, xs = [.dat 2 (l.map knotP)] /\ l.length <= 281474976710656 /\ ∀ x, x ∈ l -> knotOk x := by
  obtain ⟨l, rfl, hl, hr⟩ := PT_slice (P := Tryz.prog) (t := 54) Tryz.underlying54 h;obtain ⟨zs, rfl, hz⟩ := exMap knotP knotOk l fun r hr2 => by
    obtain ⟨z, rfl, hz⟩ := pt_knot (hr r hr2);exact ⟨z, rfl, hz⟩
  rw [cells_knots];have := len_le bytes_knots hl;rw [List.length_map] at this;exact ⟨zs, rfl, this, hz⟩
theorem pt_point {n : Nat} {xs : List PV} (h : PT Tryz.prog (n + 2) 74 xs) : ∃ x : Point, xs = pointP x /\ pointOk x := by
  replace h := PT_struct (P := Tryz.prog) (t := 74) Tryz.underlying74 h
  obtain ⟨_, _, rfl, h0, _, _, rfl, h1, rfl⟩ := h;obtain ⟨a0, rfl, k0⟩ := pt_int h0;obtain ⟨a1, rfl, k1⟩ := pt_int h1;exact ⟨⟨a0, a1⟩, rfl, ⟨k0, k1⟩⟩
theorem pt_node {n : Nat} {xs : List PV} (h : PT Tryz.prog (n + 4) 76 xs) : ∃ x : Node, xs = nodeP x /\ nodeOk x := by
  replace h := PT_struct (P := Tryz.prog) (t := 76) Tryz.underlying76 h
  obtain ⟨_, _, rfl, h0, _, _, rfl, h1, _, _, rfl, h2, _, _, rfl, h3, _, _, rfl, h4, _, _, rfl, h5, _, _, rfl, h6, _, _, rfl, h7, rfl⟩ := h;obtain ⟨a0, rfl, k0⟩ := pt_str h0;obtain ⟨a1, rfl, k1⟩ := pt_int h1;obtain ⟨a2, rfl, k2⟩ := pt_point h2;obtain ⟨a3, rfl, k3⟩ := pt_int h3;obtain ⟨a4, rfl, k4⟩ := pt_int h4;obtain ⟨a5, rfl, k5⟩ := pt_knots h5;obtain ⟨a6, rfl⟩ := pt_bool h6;obtain ⟨a7, rfl, k7⟩ := pt_int h7;exact ⟨⟨a0, a1, a2, a3, a4, a5, a6, a7⟩, rfl, ⟨k0, k1, k2, k3, k4, k5, k7⟩⟩
theorem cells_nodes : Tryz.prog.cellsOf 76 = 9 := by kernel_rfl
theorem bytes_nodes : 0 < Tryz.prog.bytesOf 76 := by rw [show Tryz.prog.bytesOf 76 = 96 from by kernel_rfl]; decide
theorem pt_nodes {n : Nat} {xs : List PV} (h : PT Tryz.prog (n + 5) 22 xs) : ∃ l : List Node, xs = [.dat 9 (l.map nodeP)] /\ l.length <= 281474976710656 /\ ∀ x, x ∈ l -> nodeOk x := by
  obtain ⟨l, rfl, hl, hr⟩ := PT_slice (P := Tryz.prog) (t := 22) Tryz.underlying22 h;obtain ⟨zs, rfl, hz⟩ := exMap nodeP nodeOk l fun r hr2 => by
    obtain ⟨z, rfl, hz⟩ := pt_node (hr r hr2);exact ⟨z, rfl, hz⟩
  rw [cells_nodes];have := len_le bytes_nodes hl;rw [List.length_map] at this;exact ⟨zs, rfl, this, hz⟩
theorem pt_link {n : Nat} {xs : List PV} (h : PT Tryz.prog (n + 4) 56 xs) : ∃ x : Link, xs = linkP x /\ linkOk x := by
  replace h := PT_struct (P := Tryz.prog) (t := 56) Tryz.underlying56 h
  obtain ⟨_, _, rfl, h0, _, _, rfl, h1, _, _, rfl, h2, _, _, rfl, h3, _, _, rfl, h4, _, _, rfl, h5, _, _, rfl, h6, _, _, rfl, h7, _, _, rfl, h8, _, _, rfl, h9, _, _, rfl, h10, rfl⟩ := h;obtain ⟨a0, rfl, k0⟩ := pt_str h0;obtain ⟨a1, rfl, k1⟩ := pt_str h1;obtain ⟨a2, rfl, k2⟩ := pt_str h2;obtain ⟨a3, rfl, k3⟩ := pt_int h3;obtain ⟨a4, rfl, k4⟩ := pt_int h4;obtain ⟨a5, rfl, k5⟩ := pt_int h5;obtain ⟨a6, rfl, k6⟩ := pt_int h6;obtain ⟨a7, rfl, k7⟩ := pt_str h7;obtain ⟨a8, rfl, k8⟩ := pt_int h8;obtain ⟨a9, rfl, k9⟩ := pt_int h9;obtain ⟨a10, rfl, k10⟩ := pt_knots h10;exact ⟨⟨a0, a1, a2, a3, a4, a5, a6, a7, a8, a9, a10⟩, rfl, ⟨k0, k1, k2, k3, k4, k5, k6, k7, k8, k9, k10⟩⟩
theorem cells_links : Tryz.prog.cellsOf 56 = 11 := by kernel_rfl
theorem bytes_links : 0 < Tryz.prog.bytesOf 56 := by rw [show Tryz.prog.bytesOf 56 = 136 from by kernel_rfl]; decide
theorem pt_links {n : Nat} {xs : List PV} (h : PT Tryz.prog (n + 5) 23 xs) : ∃ l : List Link, xs = [.dat 11 (l.map linkP)] /\ l.length <= 281474976710656 /\ ∀ x, x ∈ l -> linkOk x := by
  obtain ⟨l, rfl, hl, hr⟩ := PT_slice (P := Tryz.prog) (t := 23) Tryz.underlying23 h;obtain ⟨zs, rfl, hz⟩ := exMap linkP linkOk l fun r hr2 => by
    obtain ⟨z, rfl, hz⟩ := pt_link (hr r hr2);exact ⟨z, rfl, hz⟩
  rw [cells_links];have := len_le bytes_links hl;rw [List.length_map] at this;exact ⟨zs, rfl, this, hz⟩
theorem pt_net {n : Nat} {xs : List PV} (h : PT Tryz.prog (n + 6) 25 xs) : ∃ x : Net, xs = netP x /\ netOk x := by
  replace h := PT_struct (P := Tryz.prog) (t := 25) Tryz.underlying25 h
  obtain ⟨_, _, rfl, h0, _, _, rfl, h1, rfl⟩ := h;obtain ⟨a0, rfl, k0⟩ := pt_nodes h0;obtain ⟨a1, rfl, k1⟩ := pt_links h1;exact ⟨⟨a0, a1⟩, rfl, ⟨k0, k1⟩⟩
theorem pt_sta {n : Nat} {xs : List PV} (h : PT Tryz.prog (n + 3) 31 xs) : ∃ x : Sta, xs = staP x /\ staOk x := by
  replace h := PT_struct (P := Tryz.prog) (t := 31) Tryz.underlying31 h
  obtain ⟨_, _, rfl, h0, _, _, rfl, h1, _, _, rfl, h2, _, _, rfl, h3, rfl⟩ := h;obtain ⟨a0, rfl, k0⟩ := pt_ints h0;obtain ⟨a1, rfl, k1⟩ := pt_ints h1;obtain ⟨a2, rfl, k2⟩ := pt_ints h2;obtain ⟨a3, rfl, k3⟩ := pt_bools h3;exact ⟨⟨a0, a1, a2, a3⟩, rfl, ⟨k0, k1, k2, k3⟩⟩
theorem pt_sect {n : Nat} {xs : List PV} (h : PT Tryz.prog (n + 4) 81 xs) : ∃ x : Sect, xs = sectP x /\ sectOk x := by
  replace h := PT_struct (P := Tryz.prog) (t := 81) Tryz.underlying81 h
  obtain ⟨_, _, rfl, h0, _, _, rfl, h1, _, _, rfl, h2, _, _, rfl, h3, _, _, rfl, h4, rfl⟩ := h;obtain ⟨a0, rfl, k0⟩ := pt_str h0;obtain ⟨a1, rfl, k1⟩ := pt_int h1;obtain ⟨a2, rfl, k2⟩ := pt_int h2;obtain ⟨a3, rfl, k3⟩ := pt_knots h3;obtain ⟨a4, rfl, k4⟩ := pt_knots h4;exact ⟨⟨a0, a1, a2, a3, a4⟩, rfl, ⟨k0, k1, k2, k3, k4⟩⟩
theorem cells_sects : Tryz.prog.cellsOf 81 = 5 := by kernel_rfl
theorem bytes_sects : 0 < Tryz.prog.bytesOf 81 := by rw [show Tryz.prog.bytesOf 81 = 80 from by kernel_rfl]; decide
theorem pt_sects {n : Nat} {xs : List PV} (h : PT Tryz.prog (n + 5) 26 xs) : ∃ l : List Sect, xs = [.dat 5 (l.map sectP)] /\ l.length <= 281474976710656 /\ ∀ x, x ∈ l -> sectOk x := by
  obtain ⟨l, rfl, hl, hr⟩ := PT_slice (P := Tryz.prog) (t := 26) Tryz.underlying26 h;obtain ⟨zs, rfl, hz⟩ := exMap sectP sectOk l fun r hr2 => by
    obtain ⟨z, rfl, hz⟩ := pt_sect (hr r hr2);exact ⟨z, rfl, hz⟩
  rw [cells_sects];have := len_le bytes_sects hl;rw [List.length_map] at this;exact ⟨zs, rfl, this, hz⟩
theorem pt_u8 {n : Nat} {xs : List PV} (h : PT Tryz.prog (n + 1) 5 xs) : ∃ z : Int, xs = [.lit (.int .u8 z)] /\ 0 <= z /\ z <= 255 := by
  obtain ⟨z, rfl, hz⟩ := PT_int (P := Tryz.prog) (t := 5) Tryz.underlying5 h;refine ⟨z, rfl, ?_⟩;simpa [Lit.wf, IntKind.min, IntKind.max, IntKind.signed, IntKind.bits] using hz
theorem dv_u8 (n : Int) : dvT Tryz.prog 5 [.lit (.int .u8 n)] = lv (.int .u8 n) := by unfold dvT; rw [Tryz.underlying5]; rfl
theorem find1_f (y : Sect) (s : ByteArray) (m : Nat) : DCalls Tryz.prog 168 [sectD y, .ptr 0 0] (hget [(0, .blk 9 (([.lit (.string s)] : List PV).map .p))]) m (lb (decide (y.name = s))) (hget [(0, .blk 9 (([.lit (.string s)] : List PV).map .p))]) := by
  refine contract (n := 8) (rs := [.tmp 3]) (ts := [4]) Tryz.func168 rfl (by decide) 1 1 [] [] [] (lb (decide (y.name = s))) [(0, .blk 9 (([.lit (.string s)] : List PV).map .p))] (by (exact SD)) (by (exact SD)) ?_;(repeat' first|refine stW [0,1,2,3] ?_|refine fctI fun hf=>?_|refine twI (fun hc=>?_) fun hc=>?_);exact DVR
theorem find_f (l : List Sect) (s : ByteArray) (m : Nat) (h : catOk l) (hc : catB l = true) : Pu 145 [sectL l, ls s] m (if 0 <= secIx l s then .tup [li (secIx l s), li 0] else .tup [li 0, li 9]) := by
  have c1 := fun m => cat_f l m h
  rw [hc] at c1;have ci := idxSectC_f 168 9 [.lit (.string s)] (fun y => decide (y.name = s)) l h.1 (fun y _ m => find1_f y s m);change DCalls _ _ _ _ _ (li (secIx l s)) _ at ci;generalize secIx l s = k at *
  by_cases hk : 0 <= k
  · rw [if_pos hk];(have:=NeI hk);refine pcN 16 [.tmp 4,.tmp 5] [3,45] Tryz.func145 rfl [] ?_;(repeat' first|refine stW [0,1,3,4,5,6,9,14] ?_|refine fctI fun hf=>?_|refine twI (fun hc=>?_) fun hc=>?_);(refine cQT [0] (fun hcc => ci) ?_);(repeat' first|refine stW [0,1,3,4,5,6,9,14] ?_|refine fctI fun hf=>?_|refine twI (fun hc=>?_) fun hc=>?_);exact DVR
  · rw [if_neg hk];(have:=NeI hk);refine pcN 16 [.tmp 4,.tmp 5] [3,45] Tryz.func145 rfl [] ?_;(repeat' first|refine stW [0,1,3,4,5,6,9,14] ?_|refine fctI fun hf=>?_|refine twI (fun hc=>?_) fun hc=>?_);(refine cQT [0] (fun hcc => ci) ?_);(repeat' first|refine stW [0,1,3,4,5,6,9,14] ?_|refine fctI fun hf=>?_|refine twI (fun hc=>?_) fun hc=>?_);exact DVR
set_option maxRecDepth 20000 in
theorem rnamed_f (n : Net) (l : List Sect) (m : Nat) (no : netOk n) (h : catOk l) (hc : catB l = true) : Pu 106 [netD n, sectL l] m (lb (!(n.links.any fun x => !knownB l x))) := by
  have hll := no.2.1;refine pcN 29 [.tmp 4] [4] Tryz.func106 rfl [] ?_;(repeat' first|refine stW [0,1,2,4,6,8,10,11,12,13,18,27] ?_|refine fctI fun hf=>?_|refine twI (fun hc=>?_) fun hc=>?_);refine loop_swp [1, 2, 10, 11, 12] [0] 1 (fun q A H => ∃ i : Nat, i <= n.links.length /\ q = n.links.length - i /\ (∀ j, j < i -> knownB l (n.links.getD j default) = true) /\ A = [(1, sectL l), (2, .ptr 0 0), (10, linkL n.links), (11, li n.links.length), (12, li i)] /\ H = [(0, .blk 25 (netC n))]) (by omega) ?_ ?_ ?_
  · rintro q A H ⟨i, h1, h2, h3, rfl, rfl⟩;exact SDD
  · refine ⟨_, 0, by omega, rfl, by omega, ?_, ?_⟩
    · exact DVR
    · exact DVR
  rintro q A H ⟨i, h1, h2, h3, rfl, rfl⟩;by_cases hi : i < n.links.length
  · have hi3 : (i : Int) < (n.links.length : Int) := by omega
    have h4 : knownB l (n.links.getD i default) = true -> ∀ j, j < i + 1 -> knownB l (n.links.getD j default) = true := fun kn j hj => by
      by_cases e : j = i
      · rw [e]; exact kn
      · exact h3 j (by omega)
    have hmem := getD_mem hi;(have:=NeI hi);(have:=NeI hi3);by_cases k1 : (n.links.getD i default).kind = 1
    · have cf := fun m => find_f l (n.links.getD i default).sect m h hc
      (have:=NeI k1);by_cases k2 : 0 <= secIx l (n.links.getD i default).sect
      · rw [if_pos k2] at cf;have h5 := h4 (by unfold knownB; rw [decide_eq_true k2, Bool.or_true]);clear h4 h3;(repeat' first|refine stW [0,1,2,4,6,8,10,11,12,13,18,27] ?_|(show CallQ ..;first|refine cQ (fun hcc=>(by first | exact cf _)) ?_|(refine lP ?_;refine lQ (fun hcc m=>(by first | exact cf _)) ?_))|refine fctI fun hf=>?_|refine twI (fun hc=>?_) fun hc=>?_);(refine lN [0] ?_);exact ⟨_, by omega, i + 1, by omega, rfl, h5, rfl, rfl⟩
      · rw [if_neg k2] at cf;have h5 : (n.links.any fun x => !knownB l x) = true := List.any_eq_true.2 ⟨_, hmem, by unfold knownB; rw [decide_eq_false k2, decide_eq_true k1]; rfl⟩;rw [h5];clear h4 h3;(repeat' first|refine stW [0,1,2,4,6,8,10,11,12,13,18,27] ?_|(show CallQ ..;first|refine cQ (fun hcc=>(by first | exact cf _)) ?_|(refine lP ?_;refine lQ (fun hcc m=>(by first | exact cf _)) ?_))|refine fctI fun hf=>?_|refine twI (fun hc=>?_) fun hc=>?_);exact DVR
    · have h5 := h4 (by unfold knownB; rw [decide_eq_false k1]; rfl);(have:=NeI k1);clear h4 h3;(repeat' first|refine stW [0,1,2,4,6,8,10,11,12,13,18,27] ?_|refine fctI fun hf=>?_|refine twI (fun hc=>?_) fun hc=>?_);(refine lN [0] ?_);exact ⟨_, by omega, i + 1, by omega, rfl, h5, rfl, rfl⟩
  obtain rfl : i = n.links.length := by omega
  have hi3 : ¬ ((n.links.length : Int) < (n.links.length : Int)) := by omega
  (have:=NeI hi3);have h5 : (n.links.any fun x => !knownB l x) = false := by
    rw [List.any_eq_false];intro x hx;obtain ⟨k, hk, rfl⟩ := List.mem_iff_getElem.1 hx;have := h3 k hk;rw [List.getD_eq_getElem?_getD, List.getElem?_eq_getElem hk] at this;have this : knownB l n.links[k] = true := this;rw [this]; decide
  rw [h5];(repeat' first|refine stW [0,1,2,4,6,8,10,11,12,13,18,27] ?_|refine fctI fun hf=>?_|refine twI (fun hc=>?_) fun hc=>?_);exact DVR
section
variable {n : Net} {l : List Sect} {s : Sta} {inf : List Int} {sec : Int}
theorem wishI_in {q sec : Int} (h : 0 <= q /\ q <= 1099511627776) (hs : 1 <= sec /\ sec <= 86400) : wishI q sec = (min (q * sec) 1125899906842624, 0) /\ 0 <= (wishI q sec).1 /\ (wishI q sec).1 <= 1125899906842624 := by
  have e : wishI q sec = (min (q * sec) 1125899906842624, 0) := by
    unfold wishI;rw [if_neg (by omega)]
  have h1 : 0 <= q * sec := Int.mul_nonneg h.1 (by omega);rw [e];refine ⟨rfl, ?_, ?_⟩
  · show 0 <= min (q * sec) 1125899906842624;omega
  · show min (q * sec) 1125899906842624 <= 1125899906842624;omega
theorem StepIn.lv (S : StepIn n l s inf sec) : (lvl1 n s inf).length = n.nodes.length /\ lvA n (lvl1 n s inf) = true := by
  refine ⟨rng_len _ _, lvA_yes fun q hq => ?_⟩;have h0 := (vS_in S.nb hq (S.inB q hq).1).1;have := levelI_in (netB_node S.nb hq) h0;unfold lvB lvl1 levelsL;rw [rng_at hq];unfold btwB;simp only [Bool.and_eq_true, decide_eq_true_eq];exact this
theorem onS_len : (onS n s inf).length = n.links.length := rng_len _ _
theorem onS_kind {k : Nat} (hk : k < n.links.length) (h : (onS n s inf).getD k default = true) : (n.links.getD k default).kind = 4 := by
  unfold onS pumpsL at h;rw [rng_at hk] at h;unfold pumpAt at h;simp only [Bool.and_eq_true, decide_eq_true_eq] at h;exact h.1
theorem StepIn.ok1 (S : StepIn n l s inf sec) (hf : fitS n (heldB n s inf) = true) : staB n (sta1 n s inf) = true := by
  have h1 := (staB_in S.nb S.sb).1;obtain ⟨l1, l2, l3, l4⟩ := lensB_of h1;exact sta_settled S l4 (fun k hk ho => (okSL_in S.sb hk).2 ho) (fun q hq => (S.inB q hq).1) (fun q hq ho => by rw [heldB_at hq, if_pos ho]) hf
theorem StepIn.ok2 (S : StepIn n l s inf sec) (hf : fitS n (heldB n s inf) = true) : staB n (sta2 n s inf) = true :=
  sta_settled S onS_len (fun k hk ho => onS_kind hk ho) (fun q hq => (S.inB q hq).1) (fun q hq ho => by rw [heldB_at hq, if_pos ho]) hf
theorem StepIn.flows (S : StepIn n l s inf sec) (hf : fitS n (heldB n s inf) = true) : FlowsIn n l (lvl1 n s inf) (sta2 n s inf) := ⟨S.no, S.co, S.nb, S.cb, S.ok2 hf, S.lv.1, S.lv.2, S.kn⟩
theorem StepIn.pass (S : StepIn n l s inf sec) (hf : fitS n (heldB n s inf) = true) : PassIn n (heldB n s inf) (wsh n l s inf sec) where
  w0 k hk := by
    have h := flowI_in (on := ((sta2 n s inf).on.getD k default)) ((S.flows hf).btw hk);unfold wsh wshL;rw [rng_at hk];exact (wishI_in h S.sc).2
  h0 q hq := (S.inB q hq).1
theorem StepIn.inC (S : StepIn n l s inf sec) (hf : fitS n (heldB n s inf) = true) : ∀ q, q < n.nodes.length -> 0 <= (heldC n l s inf sec).getD q default /\ (heldC n l s inf sec).getD q default <= 1152921504606846976 := fun q hq => by
  have W := S.pass hf;have E := ends_of S.nb;have h400 := (netB_len S.nb).2;have hB := S.inB q hq;unfold heldC;rw [mvH_at hq];have h1 := W.le E hq;have hx : ∀ i, i < (pasL n l s inf sec).length -> 0 <= (pasL n l s inf sec).getD i default /\ (pasL n l s inf sec).getD i default <= 1125899906842624 := fun i hi => W.x E (by unfold pasL at hi; rw [limR_len] at hi; exact hi)
  have hl : (pasL n l s inf sec).length = n.links.length := limR_len ..;have h2 := selI_le (p := tilQ n q) hx n.links.length (by omega);have h3 := selI_le (p := froQ n q) hx n.links.length (by omega);have h1 : selI (froQ n q) (pasL n l s inf sec) n.links.length <= (heldB n s inf).getD q default := h1;have h4 : (n.links.length : Int) * 1125899906842624 <= 400 * 1125899906842624 := Int.mul_le_mul_of_nonneg_right (by omega) (by decide);split <;> omega
theorem StepIn.inD (S : StepIn n l s inf sec) (hf : fitS n (heldB n s inf) = true) : ∀ q, q < n.nodes.length -> 0 <= (heldD n l s inf sec).getD q default := fun q hq => by
  have := S.inC hf q hq;unfold heldD;rw [hS_at hq];split <;> omega
theorem StepIn.fin (S : StepIn n l s inf sec) (hf : fitS n (heldB n s inf) = true) (hg : fitS n (heldD n l s inf sec) = true) : staB n (stepS n l s inf sec) = true :=
  sta_settled S onS_len (fun k hk ho => onS_kind hk ho) (S.inD hf) (fun q hq ho => by unfold heldD; rw [hS_at hq, if_pos (isOut_kind.1 ho)]) hg
end
section
variable {n : Net} {l : List Sect} {s : Sta} {inf : List Int} {sec : Int}
end
section
variable {n : Net} {l : List Sect} {s : Sta} {inf : List Int} {sec : Int}
end
set_option maxRecDepth 20000 in
theorem rlimited_f (n : Net) (held w : List Int) (m : Nat) (no : netOk n) (nb : netB n = true) (h14 : n.nodes.length <= 14) (hl : held.length = n.nodes.length) (wl : w.length = n.links.length) (W : PassIn n held w) (hb : ∀ q, q < n.nodes.length -> held.getD q default <= 4503599627370496) :
    DCallsG Tryz.prog 111 [] [netD n, ints held, ints w] (hget []) m (.gl m) (hget [(m, inLt (limR n held w))]) := by
  have E := ends_of nb;have h400 := (netB_len nb).2;have hll := no.2.1;have co := fun m => outs_f n m no nb h14
  have cc := fun m => cloneI_f w m (by omega)
  have hol : (outsL n).length = n.nodes.length := by simp [outsL]
  have hog : ∀ q, q < n.nodes.length -> (outsL n).getD q default = outK n q n.links.length := fun q hq => rngm_at hq
  have hw0 : ∀ k, k < n.links.length -> 0 <= w.getD k default := fun k hk => (W.w0 k hk).1
  have hsum : ∀ (P : Nat -> Bool) t, t <= n.links.length -> 0 <= selI P w t /\ selI P w t <= 450359962737049600 := fun P t ht => by
    have h1 := selI_le (p := P) (l := w) (fun i hi => W.w0 i (by omega)) t (by omega);have h4 : (t : Int) * 1125899906842624 <= 400 * 1125899906842624 := Int.mul_le_mul_of_nonneg_right (by omega) (by decide);omega
  refine contract (n := 82) (rs := [.tmp 6]) (ts := [28]) Tryz.func111 rfl (by decide) 0 0 [] [] [24] (.gl 24) [(24, inLt (limR n held w))] (by (exact SD)) (by (exact SD)) ?_;(repeat' first|refine stW [0,1,2,3,6,7,8,10,11,12,14,15,16,18,19,27,28,29,30,34,35,36,37,52,53,54,55,56] ?_|refine fctI fun hf=>?_|refine twI (fun hc=>?_) fun hc=>?_);generalize outsL n = OL at *
  refine loop_swp [1, 2, 7, 27, 28, 29] [24] 25 (fun q A H => ∃ i : Nat, i <= n.nodes.length /\ q = n.nodes.length - i /\ A = [(1, ints held), (2, ints w), (7, .gl 24), (27, intss OL), (28, li n.nodes.length), (29, li i)] /\ H = [(24, inLt (limP n held w i 0))]) (by omega) ?_ ?_ ?_
  · rintro q A H ⟨i, h1, h2, rfl, rfl⟩;exact SDD
  · refine ⟨_, 0, by omega, rfl, ?_, ?_⟩
    · rw [<- hol]; exact DVR
    · rw [limP_start wl]; exact DVR
  rintro q A H ⟨i, h1, h2, rfl, rfl⟩;by_cases hi : i < n.nodes.length
  case neg =>
    obtain rfl : i = n.nodes.length := by omega
    have hi3 : ¬ ((n.nodes.length : Int) < (n.nodes.length : Int)) := by omega
    (have:=NeI hi3);rw [limP_end fun k hk => (E.f k hk).1];(repeat' first|refine stW [0,1,2,3,6,7,8,10,11,12,14,15,16,18,19,27,28,29,30,34,35,36,37,52,53,54,55,56] ?_|refine fctI fun hf=>?_|refine twI (fun hc=>?_) fun hc=>?_);exact DVR
  have hi3 : (i : Int) < (n.nodes.length : Int) := by omega
  have hiO : i < OL.length := by omega
  have hih : i < held.length := by omega
  have hrow := hog i hi;have hrl : (OL.getD i default).length <= 400 := by rw [hrow]; have := outK_len n i n.links.length; omega
  have hPl := limP_len n held w i 0;generalize hX0 : limP n held w i 0 = X0 at *
  (have:=NeI hi3);(have:=NeI hiO);(have:=NeI hih);(repeat' first|refine stW [0,1,2,3,6,7,8,10,11,12,14,15,16,18,19,27,28,29,30,34,35,36,37,52,53,54,55,56] ?_|refine fctI fun hf=>?_|refine twI (fun hc=>?_) fun hc=>?_);generalize hR : OL.getD i default = row at *
  refine loop_swp [1, 2, 7, 10, 11, 12, 27, 28, 29, 34, 35, 36] [24] 25 (fun q A H => ∃ j t : Nat, t <= n.links.length /\ (outK n i t).length = j /\ j <= row.length /\ q = row.length - j /\ A = [(1, ints held), (2, ints w), (7, .gl 24), (10, li i), (11, ints row), (12, li (selI (froQ n i) w t)), (27, intss OL), (28, li n.nodes.length), (29, li i), (34, ints row), (35, li row.length), (36, li j)] /\ H = [(24, inLt X0)]) (by omega) ?_ ?_ ?_
  · rintro q A H ⟨j, t, a1, a2, a3, a4, rfl, rfl⟩;exact SDD
  · refine ⟨_, 0, 0, by omega, rfl, by omega, rfl, ?_, ?_⟩
    · exact DVR
    · exact DVR
  rintro q A H ⟨j, t, a1, a2, a3, a4, rfl, rfl⟩;by_cases hj : j < row.length
  · have hj3 : (j : Int) < (row.length : Int) := by omega
    obtain ⟨k, b1, b2, b3, b4, b5⟩ := outK_next n i (t := t) n.links.length a1 (by rw [a2, <- hrow]; exact hj);rw [a2, <- hrow] at b3;have hk := outK_skip n i (a := t) k b1 b5;have hk1 := outK_hit b4;rw [hk, a2] at hk1;have hs1 := selI_hit (w := w) b4;have hs0 := selI_skip (P := froQ n i) (w := w) (a := t) k b1 b5;have hr1 := hsum (froQ n i) t a1;have hwk := W.w0 k b2;rw [hs0] at hs1;have hkw : k < w.length := by omega
    have hkw3 : (k : Int) < (w.length : Int) := by omega
    haveI : GetAt row j (k : Int) := ⟨b3⟩;(have:=NeI hj);(have:=NeI hj3);(have:=NeI hkw);(have:=NeI hkw3);generalize selI (froQ n i) w t = S0 at *
    clear hsum hw0 hog;(repeat' first|refine stW [0,1,2,3,6,7,8,10,11,12,14,15,16,18,19,27,28,29,30,34,35,36,37,52,53,54,55,56] ?_|refine fctI fun hf=>?_|refine twI (fun hc=>?_) fun hc=>?_);(refine lN [24] ?_);exact ⟨_, by omega, j + 1, k + 1, by omega, hk1, by omega, rfl, by rw [hs1] <;> rfl, rfl⟩
  obtain rfl : j = row.length := by omega
  have hj3 : ¬ ((row.length : Int) < (row.length : Int)) := by omega
  (have:=NeI hj3);have hse : selI (froQ n i) w n.links.length = selI (froQ n i) w t := selI_skip n.links.length a1 (outK_same n i n.links.length a1 (by rw [a2, <- hrow]));have hSr := hsum (froQ n i) n.links.length (Nat.le_refl _);rw [<- hse];by_cases hS : selI (froQ n i) w n.links.length <= held.getD i default
  · have hfree := limP_free hS;rw [hX0] at hfree;(have:=NeI hS);generalize selI (froQ n i) w n.links.length = S at *
    (repeat' first|refine stW [0,1,2,3,6,7,8,10,11,12,14,15,16,18,19,27,28,29,30,34,35,36,37,52,53,54,55,56] ?_|refine fctI fun hf=>?_|refine twI (fun hc=>?_) fun hc=>?_);(refine lN [24] ?_);exact ⟨_, by omega, i + 1, by omega, rfl, rfl, by rw [hfree]⟩
  have hh0 := W.h0 i hi;have hhb := hb i hi;have hS0 : 0 < selI (froQ n i) w n.links.length := by omega
  obtain ⟨S, hSe⟩ : ∃ S, selI (froQ n i) w n.links.length = S := ⟨_, rfl⟩;rw [hSe] at hS0 hSr ⊢;have hS2 : ¬ S <= held.getD i default := by rw [<- hSe]; exact hS
  (have:=NeI hS2);(repeat' first|refine stW [0,1,2,3,6,7,8,10,11,12,14,15,16,18,19,27,28,29,30,34,35,36,37,52,53,54,55,56] ?_|refine fctI fun hf=>?_|refine twI (fun hc=>?_) fun hc=>?_);refine loop_swp [1, 2, 7, 10, 12, 15, 16, 27, 28, 29, 53, 54, 55] [24] 25 (fun q A H => ∃ j t : Nat, t <= n.links.length /\ (outK n i t).length = j /\ j <= row.length /\ q = row.length - j /\ A = [(1, ints held), (2, ints w), (7, .gl 24), (10, li i), (12, li S), (15, li (selI (froQ n i) w t)), (16, li (held.getD i default * selI (froQ n i) w t / S)), (27, intss OL), (28, li n.nodes.length), (29, li i), (53, ints row), (54, li row.length), (55, li j)] /\ H = [(24, inLt (limP n held w i t))]) (by omega) ?_ ?_ ?_
  · rintro q A H ⟨j, t, a1, a2, a3, a4, rfl, rfl⟩;exact SDD
  · refine ⟨_, 0, 0, by omega, rfl, by omega, rfl, ?_, ?_⟩
    · rw [show held.getD i default * selI (froQ n i) w 0 / S = 0 by show held.getD i default * 0 / S = 0; rw [Int.mul_zero, Int.zero_ediv]];exact DVR
    · rw [hX0]; exact DVR
  rintro q A H ⟨j, t, a1, a2, a3, a4, rfl, rfl⟩;have hXl := limP_len n held w i t;by_cases hj : j < row.length
  · have hj3 : (j : Int) < (row.length : Int) := by omega
    obtain ⟨k, b1, b2, b3, b4, b5⟩ := outK_next n i (t := t) n.links.length a1 (by rw [a2, <- hrow]; exact hj);rw [a2, <- hrow] at b3;have hk := outK_skip n i (a := t) k b1 b5;have hk1 := outK_hit b4;rw [hk, a2] at hk1;have hs1 := selI_hit (w := w) b4;have hs0 := selI_skip (P := froQ n i) (w := w) (a := t) k b1 b5;have hr1 := hsum (froQ n i) t a1;have hr2 := hsum (froQ n i) (k + 1) (by omega);have hr3 := selI_mono (P := froQ n i) (w := w) (a := k + 1) n.links.length (by omega) hw0;have hwk := W.w0 k b2;have hfr : fromI n k = i := by
      have := E.fro (q := i) b2;rw [b4] at this;exact (of_decide_eq_true this.symm).symm
    have hskip : limP n held w i t = limP n held w i k := limP_skip b1 fun x h1 h2 he => by
      have := b5 x h1 h2;rw [E.fro (by omega)] at this;exact absurd he.symm (of_decide_eq_false this)
    have hset := limP_set (held := held) (w := w) b2 hfr;have hlim : limK n held w k = held.getD i default * selI (froQ n i) w (k + 1) / S - held.getD i default * selI (froQ n i) w k / S := by
      unfold limK shareI;rw [hfr, if_neg hS, hSe]
    rw [hlim, <- hskip, hs1, hs0] at hset;rw [hs1, hs0] at hr2 hr3;rw [hs0] at hs1;rw [hSe] at hr3;have hD1 : 0 <= held.getD i default * selI (froQ n i) w t / S := Int.ediv_nonneg (Int.mul_nonneg hh0 hr1.1) (by omega);have hD2 : held.getD i default * selI (froQ n i) w t / S <= held.getD i default * (selI (froQ n i) w t + w.getD k default) / S := Int.ediv_le_ediv hS0 (Int.mul_le_mul_of_nonneg_left (by omega) hh0);have hD3 : held.getD i default * (selI (froQ n i) w t + w.getD k default) / S <= held.getD i default := by
      have := Int.ediv_le_ediv hS0 (Int.mul_le_mul_of_nonneg_left hr3 hh0)
      rwa [Int.mul_ediv_cancel _ (by omega)] at this
    have cp := fun m => partI_f (held.getD i default) (selI (froQ n i) w t + w.getD k default) S m ⟨hh0, by omega⟩ ⟨hr2.1, hr3⟩ ⟨hS0, by omega⟩
    have hkw : k < w.length := by omega
    have hkw3 : (k : Int) < (w.length : Int) := by omega
    haveI : GetAt row j (k : Int) := ⟨b3⟩;(have:=NeI hj);(have:=NeI hj3);(have:=NeI hkw);(have:=NeI hkw3);have e1 : held.getD i default * selI (froQ n i) w (k + 1) / S = held.getD i default * (selI (froQ n i) w t + w.getD k default) / S := by rw [hs1]
    generalize held.getD i default * (selI (froQ n i) w t + w.getD k default) / S = NX at *
    generalize held.getD i default * selI (froQ n i) w t / S = D at *
    generalize limP n held w i t = X at *
    generalize selI (froQ n i) w t = S1 at *
    have hkX : k < X.length := by omega
    have hkX3 : (k : Int) < (X.length : Int) := by omega
    (have:=NeI hkX);(have:=NeI hkX3);clear hsum hw0 hog hlim;(repeat' first|refine stW [0,1,2,3,6,7,8,10,11,12,14,15,16,18,19,27,28,29,30,34,35,36,37,52,53,54,55,56] ?_|refine fctI fun hf=>?_|refine twI (fun hc=>?_) fun hc=>?_);(refine lN [24] ?_);exact ⟨_, by omega, j + 1, k + 1, by omega, hk1, by omega, rfl, by rw [e1, hs1] <;> rfl, by rw [<- hset] <;> rfl⟩
  obtain rfl : j = row.length := by omega
  have hj3 : ¬ ((row.length : Int) < (row.length : Int)) := by omega
  (have:=NeI hj3);have hend : limP n held w i t = limP n held w (i + 1) 0 := by
    rw [<- limP_node];refine limP_skip a1 fun x h1 h2 he => ?_
    have := outK_same n i n.links.length a1 (by rw [a2, <- hrow]) x h1 h2;rw [E.fro h2] at this;exact absurd he.symm (of_decide_eq_false this)
  rw [hend];generalize hX2 : limP n held w (i + 1) 0 = X2 at *
  (repeat' first|refine stW [0,1,2,3,6,7,8,10,11,12,14,15,16,18,19,27,28,29,30,34,35,36,37,52,53,54,55,56] ?_|refine fctI fun hf=>?_|refine twI (fun hc=>?_) fun hc=>?_);(refine lN [24] ?_);exact ⟨_, by omega, i + 1, by omega, rfl, rfl, by rw [hX2]⟩
section
open Go.Eng
theorem swp_nilB {D : Dfr} {P : Program} {N pin nx nx' : Nat} {c : Code} {Q : Exit -> LE -> LH -> Nat -> Prop} {A : LE} {H : LH} (b : Nat) (t te : TypeId) (n : Nat) (hn : nx + 8 = nx')
    (h : @SWp D P N pin c Q A ((b, .blk t [.gl nx]) :: (nx, .lst te n []) :: H) nx') : @SWp D P N pin c Q A ((b, .blk t [.p (.lit (.slice none 0 0))]) :: H) nx := by
  subst hn;unfold SWp at h ⊢;intro hp B hB a w hS;obtain ⟨ρ, S, HS, ES⟩ := hS;have h0 : hget ((b, HV.blk t [.p (.lit (.slice none 0 0))]) :: H) b = some (.blk t [.p (.lit (.slice none 0 0))]) := by simp [hget]
  have hbU := (HS.heapU b _ h0).1;have hbn : b ≠ nx := by omega
  obtain ⟨ρ', hρ'⟩ : ∃ ρ' : Nat -> Hd, ρ' = upd ρ nx { a := none, len := 0, cap := 0 } := ⟨_, rfl⟩;have hlt : ∀ i, i < nx -> ρ' i = ρ i := fun i hi => by subst hρ'; exact upd_ne _ _ (by omega)
  have hnx : ρ' nx = { a := none, len := 0, cap := 0 } := by subst hρ'; exact upd_same ..
  refine h (by omega) B hB a w ⟨ρ', S, ?_, ?_⟩
  · refine HS.seen (fun i hi => hlt i (by have := hB i hi; omega)) fun i v hi => ?_
    simp only [hget] at hi;split at hi
    · next e1 =>
      subst e1;obtain rfl := Option.some.inj hi;have hO := HS.heap i _ h0;refine ⟨?_, by omega, ?_, fun c hc => ⟨_, h0, ?_⟩⟩
      · simp only [HRel] at hO ⊢;obtain ⟨bb, vs, fz, k1, k2, k3, k4⟩ := hO;refine ⟨bb, vs, fz, by rw [hlt i hbU]; exact k1, k2, ?_, k4⟩;cases vs with
        | nil => exact k3.elim
        | cons v vs =>
          cases vs with
          | nil =>
            refine ⟨?_, trivial⟩;have := rel_lit k3.1;simp only [Rel];rw [hnx]; exact this
          | cons v2 vs => exact k3.2.elim
      · exact ⟨by show nx < nx + 8; omega, trivial⟩
      · simp only [hblk] at hc ⊢;rw [hlt i hbU] at hc; exact hc
    · next e1 =>
      split at hi
      · next e2 =>
        subst e2;obtain rfl := Option.some.inj hi;refine ⟨?_, by omega, trivial, fun c hc => ?_⟩
        · simp only [HRel];rw [hnx];exact ⟨rfl, by simp [BL], by simp, by simp, .inl rfl⟩
        · simp only [hblk] at hc;rw [hnx] at hc;simp at hc
      · next e2 =>
        have hh : hget ((b, HV.blk t [.p (.lit (.slice none 0 0))]) :: H) i = some v := by simp only [hget, if_neg e1]; exact hi
        have hU := HS.heapU i v hh;refine ⟨HRel.mono (U := fun i => i < nx) (fun i hi => hlt i hi) (fun _ k => k) (fun _ _ => rfl) hU.1 hU.2 (fun _ _ => rfl) (HS.heap i v hh), by have : i < nx := hU.1; omega, HV.uses_mono (fun i k => by omega) v hU.2, fun c hc => ⟨v, hh, ?_⟩⟩;rw [hlt i hU.1] at hc; exact hc
  · exact ES.mono (fun i hi => hlt i hi) (fun _ k => k) (fun _ _ => rfl) fun i k => by omega
end
set_option maxRecDepth 20000 in
theorem wishes_f (n : Net) (l : List Sect) (s : Sta) (sec : Int) (m : Nat) (no : netOk n) (co : catOk l) (so : staOk s) (nb : netB n = true) (cb : catB l = true) (sb : staB n s = true) (kn : ∀ k, k < n.links.length -> knownB l (n.links.getD k default) = true) (hsec : 1 <= sec /\ sec <= 86400)
    (sb2 : staB n ⟨s.vol, s.pon, s.set, pumpsL n (levelsL n s.vol) s.on⟩ = true) (hlv : lvA n (levelsL n s.vol) = true) :
    DCallsG Tryz.prog 110 [] [netD n, sectL l, staD s, li sec] (hget []) m (.tup [.gl m, .gl (m + 1), li 0]) (hget [(m, inLt (wshL n l (levelsL n s.vol) ⟨s.vol, s.pon, s.set, pumpsL n (levelsL n s.vol) s.on⟩ sec)), (m + 1, boL (pumpsL n (levelsL n s.vol) s.on))]) := by
  obtain ⟨l1, l2, l3, l4⟩ := lensB_of (staB_in nb sb).1;have h400 := (netB_len nb).2;have hvol : ∀ i, i < n.nodes.length -> 0 <= s.vol.getD i default /\ s.vol.getD i default <= 1125899906842624 := fun i hi => by
    have h1 := (staB_in nb sb).2.1 i hi;have h2 := capN_in nb hi;unfold okSN at h1;simp only [Bool.and_eq_true] at h1;have := btwB_in h1.1.1;omega
  have cL := fun m => Levels_f n s.vol m no nb l1 hvol
  have hLl : (levelsL n s.vol).length = n.nodes.length := rng_len _ _;have cO := fun m => On_own n s (levelsL n s.vol) m no ⟨nb, sb⟩ ⟨hLl, hlv⟩ so
  have hOl : (pumpsL n (levelsL n s.vol) s.on).length = n.links.length := rng_len _ _;generalize levelsL n s.vol = LV at *
  generalize pumpsL n LV s.on = O at *
  have F : FlowsIn n l LV ⟨s.vol, s.pon, s.set, O⟩ := ⟨no, co, nb, cb, sb2, hLl, hlv, kn⟩;have so2 : staOk ⟨s.vol, s.pon, s.set, O⟩ := ⟨so.1, so.2.1, so.2.2.1, by show O.length <= _; omega⟩;have cF := Flows_own n l LV ⟨s.vol, s.pon, s.set, O⟩ 1 F so2;have hFl : (flowsL n l LV ⟨s.vol, s.pon, s.set, O⟩).length = n.links.length := rng_len _ _;have hFa : ∀ k, k < n.links.length -> (flowsL n l LV ⟨s.vol, s.pon, s.set, O⟩).getD k default = flowAt n l LV ⟨s.vol, s.pon, s.set, O⟩ k := fun k hk => rng_at hk
  have hWl : (wshL n l LV ⟨s.vol, s.pon, s.set, O⟩ sec).length = n.links.length := rng_len _ _;have hWa : ∀ k, k < n.links.length -> (wshL n l LV ⟨s.vol, s.pon, s.set, O⟩ sec).getD k default = (wishI (flowAt n l LV ⟨s.vol, s.pon, s.set, O⟩ k) sec).1 := fun k hk => rng_at hk
  have hq : ∀ k, k < n.links.length -> 0 <= flowAt n l LV ⟨s.vol, s.pon, s.set, O⟩ k /\ flowAt n l LV ⟨s.vol, s.pon, s.set, O⟩ k <= 1099511627776 := fun k hk => flowI_in (F.btw hk)
  have cFl : DCallsG Tryz.prog 150 [] [netD n, sectL l, ints LV, .agg [.p (.dat 1 (s.vol.map inRow)), .p (.dat 1 (s.pon.map inRow)), .p (.dat 1 (s.set.map inRow)), .gl 0]] (hget [(0, boL O)]) 1 (.tup [.gl 1, li 0]) (hget [(0, boL O), (1, inLt (flowsL n l LV ⟨s.vol, s.pon, s.set, O⟩))]) :=
    DCallsG.lendLit (x := .elems 1 (O.map boRow)) (h0 := []) (fv_rows boRow _ _ O) rfl (by simp only [litHs, litH, Bool.and_true]; rw [List.all_eq_true]; intro d hd; obtain ⟨r, hr, hd⟩ := List.mem_flatten.1 hd; obtain ⟨x, _, rfl⟩ := List.mem_map.1 hr; obtain ⟨y, hy, rfl⟩ := List.mem_map.1 hd; simp only [inRow, List.mem_singleton] at hy; subst hy; rfl) rfl rfl rfl cF
  generalize flowsL n l LV ⟨s.vol, s.pon, s.set, O⟩ = FL at *
  generalize wshL n l LV ⟨s.vol, s.pon, s.set, O⟩ sec = W at *
  generalize flowAt n l LV ⟨s.vol, s.pon, s.set, O⟩ = fq at *
  have hcl : DCallsD Tryz.prog 148 [.ptr 32 0, .ptr 16 0, .ptr 24 0] (hget [(16, .blk 28 [.gl 360]), (24, .blk 29 [.gl 168]), (32, .blk 45 [li 0]), (168, boL O), (288, inLt FL), (360, inLt W)]) 369 (.tup []) (hget [(16, .blk 28 [.gl 360]), (24, .blk 29 [.gl 168]), (32, .blk 45 [li 0]), (168, boL O), (288, inLt FL), (360, inLt W)]) := by
    refine contractD (n := 5) (rs := []) (ts := []) Tryz.func148 rfl (by decide) 369 369 [] [] (.tup []) [(16, .blk 28 [.gl 360]), (24, .blk 29 [.gl 168]), (32, .blk 45 [li 0]), (168, boL O), (288, inLt FL), (360, inLt W)] (by (exact SD)) (by (exact SD)) ?_;(repeat' first|refine stW [0,1,2,4] ?_|refine fctI fun hf=>?_|refine twI (fun hc=>?_) fun hc=>?_);exact DVR
  refine contractW (n := 64) Tryz.func110 rfl (by decide) 0 0 [] [360, 168] (.tup [.gl 360, .gl 168, li 0]) [(360, inLt W), (168, boL O)] (by (exact SD)) (by (exact SD)) ?_;refine dwp_seq [1, 3, 4, 6, 8, 9, 10] ?_;(repeat' first|refine stW [0,1,2,3,4,6,8,9,10,11,12,14,15,25,34,45,46,47,48,58] ?_|refine fctI fun hf=>?_|refine twI (fun hc=>?_) fun hc=>?_);refine thenD_normal (A2 := [(1, sectL l), (3, li sec), (4, .ptr 0 0), (6, .ptr 8 0), (8, .ptr 16 0), (9, .ptr 24 0), (10, .ptr 32 0)]) rfl ?_;refine dwp_defer (rs := [.cell 8 28, .cell 9 29, .cell 10 45]) (ts2 := [28, 29, 45]) (g := 148) (caps := [.ptr 32 0, .ptr 16 0, .ptr 24 0]) (nx1 := 56) (A1 := [(16, .clo 148 [.ptr 32 0, .ptr 16 0, .ptr 24 0]), (1, sectL l), (3, li sec), (4, .ptr 0 0), (6, .ptr 8 0), (8, .ptr 16 0), (9, .ptr 24 0), (10, .ptr 32 0)]) (H1 := [(32, .blk 45 [li 0]), (24, .blk 29 [nilS]), (16, .blk 28 [nilS]), (8, .blk 31 [.p (.dat 1 (s.vol.map inRow)), .p (.dat 1 (s.pon.map inRow)), .p (.dat 1 (s.set.map inRow)), .p (.dat 1 (s.on.map boRow))]), (0, .blk 25 (netC n))]) [] rfl rfl rfl rfl ?_ ?_
  · exact ⟨rfl, fun _ => rfl, fun _ => trivial, fun _ => ⟨rfl, rfl, rfl, rfl⟩⟩
  intro D;(repeat' first|refine stW [0,1,2,3,4,6,8,9,10,11,12,14,15,25,34,45,46,47,48,58] ?_|refine fctI fun hf=>?_|refine twI (fun hc=>?_) fun hc=>?_);(refine cQT [168] (fun hcc => cFl) ?_);(repeat' first|refine stW [0,1,2,3,4,6,8,9,10,11,12,14,15,25,34,45,46,47,48,58] ?_|refine fctI fun hf=>?_|refine twI (fun hc=>?_) fun hc=>?_);refine swp_hkeep [16, 24, 32, 168, 288] rfl ?_;change SWp _ _ _ _ _ _ ((16, .blk 28 [.p (.lit (.slice none 0 0))]) :: [(24, .blk 29 [.gl 168]), (32, .blk 45 [li 0]), (168, boL O), (288, inLt FL)]) _;refine swp_nilB 16 28 3 1 rfl ?_;have hFi : (FL.length : Int) = (n.links.length : Int) := by omega
  refine loop_swp [3, 8, 9, 10, 45, 46, 47] [16, 24, 32, 168, 288, 360] 361 (fun q A H => ∃ k : Nat, k <= n.links.length /\ q = n.links.length - k /\ A = [(3, li sec), (8, .ptr 16 0), (9, .ptr 24 0), (10, .ptr 32 0), (45, .gl 288), (46, li n.links.length), (47, li k)] /\ H = [(16, .blk 28 [.gl 360]), (24, .blk 29 [.gl 168]), (32, .blk 45 [li 0]), (168, boL O), (288, inLt FL), (360, inLt (W.take k))]) (by omega) ?_ ?_ ?_
  · rintro q A H ⟨k, g1, g2, rfl, rfl⟩;exact SDD
  · refine ⟨_, 0, by omega, rfl, ?_, ?_⟩
    · rw [<- hFi]; exact DVR
    · exact DVR
  rintro q A H ⟨k, g1, g2, rfl, rfl⟩;by_cases hk : k < n.links.length
  · have hk3 : (k : Int) < (n.links.length : Int) := by omega
    have hkF : k < FL.length := by omega
    have hkF3 : (k : Int) < (FL.length : Int) := by omega
    have cw := fun m => wish_f (FL.getD k default) sec m
    rw [show (wishI (FL.getD k default) sec) = (W.getD k default, 0) by
      rw [hFa k hk, hWa k hk, (wishI_in (hq k hk) hsec).1]] at cw
    have hnx : W.take (k + 1) = W.take k ++ [W.getD k default] := take_snoc (by omega);have hti : (W.take k).length = k := by rw [List.length_take]; omega
    generalize W.getD k default = wv at *
    generalize W.take k = X at *
    (have:=NeI hk);(have:=NeI hk3);(have:=NeI hkF);(have:=NeI hkF3);clear hFa hWa hq;(repeat' first|refine stW [0,1,2,3,4,6,8,9,10,11,12,14,15,25,34,45,46,47,48,58] ?_|(show CallQ ..;first|refine cQ (fun hcc=>(by first | exact cw _)) ?_|(refine lP ?_;refine lQ (fun hcc m=>(by first | exact cw _)) ?_))|refine fctI fun hf=>?_|refine twI (fun hc=>?_) fun hc=>?_);rw [<- hnx];(refine lN [16, 24, 32, 168, 288, 360] ?_);exact ⟨_, by omega, k + 1, by omega, rfl, rfl, rfl⟩
  obtain rfl : k = n.links.length := by omega
  have hk3 : ¬ ((n.links.length : Int) < (n.links.length : Int)) := by omega
  (have:=NeI hk3);rw [show W.take n.links.length = W by rw [<- hWl, List.take_length]];(repeat' first|refine stW [0,1,2,3,4,6,8,9,10,11,12,14,15,25,34,45,46,47,48,58] ?_|refine fctI fun hf=>?_|refine twI (fun hc=>?_) fun hc=>?_);exact endD_ret _ (.tup []) hcl rfl rfl ⟨rfl, by (exact SD)⟩

end Go.Proofs.YtgpllheklfbfhaaGreat
