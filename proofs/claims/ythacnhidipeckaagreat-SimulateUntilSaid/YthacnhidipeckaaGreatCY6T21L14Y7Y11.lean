/-
  Contracts of functions of the program, over the engine.
  No condition.
-/
import Derived.Test.YthacnhidipeckaaGreatCY2Y3Y4
import Derived.Test.YthacnhidipeckaaGreatCN0N1NBNmT1T2T2eT3
import Derived.Test.YthacnhidipeckaaGreatEngV
import Derived.Test.YthacnhidipeckaaGreatRows
import Derived.Test.YthacnhidipeckaaGreatCL9L10L11
import Derived.Test.YthacnhidipeckaaGreatCL1L2L2cL2o
import Derived.Test.YthacnhidipeckaaGreatCL12L16L20RL25L27
namespace Go.Proofs.YthacnhidipeckaaGreat
open Go.Eng
set_option linter.all false
attribute [local irreducible] DCallsG SWp Fct CallQ XCallQ LCallQ XLCallQ drun xrun
section
variable {n : Net} {l : List Sect} {s : Sta} {inf : List Int} {sec : Int} {held w : List Int}
theorem StepIn.out0 (S : StepIn n l s inf sec) {q : Nat} (hq : q < n.nodes.length) (ho : isOut n q = true) : (heldL s).getD q default = 0 := by
  obtain ⟨hh, _, l1, l2⟩ := sta_hold S.nb S.sb;obtain ⟨h1, h2, h3⟩ := staB_in S.nb S.sb;have a := h2 q hq;have c := capN_out ho;unfold okSN btwB volB at a;simp only [Bool.and_eq_true, decide_eq_true_eq, Bool.not_eq_true', Bool.and_eq_false_iff, decide_eq_false_iff_not, Bool.not_eq_false'] at a;rw [heldL_at s (by omega)];have k3 := isOut_kind.1 ho;have := a.2.resolve_left (fun q => q k3);omega
structure PassIn (n : Net) (held w : List Int) : Prop where
  w0 : ∀ k, k < n.links.length -> 0 <= w.getD k default /\ w.getD k default <= 1125899906842624
  h0 : ∀ q, q < n.nodes.length -> 0 <= held.getD q default
theorem PassIn.x (W : PassIn n held w) (E : EndsIn n) {k : Nat} (hk : k < n.links.length) : 0 <= (limR n held w).getD k default /\ (limR n held w).getD k default <= 1125899906842624 := by
  have h1 := lim_in (n := n) (held := held) (w := w) (fun k hk => by rw [E.fro hk]; exact decide_eq_true rfl) (fun i hi => (W.w0 i hi).1) (fun k hk => W.h0 _ (E.f k hk).1) hk;have h2 := (W.w0 k hk).2;rw [limR_at hk]; omega
theorem PassIn.le (W : PassIn n held w) (E : EndsIn n) {q : Nat} (hq : q < n.nodes.length) : selI (froQ n q) (limR n held w) n.links.length <= held.getD q default :=
  lim_all (fun q k hk hf => by rw [E.fro hk] at hf; exact (of_decide_eq_true hf).symm) (fun i hi => (W.w0 i hi).1) (W.h0 q hq)
end
theorem own54 : ownKnob Tryz.prog.godebug = none := by kernel_rfl
theorem laid54 : laidOutB Tryz.prog = true := by kernel_rfl
theorem exMap {α : Type} (f : α -> List PV) (p : α -> Prop) : ∀ (l : List (List PV)), (∀ r, r ∈ l -> ∃ x, r = f x /\ p x) -> ∃ xs : List α, l = xs.map f /\ ∀ x, x ∈ xs -> p x
  | [], _ => ⟨[], rfl, by simp⟩
  | r :: l, h => by
    obtain ⟨x, hx, hp⟩ := h r (by simp);obtain ⟨xs, hxs, hq⟩ := exMap f p l fun r hr => h r (by simp [hr])
    refine ⟨x :: xs, by simp [hx, hxs], fun y hy => ?_⟩;rcases List.mem_cons.1 hy with rfl | hy
    · exact hp
    · exact hq y hy
theorem PT_slice {P : Program} {n : Nat} {t e : TypeId} {xs : List PV} (hu : P.underlying t = some (.slice e)) (h : PT P (n + 1) t xs) : ∃ l, xs = [.dat (P.cellsOf e) l] /\ l.length * P.bytesOf e <= reachBytes /\ ∀ r, r ∈ l -> PT P n e r := by
  unfold PT at h; rw [hu] at h; exact h
theorem PT_struct {P : Program} {n : Nat} {t : TypeId} {fs : Array Field} {xs : List PV} (hu : P.underlying t = some (.struct fs)) (h : PT P (n + 1) t xs) : PTf P (PT P n) fs.toList xs := by
  unfold PT at h; rw [hu] at h; exact h
theorem PT_int {P : Program} {n : Nat} {t : TypeId} {k : IntKind} {xs : List PV} (hu : P.underlying t = some (.int k)) (h : PT P (n + 1) t xs) : ∃ z, xs = [.lit (.int k z)] /\ (Lit.int k z).wf = true := by
  unfold PT at h; rw [hu] at h; exact h
theorem PT_str {P : Program} {n : Nat} {t : TypeId} {xs : List PV} (hu : P.underlying t = some .string) (h : PT P (n + 1) t xs) : ∃ s : ByteArray, xs = [.lit (.string s)] /\ s.size <= reachBytes := by
  unfold PT at h; rw [hu] at h; exact h
theorem PT_bool {P : Program} {n : Nat} {t : TypeId} {xs : List PV} (hu : P.underlying t = some .bool) (h : PT P (n + 1) t xs) : ∃ b : Bool, xs = [.lit (.bool b)] := by
  unfold PT at h; rw [hu] at h; exact h
attribute [local irreducible] PT
theorem reachB : reachBytes <= 281474976710656 := by decide
theorem len_le {l k : Nat} (hk : 0 < k) (h : l * k <= reachBytes) : l <= 281474976710656 := Nat.le_trans (Nat.le_mul_of_pos_right l hk) (Nat.le_trans h reachB)
theorem pt_int {n : Nat} {xs : List PV} (h : PT Tryz.prog (n + 1) 3 xs) : ∃ z : Int, xs = [.lit (.int .i64 z)] /\ i64ok z := by
  obtain ⟨z, rfl, hz⟩ := PT_int (P := Tryz.prog) (t := 3) Tryz.underlying3 h;refine ⟨z, rfl, ?_⟩;unfold i64ok;simpa [Lit.wf, IntKind.min, IntKind.max, IntKind.signed, IntKind.bits] using hz
theorem pt_bool {n : Nat} {xs : List PV} (h : PT Tryz.prog (n + 1) 4 xs) : ∃ b : Bool, xs = [.lit (.bool b)] := PT_bool (P := Tryz.prog) (t := 4) Tryz.underlying4 h
theorem pt_str {n : Nat} {xs : List PV} (h : PT Tryz.prog (n + 1) 9 xs) : ∃ s : ByteArray, xs = [.lit (.string s)] /\ s.size <= 281474976710656 := by
  obtain ⟨z, rfl, hz⟩ := PT_str (P := Tryz.prog) (t := 9) Tryz.underlying9 h;exact ⟨z, rfl, Nat.le_trans hz reachB⟩
theorem cells_ints : Tryz.prog.cellsOf 3 = 1 := by kernel_rfl
theorem bytes_ints : 0 < Tryz.prog.bytesOf 3 := by rw [show Tryz.prog.bytesOf 3 = 8 from by kernel_rfl]; decide
theorem pt_ints {n : Nat} {xs : List PV} (h : PT Tryz.prog (n + 2) 27 xs) : ∃ l : List Int, xs = [.dat 1 (l.map inRow)] /\ intsOk l := by
  obtain ⟨l, rfl, hl, hr⟩ := PT_slice (P := Tryz.prog) (t := 27) Tryz.underlying27 h;obtain ⟨zs, rfl, hz⟩ := exMap inRow i64ok l fun r hr2 => by
    obtain ⟨z, rfl, hz⟩ := pt_int (hr r hr2);exact ⟨z, rfl, hz⟩
  rw [cells_ints];have := len_le bytes_ints hl;rw [List.length_map] at this;exact ⟨zs, rfl, this, hz⟩
theorem cells_bools : Tryz.prog.cellsOf 4 = 1 := by kernel_rfl
theorem bytes_bools : 0 < Tryz.prog.bytesOf 4 := by rw [show Tryz.prog.bytesOf 4 = 1 from by kernel_rfl]; decide
theorem pt_bools {n : Nat} {xs : List PV} (h : PT Tryz.prog (n + 2) 28 xs) : ∃ l : List Bool, xs = [.dat 1 (l.map boRow)] /\ l.length <= 281474976710656 := by
  obtain ⟨l, rfl, hl, hr⟩ := PT_slice (P := Tryz.prog) (t := 28) Tryz.underlying28 h;obtain ⟨zs, rfl, hz⟩ := exMap boRow (fun _ => True) l fun r hr2 => by
    obtain ⟨z, rfl⟩ := pt_bool (hr r hr2);exact ⟨z, rfl, trivial⟩
  rw [cells_bools];have := len_le bytes_bools hl;rw [List.length_map] at this;exact ⟨zs, rfl, this⟩
theorem pt_knot {n : Nat} {xs : List PV} (h : PT Tryz.prog (n + 2) 150 xs) : ∃ x : Knot, xs = knotP x /\ knotOk x := by
  replace h := PT_struct (P := Tryz.prog) (t := 150) Tryz.underlying150 h
  obtain ⟨_, _, rfl, h0, _, _, rfl, h1, rfl⟩ := h;obtain ⟨a0, rfl, k0⟩ := pt_int h0;obtain ⟨a1, rfl, k1⟩ := pt_int h1;exact ⟨⟨a0, a1⟩, rfl, ⟨k0, k1⟩⟩
theorem cells_knots : Tryz.prog.cellsOf 150 = 2 := by kernel_rfl
theorem bytes_knots : 0 < Tryz.prog.bytesOf 150 := by rw [show Tryz.prog.bytesOf 150 = 16 from by kernel_rfl]; decide
theorem pt_knots {n : Nat} {xs : List PV} (h : PT Tryz.prog (n + 3) 44 xs) : ∃ l : List Knot, xs = [.dat 2 (l.map knotP)] /\ l.length <= 281474976710656 /\ ∀ x, x ∈ l -> knotOk x := by
  obtain ⟨l, rfl, hl, hr⟩ := PT_slice (P := Tryz.prog) (t := 44) Tryz.underlying44 h;obtain ⟨zs, rfl, hz⟩ := exMap knotP knotOk l fun r hr2 => by
    obtain ⟨z, rfl, hz⟩ := pt_knot (hr r hr2);exact ⟨z, rfl, hz⟩
  rw [cells_knots];have := len_le bytes_knots hl;rw [List.length_map] at this;exact ⟨zs, rfl, this, hz⟩
theorem pt_point {n : Nat} {xs : List PV} (h : PT Tryz.prog (n + 2) 42 xs) : ∃ x : Point, xs = pointP x /\ pointOk x := by
  replace h := PT_struct (P := Tryz.prog) (t := 42) Tryz.underlying42 h
  obtain ⟨_, _, rfl, h0, _, _, rfl, h1, rfl⟩ := h;obtain ⟨a0, rfl, k0⟩ := pt_int h0;obtain ⟨a1, rfl, k1⟩ := pt_int h1;exact ⟨⟨a0, a1⟩, rfl, ⟨k0, k1⟩⟩
theorem pt_node {n : Nat} {xs : List PV} (h : PT Tryz.prog (n + 4) 46 xs) : ∃ x : Node, xs = nodeP x /\ nodeOk x := by
  replace h := PT_struct (P := Tryz.prog) (t := 46) Tryz.underlying46 h
  obtain ⟨_, _, rfl, h0, _, _, rfl, h1, _, _, rfl, h2, _, _, rfl, h3, _, _, rfl, h4, _, _, rfl, h5, _, _, rfl, h6, _, _, rfl, h7, rfl⟩ := h;obtain ⟨a0, rfl, k0⟩ := pt_str h0;obtain ⟨a1, rfl, k1⟩ := pt_int h1;obtain ⟨a2, rfl, k2⟩ := pt_point h2;obtain ⟨a3, rfl, k3⟩ := pt_int h3;obtain ⟨a4, rfl, k4⟩ := pt_int h4;obtain ⟨a5, rfl, k5⟩ := pt_knots h5;obtain ⟨a6, rfl⟩ := pt_bool h6;obtain ⟨a7, rfl, k7⟩ := pt_int h7;exact ⟨⟨a0, a1, a2, a3, a4, a5, a6, a7⟩, rfl, ⟨k0, k1, k2, k3, k4, k5, k7⟩⟩
theorem cells_nodes : Tryz.prog.cellsOf 46 = 9 := by kernel_rfl
theorem bytes_nodes : 0 < Tryz.prog.bytesOf 46 := by rw [show Tryz.prog.bytesOf 46 = 96 from by kernel_rfl]; decide
theorem pt_nodes {n : Nat} {xs : List PV} (h : PT Tryz.prog (n + 5) 22 xs) : ∃ l : List Node, xs = [.dat 9 (l.map nodeP)] /\ l.length <= 281474976710656 /\ ∀ x, x ∈ l -> nodeOk x := by
  obtain ⟨l, rfl, hl, hr⟩ := PT_slice (P := Tryz.prog) (t := 22) Tryz.underlying22 h;obtain ⟨zs, rfl, hz⟩ := exMap nodeP nodeOk l fun r hr2 => by
    obtain ⟨z, rfl, hz⟩ := pt_node (hr r hr2);exact ⟨z, rfl, hz⟩
  rw [cells_nodes];have := len_le bytes_nodes hl;rw [List.length_map] at this;exact ⟨zs, rfl, this, hz⟩
theorem pt_link {n : Nat} {xs : List PV} (h : PT Tryz.prog (n + 4) 49 xs) : ∃ x : Link, xs = linkP x /\ linkOk x := by
  replace h := PT_struct (P := Tryz.prog) (t := 49) Tryz.underlying49 h
  obtain ⟨_, _, rfl, h0, _, _, rfl, h1, _, _, rfl, h2, _, _, rfl, h3, _, _, rfl, h4, _, _, rfl, h5, _, _, rfl, h6, _, _, rfl, h7, _, _, rfl, h8, _, _, rfl, h9, _, _, rfl, h10, rfl⟩ := h;obtain ⟨a0, rfl, k0⟩ := pt_str h0;obtain ⟨a1, rfl, k1⟩ := pt_str h1;obtain ⟨a2, rfl, k2⟩ := pt_str h2;obtain ⟨a3, rfl, k3⟩ := pt_int h3;obtain ⟨a4, rfl, k4⟩ := pt_int h4;obtain ⟨a5, rfl, k5⟩ := pt_int h5;obtain ⟨a6, rfl, k6⟩ := pt_int h6;obtain ⟨a7, rfl, k7⟩ := pt_str h7;obtain ⟨a8, rfl, k8⟩ := pt_int h8;obtain ⟨a9, rfl, k9⟩ := pt_int h9;obtain ⟨a10, rfl, k10⟩ := pt_knots h10;exact ⟨⟨a0, a1, a2, a3, a4, a5, a6, a7, a8, a9, a10⟩, rfl, ⟨k0, k1, k2, k3, k4, k5, k6, k7, k8, k9, k10⟩⟩
theorem cells_links : Tryz.prog.cellsOf 49 = 11 := by kernel_rfl
theorem bytes_links : 0 < Tryz.prog.bytesOf 49 := by rw [show Tryz.prog.bytesOf 49 = 136 from by kernel_rfl]; decide
theorem pt_links {n : Nat} {xs : List PV} (h : PT Tryz.prog (n + 5) 23 xs) : ∃ l : List Link, xs = [.dat 11 (l.map linkP)] /\ l.length <= 281474976710656 /\ ∀ x, x ∈ l -> linkOk x := by
  obtain ⟨l, rfl, hl, hr⟩ := PT_slice (P := Tryz.prog) (t := 23) Tryz.underlying23 h;obtain ⟨zs, rfl, hz⟩ := exMap linkP linkOk l fun r hr2 => by
    obtain ⟨z, rfl, hz⟩ := pt_link (hr r hr2);exact ⟨z, rfl, hz⟩
  rw [cells_links];have := len_le bytes_links hl;rw [List.length_map] at this;exact ⟨zs, rfl, this, hz⟩
theorem pt_net {n : Nat} {xs : List PV} (h : PT Tryz.prog (n + 6) 25 xs) : ∃ x : Net, xs = netP x /\ netOk x := by
  replace h := PT_struct (P := Tryz.prog) (t := 25) Tryz.underlying25 h
  obtain ⟨_, _, rfl, h0, _, _, rfl, h1, rfl⟩ := h;obtain ⟨a0, rfl, k0⟩ := pt_nodes h0;obtain ⟨a1, rfl, k1⟩ := pt_links h1;exact ⟨⟨a0, a1⟩, rfl, ⟨k0, k1⟩⟩
theorem pt_sta {n : Nat} {xs : List PV} (h : PT Tryz.prog (n + 3) 30 xs) : ∃ x : Sta, xs = staP x /\ staOk x := by
  replace h := PT_struct (P := Tryz.prog) (t := 30) Tryz.underlying30 h
  obtain ⟨_, _, rfl, h0, _, _, rfl, h1, _, _, rfl, h2, _, _, rfl, h3, rfl⟩ := h;obtain ⟨a0, rfl, k0⟩ := pt_ints h0;obtain ⟨a1, rfl, k1⟩ := pt_ints h1;obtain ⟨a2, rfl, k2⟩ := pt_ints h2;obtain ⟨a3, rfl, k3⟩ := pt_bools h3;exact ⟨⟨a0, a1, a2, a3⟩, rfl, ⟨k0, k1, k2, k3⟩⟩
theorem dv_net (n : Net) : dvT Tryz.prog 25 (netP n) = netD n := by unfold dvT; rw [Tryz.underlying25]; rfl
theorem dv_sta (s : Sta) : dvT Tryz.prog 30 (staP s) = staD s := by unfold dvT; rw [Tryz.underlying30]; rfl
theorem dv_int (n : Int) : dvT Tryz.prog 3 [.lit (.int .i64 n)] = li n := by unfold dvT; rw [Tryz.underlying3]; rfl
theorem pt_sect {n : Nat} {xs : List PV} (h : PT Tryz.prog (n + 4) 101 xs) : ∃ x : Sect, xs = sectP x /\ sectOk x := by
  replace h := PT_struct (P := Tryz.prog) (t := 101) Tryz.underlying101 h
  obtain ⟨_, _, rfl, h0, _, _, rfl, h1, _, _, rfl, h2, _, _, rfl, h3, _, _, rfl, h4, rfl⟩ := h;obtain ⟨a0, rfl, k0⟩ := pt_str h0;obtain ⟨a1, rfl, k1⟩ := pt_int h1;obtain ⟨a2, rfl, k2⟩ := pt_int h2;obtain ⟨a3, rfl, k3⟩ := pt_knots h3;obtain ⟨a4, rfl, k4⟩ := pt_knots h4;exact ⟨⟨a0, a1, a2, a3, a4⟩, rfl, ⟨k0, k1, k2, k3, k4⟩⟩
theorem cells_sects : Tryz.prog.cellsOf 101 = 5 := by kernel_rfl
theorem bytes_sects : 0 < Tryz.prog.bytesOf 101 := by rw [show Tryz.prog.bytesOf 101 = 80 from by kernel_rfl]; decide
theorem pt_sects {n : Nat} {xs : List PV} (h : PT Tryz.prog (n + 5) 26 xs) : ∃ l : List Sect, xs = [.dat 5 (l.map sectP)] /\ l.length <= 281474976710656 /\ ∀ x, x ∈ l -> sectOk x := by
  obtain ⟨l, rfl, hl, hr⟩ := PT_slice (P := Tryz.prog) (t := 26) Tryz.underlying26 h;obtain ⟨zs, rfl, hz⟩ := exMap sectP sectOk l fun r hr2 => by
    obtain ⟨z, rfl, hz⟩ := pt_sect (hr r hr2);exact ⟨z, rfl, hz⟩
  rw [cells_sects];have := len_le bytes_sects hl;rw [List.length_map] at this;exact ⟨zs, rfl, this, hz⟩
theorem dv_sects (l : List Sect) : dvT Tryz.prog 26 [.dat 5 (l.map sectP)] = sectL l := by unfold dvT; rw [Tryz.underlying26]; rfl
theorem find1_f (y : Sect) (s : ByteArray) (m : Nat) : DCalls Tryz.prog 158 [sectD y, .ptr 0 0] (hget [(0, .blk 9 (([.lit (.string s)] : List PV).map .p))]) m (lb (decide (y.name = s))) (hget [(0, .blk 9 (([.lit (.string s)] : List PV).map .p))]) := by
  refine contract (n := 8) (rs := [.tmp 3]) (ts := [4]) Tryz.func158 rfl (by decide) 1 1 [] [] [] (lb (decide (y.name = s))) [(0, .blk 9 (([.lit (.string s)] : List PV).map .p))] (by (exact SD)) (by (exact SD)) ?_;(repeat' (first|refine swp_seq [0,1,2,3] ?_|refine st2 ?_|refine fctI fun hf=>?_|(show CondG ..;first|refine cBG (fun hc=>?_) (fun hc=>?_)|refine cUG ?_ ?_)));exact DVR
theorem find_f (l : List Sect) (s : ByteArray) (m : Nat) (h : catOk l) (hc : catB l = true) : DCalls Tryz.prog 116 [sectL l, ls s] (hget []) m (if 0 <= secIx l s then .tup [li (secIx l s), li 0] else .tup [li 0, li 9]) (hget []) := by
  have c1 := fun m => cat_f l m h
  rw [hc] at c1;have ci := idxSectC_f 158 9 [.lit (.string s)] (fun y => decide (y.name = s)) l h.1 (fun y _ m => find1_f y s m);change DCalls _ _ _ _ _ (li (secIx l s)) _ at ci;generalize secIx l s = k at *
  by_cases hk : 0 <= k
  · rw [if_pos hk];(have:=NeI hk);refine pureC (n := 16) (rs := [.tmp 4, .tmp 5]) (ts := [3, 37]) Tryz.func116 rfl (by decide) [] (by (exact SD)) ?_;(repeat' (first|refine swp_seq [0,1,3,4,5,6,9,14] ?_|refine st2 ?_|(show CallQ ..;first|refine cQ (fun hcc=>(by first | exact c1 _)) ?_|(refine lP ?_;refine lQ (fun hcc m=>(by first | exact c1 _)) ?_))|refine fctI fun hf=>?_|(show CondG ..;first|refine cBG (fun hc=>?_) (fun hc=>?_)|refine cUG ?_ ?_)));(refine cQT [0] (fun hcc => ci) ?_);(repeat' (first|refine swp_seq [0,1,3,4,5,6,9,14] ?_|refine st2 ?_|refine fctI fun hf=>?_|(show CondG ..;first|refine cBG (fun hc=>?_) (fun hc=>?_)|refine cUG ?_ ?_)));exact DVR
  · rw [if_neg hk];(have:=NeI hk);refine pureC (n := 16) (rs := [.tmp 4, .tmp 5]) (ts := [3, 37]) Tryz.func116 rfl (by decide) [] (by (exact SD)) ?_;(repeat' (first|refine swp_seq [0,1,3,4,5,6,9,14] ?_|refine st2 ?_|(show CallQ ..;first|refine cQ (fun hcc=>(by first | exact c1 _)) ?_|(refine lP ?_;refine lQ (fun hcc m=>(by first | exact c1 _)) ?_))|refine fctI fun hf=>?_|(show CondG ..;first|refine cBG (fun hc=>?_) (fun hc=>?_)|refine cUG ?_ ?_)));(refine cQT [0] (fun hcc => ci) ?_);(repeat' (first|refine swp_seq [0,1,3,4,5,6,9,14] ?_|refine st2 ?_|refine fctI fun hf=>?_|(show CondG ..;first|refine cBG (fun hc=>?_) (fun hc=>?_)|refine cUG ?_ ?_)));exact DVR
set_option maxRecDepth 20000 in
set_option maxHeartbeats 4000000 in
theorem rnamed_f (n : Net) (l : List Sect) (m : Nat) (no : netOk n) (h : catOk l) (hc : catB l = true) : DCalls Tryz.prog 60 [netD n, sectL l] (hget []) m (lb (!(n.links.any fun x => !knownB l x))) (hget []) := by
  have hll := no.2.1;refine pureC (n := 29) (rs := [.tmp 4]) (ts := [4]) Tryz.func60 rfl (by decide) [] (by (exact SD)) ?_;(repeat' (first|refine swp_seq [0,1,2,4,6,8,10,11,12,13,18,27] ?_|refine st2 ?_|refine fctI fun hf=>?_|(show CondG ..;first|refine cBG (fun hc=>?_) (fun hc=>?_)|refine cUG ?_ ?_)));refine loop_swp [1, 2, 10, 11, 12] [0] 1 (fun q A H => ∃ i : Nat, i <= n.links.length /\ q = n.links.length - i /\ (∀ j, j < i -> knownB l (n.links.getD j default) = true) /\ A = [(1, sectL l), (2, .ptr 0 0), (10, linkL n.links), (11, li n.links.length), (12, li i)] /\ H = [(0, .blk 25 (netC n))]) (by omega) ?_ ?_ ?_
  · rintro q A H ⟨i, h1, h2, h3, rfl, rfl⟩;exact SDD
  · refine ⟨_, 0, by omega, rfl, by omega, ?_, ?_⟩
    · exact DVR
    · exact DVR
  rintro q A H ⟨i, h1, h2, h3, rfl, rfl⟩;by_cases hi : i < n.links.length
  · have hi3 : (i : Int) < (n.links.length : Int) := by omega
    have h4 : knownB l (n.links.getD i default) = true -> ∀ j, j < i + 1 -> knownB l (n.links.getD j default) = true := fun kn j hj => by
      by_cases e : j = i
      · rw [e]; exact kn
      · exact h3 j (by omega)
    have hmem := getD_mem hi;(have:=NeI hi);(have:=NeI hi3);by_cases k1 : (n.links.getD i default).kind = 1
    · have cf := fun m => find_f l (n.links.getD i default).sect m h hc
      (have:=NeI k1);by_cases k2 : 0 <= secIx l (n.links.getD i default).sect
      · rw [if_pos k2] at cf;have h5 := h4 (by unfold knownB; rw [decide_eq_true k2, Bool.or_true]);clear h4 h3;(repeat' (first|refine swp_seq [0,1,2,4,6,8,10,11,12,13,18,27] ?_|refine st2 ?_|(show CallQ ..;first|refine cQ (fun hcc=>(by first | exact cf _)) ?_|(refine lP ?_;refine lQ (fun hcc m=>(by first | exact cf _)) ?_))|refine fctI fun hf=>?_|(show CondG ..;first|refine cBG (fun hc=>?_) (fun hc=>?_)|refine cUG ?_ ?_)));(refine lN [0] ?_);exact ⟨_, by omega, i + 1, by omega, rfl, h5, rfl, rfl⟩
      · rw [if_neg k2] at cf;have h5 : (n.links.any fun x => !knownB l x) = true := List.any_eq_true.2 ⟨_, hmem, by unfold knownB; rw [decide_eq_false k2, decide_eq_true k1]; rfl⟩;rw [h5];clear h4 h3;(repeat' (first|refine swp_seq [0,1,2,4,6,8,10,11,12,13,18,27] ?_|refine st2 ?_|(show CallQ ..;first|refine cQ (fun hcc=>(by first | exact cf _)) ?_|(refine lP ?_;refine lQ (fun hcc m=>(by first | exact cf _)) ?_))|refine fctI fun hf=>?_|(show CondG ..;first|refine cBG (fun hc=>?_) (fun hc=>?_)|refine cUG ?_ ?_)));exact DVR
    · have h5 := h4 (by unfold knownB; rw [decide_eq_false k1]; rfl);(have:=NeI k1);clear h4 h3;(repeat' (first|refine swp_seq [0,1,2,4,6,8,10,11,12,13,18,27] ?_|refine st2 ?_|refine fctI fun hf=>?_|(show CondG ..;first|refine cBG (fun hc=>?_) (fun hc=>?_)|refine cUG ?_ ?_)));(refine lN [0] ?_);exact ⟨_, by omega, i + 1, by omega, rfl, h5, rfl, rfl⟩
  obtain rfl : i = n.links.length := by omega
  have hi3 : ¬ ((n.links.length : Int) < (n.links.length : Int)) := by omega
  (have:=NeI hi3);have h5 : (n.links.any fun x => !knownB l x) = false := by
    rw [List.any_eq_false];intro x hx;obtain ⟨k, hk, rfl⟩ := List.mem_iff_getElem.1 hx;have := h3 k hk;rw [List.getD_eq_getElem?_getD, List.getElem?_eq_getElem hk] at this;have this : knownB l n.links[k] = true := this;rw [this]; decide
  rw [h5];(repeat' (first|refine swp_seq [0,1,2,4,6,8,10,11,12,13,18,27] ?_|refine st2 ?_|refine fctI fun hf=>?_|(show CondG ..;first|refine cBG (fun hc=>?_) (fun hc=>?_)|refine cUG ?_ ?_)));exact DVR
section
variable {n : Net} {l : List Sect} {s : Sta} {inf : List Int} {sec : Int}
theorem wishI_in {q sec : Int} (h : 0 <= q /\ q <= 1099511627776) (hs : 1 <= sec /\ sec <= 86400) : wishI q sec = (min (q * sec) 1125899906842624, 0) /\ 0 <= (wishI q sec).1 /\ (wishI q sec).1 <= 1125899906842624 := by
  have e : wishI q sec = (min (q * sec) 1125899906842624, 0) := by
    unfold wishI;rw [if_neg (by omega)]
  have h1 : 0 <= q * sec := Int.mul_nonneg h.1 (by omega);rw [e];refine ⟨rfl, ?_, ?_⟩
  · show 0 <= min (q * sec) 1125899906842624;omega
  · show min (q * sec) 1125899906842624 <= 1125899906842624;omega
theorem StepIn.lv (S : StepIn n l s inf sec) : (lvl1 n s inf).length = n.nodes.length /\ lvA n (lvl1 n s inf) = true := by
  refine ⟨rng_len _ _, lvA_yes fun q hq => ?_⟩;have h0 := (vS_in S.nb hq (S.inB q hq).1).1;have := levelI_in (netB_node S.nb hq) h0;unfold lvB lvl1 levelsL;rw [rng_at hq];unfold btwB;simp only [Bool.and_eq_true, decide_eq_true_eq];exact this
theorem onS_len : (onS n s inf).length = n.links.length := rng_len _ _
theorem onS_kind {k : Nat} (hk : k < n.links.length) (h : (onS n s inf).getD k default = true) : (n.links.getD k default).kind = 4 := by
  unfold onS pumpsL at h;rw [rng_at hk] at h;unfold pumpAt at h;simp only [Bool.and_eq_true, decide_eq_true_eq] at h;exact h.1
theorem StepIn.ok1 (S : StepIn n l s inf sec) (hf : fitS n (heldB n s inf) = true) : staB n (sta1 n s inf) = true := by
  have h1 := (staB_in S.nb S.sb).1;obtain ⟨l1, l2, l3, l4⟩ := lensB_of h1;exact sta_settled S l4 (fun k hk ho => (okSL_in S.sb hk).2 ho) (fun q hq => (S.inB q hq).1) (fun q hq ho => by rw [heldB_at hq, if_pos ho]) hf
theorem StepIn.ok2 (S : StepIn n l s inf sec) (hf : fitS n (heldB n s inf) = true) : staB n (sta2 n s inf) = true :=
  sta_settled S onS_len (fun k hk ho => onS_kind hk ho) (fun q hq => (S.inB q hq).1) (fun q hq ho => by rw [heldB_at hq, if_pos ho]) hf
theorem StepIn.flows (S : StepIn n l s inf sec) (hf : fitS n (heldB n s inf) = true) : FlowsIn n l (lvl1 n s inf) (sta2 n s inf) := ⟨S.no, S.co, S.nb, S.cb, S.ok2 hf, S.lv.1, S.lv.2, S.kn⟩
theorem StepIn.pass (S : StepIn n l s inf sec) (hf : fitS n (heldB n s inf) = true) : PassIn n (heldB n s inf) (wsh n l s inf sec) where
  w0 k hk := by
    have h := flowI_in (on := ((sta2 n s inf).on.getD k default)) ((S.flows hf).btw hk);unfold wsh wshL;rw [rng_at hk];exact (wishI_in h S.sc).2
  h0 q hq := (S.inB q hq).1
theorem StepIn.inC (S : StepIn n l s inf sec) (hf : fitS n (heldB n s inf) = true) : ∀ q, q < n.nodes.length -> 0 <= (heldC n l s inf sec).getD q default /\ (heldC n l s inf sec).getD q default <= 1152921504606846976 := fun q hq => by
  have W := S.pass hf;have E := ends_of S.nb;have h400 := (netB_len S.nb).2;have hB := S.inB q hq;unfold heldC;rw [mvH_at hq];have h1 := W.le E hq;have hx : ∀ i, i < (pasL n l s inf sec).length -> 0 <= (pasL n l s inf sec).getD i default /\ (pasL n l s inf sec).getD i default <= 1125899906842624 := fun i hi => W.x E (by unfold pasL at hi; rw [limR_len] at hi; exact hi)
  have hl : (pasL n l s inf sec).length = n.links.length := limR_len ..;have h2 := selI_le (p := tilQ n q) hx n.links.length (by omega);have h3 := selI_le (p := froQ n q) hx n.links.length (by omega);have h1 : selI (froQ n q) (pasL n l s inf sec) n.links.length <= (heldB n s inf).getD q default := h1;have h4 : (n.links.length : Int) * 1125899906842624 <= 400 * 1125899906842624 := Int.mul_le_mul_of_nonneg_right (by omega) (by decide);split <;> omega
theorem StepIn.inD (S : StepIn n l s inf sec) (hf : fitS n (heldB n s inf) = true) : ∀ q, q < n.nodes.length -> 0 <= (heldD n l s inf sec).getD q default := fun q hq => by
  have := S.inC hf q hq;unfold heldD;rw [hS_at hq];split <;> omega
theorem StepIn.fin (S : StepIn n l s inf sec) (hf : fitS n (heldB n s inf) = true) (hg : fitS n (heldD n l s inf sec) = true) : staB n (stepS n l s inf sec) = true :=
  sta_settled S onS_len (fun k hk ho => onS_kind hk ho) (S.inD hf) (fun q hq ho => by unfold heldD; rw [hS_at hq, if_pos (isOut_kind.1 ho)]) hg
end

end Go.Proofs.YthacnhidipeckaaGreat
