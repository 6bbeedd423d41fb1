/-
  Contracts of functions of the program, over the engine.
  No condition.
-/
import Derived.Test.YtgpllheklfbfhaaGreatCX0
import Derived.Test.YtgpllheklfbfhaaGreatCL1L2L2cL2oL3L4L5
import Derived.Test.YtgpllheklfbfhaaGreatCQ1
import Derived.Test.YtgpllheklfbfhaaGreatCT12T13T14T2IT16T15T18T20Y0Y5Y1
namespace Go.Proofs.YtgpllheklfbfhaaGreat
open Go.Eng
set_option linter.all false
attribute [local irreducible] DCallsG SWp Fct CallQ XCallQ LCallQ XLCallQ drun xrun
set_option maxHeartbeats 64000000
set_option maxRecDepth 20000

structure Cas where
  net : Net
  cat : List Sect
  rul : List Rule
  sta : Sta
instance : Inhabited Cas := ⟨⟨default, default, default, default⟩⟩
theorem cas_ext {x y : Cas} (h : x.net = y.net /\ x.cat = y.cat /\ x.rul = y.rul /\ x.sta = y.sta) : x = y := by
  cases x; cases y; simp_all
instance : DecidableEq Cas := fun x y => decidable_of_iff (x.net = y.net /\ x.cat = y.cat /\ x.rul = y.rul /\ x.sta = y.sta) ⟨cas_ext, fun h => by subst h; simp⟩
def casP (x : Cas) : List PV := [.dat 9 (x.net.nodes.map nodeP), .dat 11 (x.net.links.map linkP), .dat 5 (x.cat.map sectP), .dat 4 (x.rul.map ruleP), .dat 1 (x.sta.vol.map inRow), .dat 1 (x.sta.pon.map inRow), .dat 1 (x.sta.set.map inRow), .dat 1 (x.sta.on.map boRow)]
def casC (x : Cas) : List DV := [.p (.dat 9 (x.net.nodes.map nodeP)), .p (.dat 11 (x.net.links.map linkP)), .p (.dat 5 (x.cat.map sectP)), .p (.dat 4 (x.rul.map ruleP)), .p (.dat 1 (x.sta.vol.map inRow)), .p (.dat 1 (x.sta.pon.map inRow)), .p (.dat 1 (x.sta.set.map inRow)), .p (.dat 1 (x.sta.on.map boRow))]
abbrev casD (x : Cas) : DV := .agg (casC x)
theorem casP_map (x : Cas) : (casP x).map DV.p = casC x := rfl
theorem casP_len (x : Cas) : (casP x).length = 8 := rfl
theorem casC_len (x : Cas) : (casC x).length = 8 := rfl
theorem casP_take (x : Cas) : (casP x).take 8 = casP x := rfl
theorem casC_take (x : Cas) : (casC x).take 8 = casC x := rfl
theorem casC_all (x : Cas) : (casC x).all DV.cellB = true := rfl
theorem casP_d0 (x : Cas) : (casP x).getD 0 default = .dat 9 (x.net.nodes.map nodeP) := rfl
theorem casC_d0 (x : Cas) : (casC x)[0]? = some (.p (.dat 9 (x.net.nodes.map nodeP))) := rfl
theorem casP_s0 (x : Cas) : (casP x).take 1 = [.dat 9 (x.net.nodes.map nodeP)] := rfl
theorem casC_s0 (x : Cas) : (casC x).take 1 = [.p (.dat 9 (x.net.nodes.map nodeP))] := rfl
theorem casP_d1 (x : Cas) : (casP x).getD 1 default = .dat 11 (x.net.links.map linkP) := rfl
theorem casC_d1 (x : Cas) : (casC x)[1]? = some (.p (.dat 11 (x.net.links.map linkP))) := rfl
theorem casP_s1 (x : Cas) : ((casP x).drop 1).take 1 = [.dat 11 (x.net.links.map linkP)] := rfl
theorem casC_s1 (x : Cas) : ((casC x).drop 1).take 1 = [.p (.dat 11 (x.net.links.map linkP))] := rfl
theorem casP_d2 (x : Cas) : (casP x).getD 2 default = .dat 5 (x.cat.map sectP) := rfl
theorem casC_d2 (x : Cas) : (casC x)[2]? = some (.p (.dat 5 (x.cat.map sectP))) := rfl
theorem casP_s2 (x : Cas) : ((casP x).drop 2).take 1 = [.dat 5 (x.cat.map sectP)] := rfl
theorem casC_s2 (x : Cas) : ((casC x).drop 2).take 1 = [.p (.dat 5 (x.cat.map sectP))] := rfl
theorem casP_d3 (x : Cas) : (casP x).getD 3 default = .dat 4 (x.rul.map ruleP) := rfl
theorem casC_d3 (x : Cas) : (casC x)[3]? = some (.p (.dat 4 (x.rul.map ruleP))) := rfl
theorem casP_s3 (x : Cas) : ((casP x).drop 3).take 1 = [.dat 4 (x.rul.map ruleP)] := rfl
theorem casC_s3 (x : Cas) : ((casC x).drop 3).take 1 = [.p (.dat 4 (x.rul.map ruleP))] := rfl
theorem casP_d4 (x : Cas) : (casP x).getD 4 default = .dat 1 (x.sta.vol.map inRow) := rfl
theorem casC_d4 (x : Cas) : (casC x)[4]? = some (.p (.dat 1 (x.sta.vol.map inRow))) := rfl
theorem casP_s4 (x : Cas) : ((casP x).drop 4).take 1 = [.dat 1 (x.sta.vol.map inRow)] := rfl
theorem casC_s4 (x : Cas) : ((casC x).drop 4).take 1 = [.p (.dat 1 (x.sta.vol.map inRow))] := rfl
theorem casP_d5 (x : Cas) : (casP x).getD 5 default = .dat 1 (x.sta.pon.map inRow) := rfl
theorem casC_d5 (x : Cas) : (casC x)[5]? = some (.p (.dat 1 (x.sta.pon.map inRow))) := rfl
theorem casP_s5 (x : Cas) : ((casP x).drop 5).take 1 = [.dat 1 (x.sta.pon.map inRow)] := rfl
theorem casC_s5 (x : Cas) : ((casC x).drop 5).take 1 = [.p (.dat 1 (x.sta.pon.map inRow))] := rfl
theorem casP_d6 (x : Cas) : (casP x).getD 6 default = .dat 1 (x.sta.set.map inRow) := rfl
theorem casC_d6 (x : Cas) : (casC x)[6]? = some (.p (.dat 1 (x.sta.set.map inRow))) := rfl
theorem casP_s6 (x : Cas) : ((casP x).drop 6).take 1 = [.dat 1 (x.sta.set.map inRow)] := rfl
theorem casC_s6 (x : Cas) : ((casC x).drop 6).take 1 = [.p (.dat 1 (x.sta.set.map inRow))] := rfl
theorem casP_d7 (x : Cas) : (casP x).getD 7 default = .dat 1 (x.sta.on.map boRow) := rfl
theorem casC_d7 (x : Cas) : (casC x)[7]? = some (.p (.dat 1 (x.sta.on.map boRow))) := rfl
theorem casP_s7 (x : Cas) : ((casP x).drop 7).take 1 = [.dat 1 (x.sta.on.map boRow)] := rfl
theorem casC_s7 (x : Cas) : ((casC x).drop 7).take 1 = [.p (.dat 1 (x.sta.on.map boRow))] := rfl
theorem casP_t0 (x : Cas) : (casP x).take 2 = netP x.net := rfl
theorem casC_t0 (x : Cas) : (casC x).take 2 = netC x.net := rfl
theorem casP_t4 (x : Cas) : ((casP x).drop 4).take 4 = staP x.sta := rfl
theorem casC_t4 (x : Cas) : ((casC x).drop 4).take 4 = staC x.sta := rfl
theorem casC_ren (o n : Nat) (x : Cas) : DV.renL o n (casC x) = casC x := rfl
theorem casC_frz (o : Nat) (v : FV) (x : Cas) : DV.frzL o v (casC x) = casC x := rfl
theorem casC_mp (r : Nat -> Nat) (x : Cas) : DV.mpL r (casC x) = casC x := rfl
theorem casC_uses (U : Nat -> Prop) (x : Cas) : DV.usesL U (casC x) = True := by simp [casC, DV.usesL, DV.uses]
attribute [push_cast] casP_map casP_len casC_len casP_take casC_take casC_all casP_d0 casC_d0 casP_s0 casC_s0 casP_d1 casC_d1 casP_s1 casC_s1 casP_d2 casC_d2 casP_s2 casC_s2 casP_d3 casC_d3 casP_s3 casC_s3 casP_d4 casC_d4 casP_s4 casC_s4 casP_d5 casC_d5 casP_s5 casC_s5 casP_d6 casC_d6 casP_s6 casC_s6 casP_d7 casC_d7 casP_s7 casC_s7 casP_t0 casC_t0 casP_t4 casC_t4 casC_ren casC_frz casC_mp casC_uses
def casOk (x : Cas) : Prop := netOk x.net /\ catOk x.cat /\ (x.rul.length <= 281474976710656 /\ ∀ y, y ∈ x.rul -> ruleOk y) /\ staOk x.sta
attribute [local irreducible] PT
theorem pt_cas {n : Nat} {xs : List PV} (h : PT Tryz.prog (n + 7) 33 xs) : ∃ x : Cas, xs = casP x /\ casOk x := by
  replace h := PT_struct (P := Tryz.prog) (t := 33) Tryz.underlying33 h
  obtain ⟨_, _, rfl, h0, _, _, rfl, h1, _, _, rfl, h2, _, _, rfl, h3, rfl⟩ := h;obtain ⟨a0, rfl, k0⟩ := pt_net h0;obtain ⟨a1, rfl, k1⟩ := pt_sects h1;obtain ⟨a2, rfl, k2⟩ := pt_rules h2;obtain ⟨a3, rfl, k3⟩ := pt_sta h3;exact ⟨⟨a0, a1, a2, a3⟩, rfl, ⟨k0, k1, k2, k3⟩⟩
theorem dv_cas (x : Cas) : dvT Tryz.prog 33 (casP x) = casD x := by unfold dvT; rw [Tryz.underlying33]; rfl
theorem pt_msg {n : Nat} {xs : List PV} (h : PT Tryz.prog (n + 3) 39 xs) : ∃ m : Msg, xs = msgP m /\ m.node.size <= 281474976710656 := by
  replace h := PT_struct (P := Tryz.prog) (t := 39) Tryz.underlying39 h
  obtain ⟨_, _, rfl, h1, _, _, rfl, h2, _, _, rfl, h3, _, _, rfl, h4, _, _, rfl, h5, rfl⟩ := h;obtain ⟨s, rfl, hs⟩ := pt_str h1;obtain ⟨a, rfl, _⟩ := pt_int h2;obtain ⟨b, rfl, _⟩ := pt_int h3;obtain ⟨c, rfl, _⟩ := pt_int h4;obtain ⟨d, rfl, _⟩ := pt_int h5;exact ⟨⟨s, a, b, c, d⟩, rfl, hs⟩
theorem pt_rec {n : Nat} {xs : List PV} (h : PT Tryz.prog (n + 4) 41 xs) : ∃ r : Rec, xs = recP r /\ recOk r := by
  replace h := PT_struct (P := Tryz.prog) (t := 41) Tryz.underlying41 h
  obtain ⟨_, _, rfl, h1, _, _, rfl, h2, _, _, rfl, h3, _, _, rfl, h4, _, _, rfl, h5, _, _, rfl, h6, _, _, rfl, h7, rfl⟩ := h;obtain ⟨a, rfl, _⟩ := pt_int h1;obtain ⟨b, rfl, _⟩ := pt_int h2;obtain ⟨c, rfl, hc⟩ := pt_ints h3;obtain ⟨d, rfl, hd⟩ := pt_str h4;obtain ⟨e, rfl, _⟩ := pt_int h5;obtain ⟨f, rfl, hf⟩ := pt_msg h6;obtain ⟨g, rfl, hg⟩ := pt_str h7;exact ⟨⟨a, b, c, d, e, f, g⟩, rfl, hc.1, hd, hf, hg⟩
theorem cells_recs : Tryz.prog.cellsOf 41 = 11 := by kernel_rfl
theorem bytes_recs : 0 < Tryz.prog.bytesOf 41 := by rw [show Tryz.prog.bytesOf 41 = 128 from by kernel_rfl]; decide
theorem pt_recs {n : Nat} {xs : List PV} (h : PT Tryz.prog (n + 5) 34 xs) : ∃ l : List Rec, xs = [.dat 11 (l.map recP)] /\ l.length <= 281474976710656 /\ ∀ x, x ∈ l -> recOk x := by
  obtain ⟨l, rfl, hl, hr⟩ := PT_slice (P := Tryz.prog) (t := 34) Tryz.underlying34 h;obtain ⟨zs, rfl, hz⟩ := exMap recP recOk l fun r hr2 => by
    obtain ⟨z, rfl, hz⟩ := pt_rec (hr r hr2);exact ⟨z, rfl, hz⟩
  rw [cells_recs];have := len_le bytes_recs hl;rw [List.length_map] at this;exact ⟨zs, rfl, this, hz⟩
theorem dv_recs (l : List Rec) : dvT Tryz.prog 34 [.dat 11 (l.map recP)] = recs l := by unfold dvT; rw [Tryz.underlying34]; rfl
theorem idxCnd_f (g : FuncId) (p : Cnd -> Bool) (l : List (Cnd)) (m : Nat) (hl : l.length <= 281474976710656) (hg : ∀ x, x ∈ l -> ∀ m, Pu g [cndD x] m (lb (p x))) :
    Pu 65 [cndL l, .clo g []] m (li (idxI p l)) := by
  refine pcN 19 [.tmp 4] [3] Tryz.func65 rfl [] ?_;(repeat' first|refine stW [0,1,4,5,7,8,9,16] ?_|refine fctI fun hf=>?_|refine twI (fun hc=>?_) fun hc=>?_);refine loop_swp [0, 1, 7, 8] [] 0 (fun q A H => ∃ i : Nat, i <= l.length /\ q = l.length - i /\ (l.take i).any p = false /\ A = [(0, cndL l), (1, .clo g []), (7, li l.length), (8, li i)] /\ H = []) (by omega) ?_ ?_ ?_
  · rintro q A H ⟨i, h1, h2, h3, rfl, rfl⟩;exact SDD
  · refine ⟨_, 0, by omega, rfl, rfl, ?_, ?_⟩
    · exact DVR
    · exact DVR
  · rintro q A H ⟨i, h1, h2, h3, rfl, rfl⟩;(repeat' first|refine stW [0,1,4,5,7,8,9,16] ?_|(show CallQ ..;first|refine cQ (fun hcc=>(hg _ (getD_mem SC) _)) ?_|(refine lP ?_;refine lQ (fun hcc m=>(hg _ (getD_mem SC) _)) ?_))|refine fctI fun hf=>?_|refine twI (fun hc=>?_) fun hc=>?_)
    · (refine DVQ ?_);rw [idxI_hit h3 (by omega) (by assumption)]
    · (refine lN [] ?_);exact ⟨_, by omega, i + 1, by omega, rfl, any_step h3 (by omega) (by assumption), rfl, rfl⟩
    · (refine DVQ ?_);rw [List.take_of_length_le (by omega)] at h3;rw [idxI_none h3]
theorem conCnd_f (g : FuncId) (p : Cnd -> Bool) (l : List (Cnd)) (m : Nat) (hl : l.length <= 281474976710656) (hg : ∀ x, x ∈ l -> ∀ m, Pu g [cndD x] m (lb (p x))) :
    Pu 32 [cndL l, .clo g []] m (lb (l.any p)) := by
  refine pcN 9 [.tmp 4] [4] Tryz.func32 rfl [] ?_;(repeat' first|refine stW [0,1,4] ?_|(show CallQ ..;first|refine cQ (fun hcc=>(idxCnd_f g p l _ hl hg)) ?_|(refine lP ?_;refine lQ (fun hcc m=>(idxCnd_f g p l _ hl hg)) ?_))|refine fctI fun hf=>?_|refine twI (fun hc=>?_) fun hc=>?_);(refine DVQ ?_);rw [idxI_any]
theorem idxRule_f (g : FuncId) (p : Rule -> Bool) (l : List (Rule)) (m : Nat) (hl : l.length <= 281474976710656) (hg : ∀ x, x ∈ l -> ∀ m, Pu g [ruleD x] m (lb (p x))) :
    Pu 64 [ruleL l, .clo g []] m (li (idxI p l)) := by
  refine pcN 19 [.tmp 4] [3] Tryz.func64 rfl [] ?_;(repeat' first|refine stW [0,1,4,5,7,8,9,16] ?_|refine fctI fun hf=>?_|refine twI (fun hc=>?_) fun hc=>?_);refine loop_swp [0, 1, 7, 8] [] 0 (fun q A H => ∃ i : Nat, i <= l.length /\ q = l.length - i /\ (l.take i).any p = false /\ A = [(0, ruleL l), (1, .clo g []), (7, li l.length), (8, li i)] /\ H = []) (by omega) ?_ ?_ ?_
  · rintro q A H ⟨i, h1, h2, h3, rfl, rfl⟩;exact SDD
  · refine ⟨_, 0, by omega, rfl, rfl, ?_, ?_⟩
    · exact DVR
    · exact DVR
  · rintro q A H ⟨i, h1, h2, h3, rfl, rfl⟩;(repeat' first|refine stW [0,1,4,5,7,8,9,16] ?_|(show CallQ ..;first|refine cQ (fun hcc=>(hg _ (getD_mem SC) _)) ?_|(refine lP ?_;refine lQ (fun hcc m=>(hg _ (getD_mem SC) _)) ?_))|refine fctI fun hf=>?_|refine twI (fun hc=>?_) fun hc=>?_)
    · (refine DVQ ?_);rw [idxI_hit h3 (by omega) (by assumption)]
    · (refine lN [] ?_);exact ⟨_, by omega, i + 1, by omega, rfl, any_step h3 (by omega) (by assumption), rfl, rfl⟩
    · (refine DVQ ?_);rw [List.take_of_length_le (by omega)] at h3;rw [idxI_none h3]
theorem conRule_f (g : FuncId) (p : Rule -> Bool) (l : List (Rule)) (m : Nat) (hl : l.length <= 281474976710656) (hg : ∀ x, x ∈ l -> ∀ m, Pu g [ruleD x] m (lb (p x))) :
    Pu 30 [ruleL l, .clo g []] m (lb (l.any p)) := by
  refine pcN 9 [.tmp 4] [4] Tryz.func30 rfl [] ?_;(repeat' first|refine stW [0,1,4] ?_|(show CallQ ..;first|refine cQ (fun hcc=>(idxRule_f g p l _ hl hg)) ?_|(refine lP ?_;refine lQ (fun hcc m=>(idxRule_f g p l _ hl hg)) ?_))|refine fctI fun hf=>?_|refine twI (fun hc=>?_) fun hc=>?_);(refine DVQ ?_);rw [idxI_any]
def lgN54 (x : Node) : Bool := decide (110 < x.shape.length) || decide (100 < x.name.size)
def lgL54 (x : Link) : Bool := decide (110 < x.curve.length) || decide (100 < x.name.size) || decide (100 < x.fro.size) || decide (100 < x.til.size) || decide (100 < x.sect.size)
def lgS54 (s : Sect) : Bool := decide (110 < s.area.length) || decide (110 < s.conv.length) || decide (100 < s.name.size)
def lgC54 (c : Cnd) : Bool := decide (100 < c.nod.size)
def lgR54 (r : Rule) : Bool := decide (25 < r.whn.length) || decide (100 < r.name.size) || decide (100 < r.lnk.size) || r.whn.any lgC54
def bigC (c : Cas) : Bool := decide (12 < c.net.nodes.length) || decide (20 < c.net.links.length) || decide (12 < c.cat.length) || decide (8 < c.rul.length) || decide (25 < c.sta.vol.length) || decide (25 < c.sta.pon.length) || decide (25 < c.sta.set.length) || decide (25 < c.sta.on.length)
def lrg54 (c : Cas) : Bool := bigC c || (c.net.nodes.any lgN54 || c.net.links.any lgL54 || c.cat.any lgS54 || c.rul.any lgR54)
theorem lrg54_in {c : Cas} (h : lrg54 c = false) : c.net.nodes.length <= 12 /\ c.net.links.length <= 20 /\ c.rul.length <= 8 := by
  unfold lrg54 bigC at h;simp only [Bool.or_eq_false_iff, decide_eq_false_iff_not] at h;obtain ⟨⟨⟨⟨⟨⟨⟨⟨h1, h2⟩, _⟩, h3⟩, _⟩, _⟩, _⟩, _⟩, _⟩ := h;exact ⟨by omega, by omega, by omega⟩
theorem lg1_54 (x : Node) (m : Nat) (hx : nodeOk x) : Pu 25 [nodeD x] m (lb (lgN54 x)) := by
  have h1 := hx.1;have h2 := hx.2.2.2.2.2.1.1;refine pcN 13 [.tmp 2] [4] Tryz.func25 rfl [] ?_;(repeat' first|refine stW [0,1,2] ?_|refine fctI fun hf=>?_|refine twI (fun hc=>?_) fun hc=>?_);(refine DVQ ?_);refine lbC ?_;unfold lgN54; grind
theorem lg2_54 (x : Link) (m : Nat) (hx : linkOk x) : Pu 27 [linkD x] m (lb (lgL54 x)) := by
  obtain ⟨h1, h2, h3, _, _, _, _, h4, _, _, h5, _⟩ := hx;refine pcN 31 [.tmp 2] [4] Tryz.func27 rfl [] ?_;(repeat' first|refine stW [0,1,2] ?_|refine fctI fun hf=>?_|refine twI (fun hc=>?_) fun hc=>?_);(refine DVQ ?_);refine lbC ?_;unfold lgL54; grind
theorem lg3_54 (s : Sect) (m : Nat) (hs : sectOk s) : Pu 29 [sectD s] m (lb (lgS54 s)) := by
  obtain ⟨h1, h2, h3, ⟨h4, _⟩, h5, _⟩ := hs;refine pcN 19 [.tmp 2] [4] Tryz.func29 rfl [] ?_;(repeat' first|refine stW [0,1,2] ?_|refine fctI fun hf=>?_|refine twI (fun hc=>?_) fun hc=>?_);(refine DVQ ?_);refine lbC ?_;unfold lgS54; grind
theorem lg41_54 (c : Cnd) (m : Nat) (hx : cndOk c) : Pu 33 [cndD c] m (lb (lgC54 c)) := by
  obtain ⟨h1, h2⟩ := hx;refine pcN 7 [.tmp 2] [4] Tryz.func33 rfl [] ?_;(repeat' first|refine stW [0,1,2] ?_|refine fctI fun hf=>?_|refine twI (fun hc=>?_) fun hc=>?_);(refine DVQ ?_);refine lbC ?_;unfold lgC54; grind
theorem lg4_54 (r : Rule) (m : Nat) (hr : ruleOk r) : Pu 31 [ruleD r] m (lb (lgR54 r)) := by
  obtain ⟨h1, ⟨h2, h3⟩, h4, h5⟩ := hr;have k1 := fun m => conCnd_f 33 lgC54 r.whn m h2 (fun x hx m => lg41_54 x m (h3 x hx))
  unfold lgR54;generalize r.whn.any lgC54 = a at *
  refine pcN 24 [.tmp 2] [4] Tryz.func31 rfl [] ?_;(repeat' first|refine stW [0,1,2] ?_|refine fctI fun hf=>?_|refine twI (fun hc=>?_) fun hc=>?_);(refine DVQ ?_);refine lbC ?_;clear k1;grind
theorem large54_f (c : Cas) (m : Nat) (hc' : casOk c) : Pu 5 [casD c] m (lb (lrg54 c)) := by
  obtain ⟨no, co, lo, so⟩ := hc';have h1 := no.1.1;have h2 := no.2.1;have h3 := co.1;have h4 := lo.1;obtain ⟨⟨h5, _⟩, ⟨h6, _⟩, ⟨h7, _⟩, h8⟩ := so;have k1 := fun m => conNode_f 25 lgN54 c.net.nodes m h1 (fun x hx m => lg1_54 x m (no.1.2 x hx))
  have k2 := fun m => conLink_f 27 lgL54 c.net.links m h2 (fun x hx m => lg2_54 x m (no.2.2 x hx))
  have k3 := fun m => conSect_f 29 lgS54 c.cat m h3 (fun x hx m => lg3_54 x m (co.2 x hx))
  have k4 := fun m => conRule_f 31 lgR54 c.rul m h4 (fun x hx m => lg4_54 x m (lo.2 x hx))
  unfold lrg54 bigC;generalize c.net.nodes.any lgN54 = a at *
  generalize c.net.links.any lgL54 = b at *
  generalize c.cat.any lgS54 = d at *
  generalize c.rul.any lgR54 = e at *
  refine pcN 75 [.tmp 2] [4] Tryz.func5 rfl [] ?_;(repeat' first|refine stW [0,1,2,54] ?_|refine fctI fun hf=>?_|refine twI (fun hc=>?_) fun hc=>?_);all_goals
    (refine DVQ ?_);refine lbC ?_;clear k1 k2 k3 k4;grind
def wordyB (r : Rec) : Bool := (decide (40 < r.inflows.length) && decide (r.inflows.length <= 300)) || decide (310 < r.inflows.length) || decide (100 < r.link.size) || decide (510 < r.text.size) || decide (100 < r.msg.node.size)
theorem wordy_f (r : Rec) (m : Nat) (hr : recOk r) : Pu 7 [recD r] m (lb (wordyB r)) := by
  refine pcN 38 [.tmp 2] [4] Tryz.func7 rfl [] ?_;(repeat' (first | refine swp_seq [0,1,2] ?_ | (first|refine rF (fun hf=>?_)|refine st0 ?_|refine dF mixed ?_|(refine cB (fun hc=>?_) (fun hc=>?_)<;>first|exact False.elim hc|exact absurd hc Bool.false_ne_true|exact absurd hc.symm Bool.false_ne_true|skip)|refine cU ?_ ?_)));(refine DVQ ?_);unfold wordyB;congr 3
  grind
theorem parts1_54 (r : Rec) (m : Nat) (hr : recOk r) : Pu 8 [recD r] m (lb (!recB r)) := by
  have c := fun m => rRight54_f r m hr
  generalize recB r = b at *
  refine pcN 6 [.tmp 2] [4] Tryz.func8 rfl [] ?_;(repeat' first|refine stW [0,1,2] ?_|refine fctI fun hf=>?_|refine twI (fun hc=>?_) fun hc=>?_);exact DVR
theorem parts3_54 (y : Link) (r : Rec) (m : Nat) : Pu 18 [linkD y, .p (.ptr (recP r))] m (lb (decide (y.name = r.link))) := by
  by_cases h1 : y.name = r.link
  all_goals
    (have:=NeI h1);refine pcN 9 [.tmp 3] [4] Tryz.func18 rfl [] ?_;(repeat' first|refine stW [0,1,2,3] ?_|refine fctI fun hf=>?_|refine twI (fun hc=>?_) fun hc=>?_);exact DVR
section
open Go.Eng
def idD2 : DV -> Bool
  | .agg l => l.all idD
  | d => idD d
def idR2 : DV -> Bool
  | .tup l => l.all idD2
  | d => idD2 d
theorem idD2_rel {ρ : Nat -> Hd} {S S' : Nat -> Prop} {w : World} {d : DV} {v : Value} (h : idD2 d = true) (hr : Rel ρ S w d v) : Rel ρ S' w d v := by
  unfold idD2 at h;split at h
  · next l =>
    simp only [Rel] at hr ⊢;obtain ⟨vs, rfl, hr⟩ := hr;exact ⟨vs, rfl, idL_rel h hr⟩
  · exact idD_rel h hr
theorem idL2_rel {ρ : Nat -> Hd} {S S' : Nat -> Prop} {w : World} : ∀ {l : List DV} {vs : List Value}, l.all idD2 = true -> RelL ρ S w l vs -> RelL ρ S' w l vs
  | [], [], _, _ => trivial
  | d :: l, v :: vs, h, hr => by
    simp only [List.all_cons, Bool.and_eq_true] at h;exact ⟨idD2_rel h.1 hr.1, idL2_rel h.2 hr.2⟩
  | [], _ :: _, _, h => h.elim
  | _ :: _, [], _, h => h.elim
theorem idR2_rel {ρ : Nat -> Hd} {S S' : Nat -> Prop} {w : World} {d : DV} {v : Value} (h : idR2 d = true) (hr : Rel ρ S w d v) : Rel ρ S' w d v := by
  unfold idR2 at h;split at h
  · next l =>
    simp only [Rel] at hr ⊢;obtain ⟨vs, rfl, hr⟩ := hr;exact ⟨vs, rfl, idL2_rel h hr⟩
  · exact idD2_rel h hr
theorem DCallsG.lendLit2 {P : Program} {g : FuncId} {args : List DV} {d : DV} {m o : Nat} {hv : HV} {x : FV} {h0 h2 : LH} (hx : hv.fv = some x) (hl0 : litHs h0 = true) (hl2 : litHs h2 = true) (ho0 : hget h0 o = none) (ho2 : hget h2 o = none) (hd : idR2 d = true)
    (hc : DCallsG P g [] (DV.frzL o x args) (hget h0) m d (hget h2)) : DCallsG P g [] args (hget ((o, hv) :: h0)) m d (hget ((o, hv) :: h2)) := by
  unfold DCallsG at hc ⊢;refine ⟨hc.1, fun U ρ S w vs H0 hmU hr huU => ?_⟩;have ho : hget ((o, hv) :: h0) o = some hv := by simp [hget]
  have hO := H0.heap o hv ho;have hOu := H0.heapU o hv ho;have hr1 := RelL.frz hx hO args vs hr;have hz := HSat.frz (HSat0.to (C := fun _ => True) (U0 := fun _ => False) H0 (fun _ _ _ => .inl trivial)) ho hx (fun k => k);rw [<- hget_frz, show hfrzL o x ((o, hv) :: h0) = h0 by simp only [hfrzL, if_true]; exact hfrz_lit hl0 ho0] at hz;have hz0 := hz.to0;have hS1 : ∀ b, hblk (ρ o) hv = some b -> Sfrz S (hblk (ρ o) hv) b := fun b e => .inr e
  refine (hc.2 U ρ _ w vs hz0 hmU hr1 (usesL_frz args huU)).mono ?_;rintro e w' ⟨v, ρ', S', rfl, HS, hr', hu'⟩;have up : ∀ i v, hget h0 i = some v -> i ≠ o /\ hget ((o, hv) :: h0) i = some v := fun i v hi => by
    have e : i ≠ o := fun e => by subst e; rw [ho0] at hi; cases hi
    exact ⟨e, by simp only [hget, if_neg e]; exact hi⟩
  have keepS : ∀ b, Sfrz S (hblk (ρ o) hv) b -> w'.heap[b]? = w.heap[b]? := fun b hb =>
    HS.keep b (hz0.sIn b hb) (fun i ⟨_, _, v, k1, k2⟩ => hz0.sep i v b k1 k2 hb) (fun ⟨i, v, k, _⟩ => by cases k)
  have hoo : HRel ρ' S w' o hv := HRel.mono (U := U) (fun i hi => HS.pin i hi) (fun _ k => k) (fun b hb => keepS b (.inl hb)) hOu.1 hOu.2 (fun b hb => keepS b (hS1 b hb)) hO;have get2 : ∀ i v, hget ((o, hv) :: h2) i = some v -> (i = o /\ v = hv) ∨ (i ≠ o /\ hget h2 i = some v) := fun i v hi => by
    simp only [hget] at hi;split at hi
    · next e => exact .inl ⟨e, (Option.some.inj hi).symm⟩
    · next e => exact .inr ⟨e, hi⟩
  have own : ∀ i b, (Base.of (fun i => i ∈ ([] : List Nat)) U ρ (Sfrz S (hblk (ρ o) hv)) w (hget h0)).own0 i b -> (Base.of (fun i => i ∈ ([] : List Nat)) U ρ S w (hget ((o, hv) :: h0))).own0 i b := fun i b ⟨k1, k2, u, k3, k4⟩ =>
    ⟨k1, k2, u, (up i u k3).2, k4⟩
  have fre : ∀ b, (Base.of (fun i => i ∈ ([] : List Nat)) U ρ (Sfrz S (hblk (ρ o) hv)) w (hget h0)).fresh b -> (Base.of (fun i => i ∈ ([] : List Nat)) U ρ S w (hget ((o, hv) :: h0))).fresh b := fun b hb => by
    rcases hb with ⟨i, v, k, _⟩ | k
    · cases k
    · exact .inr k
  have hρo : ρ' o = ρ o := HS.pin o hOu.1;refine ⟨v, ρ', S, rfl, ?_, idR2_rel hd hr', hu'⟩;exact {
    heap := fun i v k => by
      rcases get2 i v k with ⟨rfl, rfl⟩ | ⟨_, k⟩
      · exact hoo
      · exact litH_rel (litHs_get hl2 i v k) (HS.heap i v k)
    heapU := fun i v k => by
      rcases get2 i v k with ⟨rfl, rfl⟩ | ⟨_, k⟩
      · exact ⟨.inl hOu.1, HV.uses_mono (fun i k => .inl k) _ hOu.2⟩
      · exact HS.heapU i v k
    disj := fun i j v u b hi hj hbi hbj => by
      rcases get2 i v hi with ⟨rfl, rfl⟩ | ⟨ni, hi2⟩ <;> rcases get2 j u hj with ⟨rfl, rfl⟩ | ⟨nj, hj2⟩
      · rfl
      · rw [hρo] at hbi;exact absurd (HS.sOld b (hS1 b hbi)) (HS.sep j u b hj2 hbj)
      · rw [hρo] at hbj;exact absurd (HS.sOld b (hS1 b hbj)) (HS.sep i v b hi2 hbi)
      · exact HS.disj i j v u b hi2 hj2 hbi hbj
    sep := fun i v b hi hb => by
      rcases get2 i v hi with ⟨rfl, rfl⟩ | ⟨_, hi⟩
      · rw [hρo] at hb;exact H0.sep i _ b ho hb
      · exact fun k => HS.sep i v b hi hb (HS.sOld b (.inl k))
    prov := fun i v b hi hb => by
      rcases get2 i v hi with ⟨rfl, rfl⟩ | ⟨_, hi⟩
      · rw [hρo] at hb;exact .inl ⟨by simp, hOu.1, _, ho, hb⟩
      · rcases HS.prov i v b hi hb with k | k
        · exact .inl (own i b k)
        · exact .inr (fre b k)
    sIn := fun b hb => Nat.lt_of_lt_of_le (H0.sIn b hb) HS.size
    sProv := fun b hb => .inl hb
    sOld := fun b hb => hb
    pin := HS.pin
    ownU := fun i b hb => hb.2.1
    os := HS.os
    tape := HS.tape
    output := HS.output
    size := HS.size
    keep := fun b hb k1 k2 => HS.keep b hb (fun i k => k1 i (own i b k)) (fun ⟨i, v, k, _⟩ => by cases k) }
end

end Go.Proofs.YtgpllheklfbfhaaGreat
