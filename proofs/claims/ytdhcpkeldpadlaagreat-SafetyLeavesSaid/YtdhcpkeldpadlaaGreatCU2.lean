/-
  Contracts of functions of the program, over the engine.
  No condition.
-/
import Derived.Test.YtdhcpkeldpadlaaGreatCL9L10L11L12L16L20RL25L27
import Derived.Test.YtdhcpkeldpadlaaGreatCU1
import Derived.Test.YtdhcpkeldpadlaaGreatCA3
import Derived.Test.YtdhcpkeldpadlaaGreatCN0N1NBNmT1T2T2eT3
import Derived.Test.YtdhcpkeldpadlaaGreatCW4W5W6R1R2R3R4
import Derived.Test.YtdhcpkeldpadlaaGreatCT5T6T6bT7T7bT7c
namespace Go.Proofs.YtdhcpkeldpadlaaGreat
open Go.Eng
set_option linter.all false
attribute [local irreducible] DCallsG SWp Fct CallQ XCallQ LCallQ XLCallQ drun xrun
set_option maxHeartbeats 64000000
set_option maxRecDepth 20000

def outB (n : Net) (i : Nat) (v : Int) : Bool := !btwB v (n.nodes.getD i default).inv (n.nodes.getD i default).gnd
abbrev outH (n : Net) (i : Nat) : List (Nat × HV) := [(0, .blk 25 ((netP n).map .p)), (1, .blk 3 ((intC i).map .p))]
theorem idxInt2_f (g : FuncId) (t1 t2 : TypeId) (cs1 cs2 : List PV) (p : Int -> Bool) (l : List Int) (hl : l.length <= 281474976710656) (hg : ∀ x, x ∈ l -> ∀ m, DCalls Tryz.prog g [li x, .ptr 0 0, .ptr 1 0] (hget [(0, .blk t1 (cs1.map .p)), (1, .blk t2 (cs2.map .p))]) m (lb (p x)) (hget [(0, .blk t1 (cs1.map .p)), (1, .blk t2 (cs2.map .p))])) :
    DCalls Tryz.prog 98 [ints l, .clo g [.ptr 0 0, .ptr 1 0]] (hget [(0, .blk t1 (cs1.map .p)), (1, .blk t2 (cs2.map .p))]) 2 (li (idxI p l)) (hget [(0, .blk t1 (cs1.map .p)), (1, .blk t2 (cs2.map .p))]) := by
  refine contract (n := 19) (rs := [.tmp 4]) (ts := [3]) Tryz.func98 rfl (by decide) 2 2 [] [] [] (li (idxI p l)) [(0, .blk t1 (cs1.map .p)), (1, .blk t2 (cs2.map .p))] (by (exact SD)) (by (exact SD)) ?_;(repeat' first|refine stW [0,1,4,5,7,8,9,16] ?_|refine fctI fun hf=>?_|refine twI (fun hc=>?_) fun hc=>?_);refine loop_swp [0, 1, 7, 8] [0, 1] 2 (fun q A H => ∃ i : Nat, i <= l.length /\ q = l.length - i /\ (l.take i).any p = false /\ A = [(0, ints l), (1, .clo g [.ptr 0 0, .ptr 1 0]), (7, li l.length), (8, li i)] /\ H = [(0, .blk t1 (cs1.map .p)), (1, .blk t2 (cs2.map .p))]) (by omega) ?_ ?_ ?_
  · rintro q A H ⟨i, h1, h2, h3, rfl, rfl⟩;exact SDD
  · refine ⟨_, 0, by omega, rfl, rfl, ?_, ?_⟩
    · exact DVR
    · exact DVR
  · rintro q A H ⟨i, h1, h2, h3, rfl, rfl⟩;(repeat' first|refine stW [0,1,4,5,7,8,9,16] ?_|(show CallQ ..;first|refine cQ (fun hcc=>(hg _ (getD_mem SC) _)) ?_|(refine lP ?_;refine lQ (fun hcc m=>(hg _ (getD_mem SC) _)) ?_))|refine fctI fun hf=>?_|refine twI (fun hc=>?_) fun hc=>?_)
    · (refine DVQ ?_);rw [idxI_hit h3 (by omega) (by assumption)]
    · (refine lN [0, 1] ?_);exact ⟨_, by omega, i + 1, by omega, rfl, any_step h3 (by omega) (by assumption), rfl, rfl⟩
    · (refine DVQ ?_);rw [List.take_of_length_le (by omega)] at h3;rw [idxI_none h3]
theorem conInt2_f (g : FuncId) (t1 t2 : TypeId) (cs1 cs2 : List PV) (p : Int -> Bool) (l : List Int) (hl : l.length <= 281474976710656) (hg : ∀ x, x ∈ l -> ∀ m, DCalls Tryz.prog g [li x, .ptr 0 0, .ptr 1 0] (hget [(0, .blk t1 (cs1.map .p)), (1, .blk t2 (cs2.map .p))]) m (lb (p x)) (hget [(0, .blk t1 (cs1.map .p)), (1, .blk t2 (cs2.map .p))])) :
    DCalls Tryz.prog 57 [ints l, .clo g [.ptr 0 0, .ptr 1 0]] (hget [(0, .blk t1 (cs1.map .p)), (1, .blk t2 (cs2.map .p))]) 2 (lb (l.any p)) (hget [(0, .blk t1 (cs1.map .p)), (1, .blk t2 (cs2.map .p))]) := by
  have ci := idxInt2_f g t1 t2 cs1 cs2 p l hl hg;refine contract (n := 9) (rs := [.tmp 4]) (ts := [4]) Tryz.func57 rfl (by decide) 2 2 [] [] [] (lb (l.any p)) [(0, .blk t1 (cs1.map .p)), (1, .blk t2 (cs2.map .p))] (by (exact SD)) (by (exact SD)) ?_;(repeat' first|refine stW [0,1,4] ?_|refine fctI fun hf=>?_|refine twI (fun hc=>?_) fun hc=>?_);(refine cQT [0, 1] (fun hcc => ci) ?_);(repeat' first|refine stW [0,1,4] ?_|refine fctI fun hf=>?_|refine twI (fun hc=>?_) fun hc=>?_);(refine DVQ ?_);rw [idxI_any]
theorem lgiven2_f (n : Net) (i : Nat) (v : Int) (m : Nat) (no : netOk n) (hi : i < n.nodes.length) : DCalls Tryz.prog 157 [li v, .ptr 0 0, .ptr 1 0] (hget (outH n i)) m (lb (outB n i v)) (hget (outH n i)) := by
  unfold outH;have hn1 := no.1.1;(have:=NeI hi);have cw := fun m => lwithin_f (n.nodes.getD i default) v m
  unfold outB;generalize btwB v (n.nodes.getD i default).inv (n.nodes.getD i default).gnd = b at *
  refine contract (n := 13) (rs := [.tmp 4]) (ts := [4]) Tryz.func157 rfl (by decide) 2 2 [] [] [] (lb (!b)) [(0, .blk 25 ((netP n).map .p)), (1, .blk 3 ((intC i).map .p))] (by (exact SD)) (by (exact SD)) ?_;(repeat' first|refine stW [0,1,2,4] ?_|(show CallQ ..;first|refine cQ (fun hcc=>(by first | exact cw _)) ?_|(refine lP ?_;refine lQ (fun hcc m=>(by first | exact cw _)) ?_))|refine fctI fun hf=>?_|refine twI (fun hc=>?_) fun hc=>?_);exact DVR
theorem lgiven1_f (n : Net) (i : Int) (m : Nat) : DCallsG Tryz.prog 156 [] [li i, .ptr 0 0] (hget [(0, .blk 25 ((netP n).map .p))]) m (.clo 157 [.ptr 0 0, .ptr m 0]) (hget [(0, .blk 25 ((netP n).map .p)), (m, .blk 3 ((intC i).map .p))]) := by
  refine contract (n := 5) (rs := [.tmp 3]) (ts := [94]) Tryz.func156 rfl (by decide) 1 1 [] [] [1] (.clo 157 [.ptr 0 0, .ptr 1 0]) [(0, .blk 25 ((netP n).map .p)), (1, .blk 3 ((intC i).map .p))] (by (exact SD)) (by (exact SD)) ?_;(repeat' first|refine stW [0,1,2,3] ?_|refine fctI fun hf=>?_|refine twI (fun hc=>?_) fun hc=>?_);exact DVR
def givE (n : Net) (l : List Sect) (k s : Int) (up down : List Int) : Int :=
  if linkedB n k s then
    if up.any (outB n (fromI n k.toNat)) || down.any (outB n (tillI n k.toNat)) then 2
    else if knownB l (n.links.getD k.toNat default) then 0 else 9
  else 2
theorem lgiven_f (n : Net) (l : List Sect) (k s : Int) (up down : List Int) (m : Nat) (no : netOk n) (co : catOk l) (nb : netB n = true) (hu : up.length <= 281474976710656) (hd : down.length <= 281474976710656) : Pu 125 [netD n, sectL l, li k, li s, ints up, ints down] m (li (givE n l k s up down)) := by
  have c4 := fun m => lsetting_f s m
  have hll := no.2.1;unfold givE linkedB;by_cases k0 : k < 0
  · (have:=NeI k0);rw [decide_eq_false (show ¬ 0 <= k by omega)];refine pcN 63 [.tmp 12] [32] Tryz.func125 rfl [] ?_;(repeat' first|refine stW [0,1,2,3,4,5,6,12,13,14,15,29,41,54] ?_|refine fctI fun hf=>?_|refine twI (fun hc=>?_) fun hc=>?_);exact DVR
  rw [decide_eq_true (show 0 <= k by omega)];obtain ⟨j, rfl⟩ : ∃ j : Nat, k = (j : Int) := ⟨k.toNat, by omega⟩;rw [Int.toNat_natCast];(have:=NeI k0);by_cases kl : (j : Int) < (n.links.length : Int)
  · have kl2 : ¬ (n.links.length : Int) <= (j : Int) := by omega
    have hj : j < n.links.length := by omega
    (have:=NeI kl2);(have:=NeI hj);rw [decide_eq_true kl];cases hs : btwB s 0 1000 <;> simp only [hs] at c4
    · refine pcN 63 [.tmp 12] [32] Tryz.func125 rfl [] ?_;(repeat' first|refine stW [0,1,2,3,4,5,6,12,13,14,15,29,41,54] ?_|refine fctI fun hf=>?_|refine twI (fun hc=>?_) fun hc=>?_);exact DVR
    rw [if_pos (by rfl)];have hf := fromI_lt nb hj;have ht := tillI_lt nb hj;have c1 := fun m => ends_f n (n.links.getD j default) m no.1.1
    rw [hf.2, ht.2] at c1;have c5 := fun m => known_f l (n.links.getD j default) m co.1
    have d1 := conInt2_f 157 25 3 (netP n) (intC (fromI n j)) (outB n (fromI n j)) up hu (fun x _ m => lgiven2_f n (fromI n j) x m no hf.1);have d2 := conInt2_f 157 25 3 (netP n) (intC (tillI n j)) (outB n (tillI n j)) down hd (fun x _ m => lgiven2_f n (tillI n j) x m no ht.1);generalize fromI n j = a at *
    generalize tillI n j = b at *
    have g1 := lgiven1_f n a 1;have g2 := lgiven1_f n b 1;generalize up.any (outB n a) = ua at *
    generalize down.any (outB n b) = ub at *
    generalize knownB l (n.links.getD j default) = kb at *
    clear hf ht;refine pcN 63 [.tmp 12] [32] Tryz.func125 rfl [] ?_;cases ua
    · (repeat' first|refine stW [0,1,2,3,4,5,6,12,13,14,15,29,41,54] ?_|refine fctI fun hf=>?_|refine twI (fun hc=>?_) fun hc=>?_);(refine cQT [0] (fun hcc => g1) ?_);(repeat' first|refine stW [0,1,2,3,4,5,6,12,13,14,15,29,41,54] ?_|refine fctI fun hf=>?_|refine twI (fun hc=>?_) fun hc=>?_);(refine cQT [0, 264] (fun hcc => d1) ?_);(repeat' first|refine stW [0,1,2,3,4,5,6,12,13,14,15,29,41,54] ?_|refine fctI fun hf=>?_|refine twI (fun hc=>?_) fun hc=>?_);(refine cQT [0] (fun hcc => g2) ?_);(repeat' first|refine stW [0,1,2,3,4,5,6,12,13,14,15,29,41,54] ?_|refine fctI fun hf=>?_|refine twI (fun hc=>?_) fun hc=>?_);(refine cQT [0, 312] (fun hcc => d2) ?_);cases ub
      · cases kb
        · (repeat' first|refine stW [0,1,2,3,4,5,6,12,13,14,15,29,41,54] ?_|refine fctI fun hf=>?_|refine twI (fun hc=>?_) fun hc=>?_);exact DVR
        · (repeat' first|refine stW [0,1,2,3,4,5,6,12,13,14,15,29,41,54] ?_|refine fctI fun hf=>?_|refine twI (fun hc=>?_) fun hc=>?_);exact DVR
      · (repeat' first|refine stW [0,1,2,3,4,5,6,12,13,14,15,29,41,54] ?_|refine fctI fun hf=>?_|refine twI (fun hc=>?_) fun hc=>?_);exact DVR
    · (repeat' first|refine stW [0,1,2,3,4,5,6,12,13,14,15,29,41,54] ?_|refine fctI fun hf=>?_|refine twI (fun hc=>?_) fun hc=>?_);(refine cQT [0] (fun hcc => g1) ?_);(repeat' first|refine stW [0,1,2,3,4,5,6,12,13,14,15,29,41,54] ?_|refine fctI fun hf=>?_|refine twI (fun hc=>?_) fun hc=>?_);(refine cQT [0, 264] (fun hcc => d1) ?_);(repeat' first|refine stW [0,1,2,3,4,5,6,12,13,14,15,29,41,54] ?_|refine fctI fun hf=>?_|refine twI (fun hc=>?_) fun hc=>?_);exact DVR
  · have kl2 : (n.links.length : Int) <= (j : Int) := by omega
    (have:=NeI kl2);rw [decide_eq_false kl];refine pcN 63 [.tmp 12] [32] Tryz.func125 rfl [] ?_;(repeat' first|refine stW [0,1,2,3,4,5,6,12,13,14,15,29,41,54] ?_|refine fctI fun hf=>?_|refine twI (fun hc=>?_) fun hc=>?_);exact DVR
theorem give_v {d : DV} (n : Net) (l : List Sect) (k s v : Int) (h : Pu 125 [netD n, sectL l, li k, li s, ints [v], ints []] 1 d) :
    DCallsG Tryz.prog 125 [0] [netD n, sectL l, li k, li s, .gl 0, ints []] (hget [(0, .lst 3 1 [[li v]])]) 1 d (hget []) :=
  DCallsG.giveG (x := .elems 1 [inRow v]) (by show HV.fv (.lst _ 1 (rows inRow [v])) = _; simp only [HV.fv]; rw [rows_pv]; rfl) rfl h
theorem givE_lk {n : Net} {l : List Sect} {k s : Int} {up down : List Int} (h : givE n l k s up down = 0) : linkedB n k s = true /\ up.any (outB n (fromI n k.toNat)) = false /\ down.any (outB n (tillI n k.toNat)) = false /\ knownB l (n.links.getD k.toNat default) = true := by
  unfold givE at h;cases h1 : linkedB n k s <;> rw [h1] at h
  · simp at h
  cases h2 : (up.any (outB n (fromI n k.toNat)) || down.any (outB n (tillI n k.toNat))) <;> rw [h2] at h
  · cases h3 : knownB l (n.links.getD k.toNat default) <;> rw [h3] at h
    · simp at h
    · simp only [Bool.or_eq_false_iff] at h2;exact ⟨rfl, h2.1, h2.2, rfl⟩
  · simp at h
theorem inB_of {n : Net} {i : Nat} {v : Int} (h : outB n i v = false) : btwB v (n.nodes.getD i default).inv (n.nodes.getD i default).gnd = true := by
  unfold outB at h; simpa using h
theorem inv_btw {n : Net} {i : Nat} (nb : netB n = true) (hi : i < n.nodes.length) : btwB (n.nodes.getD i default).inv (n.nodes.getD i default).inv (n.nodes.getD i default).gnd = true := by
  have := (node_lev (netB_node nb hi)).2.2;unfold btwB; simp; exact this
def mostR (n : Net) (l : List Sect) (k v s : Int) : Int × Int :=
  if netB n && catB l then
    if givE n l k s [v] [] = 0 then (flowI n l (n.links.getD k.toNat default) v (n.nodes.getD (tillI n k.toNat) default).inv s.toNat true, 0)
    else (0, givE n l k s [v] [])
  else (0, 1)
theorem most_in {n : Net} {l : List Sect} {j t : Nat} {v : Int} (no : netOk n) (co : catOk l) (nb : netB n = true) (cb : catB l = true) (h : givE n l j t [v] [] = 0) : j < n.links.length /\ t <= 1000 /\ fromI n j < n.nodes.length /\ tillI n j < n.nodes.length /\ BtwIn n l (n.links.getD j default) v (n.nodes.getD (tillI n j) default).inv t := by
  have g := givE_lk h;have hk := linkedB_in g.1;have g2 := g.2;rw [Int.toNat_natCast] at g2;have hj : j < n.links.length := by omega
  have hf := fromI_lt nb hj;have ht := tillI_lt nb hj;refine ⟨hj, by omega, hf.1, ht.1, btwIn_of no co nb cb hj g2.2.2 (by omega) (inB_of ?_) (inv_btw nb ht.1)⟩;have := g2.1;rw [List.any_cons, List.any_nil, Bool.or_false] at this; exact this
theorem Most_f (n : Net) (l : List Sect) (k v s : Int) (m : Nat) (no : netOk n) (co : catOk l) : Pu 89 [netD n, sectL l, li k, li v, li s] m (.tup [li (mostR n l k v s).1, li (mostR n l k v s).2]) := by
  have c1 := fun m => netValid_f n m no
  have c2 := fun m => cat_f l m co
  have hll := no.2.1;have hnl := no.1.1;unfold mostR;cases hn : netB n <;> simp only [hn] at c1
  · refine pcN 61 [.tmp 10,.tmp 11] [3,32] Tryz.func89 rfl [] ?_;(repeat' first|refine stW [0,1,2,3,4,5,10,11,12,14,22,31] ?_|refine fctI fun hf=>?_|refine twI (fun hc=>?_) fun hc=>?_);exact DVR
  cases hc : catB l <;> simp only [hc] at c2
  · refine pcN 61 [.tmp 10,.tmp 11] [3,32] Tryz.func89 rfl [] ?_;(repeat' first|refine stW [0,1,2,3,4,5,10,11,12,14,22,31] ?_|refine fctI fun hf=>?_|refine twI (fun hc=>?_) fun hc=>?_);exact DVR
  rw [if_pos (by rfl)];have c3 := give_v n l k s v (lgiven_f n l k s [v] [] 1 no co hn (by simp) (by simp));by_cases he : givE n l k s [v] [] = 0
  · rw [if_pos he];have hk := linkedB_in (givE_lk he).1;rw [he] at c3;obtain ⟨j, rfl⟩ : ∃ j : Nat, k = (j : Int) := ⟨k.toNat, by omega⟩;obtain ⟨t, rfl⟩ : ∃ t : Nat, s = (t : Int) := ⟨s.toNat, by omega⟩;rw [Int.toNat_natCast, Int.toNat_natCast];obtain ⟨hj, _, hf, ht, hb⟩ := most_in no co hn hc he;have c4 := fun m => ends_f n (n.links.getD j default) m no.1.1
    rw [(fromI_lt hn hj).2, (tillI_lt hn hj).2] at c4;have c5 := fun m => between_f' n l (n.links.getD j default) v (n.nodes.getD (tillI n j) default).inv t true m hb
    generalize flowI n l (n.links.getD j default) v (n.nodes.getD (tillI n j) default).inv t true = q at *
    generalize fromI n j = a at *
    generalize tillI n j = b at *
    (have:=NeI hj);(have:=NeI ht);clear he hb hk;refine pcN 61 [.tmp 10,.tmp 11] [3,32] Tryz.func89 rfl [] ?_;(repeat' first|refine stW [0,1,2,3,4,5,10,11,12,14,22,31] ?_|refine fctI fun hf=>?_|refine twI (fun hc=>?_) fun hc=>?_);refine cQT [128] (fun hcc => c3) ?_ (hC := fun _ _ => Nat.zero_le _) (hCn := by intro i hi; simp only [List.map_cons, List.map_nil, List.mem_cons, List.not_mem_nil, or_false] at hi; subst hi; rfl);(repeat' first|refine stW [0,1,2,3,4,5,10,11,12,14,22,31] ?_|refine fctI fun hf=>?_|refine twI (fun hc=>?_) fun hc=>?_);exact DVR
  · rw [if_neg he];generalize givE n l k s [v] [] = e at *
    (have:=NeI he);refine pcN 61 [.tmp 10,.tmp 11] [3,32] Tryz.func89 rfl [] ?_;(repeat' first|refine stW [0,1,2,3,4,5,10,11,12,14,22,31] ?_|refine fctI fun hf=>?_|refine twI (fun hc=>?_) fun hc=>?_);refine cQT [128] (fun hcc => c3) ?_ (hC := fun _ _ => Nat.zero_le _) (hCn := by intro i hi; simp only [List.map_cons, List.map_nil, List.mem_cons, List.not_mem_nil, or_false] at hi; subst hi; rfl);(repeat' first|refine stW [0,1,2,3,4,5,10,11,12,14,22,31] ?_|refine fctI fun hf=>?_|refine twI (fun hc=>?_) fun hc=>?_);exact DVR
theorem inc_ext : ∀ (a b : List Int), a.Pairwise (· < ·) -> b.Pairwise (· < ·) -> (∀ x, x ∈ a ↔ x ∈ b) -> a = b
  | [], [], _, _, _ => rfl
  | [], y :: b, _, _, h => by have := (h y).2 (List.mem_cons_self ..); simp at this
  | x :: a, [], _, _, h => by have := (h x).1 (List.mem_cons_self ..); simp at this
  | x :: a, y :: b, ha, hb, h => by
    rw [List.pairwise_cons] at ha hb;have e : x = y := by
      rcases List.mem_cons.1 ((h x).1 (List.mem_cons_self ..)) with h1 | h1
      · exact h1
      · rcases List.mem_cons.1 ((h y).2 (List.mem_cons_self ..)) with h2 | h2
        · exact h2.symm
        · have := ha.1 y h2;have := hb.1 x h1;omega
    subst e;congr 1
    refine inc_ext a b ha.2 hb.2 fun z => ⟨fun hz => ?_, fun hz => ?_⟩
    · rcases List.mem_cons.1 ((h z).1 (List.mem_cons_of_mem _ hz)) with q | q
      · have := ha.1 z hz;omega
      · exact q
    · rcases List.mem_cons.1 ((h z).2 (List.mem_cons_of_mem _ hz)) with q | q
      · have := hb.1 z hz;omega
      · exact q
def compN : List Int -> List Int
  | [] => []
  | [x] => [x]
  | x :: y :: l => if x = y then compN (y :: l) else x :: compN (y :: l)
theorem compN_mem : ∀ (l : List Int) (z : Int), z ∈ compN l ↔ z ∈ l
  | [], _ => Iff.rfl
  | [_], _ => Iff.rfl
  | x :: y :: l, z => by
    unfold compN;split
    · next h =>
      rw [compN_mem (y :: l) z, List.mem_cons (a := z) (b := x)];subst h;simp
    · rw [List.mem_cons, compN_mem (y :: l) z, List.mem_cons (a := z) (b := x)]
theorem compN_inc : ∀ (l : List Int), l.Pairwise (· <= ·) -> (compN l).Pairwise (· < ·)
  | [], _ => List.Pairwise.nil
  | [_], _ => List.pairwise_singleton ..
  | x :: y :: l, h => by
    unfold compN;have h2 := List.pairwise_cons.1 h;split
    · exact compN_inc (y :: l) h2.2
    · next hn =>
      refine List.pairwise_cons.2 ⟨fun z hz => ?_, compN_inc (y :: l) h2.2⟩;have hz2 := (compN_mem (y :: l) z).1 hz;have h3 := List.pairwise_cons.1 h2.2;have h4 := h2.1 y (List.mem_cons_self ..);rcases List.mem_cons.1 hz2 with q | q
      · subst q;omega
      · have := h3.1 z q;omega
def upTo (a b : Int) : List Int := (List.range (b + 1 - a).toNat).map fun (i : Nat) => a + i
theorem upTo_mem (a b z : Int) : z ∈ upTo a b ↔ a <= z /\ z <= b := by
  unfold upTo;rw [List.mem_map];constructor
  · rintro ⟨i, hi, rfl⟩;have := List.mem_range.1 hi;omega
  · intro h;exact ⟨(z - a).toNat, List.mem_range.2 (by omega), by omega⟩
theorem upTo_inc (a b : Int) : (upTo a b).Pairwise (· < ·) := by
  unfold upTo;rw [List.pairwise_map];exact List.pairwise_lt_range.imp fun h => by omega
def condLs (l : List Rule) (t : ByteArray) (first gnd : Int) : List Int :=
  l.flatMap fun r => (r.whn.filter fun c => decide (c.nod = t) && decide (first < c.level) && decide (c.level <= gnd)).map Cnd.level
def chgB (l : List Rule) (t : ByteArray) (h : Int) : Bool := l.any fun r => r.whn.any fun c => decide (c.nod = t) && decide (c.level = h)
def startsR (l : List Rule) (t : ByteArray) (first gnd : Int) : List Int := first :: (upTo (first + 1) gnd).filter (chgB l t)
theorem condLs_mem (l : List Rule) (t : ByteArray) (first gnd z : Int) : z ∈ condLs l t first gnd ↔ first < z /\ z <= gnd /\ chgB l t z = true := by
  unfold condLs chgB;rw [List.mem_flatMap, List.any_eq_true];constructor
  · rintro ⟨r, hr, hz⟩;obtain ⟨c, hc, rfl⟩ := List.mem_map.1 hz;obtain ⟨hc1, hc2⟩ := List.mem_filter.1 hc;simp only [Bool.and_eq_true, decide_eq_true_eq] at hc2;exact ⟨hc2.1.2, hc2.2, r, hr, List.any_eq_true.2 ⟨c, hc1, by simp [hc2.1.1]⟩⟩
  · rintro ⟨h1, h2, r, hr, hc⟩;obtain ⟨c, hc1, hc2⟩ := List.any_eq_true.1 hc;simp only [Bool.and_eq_true, decide_eq_true_eq] at hc2;refine ⟨r, hr, List.mem_map.2 ⟨c, List.mem_filter.2 ⟨hc1, ?_⟩, hc2.2⟩⟩;simp only [Bool.and_eq_true, decide_eq_true_eq];exact ⟨⟨hc2.1, by omega⟩, by omega⟩
theorem starts_eq (l : List Rule) (t : ByteArray) (first gnd : Int) : compN ((first :: condLs l t first gnd).mergeSort fun x y => decide (x <= y)) = startsR l t first gnd := by
  refine inc_ext _ _ (compN_inc _ ?_) ?_ fun z => ?_
  · have := List.pairwise_mergeSort (le := fun (x y : Int) => decide (x <= y)) (by intro a b c h1 h2; simp only [decide_eq_true_eq] at *; omega) (by intro a b; simp only [Bool.or_eq_true, decide_eq_true_eq]; omega) (first :: condLs l t first gnd);exact this.imp fun h => by simpa using h
  · unfold startsR;refine List.pairwise_cons.2 ⟨fun z hz => ?_, (upTo_inc _ _).filter _⟩;have := (upTo_mem _ _ _).1 (List.mem_filter.1 hz).1;omega
  · rw [compN_mem, List.mem_mergeSort];unfold startsR;rw [List.mem_cons, List.mem_cons, condLs_mem, List.mem_filter, upTo_mem];constructor
    · rintro (h | h)
      · exact .inl h
      · exact .inr ⟨⟨by omega, h.2.1⟩, h.2.2⟩
    · rintro (h | h)
      · exact .inl h
      · exact .inr ⟨by omega, h.1.2, h.2⟩
def canR (t : ByteArray) (v : Int) (r : Rule) : Bool := r.whn.all fun c => !decide (c.nod = t) || cndH v c
def sureR (t : ByteArray) (r : Rule) : Bool := r.whn.all fun c => decide (c.nod = t)
def grS (t k : ByteArray) (v : Int) (a : Int × Bool) (r : Rule) : Int × Bool :=
  if r.lnk = k /\ canR t v r = true then (max a.1 r.setg, a.2 || sureR t r) else a
def grF (l : List Rule) (t k : ByteArray) (v : Int) : Int × Bool := l.foldl (grS t k v) (0, false)
def grI (l : List Rule) (t k : ByteArray) (v : Int) : Int := if (grF l t k v).2 then (grF l t k v).1 else 1000
theorem ruleB_setg {r : Rule} (h : ruleB r = true) : 0 <= r.setg /\ r.setg <= 1000 := by
  unfold ruleB at h;simp only [Bool.and_eq_true] at h;have := h.1.2;unfold btwB at this;simp only [Bool.and_eq_true, decide_eq_true_eq] at this;exact this
theorem grF_in (t k : ByteArray) (v : Int) : ∀ (l : List Rule) (a : Int × Bool), (∀ r, r ∈ l -> ruleB r = true) -> 0 <= a.1 /\ a.1 <= 1000 -> 0 <= (l.foldl (grS t k v) a).1 /\ (l.foldl (grS t k v) a).1 <= 1000
  | [], _, _, h => h
  | r :: l, a, hl, h => by
    refine grF_in t k v l _ (fun x hx => hl x (List.mem_cons_of_mem _ hx)) ?_;have := ruleB_setg (hl r (List.mem_cons_self ..));unfold grS;split
    · constructor <;> simp only <;> omega
    · exact h
theorem grI_in {l : List Rule} (t k : ByteArray) (v : Int) (h : ∀ r, r ∈ l -> ruleB r = true) : 0 <= grI l t k v /\ grI l t k v <= 1000 := by
  unfold grI;split
  · exact grF_in t k v l _ h (by constructor <;> simp only <;> omega)
  · omega
theorem grF_named (t k : ByteArray) (v : Int) : ∀ (l : List Rule) (a : Int × Bool), (l.foldl (grS t k v) a).1 = a.1 ∨ ∃ r, r ∈ l /\ r.lnk = k /\ r.setg = (l.foldl (grS t k v) a).1
  | [], _ => .inl rfl
  | r :: l, a => by
    show (l.foldl (grS t k v) (grS t k v a r)).1 = a.1 ∨ ∃ q, q ∈ r :: l /\ q.lnk = k /\ q.setg = (l.foldl (grS t k v) (grS t k v a r)).1;rcases grF_named t k v l (grS t k v a r) with h | ⟨q, hq, h⟩
    · by_cases hr : r.lnk = k /\ canR t v r = true
      · have e : grS t k v a r = (max a.1 r.setg, a.2 || sureR t r) := if_pos hr;rw [h, e];by_cases hm : a.1 <= r.setg
        · exact .inr ⟨r, List.mem_cons_self .., hr.1, by simp only; omega⟩
        · exact .inl (by simp only; omega)
      · have e : grS t k v a r = a := if_neg hr;rw [h, e];exact .inl rfl
    · exact .inr ⟨q, List.mem_cons_of_mem _ hq, h⟩
theorem grI_named (l : List Rule) (t k : ByteArray) (v : Int) : grI l t k v = 1000 ∨ grI l t k v = 0 ∨ ∃ r, r ∈ l /\ r.lnk = k /\ r.setg = grI l t k v := by
  unfold grI;split
  · rcases grF_named t k v l (0, false) with h | h
    · exact .inr (.inl h)
    · exact .inr (.inr h)
  · exact .inl rfl
def minL : List Int -> Int
  | [] => 0
  | x :: l => l.foldl min x
theorem foldl_min_le : ∀ (l : List Int) (a : Int), l.foldl min a <= a /\ ∀ z, z ∈ l -> l.foldl min a <= z
  | [], a => ⟨Int.le_refl a, fun _ h => by simp at h⟩
  | x :: l, a => by
    have h := foldl_min_le l (min a x);show l.foldl min (min a x) <= a /\ ∀ z, z ∈ x :: l -> l.foldl min (min a x) <= z;refine ⟨by have := h.1; omega, fun z hz => ?_⟩;rcases List.mem_cons.1 hz with q | q
    · subst q;have := h.1;omega
    · exact h.2 z q
theorem minL_le {l : List Int} {z : Int} (h : z ∈ l) : minL l <= z := by
  cases l with
  | nil => simp at h
  | cons x l =>
    rcases List.mem_cons.1 h with q | q
    · subst q;exact (foldl_min_le l z).1
    · exact (foldl_min_le l x).2 z q
theorem minL_app {l : List Int} (h : l ≠ []) (x : Int) : minL (l ++ [x]) = min (minL l) x := by
  cases l with
  | nil => exact absurd rfl h
  | cons y l =>
    show (l ++ [x]).foldl min y = min (l.foldl min y) x;rw [List.foldl_append]; rfl
def leavesI (qs : List Int) (sec : Int) : Int := qs.foldl (fun a q => a + min (q * sec) 1125899906842624) 0
theorem leaves_acc (sec : Int) : ∀ (qs : List Int) (a : Int), qs.foldl (fun a q => a + min (q * sec) 1125899906842624) a = a + leavesI qs sec
  | [], a => by show a = a + 0; omega
  | q :: qs, a => by
    show qs.foldl _ (a + min (q * sec) 1125899906842624) = a + qs.foldl _ (0 + min (q * sec) 1125899906842624);rw [leaves_acc sec qs, leaves_acc sec qs (0 + _)];omega
theorem leaves_cons (q : Int) (qs : List Int) (sec : Int) : leavesI (q :: qs) sec = min (q * sec) 1125899906842624 + leavesI qs sec := by
  show qs.foldl _ (0 + min (q * sec) 1125899906842624) = _;rw [leaves_acc]; omega
theorem leaves_app (a b : List Int) (sec : Int) : leavesI (a ++ b) sec = leavesI a sec + leavesI b sec := by
  unfold leavesI;rw [List.foldl_append, leaves_acc sec b]; rfl
theorem leaves_in (sec : Int) (hs : 0 <= sec) : ∀ (qs : List Int), (∀ q, q ∈ qs -> 0 <= q) -> 0 <= leavesI qs sec /\ leavesI qs sec <= qs.length * 1125899906842624
  | [], _ => by simp [leavesI]
  | q :: qs, h => by
    have := leaves_in sec hs qs fun x hx => h x (List.mem_cons_of_mem _ hx)
    have := Int.mul_nonneg (h q (List.mem_cons_self ..)) hs;rw [leaves_cons, List.length_cons];omega
theorem leaves_mono (sec more : Int) (hm : 0 <= more) : ∀ (qs : List Int), (∀ q, q ∈ qs -> 0 <= q) -> leavesI qs sec <= leavesI qs (sec + more)
  | [], _ => Int.le_refl _
  | q :: qs, h => by
    have := leaves_mono sec more hm qs fun x hx => h x (List.mem_cons_of_mem _ hx)
    have := Int.mul_nonneg (h q (List.mem_cons_self ..)) hm;rw [leaves_cons, leaves_cons, Int.mul_add];omega
def margI (res vol : Int) (qs : List Int) (sec : Int) : Int := max res vol - leavesI qs sec - res
def phaseI (vol : Int -> Int) (F : Int -> List Int) (res gnd h sec : Int) : Int := minL ((upTo h gnd).map fun g => margI res (vol g) (F g) sec)
def atI (M : Int -> Int) (st : List Int) : Int := (st.find? fun h => decide (M h < 0)).getD 0
def safeI (M : Int -> Int) (st : List Int) : Bool := st.all fun h => decide (0 <= M h)
theorem at_zero {M : Int -> Int} {st : List Int} (h : safeI M st = true) : atI M st = 0 := by
  unfold atI;rw [List.find?_eq_none.2 ?_]
  · rfl
  · intro x hx;have := of_decide_eq_true (List.all_eq_true.1 h x hx);simp; omega
theorem getD_is {α : Type} [Inhabited α] {l : List α} {i : Nat} (h : i < l.length) : l.getD i default = l[i] := by
  rw [List.getD_eq_getElem?_getD, List.getElem?_eq_getElem h]; rfl
theorem idx_nodup {α β : Type} [DecidableEq β] [Inhabited α] (f : α -> β) (l : List α) : (∀ i, i < l.length -> idxI (fun x => decide (f x = f (l.getD i default))) l = i) ↔ (l.map f).Nodup := by
  constructor
  · intro h;refine List.pairwise_iff_getElem.2 fun i j hi hj hij e => ?_
    rw [List.length_map] at hi hj;rw [List.getElem_map, List.getElem_map] at e;have h1 := h i hi;have h2 := h j hj;rw [getD_is hi] at h1;rw [getD_is hj, <- e] at h2;omega
  · intro h i hi;rcases idxI_spec (fun x => decide (f x = f (l.getD i default))) l with ⟨_, q⟩ | ⟨k, e, hk, hp, hm⟩
    · have := q i hi;simp at this
    · rw [e];have hp := of_decide_eq_true hp;rw [getD_is hi, getD_is hk] at hp;have h' := List.pairwise_iff_getElem.1 h;rcases Nat.lt_trichotomy k i with q | q | q
      · exact absurd (by rw [List.getElem_map, List.getElem_map]; exact hp) (h' k i (by simpa using hk) (by simpa using hi) q)
      · rw [q]
      · exact absurd (by rw [List.getElem_map, List.getElem_map]; exact hp.symm) (h' i k (by simpa using hi) (by simpa using hk) q)
theorem at_uniq {α β : Type} [DecidableEq β] [Inhabited α] (f : α -> β) {l : List α} (h : (l.map f).Nodup) {x : α} (hx : x ∈ l) : l.getD (idxI (fun y => decide (f y = f x)) l).toNat default = x /\ 0 <= idxI (fun y => decide (f y = f x)) l := by
  obtain ⟨i, hi, rfl⟩ := List.mem_iff_getElem.1 hx;have := (idx_nodup f l).2 h i hi;rw [getD_is hi] at this;rw [this];exact ⟨by rw [Int.toNat_natCast, getD_is hi], by omega⟩
theorem at_mem {α β : Type} [DecidableEq β] [Inhabited α] (f : α -> β) {l : List α} {s : β} (h : 0 <= idxI (fun y => decide (f y = s)) l) : l.getD (idxI (fun y => decide (f y = s)) l).toNat default ∈ l /\ f (l.getD (idxI (fun y => decide (f y = s)) l).toNat default) = s := by
  rcases idxI_spec (fun y => decide (f y = s)) l with ⟨e, _⟩ | ⟨k, e, hk, hp, _⟩
  · omega
  · rw [e, Int.toNat_natCast];refine ⟨by rw [getD_is hk]; exact List.getElem_mem hk, of_decide_eq_true hp⟩
abbrev nodeA (n : Net) (s : ByteArray) : Node := n.nodes.getD (nodeIx n.nodes s).toNat default
structure NetIn (n : Net) : Prop where
  nl : n.nodes.length <= 300
  ll : n.links.length <= 400
  nr : ∀ x, x ∈ n.nodes -> nodeR x = true
  nu : (n.nodes.map Node.name).Nodup
  lr : ∀ x, x ∈ n.links -> linkR x = true /\ 0 <= nodeIx n.nodes x.fro /\ 0 <= nodeIx n.nodes x.til /\ ¬ (nodeA n x.fro).kind = 3
  lu : (n.links.map Link.name).Nodup
theorem netB_iff (n : Net) : netB n = true ↔ NetIn n := by
  constructor
  · intro h;have hl := netB_len h;refine ⟨hl.1, hl.2, ?_, ?_, ?_, ?_⟩
    · intro x hx;obtain ⟨i, hi, rfl⟩ := List.mem_iff_getElem.1 hx;have := netB_node h hi
      rwa [getD_is hi] at this
    · refine (idx_nodup Node.name n.nodes).1 fun i hi => ?_
      have := netB_okN h hi;unfold okN at this;simp only [Bool.and_eq_true, decide_eq_true_eq] at this;exact this.2
    · intro x hx;obtain ⟨i, hi, rfl⟩ := List.mem_iff_getElem.1 hx;have := netB_okL h hi;unfold okL at this;simp only [Bool.and_eq_true, decide_eq_true_eq, Bool.not_eq_true', decide_eq_false_iff_not, getD_is hi] at this;exact ⟨this.1.1.1.1, this.1.1.2, this.1.2, this.2⟩
    · refine (idx_nodup Link.name n.links).1 fun i hi => ?_
      have := netB_okL h hi;unfold okL at this;simp only [Bool.and_eq_true, decide_eq_true_eq] at this;exact this.1.1.1.2
  · intro h;refine netB_yes h.nl h.ll (fun i hi => ?_) fun i hi => ?_
    · unfold okN;simp only [Bool.and_eq_true, decide_eq_true_eq];exact ⟨by rw [getD_is hi]; exact h.nr _ (List.getElem_mem hi), (idx_nodup Node.name n.nodes).2 h.nu i hi⟩
    · unfold okL;have := h.lr _ (List.getElem_mem hi);simp only [Bool.and_eq_true, decide_eq_true_eq, Bool.not_eq_true', decide_eq_false_iff_not];rw [getD_is hi];refine ⟨⟨⟨⟨this.1, ?_⟩, this.2.1⟩, this.2.2.1⟩, this.2.2.2⟩;have := (idx_nodup Link.name n.links).2 h.lu i hi
      rwa [getD_is hi] at this
structure PartOf (p n : Net) : Prop where
  ns : p.nodes.Sublist n.nodes
  ls : p.links.Sublist n.links
  en : ∀ x, x ∈ p.links -> 0 <= nodeIx p.nodes x.fro /\ 0 <= nodeIx p.nodes x.til
theorem part_node {p n : Net} (h : NetIn n) (q : PartOf p n) {s : ByteArray} (hs : 0 <= nodeIx p.nodes s) : nodeA p s = nodeA n s /\ 0 <= nodeIx n.nodes s := by
  have h1 := at_mem Node.name hs;have h2 := at_uniq Node.name h.nu (q.ns.subset h1.1);rw [h1.2] at h2;exact ⟨h2.1.symm, h2.2⟩
theorem part_in {p n : Net} (h : NetIn n) (q : PartOf p n) : NetIn p where
  nl := Nat.le_trans q.ns.length_le h.nl
  ll := Nat.le_trans q.ls.length_le h.ll
  nr := fun x hx => h.nr x (q.ns.subset hx)
  nu := List.Pairwise.sublist (q.ns.map _) h.nu
  lr := fun x hx => by
    have h1 := h.lr x (q.ls.subset hx);have h2 := q.en x hx;exact ⟨h1.1, h2.1, h2.2, by rw [(part_node h q h2.1).1]; exact h1.2.2.2⟩
  lu := List.Pairwise.sublist (q.ls.map _) h.lu
theorem part_links {n : Net} (h : NetIn n) {l : List Link} (hl : l.Sublist n.links) : PartOf ⟨n.nodes, l⟩ n :=
  ⟨List.Sublist.refl _, hl, fun x hx => by have := h.lr x (hl.subset hx); exact ⟨this.2.1, this.2.2.1⟩⟩
def outL (n : Net) (t : ByteArray) : List Link := n.links.filter fun x => decide (x.fro = t)
def nearB (n : Net) (t s : ByteArray) : Bool := decide (s = t) || (outL n t).any fun x => decide (x.til = s)
def partN (n : Net) (t : ByteArray) : Net := ⟨n.nodes.filter fun x => nearB n t x.name, outL n t⟩
theorem idx_pos {α : Type} {p : α -> Bool} {l : List α} {x : α} (hx : x ∈ l) (hp : p x = true) : 0 <= idxI p l := by
  have := idxI_any p l;rw [List.any_eq_true.2 ⟨x, hx, hp⟩] at this;exact of_decide_eq_true this
theorem partN_of {n : Net} (h : NetIn n) (t : ByteArray) : PartOf (partN n t) n where
  ns := List.filter_sublist
  ls := List.filter_sublist
  en := fun x hx => by
    obtain ⟨h1, h2⟩ := List.mem_filter.1 hx;have h2 := of_decide_eq_true h2;obtain ⟨_, h4, h5, _⟩ := h.lr x h1;have m1 := at_mem Node.name h4;have m2 := at_mem Node.name h5;constructor
    · refine idx_pos (x := nodeA n x.fro) (List.mem_filter.2 ⟨m1.1, ?_⟩) (decide_eq_true m1.2);show nearB n t (nodeA n x.fro).name = true;rw [show (nodeA n x.fro).name = x.fro from m1.2];unfold nearB;rw [decide_eq_true h2]; rfl
    · refine idx_pos (x := nodeA n x.til) (List.mem_filter.2 ⟨m2.1, ?_⟩) (decide_eq_true m2.2);show nearB n t (nodeA n x.til).name = true;rw [show (nodeA n x.til).name = x.til from m2.2];unfold nearB;rw [show ((outL n t).any fun y => decide (y.til = x.til)) = true from List.any_eq_true.2 ⟨x, hx, by simp⟩, Bool.or_true]
theorem nodup_len {α : Type} [DecidableEq α] : ∀ (a b : List α), a.Nodup -> (∀ x, x ∈ a -> x ∈ b) -> a.length <= b.length
  | [], _, _, _ => Nat.zero_le _
  | x :: a, b, h, hs => by
    have h' := List.nodup_cons.1 h;have hb := hs x (List.mem_cons_self ..);have := nodup_len a (b.erase x) h'.2 fun y hy => by
      have hn : y ≠ x := fun e => h'.1 (e ▸ hy)
      exact (List.mem_erase_of_ne hn).2 (hs y (List.mem_cons_of_mem _ hy))
    rw [List.length_erase_of_mem hb] at this;have := List.length_pos_of_mem hb;rw [List.length_cons]; omega
structure CatIn (l : List Sect) : Prop where
  ll : l.length <= 40
  sr : ∀ s, s ∈ l -> secB s = true
  su : (l.map Sect.name).Nodup
theorem catB_iff (l : List Sect) : catB l = true ↔ CatIn l := by
  constructor
  · intro h;unfold catB at h;rw [Bool.and_eq_true, List.all_eq_true] at h;have hk : ∀ i, i < l.length -> okS l i = true := fun i hi => h.2 i (List.mem_range.2 hi)
    refine ⟨of_decide_eq_true h.1, ?_, ?_⟩
    · intro s hs;obtain ⟨i, hi, rfl⟩ := List.mem_iff_getElem.1 hs;have := hk i hi;unfold okS at this;rw [Bool.and_eq_true, getD_is hi] at this;exact this.1
    · refine (idx_nodup Sect.name l).1 fun i hi => ?_
      have := hk i hi;unfold okS at this;rw [Bool.and_eq_true] at this;exact of_decide_eq_true this.2
  · intro h;refine catB_yes h.ll fun i hi => ?_
    unfold okS;rw [Bool.and_eq_true];exact ⟨by rw [getD_is hi]; exact h.sr _ (List.getElem_mem hi), decide_eq_true ((idx_nodup Sect.name l).2 h.su i hi)⟩
abbrev secA (l : List Sect) (s : ByteArray) : Sect := l.getD (secIx l s).toNat default
def findR (l : List Sect) (a : List Sect) (x : Link) : Option (List Sect) :=
  if ¬ x.kind = 1 then some a
  else if secIx l x.sect < 0 then none
  else if (a.any fun y => decide (y.name = x.sect)) = true then some a
  else some (a ++ [secA l x.sect])
def findK (l : List Sect) : List Link -> List Sect -> Option (List Sect)
  | [], a => some a
  | x :: ls, a => (findR l a x).bind (findK l ls)
def SomeOf (a l : List Sect) : Prop := (∀ s, s ∈ a -> s ∈ l) /\ (a.map Sect.name).Nodup
theorem findR_some {l a b : List Sect} {x : Link} (h : findR l a x = some b) (q : SomeOf a l) : SomeOf b l /\ (∀ s, s ∈ a -> s ∈ b) /\ knownB l x = true /\ (x.kind = 1 -> ∃ s, s ∈ b /\ s.name = x.sect) := by
  unfold findR at h;unfold knownB;split at h
  · next k =>
    cases h;exact ⟨q, fun _ h => h, by rw [decide_eq_false k]; rfl, fun e => absurd e k⟩
  · next k =>
    split at h
    · cases h
    · next k2 =>
      have h0 : 0 <= secIx l x.sect := by omega
      have hm := at_mem Sect.name h0;have hk : (!decide (x.kind = 1) || decide (0 <= secIx l x.sect)) = true := by rw [decide_eq_true h0, Bool.or_true]
      split at h
      · next k3 =>
        cases h;obtain ⟨s, hs, hn⟩ := List.any_eq_true.1 k3;exact ⟨q, fun _ h => h, hk, fun _ => ⟨s, hs, of_decide_eq_true hn⟩⟩
      · next k3 =>
        cases h;refine ⟨⟨fun s hs => ?_, ?_⟩, fun s hs => List.mem_append_left _ hs, hk, fun _ => ⟨secA l x.sect, List.mem_append_right _ (List.mem_singleton.2 rfl), hm.2⟩⟩
        · rcases List.mem_append.1 hs with h | h
          · exact q.1 s h
          · rw [List.mem_singleton.1 h]; exact hm.1
        · rw [List.map_append, List.map_cons, List.map_nil, List.nodup_append];refine ⟨q.2, by simp, fun z hz y hy e => ?_⟩;rw [List.mem_singleton.1 hy] at e;obtain ⟨s, hs, rfl⟩ := List.mem_map.1 hz;exact k3 (List.any_eq_true.2 ⟨s, hs, decide_eq_true (e.trans hm.2)⟩)
theorem findK_some {l : List Sect} : ∀ {ls : List Link} {a b : List Sect}, findK l ls a = some b -> SomeOf a l -> SomeOf b l /\ (∀ s, s ∈ a -> s ∈ b) /\ ∀ x, x ∈ ls -> knownB l x = true /\ (x.kind = 1 -> ∃ s, s ∈ b /\ s.name = x.sect)
  | [], a, b, h, q => by
    cases h;exact ⟨q, fun _ h => h, fun x hx => by simp at hx⟩
  | x :: ls, a, b, h, q => by
    unfold findK at h;cases hr : findR l a x with
    | none => rw [hr] at h; cases h
    | some c =>
      rw [hr] at h;have h1 := findR_some hr q;have h2 := findK_some (ls := ls) h h1.1;refine ⟨h2.1, fun s hs => h2.2.1 s (h1.2.1 s hs), fun y hy => ?_⟩;rcases List.mem_cons.1 hy with e | e
      · subst e;exact ⟨h1.2.2.1, fun k => by obtain ⟨s, hs, hn⟩ := h1.2.2.2 k; exact ⟨s, h2.2.1 s hs, hn⟩⟩
      · exact h2.2.2 y e
theorem findK_none {l : List Sect} : ∀ {ls : List Link} {a : List Sect}, findK l ls a = none -> ∃ x, x ∈ ls /\ knownB l x = false
  | [], a, h => by cases h
  | x :: ls, a, h => by
    unfold findK at h;cases hr : findR l a x with
    | none =>
      refine ⟨x, List.mem_cons_self .., ?_⟩;unfold findR at hr;split at hr
      · cases hr
      · next k =>
        split at hr
        · next k2 =>
          unfold knownB;have k1 : x.kind = 1 := Classical.not_not.1 k;rw [decide_eq_true k1, decide_eq_false (by omega)]; rfl
        · split at hr <;> cases hr
    | some c =>
      rw [hr] at h;obtain ⟨y, hy, e⟩ := findK_none (ls := ls) h;exact ⟨y, List.mem_cons_of_mem _ hy, e⟩
theorem some_cat {a l : List Sect} (c : CatIn l) (q : SomeOf a l) : CatIn a where
  ll := by
    have := nodup_len (a.map Sect.name) (l.map Sect.name) q.2 fun x hx => by
      obtain ⟨s, hs, rfl⟩ := List.mem_map.1 hx;exact List.mem_map_of_mem (q.1 s hs)
    rw [List.length_map, List.length_map] at this;have := c.ll;omega
  sr := fun s hs => c.sr s (q.1 s hs)
  su := q.2
theorem some_at {a l : List Sect} (c : CatIn l) (q : SomeOf a l) {s : Sect} (hs : s ∈ a) : secA a s.name = s /\ secA l s.name = s /\ 0 <= secIx a s.name /\ 0 <= secIx l s.name := by
  have h1 := at_uniq Sect.name q.2 hs;have h2 := at_uniq Sect.name c.su (q.1 s hs);exact ⟨h1.1, h2.1, h1.2, h2.2⟩
theorem flow_part {n p : Net} {l a : List Sect} (h : NetIn n) (q : PartOf p n) (c : CatIn l) (sa : SomeOf a l) {x : Link} (hx : x ∈ p.links) (hk : x.kind = 1 -> ∃ s, s ∈ a /\ s.name = x.sect) (up down : Int) (t : Nat) (on : Bool) : flowI p a x up down t on = flowI n l x up down t on := by
  have e1 := (part_node h q (q.en x hx).1).1;unfold flowI;by_cases k1 : x.kind = 1
  · rw [if_pos k1, if_pos k1];obtain ⟨s, hs, hn⟩ := hk k1;have := some_at c sa hs;rw [hn] at this;rw [show a.getD (secIx a x.sect).toNat default = s from this.1, show l.getD (secIx l x.sect).toNat default = s from this.2.1]
  · rw [if_neg k1, if_neg k1, show p.nodes.getD (nodeIx p.nodes x.fro).toNat default = n.nodes.getD (nodeIx n.nodes x.fro).toNat default from e1]
theorem range_getD {α : Type} [Inhabited α] (l : List α) : (List.range l.length).map (fun k => l.getD k default) = l := by
  refine List.ext_getElem (by simp) fun i h1 h2 => ?_
  rw [List.getElem_map, List.getElem_range, getD_is h2]
def outJ (n : Net) (t : ByteArray) : List Nat := (List.range n.links.length).filter fun k => decide ((n.links.getD k default).fro = t)
theorem outJ_map (n : Net) (t : ByteArray) : (outJ n t).map (fun k => n.links.getD k default) = outL n t := by
  unfold outJ outL;have := List.filter_map (f := fun k => n.links.getD k default) (l := List.range n.links.length) (p := fun (x : Link) => decide (x.fro = t));rw [range_getD] at this;rw [this]; rfl
def setsS (l : List Rule) (n : Net) (t : ByteArray) (v : Int) : List Int := (outL n t).map fun x => grI l t x.name v
theorem setsS_len (l : List Rule) (n : Net) (t : ByteArray) (v : Int) : (setsS l n t v).length = (outL n t).length := List.length_map ..
theorem setsS_at {l : List Rule} {n : Net} {t : ByteArray} {v : Int} {k : Nat} (h : k < (outL n t).length) : (setsS l n t v).getD k default = grI l t ((outL n t).getD k default).name v := by
  rw [getD_is (by rw [setsS_len]; exact h), getD_is h];unfold setsS;rw [List.getElem_map]
theorem setsS_in {l : List Rule} (h : ∀ r, r ∈ l -> ruleB r = true) {n : Net} {t : ByteArray} {v x : Int} (hx : x ∈ setsS l n t v) : 0 <= x /\ x <= 1000 := by
  obtain ⟨y, _, rfl⟩ := List.mem_map.1 hx;exact grI_in t y.name v h
def flowX (n : Net) (c : List Sect) (v : Int) (x : Link) (s : Int) : Int := flowI n c x v (nodeA n x.til).inv s.toNat true
def flowsS (n : Net) (c : List Sect) (t : ByteArray) (S : List Int) (v : Int) : List Int := ((outL n t).zip S).map fun p => flowX n c v p.1 p.2
theorem flowsS_len {n : Net} {c : List Sect} {t : ByteArray} {S : List Int} {v : Int} (h : S.length = (outL n t).length) : (flowsS n c t S v).length = (outL n t).length := by
  unfold flowsS;rw [List.length_map, List.length_zip, h, Nat.min_self]
theorem flowsS_at {n : Net} {c : List Sect} {t : ByteArray} {S : List Int} {v : Int} (h : S.length = (outL n t).length) {k : Nat} (hk : k < (outL n t).length) : (flowsS n c t S v).getD k default = flowX n c v ((outL n t).getD k default) (S.getD k default) := by
  rw [getD_is (by rw [flowsS_len h]; exact hk), getD_is hk, getD_is (by omega)];unfold flowsS;rw [List.getElem_map, List.getElem_zip]
def phS (n : Net) (c : List Sect) (l : List Rule) (x : Node) (vol : Int -> Int) (sec h : Int) : Int := phaseI vol (flowsS n c x.name (setsS l n x.name h)) x.res x.gnd h sec
theorem zip_self_map {α β : Type} (f : α -> β) : ∀ l : List α, l.zip (l.map f) = l.map fun x => (x, f x)
  | [] => rfl
  | x :: l => by rw [List.map_cons, List.zip_cons_cons, zip_self_map f l, List.map_cons]
theorem flowsS_sets (n : Net) (c : List Sect) (l : List Rule) (t : ByteArray) (h v : Int) : flowsS n c t (setsS l n t h) v = (outL n t).map fun x => flowX n c v x (grI l t x.name h) := by
  unfold flowsS setsS;rw [zip_self_map, List.map_map]; rfl
theorem leaves_sum (f : Link -> Int) (sec : Int) : ∀ (L : List Link), leavesI (L.map f) sec = (L.map fun x => leavesI [f x] sec).sum
  | [] => rfl
  | x :: L => by
    rw [List.map_cons, leaves_cons, leaves_sum f sec L, List.map_cons, List.sum_cons, leaves_cons];show _ = min (f x * sec) 1125899906842624 + 0 + _;omega
theorem mem_getD {α : Type} [Inhabited α] {l : List α} {k : Nat} (h : k < l.length) : l.getD k default ∈ l := by
  rw [getD_is h]; exact List.getElem_mem h
theorem find_in {n : Net} {c a : List Sect} {t : ByteArray} (hf : findK c (outL n t) [] = some a) : SomeOf a c /\ ∀ x, x ∈ outL n t -> knownB c x = true /\ (x.kind = 1 -> ∃ s, s ∈ a /\ s.name = x.sect) := by
  have := findK_some hf ⟨fun s h => by simp at h, by simp⟩;exact ⟨this.1, this.2.2⟩
theorem known_part {c a : List Sect} {x : Link} (ci : CatIn c) (sa : SomeOf a c) (hk : x.kind = 1 -> ∃ s, s ∈ a /\ s.name = x.sect) : knownB a x = true := by
  unfold knownB;by_cases k : x.kind = 1
  · obtain ⟨s, hs, hn⟩ := hk k;have := (some_at ci sa hs).2.2.1;rw [hn] at this;rw [decide_eq_true this, Bool.or_true]
  · rw [decide_eq_false k]; rfl
theorem most_part {n : Net} {c a : List Sect} {t : ByteArray} (h : NetIn n) (ci : CatIn c) (hf : findK c (outL n t) [] = some a) {k : Nat} (hk : k < (outL n t).length) {v s : Int} (hv : btwB v (nodeA n t).inv (nodeA n t).gnd = true) (hs : 0 <= s /\ s <= 1000) : mostR (partN n t) a k v s = (flowX n c v ((outL n t).getD k default) s, 0) := by
  have q := partN_of h t;have hp := part_in h q;have nb : netB (partN n t) = true := (netB_iff _).2 hp;obtain ⟨sa, hx⟩ := find_in hf;have cb : catB a = true := (catB_iff a).2 (some_cat ci sa);have hm : (outL n t).getD k default ∈ (partN n t).links := mem_getD hk;have he : (partN n t).links.getD k default = (outL n t).getD k default := rfl;have hen := q.en _ hm;have hfro : ((outL n t).getD k default).fro = t := of_decide_eq_true (List.mem_filter.1 hm).2;have e1 := (part_node h q hen.1).1;have e2 := (part_node h q hen.2).1;have g : givE (partN n t) a k s [v] [] = 0 := by
    unfold givE linkedB;rw [decide_eq_true (show (0 : Int) <= (k : Int) by omega), decide_eq_true (show (k : Int) < ((partN n t).links.length : Int) by have : k < (partN n t).links.length := hk; omega), show btwB s 0 1000 = true by unfold btwB; simp [hs.1, hs.2]];simp only [Bool.and_self, if_true, Int.toNat_natCast, List.any_cons, List.any_nil, Bool.or_false];have ho : outB (partN n t) (fromI (partN n t) k) v = false := by
      unfold outB fromI;rw [he];show (!btwB v (nodeA (partN n t) ((outL n t).getD k default).fro).inv (nodeA (partN n t) ((outL n t).getD k default).fro).gnd) = false;rw [e1, hfro, hv]; rfl
    rw [ho, if_neg (by decide), if_pos (by rw [he]; exact known_part ci sa (hx _ hm).2)]
  unfold mostR;rw [nb, cb, if_pos (by rfl), if_pos g, Int.toNat_natCast, he];have e3 : (partN n t).nodes.getD (tillI (partN n t) k) default = nodeA (partN n t) ((outL n t).getD k default).til := rfl;rw [e3, e2, flow_part h q ci sa hm (hx _ hm).2];rfl
theorem out_btw {n : Net} {c : List Sect} {t : ByteArray} (no : netOk n) (co : catOk c) (h : NetIn n) (ci : CatIn c) (hkn : ∀ x, x ∈ outL n t -> knownB c x = true) {x : Link} (hx : x ∈ outL n t) {v s : Int} (hv : btwB v (nodeA n t).inv (nodeA n t).gnd = true) (hs : 0 <= s /\ s <= 1000) : BtwIn n c x v (nodeA n x.til).inv s.toNat := by
  obtain ⟨h1, h2⟩ := List.mem_filter.1 hx;have h2 := of_decide_eq_true h2;obtain ⟨i, hi, rfl⟩ := List.mem_iff_getElem.1 h1;have hl := h.lr _ h1;have nb := (netB_iff n).2 h;have hb := btwIn_of (s := s.toNat) (up := v) (down := (nodeA n n.links[i].til).inv) no co nb ((catB_iff c).2 ci) hi (by rw [getD_is hi]; exact hkn _ hx) (by omega) (by
    show btwB v (nodeA n (n.links.getD i default).fro).inv (nodeA n (n.links.getD i default).fro).gnd = true;rw [getD_is hi, h2]; exact hv) (by
    have ht := tillI_lt nb hi;have := inv_btw nb ht.1;unfold tillI at this;simp only [getD_is hi] at this ⊢;exact this)
  rwa [getD_is hi] at hb
theorem flowX_in {n : Net} {c : List Sect} {t : ByteArray} (no : netOk n) (co : catOk c) (h : NetIn n) (ci : CatIn c) (hkn : ∀ x, x ∈ outL n t -> knownB c x = true) {x : Link} (hx : x ∈ outL n t) {v s : Int} (hv : btwB v (nodeA n t).inv (nodeA n t).gnd = true) (hs : 0 <= s /\ s <= 1000) : 0 <= flowX n c v x s /\ flowX n c v x s <= 1099511627776 :=
  flowI_in (out_btw no co h ci hkn hx hv hs)
theorem grS_le (t k : ByteArray) (v : Int) (a : Int × Bool) (r : Rule) : a.1 <= (grS t k v a r).1 := by
  unfold grS;split
  · simp only; omega
  · exact Int.le_refl _
theorem grF_up (t k : ByteArray) (v : Int) : ∀ (l : List Rule) (a : Int × Bool), a.1 <= (l.foldl (grS t k v) a).1
  | [], _ => Int.le_refl _
  | r :: l, a => Int.le_trans (grS_le t k v a r) (grF_up t k v l _)
theorem grF_ge (t k : ByteArray) (v : Int) : ∀ (l : List Rule) (a : Int × Bool) (r : Rule), r ∈ l -> r.lnk = k -> canR t v r = true -> r.setg <= (l.foldl (grS t k v) a).1
  | [], _, _, h, _, _ => by simp at h
  | q :: l, a, r, h, hk, hc => by
    rcases List.mem_cons.1 h with e | e
    · subst e;refine Int.le_trans ?_ (grF_up t k v l (grS t k v a r));rw [show grS t k v a r = (max a.1 r.setg, a.2 || sureR t r) from if_pos ⟨hk, hc⟩];simp only; omega
    · exact grF_ge t k v l _ r e hk hc
theorem grF_sure (t k : ByteArray) (v : Int) : ∀ (l : List Rule) (a : Int × Bool), (l.foldl (grS t k v) a).2 = true -> a.2 = true ∨ ∃ r, r ∈ l /\ r.lnk = k /\ canR t v r = true /\ sureR t r = true
  | [], _, h => .inl h
  | q :: l, a, h => by
    rcases grF_sure t k v l (grS t k v a q) h with h | ⟨r, hr, h⟩
    · unfold grS at h;split at h
      · next c =>
        simp only [Bool.or_eq_true] at h;rcases h with h | h
        · exact .inl h
        · exact .inr ⟨q, List.mem_cons_self .., c.1, c.2, h⟩
      · exact .inl h
    · exact .inr ⟨r, List.mem_cons_of_mem _ hr, h⟩
theorem hold_can {n : Net} {lv : List Int} {t : ByteArray} {r : Rule} (h : holdB n lv r = true) : canR t (lvOf n lv t) r = true := by
  unfold canR;unfold holdB at h;rw [List.all_eq_true] at h ⊢;intro c hc;by_cases e : c.nod = t
  · have := h c hc;rw [e] at this;rw [this, Bool.or_true]
  · rw [decide_eq_false e]; rfl
theorem can_hold {n : Net} {lv : List Int} {t : ByteArray} {r : Rule} (h : canR t (lvOf n lv t) r = true) (s : sureR t r = true) : holdB n lv r = true := by
  unfold canR at h;unfold sureR at s;unfold holdB;rw [List.all_eq_true] at h s ⊢;intro c hc;have h1 := h c hc;have h2 := of_decide_eq_true (s c hc);rw [decide_eq_true h2] at h1;rw [h2]; exact h1
theorem gr_dom {n : Net} {lv : List Int} {l : List Rule} {t k : ByteArray} {s : Int} (hs : s <= 1000) (h : (∃ r, r ∈ l /\ r.lnk = k /\ holdB n lv r = true /\ r.setg = s) ∨ ∀ r, r ∈ l -> r.lnk = k -> holdB n lv r = false) : s <= grI l t k (lvOf n lv t) := by
  unfold grI;split
  · next q =>
    rcases h with ⟨r, hr, hk, hh, rfl⟩ | h
    · exact grF_ge t k _ l _ r hr hk (hold_can hh)
    · rcases grF_sure t k _ l _ q with q | ⟨r, hr, hk, hc, hsu⟩
      · cases q
      · have := can_hold hc hsu;rw [h r hr hk] at this;cases this
  · exact hs
theorem can_same {l : List Rule} {t : ByteArray} {v : Int} {r : Rule} (hr : r ∈ l) (h : chgB l t v = false) : canR t v r = canR t (v - 1) r := by
  unfold chgB at h;rw [List.any_eq_false] at h;have h1 := h r hr;rw [Bool.not_eq_true, List.any_eq_false] at h1;unfold canR;rw [Bool.eq_iff_iff, List.all_eq_true, List.all_eq_true];have key : ∀ c, c ∈ r.whn -> (!decide (c.nod = t) || cndH v c) = (!decide (c.nod = t) || cndH (v - 1) c) := by
    intro c hc;by_cases e : c.nod = t
    · have h2 := h1 c hc;simp only [Bool.and_eq_true, decide_eq_true_eq, not_and] at h2;have h3 := h2 e;unfold cndH;rw [show decide (v < c.level) = decide (v - 1 < c.level) from decide_eq_decide.2 (by omega)]
    · rw [decide_eq_false e]; rfl
  exact ⟨fun q c hc => by rw [<- key c hc]; exact q c hc, fun q c hc => by rw [key c hc]; exact q c hc⟩
theorem grF_same (t k : ByteArray) (v w : Int) : ∀ (l : List Rule) (a : Int × Bool), (∀ r, r ∈ l -> canR t v r = canR t w r) -> l.foldl (grS t k v) a = l.foldl (grS t k w) a
  | [], _, _ => rfl
  | r :: l, a, h => by
    rw [List.foldl_cons, List.foldl_cons, show grS t k v a r = grS t k w a r by unfold grS; rw [h r (List.mem_cons_self ..)]];exact grF_same t k v w l _ fun x hx => h x (List.mem_cons_of_mem _ hx)
theorem gr_same {l : List Rule} {t : ByteArray} {v : Int} (h : chgB l t v = false) (k : ByteArray) : grI l t k v = grI l t k (v - 1) := by
  unfold grI grF;rw [grF_same t k v (v - 1) l (0, false) fun r hr => can_same hr h]
theorem in_phase (l : List Rule) (t : ByteArray) (first gnd : Int) : ∀ (d : Nat) (v : Int), v = first + d -> v <= gnd -> ∃ h, h ∈ startsR l t first gnd /\ h <= v /\ ∀ k, grI l t k v = grI l t k h
  | 0, v, e, hv => ⟨v, by rw [show v = first by omega]; exact List.mem_cons_self .., Int.le_refl _, fun _ => rfl⟩
  | d + 1, v, e, hv => by
    cases hc : chgB l t v
    · obtain ⟨h, h1, h2, h3⟩ := in_phase l t first gnd d (v - 1) (by omega) (by omega)
      exact ⟨h, h1, by omega, fun k => (gr_same hc k).trans (h3 k)⟩
    · exact ⟨v, List.mem_cons_of_mem _ (List.mem_filter.2 ⟨(upTo_mem _ _ _).2 ⟨by omega, hv⟩, hc⟩), Int.le_refl _, fun _ => rfl⟩
theorem safe_leaves {n : Net} {c : List Sect} {l : List Rule} {x : Node} {vol : Int -> Int} {sec first v w : Int} (hf : first <= v) (hvw : v <= w) (hg : w <= x.gnd) (hs : safeI (phS n c l x vol sec) (startsR l x.name first x.gnd) = true) : leavesI (flowsS n c x.name (setsS l n x.name v) w) sec + x.res <= max x.res (vol w) := by
  obtain ⟨h, h1, h2, h3⟩ := in_phase l x.name first x.gnd (v - first).toNat v (by omega) (by omega)
  have h4 := of_decide_eq_true (List.all_eq_true.1 hs h h1);have e : setsS l n x.name v = setsS l n x.name h := by
    unfold setsS;exact List.map_congr_left fun y _ => h3 y.name
  rw [e];unfold phS phaseI at h4;have q : 0 <= margI x.res (vol w) (flowsS n c x.name (setsS l n x.name h) w) sec := Int.le_trans h4 (minL_le (List.mem_map_of_mem (f := fun g => margI x.res (vol g) (flowsS n c x.name (setsS l n x.name h) g) sec) ((upTo_mem h x.gnd w).2 ⟨by omega, hg⟩)));unfold margI at q;omega
theorem selI_le2 {p : Nat -> Bool} {a b : List Int} : ∀ L, (∀ k, k < L -> p k = true -> a.getD k default <= b.getD k default) -> selI p a L <= selI p b L
  | 0, _ => Int.le_refl _
  | L + 1, h => by
    have h1 := selI_le2 L fun k hk => h k (by omega)
    unfold selI;split
    · next q =>
      have := h L (by omega) q;omega
    · exact h1
theorem selI_flows (n : Net) (f : Link -> Int) (sec : Int) (t : ByteArray) (W : List Int) (p : Nat -> Bool) : ∀ L, L <= n.links.length -> (∀ k, k < L -> (p k = true ↔ (n.links.getD k default).fro = t)) -> (∀ k, k < L -> p k = true -> W.getD k default = min (f (n.links.getD k default) * sec) 1125899906842624) -> selI p W L = leavesI (((List.range L).filter fun k => decide ((n.links.getD k default).fro = t)).map fun k => f (n.links.getD k default)) sec
  | 0, _, _, _ => rfl
  | L + 1, hL, hp, hW => by
    have ih := selI_flows n f sec t W p L (by omega) (fun k hk => hp k (by omega)) fun k hk => hW k (by omega)
    rw [List.range_succ, List.filter_append, List.map_append, leaves_app, <- ih];by_cases q : p L = true
    · have e := (hp L (by omega)).1 q;rw [show selI p W (L + 1) = selI p W L + W.getD L default from if_pos q, hW L (by omega) q];rw [List.filter_cons, if_pos (decide_eq_true e), List.filter_nil, List.map_cons, List.map_nil, leaves_cons];show _ = selI p W L + (min (f (n.links.getD L default) * sec) 1125899906842624 + 0);omega
    · have e : ¬ (n.links.getD L default).fro = t := fun c => q ((hp L (by omega)).2 c)
      rw [show selI p W (L + 1) = selI p W L from if_neg q];rw [List.filter_cons, if_neg (by rw [decide_eq_false e]; decide), List.filter_nil, List.map_nil];show _ = selI p W L + 0;omega
theorem sel_leaves (n : Net) (f : Link -> Int) (sec : Int) (t : ByteArray) (W : List Int) (p : Nat -> Bool) (hp : ∀ k, k < n.links.length -> (p k = true ↔ (n.links.getD k default).fro = t)) (hW : ∀ k, k < n.links.length -> p k = true -> W.getD k default = min (f (n.links.getD k default) * sec) 1125899906842624) : selI p W n.links.length = leavesI ((outL n t).map f) sec := by
  rw [selI_flows n f sec t W p _ (Nat.le_refl _) hp hW, <- outJ_map, List.map_map];rfl
theorem froQ_iff {n : Net} (h : NetIn n) {t : ByteArray} {i : Nat} (hi : nodeIx n.nodes t = (i : Int)) {k : Nat} (hk : k < n.links.length) : froQ n i k = true ↔ (n.links.getD k default).fro = t := by
  unfold froQ;rw [decide_eq_true_eq];constructor
  · intro e;have hl := h.lr _ (mem_getD hk);have m1 := at_mem Node.name hl.2.1;have m2 := at_mem Node.name (show 0 <= nodeIx n.nodes t by omega);rw [<- m1.2, <- m2.2];show (n.nodes.getD (nodeIx n.nodes (n.links.getD k default).fro).toNat default).name = (n.nodes.getD (nodeIx n.nodes t).toNat default).name;rw [e, hi]
  · intro e;rw [e, hi]
theorem grF_kept (t k : ByteArray) (v : Int) : ∀ (l : List Rule) (a : Int × Bool), (l.filter fun r => decide (r.lnk = k)).foldl (grS t k v) a = l.foldl (grS t k v) a
  | [], _ => rfl
  | r :: l, a => by
    rw [List.filter_cons, List.foldl_cons];by_cases e : r.lnk = k
    · rw [if_pos (decide_eq_true e), List.foldl_cons];exact grF_kept t k v l _
    · rw [if_neg (by rw [decide_eq_false e]; decide), show grS t k v a r = a from if_neg fun c => e c.1];exact grF_kept t k v l _
theorem grI_kept (l : List Rule) (t k : ByteArray) (v : Int) : grI (l.filter fun r => decide (r.lnk = k)) t k v = grI l t k v := by
  unfold grI grF;rw [grF_kept]
def oneN (n : Net) (t k : ByteArray) : Net := ⟨n.nodes, n.links.filter fun y => !(decide (y.fro = t) && !decide (y.name = k))⟩
theorem uniq_filter {α β : Type} [DecidableEq β] (f : α -> β) {l : List α} (h : (l.map f).Nodup) {x : α} (hx : x ∈ l) : (l.filter fun y => decide (f y = f x)) = [x] := by
  induction l with
  | nil => simp at hx
  | cons y l ih =>
    rw [List.map_cons, List.nodup_cons] at h;rw [List.filter_cons];rcases List.mem_cons.1 hx with e | e
    · subst e;rw [if_pos (decide_eq_true rfl), List.filter_eq_nil_iff.2];intro z hz;rw [decide_eq_true_eq];exact fun c => h.1 (c ▸ List.mem_map_of_mem hz)
    · rw [if_neg (by rw [decide_eq_true_eq]; exact fun c => h.1 (c ▸ List.mem_map_of_mem e))];exact ih h.2 e
theorem outL_one {n : Net} (h : NetIn n) {t : ByteArray} {x : Link} (hx : x ∈ outL n t) : outL (oneN n t x.name) t = [x] := by
  have hu : ((outL n t).map Link.name).Nodup := List.Pairwise.sublist (List.filter_sublist.map _) h.lu;rw [<- uniq_filter Link.name hu hx];show (n.links.filter fun y => !(decide (y.fro = t) && !decide (y.name = x.name))).filter (fun y => decide (y.fro = t)) = (n.links.filter fun y => decide (y.fro = t)).filter fun y => decide (y.name = x.name)
  rw [List.filter_filter, List.filter_filter];refine List.filter_congr fun y _ => ?_
  cases decide (y.fro = t) <;> cases decide (y.name = x.name) <;> rfl
theorem leaves_one {n : Net} (h : NetIn n) (c : List Sect) (l : List Rule) {t : ByteArray} {x : Link} (hx : x ∈ outL n t) (v sec : Int) : leavesI (flowsS (oneN n t x.name) c t (setsS (l.filter fun r => decide (r.lnk = x.name)) (oneN n t x.name) t v) v) sec = leavesI [flowX n c v x (grI l t x.name v)] sec := by
  rw [flowsS_sets, outL_one h hx, List.map_cons, List.map_nil, grI_kept];rfl
theorem leaves_all (n : Net) (c : List Sect) (l : List Rule) (t : ByteArray) (v sec : Int) : ((outL n t).map fun x => leavesI [flowX n c v x (grI l t x.name v)] sec).sum = leavesI (flowsS n c t (setsS l n t v) v) sec := by
  rw [flowsS_sets, leaves_sum]
def mapE (l : List (Int × Int)) : PV := .map (l.map fun e => .int .i64 e.1) (l.map fun e => .lit (.int .i64 e.2))
def intE (l : List (Int × Int)) : List (Value × DV) := l.map fun e => (.int .i64 e.1, li e.2)
def valI (l : List (Int × Int)) (k : Int) : Int := (l.lookup k).getD 0
def hasI (l : List (Int × Int)) (k : Int) : Bool := (l.lookup k).isSome
theorem mapE_of (l : List (Int × Int)) (h : Nat -> Option HV) : mapOf (.p (mapE l)) h = some (intE l) := by
  unfold mapOf;unfold mapE pmap intE;simp only [List.map_map];congr 1
  induction l with
  | nil => rfl
  | cons e l ih => simp only [List.map_cons, List.zip_cons_cons, ih]; rfl
theorem intE_find (k : Int) : ∀ l : List (Int × Int), mfind (intE l) (.int .i64 k) = (l.lookup k).map li
  | [] => rfl
  | e :: l => by
    have ih := intE_find k l;have e0 : intE (e :: l) = (.int .i64 e.1, li e.2) :: intE l := rfl;rw [e0, mfind, List.lookup_cons];by_cases h : k = e.1
    · rw [if_pos (show vkey (.int .i64 k) (.int .i64 e.1) = true by simp [vkey, h])];simp [h]
    · rw [if_neg (show ¬ vkey (.int .i64 k) (.int .i64 e.1) = true by simp [vkey, h]), ih];have h2 : (k == e.1) = false := by simpa using h
      rw [h2]
theorem intE_val (l : List (Int × Int)) (k : Int) : (mfind (intE l) (.int .i64 k)).getD (.p (.lit (.int .i64 0))) = li (valI l k) := by
  rw [intE_find]; unfold valI;cases l.lookup k <;> rfl
theorem intE_has (l : List (Int × Int)) (k : Int) : (mfind (intE l) (.int .i64 k)).isSome = hasI l k := by
  rw [intE_find]; unfold hasI;cases l.lookup k <;> rfl
theorem intE_ok (l : List (Int × Int)) : keysOk (.int .i64) (intE l) = True :=
  propext ⟨fun _ => trivial, fun _ e he => by
    obtain ⟨z, _, rfl⟩ := List.mem_map.1 he;rfl⟩
theorem hasI_f (l : List (Int × Int)) (k : Int) [h : Nonempty (hasI l k = false)] : hasI l k = false := h.elim id
theorem hasI_t (l : List (Int × Int)) (k : Int) [h : Nonempty (hasI l k = true)] : hasI l k = true := h.elim id
theorem mapE_pm (l : List (Int × Int)) : pmap (mapE l) = some (intE l) := mapE_of l (fun _ => none)
attribute [push_cast] mapE_pm
attribute [push_cast] intE_val intE_has intE_ok hasI_f hasI_t
attribute [irreducible] mapE intE valI hasI
def insV : List (Int × Int) -> Int -> Int -> List (Int × Int)
  | [], k, c => [(k, c)]
  | e :: l, k, c => if k = e.1 then (k, c) :: l else e :: insV l k c
theorem intE_nil : intE [] = [] := by unfold intE; rfl
theorem intE_cons (e : Int × Int) (l : List (Int × Int)) : intE (e :: l) = (.int .i64 e.1, li e.2) :: intE l := by unfold intE; rfl
theorem intE_set (k c : Int) : ∀ l : List (Int × Int), mset (intE l) (.int .i64 k) (.p (.lit (.int .i64 c))) = intE (insV l k c)
  | [] => by rw [intE_nil, insV, intE_cons, intE_nil]; rfl
  | e :: l => by
    rw [intE_cons, mset, insV];by_cases h : k = e.1
    · rw [if_pos (show vkey (.int .i64 k) (.int .i64 e.1) = true by simp [vkey, h]), if_pos h, intE_cons]; rfl
    · rw [if_neg (show ¬ vkey (.int .i64 k) (.int .i64 e.1) = true by simp [vkey, h]), if_neg h, intE_cons, intE_set k c l]
theorem intE_mem {l : List (Int × Int)} {e : Value × DV} (h : e ∈ intE l) : ∃ z c, e = (.int .i64 z, li c) := by
  unfold intE at h;obtain ⟨x, _, rfl⟩ := List.mem_map.1 h;exact ⟨_, _, rfl⟩
theorem intE_uses (U : Nat -> Prop) (l : List (Int × Int)) : DV.usesL U ((intE l).map (·.2)) = True :=
  propext ⟨fun _ => trivial, fun _ => usesL_iff.2 fun d hd => by
    obtain ⟨e, he, rfl⟩ := List.mem_map.1 hd;obtain ⟨z, c, rfl⟩ := intE_mem he;trivial⟩
theorem intE_same (f : DV -> DV) (hf : ∀ n, f (li n) = li n) (l : List (Int × Int)) : (intE l).map (fun e => (e.1, f e.2)) = intE l := by
  unfold intE; rw [List.map_map];exact List.map_congr_left fun e _ => by simp only [Function.comp, hf]
theorem intE_mp (r : Nat -> Nat) (l : List (Int × Int)) : (intE l).map (fun e => (e.1, e.2.mp r)) = intE l := intE_same (DV.mp r) (fun _ => rfl) l
theorem intE_ren (o n : Nat) (l : List (Int × Int)) : (intE l).map (fun e => (e.1, e.2.ren o n)) = intE l := intE_same (DV.ren o n) (fun _ => rfl) l
theorem intE_frz (o : Nat) (x : FV) (l : List (Int × Int)) : (intE l).map (fun e => (e.1, e.2.frz o x)) = intE l := intE_same (DV.frz o x) (fun _ => rfl) l
theorem intE_fv (l : List (Int × Int)) : HV.fv (.map (intE l)) = some (.mp (l.map fun e => .int .i64 e.1) (l.map fun e => .lit (.int .i64 e.2))) := by
  have e1 : (intE l).map (·.2) = (l.map fun e => PV.lit (.int .i64 e.2)).map DV.p := by unfold intE; rw [List.map_map, List.map_map]; rfl
  have e2 : (intE l).map (·.1) = l.map fun e => (.int .i64 e.1 : Value) := by unfold intE; rw [List.map_map]; rfl
  simp only [HV.fv];rw [e1, e2, pvL_p]; rfl
theorem mapE_eq (l : List (Int × Int)) : PV.map (l.map fun e => .int .i64 e.1) (l.map fun e => .lit (.int .i64 e.2)) = mapE l := by unfold mapE; rfl
attribute [push_cast] intE_set intE_uses intE_mp intE_ren intE_frz
class ValI (l : List (Int × Int)) (k : Int) (v : outParam Int) : Prop where
  h : valI l k = v
theorem valI_at {l : List (Int × Int)} {k v : Int} [h : ValI l k v] : valI l k = v := h.h
attribute [push_cast] valI_at
structure Tnk where
  nd : Node
  pt : Net
  sc : List Sect
  rl : List Rule
instance : Inhabited Tnk := ⟨⟨default, default, default, default⟩⟩
def tnkP (x : Tnk) : List PV := [.lit (.string x.nd.name), .lit (.int .i64 x.nd.kind), .lit (.int .i64 x.nd.pos.x), .lit (.int .i64 x.nd.pos.y), .lit (.int .i64 x.nd.inv), .lit (.int .i64 x.nd.gnd), .dat 2 (x.nd.shape.map knotP), .lit (.bool x.nd.prot), .lit (.int .i64 x.nd.res), .dat 9 (x.pt.nodes.map nodeP), .dat 11 (x.pt.links.map linkP), .dat 5 (x.sc.map sectP), .dat 4 (x.rl.map ruleP)]
def tnkC (x : Tnk) : List DV := [.p (.lit (.string x.nd.name)), .p (.lit (.int .i64 x.nd.kind)), .p (.lit (.int .i64 x.nd.pos.x)), .p (.lit (.int .i64 x.nd.pos.y)), .p (.lit (.int .i64 x.nd.inv)), .p (.lit (.int .i64 x.nd.gnd)), .p (.dat 2 (x.nd.shape.map knotP)), .p (.lit (.bool x.nd.prot)), .p (.lit (.int .i64 x.nd.res)), .p (.dat 9 (x.pt.nodes.map nodeP)), .p (.dat 11 (x.pt.links.map linkP)), .p (.dat 5 (x.sc.map sectP)), .p (.dat 4 (x.rl.map ruleP))]
theorem tnkP_map (x : Tnk) : (tnkP x).map DV.p = tnkC x := rfl
theorem tnkP_len (x : Tnk) : (tnkP x).length = 13 := rfl
theorem tnkC_len (x : Tnk) : (tnkC x).length = 13 := rfl
theorem tnkP_take (x : Tnk) : (tnkP x).take 13 = tnkP x := rfl
theorem tnkC_take (x : Tnk) : (tnkC x).take 13 = tnkC x := rfl
theorem tnkC_all (x : Tnk) : (tnkC x).all DV.cellB = true := rfl
theorem tnkP_d0 (x : Tnk) : (tnkP x).getD 0 default = .lit (.string x.nd.name) := rfl
theorem tnkC_d0 (x : Tnk) : (tnkC x)[0]? = some (.p (.lit (.string x.nd.name))) := rfl
theorem tnkP_s0 (x : Tnk) : (tnkP x).take 1 = [.lit (.string x.nd.name)] := rfl
theorem tnkC_s0 (x : Tnk) : (tnkC x).take 1 = [.p (.lit (.string x.nd.name))] := rfl
theorem tnkP_d1 (x : Tnk) : (tnkP x).getD 1 default = .lit (.int .i64 x.nd.kind) := rfl
theorem tnkC_d1 (x : Tnk) : (tnkC x)[1]? = some (.p (.lit (.int .i64 x.nd.kind))) := rfl
theorem tnkP_s1 (x : Tnk) : ((tnkP x).drop 1).take 1 = [.lit (.int .i64 x.nd.kind)] := rfl
theorem tnkC_s1 (x : Tnk) : ((tnkC x).drop 1).take 1 = [.p (.lit (.int .i64 x.nd.kind))] := rfl
theorem tnkP_d2 (x : Tnk) : (tnkP x).getD 2 default = .lit (.int .i64 x.nd.pos.x) := rfl
theorem tnkC_d2 (x : Tnk) : (tnkC x)[2]? = some (.p (.lit (.int .i64 x.nd.pos.x))) := rfl
theorem tnkP_s2 (x : Tnk) : ((tnkP x).drop 2).take 1 = [.lit (.int .i64 x.nd.pos.x)] := rfl
theorem tnkC_s2 (x : Tnk) : ((tnkC x).drop 2).take 1 = [.p (.lit (.int .i64 x.nd.pos.x))] := rfl
theorem tnkP_d3 (x : Tnk) : (tnkP x).getD 3 default = .lit (.int .i64 x.nd.pos.y) := rfl
theorem tnkC_d3 (x : Tnk) : (tnkC x)[3]? = some (.p (.lit (.int .i64 x.nd.pos.y))) := rfl
theorem tnkP_s3 (x : Tnk) : ((tnkP x).drop 3).take 1 = [.lit (.int .i64 x.nd.pos.y)] := rfl
theorem tnkC_s3 (x : Tnk) : ((tnkC x).drop 3).take 1 = [.p (.lit (.int .i64 x.nd.pos.y))] := rfl
theorem tnkP_d4 (x : Tnk) : (tnkP x).getD 4 default = .lit (.int .i64 x.nd.inv) := rfl
theorem tnkC_d4 (x : Tnk) : (tnkC x)[4]? = some (.p (.lit (.int .i64 x.nd.inv))) := rfl
theorem tnkP_s4 (x : Tnk) : ((tnkP x).drop 4).take 1 = [.lit (.int .i64 x.nd.inv)] := rfl
theorem tnkC_s4 (x : Tnk) : ((tnkC x).drop 4).take 1 = [.p (.lit (.int .i64 x.nd.inv))] := rfl
theorem tnkP_d5 (x : Tnk) : (tnkP x).getD 5 default = .lit (.int .i64 x.nd.gnd) := rfl
theorem tnkC_d5 (x : Tnk) : (tnkC x)[5]? = some (.p (.lit (.int .i64 x.nd.gnd))) := rfl
theorem tnkP_s5 (x : Tnk) : ((tnkP x).drop 5).take 1 = [.lit (.int .i64 x.nd.gnd)] := rfl
theorem tnkC_s5 (x : Tnk) : ((tnkC x).drop 5).take 1 = [.p (.lit (.int .i64 x.nd.gnd))] := rfl
theorem tnkP_d6 (x : Tnk) : (tnkP x).getD 6 default = .dat 2 (x.nd.shape.map knotP) := rfl
theorem tnkC_d6 (x : Tnk) : (tnkC x)[6]? = some (.p (.dat 2 (x.nd.shape.map knotP))) := rfl
theorem tnkP_s6 (x : Tnk) : ((tnkP x).drop 6).take 1 = [.dat 2 (x.nd.shape.map knotP)] := rfl
theorem tnkC_s6 (x : Tnk) : ((tnkC x).drop 6).take 1 = [.p (.dat 2 (x.nd.shape.map knotP))] := rfl
theorem tnkP_d7 (x : Tnk) : (tnkP x).getD 7 default = .lit (.bool x.nd.prot) := rfl
theorem tnkC_d7 (x : Tnk) : (tnkC x)[7]? = some (.p (.lit (.bool x.nd.prot))) := rfl
theorem tnkP_s7 (x : Tnk) : ((tnkP x).drop 7).take 1 = [.lit (.bool x.nd.prot)] := rfl
theorem tnkC_s7 (x : Tnk) : ((tnkC x).drop 7).take 1 = [.p (.lit (.bool x.nd.prot))] := rfl
theorem tnkP_d8 (x : Tnk) : (tnkP x).getD 8 default = .lit (.int .i64 x.nd.res) := rfl
theorem tnkC_d8 (x : Tnk) : (tnkC x)[8]? = some (.p (.lit (.int .i64 x.nd.res))) := rfl
theorem tnkP_s8 (x : Tnk) : ((tnkP x).drop 8).take 1 = [.lit (.int .i64 x.nd.res)] := rfl
theorem tnkC_s8 (x : Tnk) : ((tnkC x).drop 8).take 1 = [.p (.lit (.int .i64 x.nd.res))] := rfl
theorem tnkP_d9 (x : Tnk) : (tnkP x).getD 9 default = .dat 9 (x.pt.nodes.map nodeP) := rfl
theorem tnkC_d9 (x : Tnk) : (tnkC x)[9]? = some (.p (.dat 9 (x.pt.nodes.map nodeP))) := rfl
theorem tnkP_s9 (x : Tnk) : ((tnkP x).drop 9).take 1 = [.dat 9 (x.pt.nodes.map nodeP)] := rfl
theorem tnkC_s9 (x : Tnk) : ((tnkC x).drop 9).take 1 = [.p (.dat 9 (x.pt.nodes.map nodeP))] := rfl
theorem tnkP_d10 (x : Tnk) : (tnkP x).getD 10 default = .dat 11 (x.pt.links.map linkP) := rfl
theorem tnkC_d10 (x : Tnk) : (tnkC x)[10]? = some (.p (.dat 11 (x.pt.links.map linkP))) := rfl
theorem tnkP_s10 (x : Tnk) : ((tnkP x).drop 10).take 1 = [.dat 11 (x.pt.links.map linkP)] := rfl
theorem tnkC_s10 (x : Tnk) : ((tnkC x).drop 10).take 1 = [.p (.dat 11 (x.pt.links.map linkP))] := rfl
theorem tnkP_d11 (x : Tnk) : (tnkP x).getD 11 default = .dat 5 (x.sc.map sectP) := rfl
theorem tnkC_d11 (x : Tnk) : (tnkC x)[11]? = some (.p (.dat 5 (x.sc.map sectP))) := rfl
theorem tnkP_s11 (x : Tnk) : ((tnkP x).drop 11).take 1 = [.dat 5 (x.sc.map sectP)] := rfl
theorem tnkC_s11 (x : Tnk) : ((tnkC x).drop 11).take 1 = [.p (.dat 5 (x.sc.map sectP))] := rfl
theorem tnkP_d12 (x : Tnk) : (tnkP x).getD 12 default = .dat 4 (x.rl.map ruleP) := rfl
theorem tnkC_d12 (x : Tnk) : (tnkC x)[12]? = some (.p (.dat 4 (x.rl.map ruleP))) := rfl
theorem tnkP_s12 (x : Tnk) : ((tnkP x).drop 12).take 1 = [.dat 4 (x.rl.map ruleP)] := rfl
theorem tnkC_s12 (x : Tnk) : ((tnkC x).drop 12).take 1 = [.p (.dat 4 (x.rl.map ruleP))] := rfl
theorem tnkP_t0 (x : Tnk) : (tnkP x).take 9 = nodeP x.nd := rfl
theorem tnkC_t0 (x : Tnk) : (tnkC x).take 9 = nodeC x.nd := rfl
theorem tnkP_t9 (x : Tnk) : ((tnkP x).drop 9).take 2 = netP x.pt := rfl
theorem tnkC_t9 (x : Tnk) : ((tnkC x).drop 9).take 2 = netC x.pt := rfl
theorem tnkC_ren (o n : Nat) (x : Tnk) : DV.renL o n (tnkC x) = tnkC x := rfl
theorem tnkC_frz (o : Nat) (v : FV) (x : Tnk) : DV.frzL o v (tnkC x) = tnkC x := rfl
theorem tnkC_mp (r : Nat -> Nat) (x : Tnk) : DV.mpL r (tnkC x) = tnkC x := rfl
theorem tnkC_uses (U : Nat -> Prop) (x : Tnk) : DV.usesL U (tnkC x) = True := by simp [tnkC, DV.usesL, DV.uses]
attribute [push_cast] tnkP_map tnkP_len tnkC_len tnkP_take tnkC_take tnkC_all tnkP_d0 tnkC_d0 tnkP_s0 tnkC_s0 tnkP_d1 tnkC_d1 tnkP_s1 tnkC_s1 tnkP_d2 tnkC_d2 tnkP_s2 tnkC_s2 tnkP_d3 tnkC_d3 tnkP_s3 tnkC_s3 tnkP_d4 tnkC_d4 tnkP_s4 tnkC_s4 tnkP_d5 tnkC_d5 tnkP_s5 tnkC_s5 tnkP_d6 tnkC_d6 tnkP_s6 tnkC_s6 tnkP_d7 tnkC_d7 tnkP_s7 tnkC_s7 tnkP_d8 tnkC_d8 tnkP_s8 tnkC_s8 tnkP_d9 tnkC_d9 tnkP_s9 tnkC_s9 tnkP_d10 tnkC_d10 tnkP_s10 tnkC_s10 tnkP_d11 tnkC_d11 tnkP_s11 tnkC_s11 tnkP_d12 tnkC_d12 tnkP_s12 tnkC_s12 tnkP_t0 tnkC_t0 tnkP_t9 tnkC_t9 tnkC_ren tnkC_frz tnkC_mp tnkC_uses
structure Pha where
  fr : Int
  fl : List (List Int)
instance : Inhabited Pha := ⟨⟨default, default⟩⟩
def phaP (x : Pha) : List PV := [.lit (.int .i64 x.fr), .dat 1 (x.fl.map ilRow)]
def phaC (x : Pha) : List DV := [.p (.lit (.int .i64 x.fr)), .p (.dat 1 (x.fl.map ilRow))]
abbrev phaD (x : Pha) : DV := .agg (phaC x)
abbrev phaL (l : List Pha) : DV := .p (.dat 2 (l.map phaP))
theorem phaP_map (x : Pha) : (phaP x).map DV.p = phaC x := rfl
theorem phaP_len (x : Pha) : (phaP x).length = 2 := rfl
theorem phaC_len (x : Pha) : (phaC x).length = 2 := rfl
theorem phaP_take (x : Pha) : (phaP x).take 2 = phaP x := rfl
theorem phaC_take (x : Pha) : (phaC x).take 2 = phaC x := rfl
theorem phaC_all (x : Pha) : (phaC x).all DV.cellB = true := rfl
theorem phaP_d0 (x : Pha) : (phaP x).getD 0 default = .lit (.int .i64 x.fr) := rfl
theorem phaC_d0 (x : Pha) : (phaC x)[0]? = some (.p (.lit (.int .i64 x.fr))) := rfl
theorem phaP_s0 (x : Pha) : (phaP x).take 1 = [.lit (.int .i64 x.fr)] := rfl
theorem phaC_s0 (x : Pha) : (phaC x).take 1 = [.p (.lit (.int .i64 x.fr))] := rfl
theorem phaP_d1 (x : Pha) : (phaP x).getD 1 default = .dat 1 (x.fl.map ilRow) := rfl
theorem phaC_d1 (x : Pha) : (phaC x)[1]? = some (.p (.dat 1 (x.fl.map ilRow))) := rfl
theorem phaP_s1 (x : Pha) : ((phaP x).drop 1).take 1 = [.dat 1 (x.fl.map ilRow)] := rfl
theorem phaC_s1 (x : Pha) : ((phaC x).drop 1).take 1 = [.p (.dat 1 (x.fl.map ilRow))] := rfl
theorem phaC_ren (o n : Nat) (x : Pha) : DV.renL o n (phaC x) = phaC x := rfl
theorem phaC_frz (o : Nat) (v : FV) (x : Pha) : DV.frzL o v (phaC x) = phaC x := rfl
theorem phaC_mp (r : Nat -> Nat) (x : Pha) : DV.mpL r (phaC x) = phaC x := rfl
theorem phaC_uses (U : Nat -> Prop) (x : Pha) : DV.usesL U (phaC x) = True := by simp [phaC, DV.usesL, DV.uses]
attribute [push_cast] phaP_map phaP_len phaC_len phaP_take phaC_take phaC_all phaP_d0 phaC_d0 phaP_s0 phaC_s0 phaP_d1 phaC_d1 phaP_s1 phaC_s1 phaC_ren phaC_frz phaC_mp phaC_uses
structure Prf where
  tk : Tnk
  phs : List Pha
  vl : List (Int × Int)
instance : Inhabited Prf := ⟨⟨default, default, default⟩⟩
def prfP (x : Prf) : List PV := [.ptr (tnkP x.tk), .dat 2 (x.phs.map phaP), mapE x.vl]
theorem prfP_len (x : Prf) : (prfP x).length = 3 := rfl
theorem prfP_take (x : Prf) : (prfP x).take 3 = prfP x := rfl
theorem prfP_d0 (x : Prf) : (prfP x).getD 0 default = .ptr (tnkP x.tk) := rfl
theorem prfP_s0 (x : Prf) : (prfP x).take 1 = [.ptr (tnkP x.tk)] := rfl
theorem prfP_d1 (x : Prf) : (prfP x).getD 1 default = .dat 2 (x.phs.map phaP) := rfl
theorem prfP_s1 (x : Prf) : ((prfP x).drop 1).take 1 = [.dat 2 (x.phs.map phaP)] := rfl
theorem prfP_d2 (x : Prf) : (prfP x).getD 2 default = mapE x.vl := rfl
theorem prfP_s2 (x : Prf) : ((prfP x).drop 2).take 1 = [mapE x.vl] := rfl
attribute [push_cast] prfP_len prfP_take prfP_d0 prfP_s0 prfP_d1 prfP_s1 prfP_d2 prfP_s2
def volI (x : Node) (v : Int) : Int := if x.kind = 3 then 0 else floorT x.shape (v - x.inv)
theorem volI_in {x : Node} (v : Int) (h : nodeR x = true) : 0 <= volI x v /\ volI x v <= 1125899906842624 := by
  unfold volI;by_cases k : x.kind = 3
  · rw [if_pos k]; decide
  · rw [if_neg k];have ht := nodeR_tab h k;have := floorT_in (x := v - x.inv) ht.1;omega
theorem sreach_f (x : Node) (v : Int) (m : Nat) : Pu 178 [nodeD x, li v] m (lb (btwB v x.inv x.gnd)) := by
  have c1 := fun m => swithin_f v x.inv x.gnd m
  generalize btwB v x.inv x.gnd = b at *
  refine pcN 11 [.tmp 4] [4] Tryz.func178 rfl [] ?_;(repeat' first|refine stW [0,1,2,4] ?_|refine fctI fun hf=>?_|refine twI (fun hc=>?_) fun hc=>?_);exact DVR
theorem svolume_f (x : Node) (v : Int) (m : Nat) (h : nodeR x = true) (hv : btwB v x.inv x.gnd = true) : Pu 179 [nodeD x, li v] m (.tup [li (volI x v), li 0]) := by
  have a1 := lev_in (node_lev h).1;have a2 := lev_in (node_lev h).2.1;have hb : x.inv <= v /\ v <= x.gnd := by
    unfold btwB at hv;simpa using hv
  unfold volI;by_cases k : x.kind = 3
  · rw [if_pos k];(have:=NeI k);refine pcN 18 [.tmp 4,.tmp 5] [3,32] Tryz.func179 rfl [] ?_;(repeat' first|refine stW [0,1,2,4,5,8] ?_|refine fctI fun hf=>?_|refine twI (fun hc=>?_) fun hc=>?_);exact DVR
  · rw [if_neg k];have ht := nodeR_tab h k;have ct := fun m => floor_f x.shape (v - x.inv) m ht.1 (by unfold i64ok; omega)
    generalize floorT x.shape (v - x.inv) = q at *
    (have:=NeI k);refine pcN 18 [.tmp 4,.tmp 5] [3,32] Tryz.func179 rfl [] ?_;(repeat' first|refine stW [0,1,2,4,5,8] ?_|refine fctI fun hf=>?_|refine twI (fun hc=>?_) fun hc=>?_);exact DVR
theorem sLevel_f (x : Node) (v : Int) (m : Nat) (no : nodeOk x) (h : nodeR x = true) (hv : 0 <= v /\ v <= 1125899906842624) : Pu 144 [nodeD x, li v] m (.tup [li (levelI x v), li 0]) := by
  have c1 := fun m => right_f x m no
  have c2 := fun m => sholds_f v m
  have c3 := fun m => slevel_f x v m h hv
  rw [h] at c1;rw [show volB v = true by unfold volB; simp; exact hv] at c2;generalize levelI x v = q at *
  refine pcN 19 [.tmp 4,.tmp 5] [3,32] Tryz.func144 rfl [] ?_;(repeat' first|refine stW [0,1,2,4,5,6,10] ?_|refine fctI fun hf=>?_|refine twI (fun hc=>?_) fun hc=>?_);exact DVR
theorem sVolume_f (x : Node) (v : Int) (m : Nat) (no : nodeOk x) (h : nodeR x = true) (hv : btwB v x.inv x.gnd = true) : Pu 147 [nodeD x, li v] m (.tup [li (volI x v), li 0]) := by
  have c1 := fun m => right_f x m no
  have c2 := fun m => sreach_f x v m
  have c3 := fun m => svolume_f x v m h hv
  rw [h] at c1;rw [hv] at c2;generalize volI x v = q at *
  refine pcN 20 [.tmp 4,.tmp 5] [3,32] Tryz.func147 rfl [] ?_;(repeat' first|refine stW [0,1,2,4,5,6,10] ?_|refine fctI fun hf=>?_|refine twI (fun hc=>?_) fun hc=>?_);exact DVR
def seeS (a l : List ByteArray) (i : Nat) : List ByteArray := (l.take i).foldl insS a
theorem insS_in (l : List ByteArray) (s t : ByteArray) : hasB (insS l s) t = (hasB l t || decide (s = t)) := by
  unfold insS;cases h : hasB l s
  · rw [if_neg (by decide)];unfold hasB;rw [List.any_append, List.any_cons, List.any_nil, Bool.or_false]
  · rw [if_pos rfl];by_cases e : s = t
    · subst e; rw [h]; rfl
    · rw [decide_eq_false e, Bool.or_false]
theorem seeS_next (a : List ByteArray) {l : List ByteArray} {i : Nat} (h : i < l.length) : seeS a l (i + 1) = insS (seeS a l i) (l.getD i default) := by
  unfold seeS;rw [take_snocD h, List.foldl_append]; rfl
theorem fold_has (s : ByteArray) : ∀ (l a : List ByteArray), hasB (l.foldl insS a) s = (hasB a s || hasB l s)
  | [], a => by show hasB a s = (hasB a s || false); rw [Bool.or_false]
  | x :: l, a => by
    show hasB (l.foldl insS (insS a x)) s = _;rw [fold_has s l, insS_in, hasB_cons, Bool.or_assoc]
theorem seeS_has (a l : List ByteArray) (s : ByteArray) : hasB (seeS a l l.length) s = (hasB a s || hasB l s) := by
  unfold seeS;rw [List.take_length, fold_has]
theorem has_node (n : Net) (s : ByteArray) : hasB (n.nodes.map Node.name) s = decide (0 <= nodeIx n.nodes s) := by
  unfold nodeIx hasB;rw [List.any_map, <- idxI_any]; rfl
theorem has_link (n : Net) (s : ByteArray) : hasB (n.links.map Link.name) s = decide (0 <= linkIx n.links s) := by
  unfold linkIx hasB;rw [List.any_map, <- idxI_any]; rfl
def lkTo (n : Net) (t : ByteArray) (i : Nat) : List Link := (n.links.take i).filter fun x => decide (x.fro = t)
def endTo (n : Net) (t : ByteArray) (i : Nat) : List ByteArray := ((lkTo n t i).map Link.til).foldl insS [t]
def ndTo (n : Net) (t : ByteArray) (i : Nat) : List Node := (n.nodes.take i).filter fun x => nearB n t x.name
theorem lkTo_all (n : Net) (t : ByteArray) : lkTo n t n.links.length = outL n t := by unfold lkTo outL; rw [List.take_length]
theorem ndTo_all (n : Net) (t : ByteArray) : ndTo n t n.nodes.length = (partN n t).nodes := by unfold ndTo partN; rw [List.take_length]
theorem lkTo_yes {n : Net} {t : ByteArray} {i : Nat} (h : i < n.links.length) (e : (n.links.getD i default).fro = t) : lkTo n t (i + 1) = lkTo n t i ++ [n.links.getD i default] /\ endTo n t (i + 1) = insS (endTo n t i) (n.links.getD i default).til := by
  have e1 : lkTo n t (i + 1) = lkTo n t i ++ [n.links.getD i default] := by
    unfold lkTo;rw [take_snocD h, List.filter_append, List.filter_cons_of_pos (by simpa using e), List.filter_nil]
  refine ⟨e1, ?_⟩;unfold endTo;rw [e1, List.map_append, List.foldl_append]; rfl
theorem lkTo_no {n : Net} {t : ByteArray} {i : Nat} (h : i < n.links.length) (e : ¬ (n.links.getD i default).fro = t) : lkTo n t (i + 1) = lkTo n t i /\ endTo n t (i + 1) = endTo n t i := by
  have e1 : lkTo n t (i + 1) = lkTo n t i := by
    unfold lkTo;rw [take_snocD h, List.filter_append, List.filter_cons_of_neg (by simpa using e), List.filter_nil, List.append_nil]
  exact ⟨e1, by unfold endTo; rw [e1]⟩
theorem endTo_has (n : Net) (t s : ByteArray) : hasB (endTo n t n.links.length) s = nearB n t s := by
  unfold endTo;rw [fold_has, lkTo_all];unfold nearB hasB;rw [List.any_map, List.any_cons, List.any_nil, Bool.or_false];congr 1
  rw [Bool.eq_iff_iff, decide_eq_true_eq, decide_eq_true_eq];exact eq_comm
theorem ndTo_yes {n : Net} {t : ByteArray} {i : Nat} (h : i < n.nodes.length) (e : nearB n t (n.nodes.getD i default).name = true) : ndTo n t (i + 1) = ndTo n t i ++ [n.nodes.getD i default] := by
  unfold ndTo;rw [take_snocD h, List.filter_append, List.filter_cons_of_pos (by simpa using e), List.filter_nil]
theorem ndTo_no {n : Net} {t : ByteArray} {i : Nat} (h : i < n.nodes.length) (e : nearB n t (n.nodes.getD i default).name = false) : ndTo n t (i + 1) = ndTo n t i := by
  unfold ndTo;rw [take_snocD h, List.filter_append, List.filter_cons_of_neg (by simpa using e), List.filter_nil, List.append_nil]
theorem lkTo_len (n : Net) (t : ByteArray) (i : Nat) : (lkTo n t i).length <= n.links.length :=
  Nat.le_trans (List.length_filter_le ..) (by rw [List.length_take]; omega)
theorem ndTo_len (n : Net) (t : ByteArray) (i : Nat) : (ndTo n t i).length <= n.nodes.length :=
  Nat.le_trans (List.length_filter_le ..) (by rw [List.length_take]; omega)
theorem findK_snoc (c : List Sect) (x : Link) : ∀ (ls : List Link) (a : List Sect), findK c (ls ++ [x]) a = (findK c ls a).bind fun b => findR c b x
  | [], a => by
    show (findR c a x).bind (findK c []) = findR c a x;cases findR c a x <;> rfl
  | y :: ls, a => by
    show (findR c a y).bind (findK c (ls ++ [x])) = _;show _ = ((findR c a y).bind (findK c ls)).bind fun b => findR c b x
    cases findR c a y with
    | none => rfl
    | some b => exact findK_snoc c x ls b
theorem findK_bad (c : List Sect) : ∀ (ls ms : List Link) (a : List Sect), findK c ls a = none -> findK c (ls ++ ms) a = none
  | [], _, _, h => by cases h
  | y :: ls, ms, a, h => by
    have h : (findR c a y).bind (findK c ls) = none := h;show (findR c a y).bind (findK c (ls ++ ms)) = none;cases hf : findR c a y with
    | none => rfl
    | some b =>
      rw [hf] at h;exact findK_bad c ls ms b h
def tankE (n : Net) (l : List Rule) (t : ByteArray) : Int :=
  if l.all (knownR n) = false then 25
  else if nodeIx n.nodes t < 0 then 9
  else if ¬ ((nodeA n t).kind = 2 /\ (nodeA n t).prot = true) then 11
  else if 20000 < (nodeA n t).gnd - (nodeA n t).inv then 5 else 0
def tkOf (n : Net) (l : List Rule) (t : ByteArray) (a : List Sect) : Tnk := ⟨nodeA n t, partN n t, a, l⟩
def canJ (t : ByteArray) (v : Int) (r : Rule) (j : Nat) : Bool := (r.whn.take j).all fun c => !decide (c.nod = t) || cndH v c
def sureJ (t : ByteArray) (r : Rule) (j : Nat) : Bool := (r.whn.take j).all fun c => decide (c.nod = t)
theorem canJ_all (t : ByteArray) (v : Int) (r : Rule) : canJ t v r r.whn.length = canR t v r := by unfold canJ canR; rw [List.take_length]
theorem sureJ_all (t : ByteArray) (r : Rule) : sureJ t r r.whn.length = sureR t r := by unfold sureJ sureR; rw [List.take_length]
theorem canJ_next {t : ByteArray} {v : Int} {r : Rule} {j : Nat} (h : j < r.whn.length) : canJ t v r (j + 1) = (canJ t v r j && (!decide ((r.whn.getD j default).nod = t) || cndH v (r.whn.getD j default))) := by
  unfold canJ;rw [take_snocD h, List.all_append, List.all_cons, List.all_nil, Bool.and_true]
theorem sureJ_next {t : ByteArray} {r : Rule} {j : Nat} (h : j < r.whn.length) : sureJ t r (j + 1) = (sureJ t r j && decide ((r.whn.getD j default).nod = t)) := by
  unfold sureJ;rw [take_snocD h, List.all_append, List.all_cons, List.all_nil, Bool.and_true]
def grK (l : List Rule) (t k : ByteArray) (v : Int) (i : Nat) : Int × Bool := (l.take i).foldl (grS t k v) (0, false)
theorem grK_next {l : List Rule} {t k : ByteArray} {v : Int} {i : Nat} (h : i < l.length) : grK l t k v (i + 1) = grS t k v (grK l t k v i) (l.getD i default) := by
  unfold grK;rw [take_snocD h, List.foldl_append]; rfl
theorem grK_all (l : List Rule) (t k : ByteArray) (v : Int) : grK l t k v l.length = grF l t k v := by unfold grK grF; rw [List.take_length]
def setT (T : Tnk) (v : Int) : List Int := T.pt.links.map fun x => grI T.rl T.nd.name x.name v
def flowT (T : Tnk) (v : Int) (S : List Int) (k : Nat) : Int := if (mostR T.pt T.sc k v (S.getD k default)).2 = 0 then (mostR T.pt T.sc k v (S.getD k default)).1 else 1099511627776
def flowsT (T : Tnk) (v : Int) (S : List Int) : List Int := (List.range T.pt.links.length).map (flowT T v S)
def volsM (x : Node) (f : Int) (i : Nat) : List (Int × Int) := (List.range i).map fun (j : Nat) => (f + j, volI x (f + j))
theorem volsM_val (x : Node) (f : Int) : ∀ (i j : Nat), j < i -> valI (volsM x f i) (f + j) = volI x (f + j) := by
  intro i j h;have hl : ∀ (l : List Nat), j ∈ l -> (l.map fun (j : Nat) => (f + (j : Int), volI x (f + j))).lookup (f + (j : Int)) = some (volI x (f + j)) := by
    intro l hl;induction l with
    | nil => simp at hl
    | cons a l ih =>
      rw [List.map_cons, List.lookup_cons];by_cases e : j = a
      · subst e; simp
      · have : (f + (j : Int) == f + (a : Int)) = false := by
          rw [beq_eq_false_iff_ne]; omega
        rw [this];exact ih ((List.mem_cons.1 hl).resolve_left e)
  unfold valI volsM;rw [hl _ (List.mem_range.2 h)]; rfl
theorem insV_new (k c : Int) : ∀ l : List (Int × Int), (∀ e, e ∈ l -> k ≠ e.1) -> insV l k c = l ++ [(k, c)]
  | [], _ => rfl
  | e :: l, h => by
    rw [insV, if_neg (h e (List.mem_cons_self ..)), insV_new k c l fun x hx => h x (List.mem_cons_of_mem _ hx)]; rfl
theorem volsM_put (x : Node) (f : Int) (i : Nat) : insV (volsM x f i) (f + i) (volI x (f + i)) = volsM x f (i + 1) := by
  rw [insV_new]
  · unfold volsM;rw [List.range_succ, List.map_append]; rfl
  · intro e he;obtain ⟨j, hj, rfl⟩ := List.mem_map.1 he;have := List.mem_range.1 hj;show f + (i : Int) ≠ f + (j : Int);omega
def phaT (T : Tnk) (h : Int) : Pha := ⟨h, (upTo h T.nd.gnd).map fun g => flowsT T g (setT T h)⟩
theorem upTo_drop {a b g : Int} (h1 : a <= b) (h2 : b <= g + 1) : (upTo a g).drop (b - a).toNat = upTo b g := by
  unfold upTo;rw [<- List.map_drop];refine List.ext_getElem ?_ fun i p q => ?_
  · simp; omega
  · simp only [List.getElem_map, List.getElem_drop, List.getElem_range];omega
theorem upTo_len (a b : Int) : (upTo a b).length = (b + 1 - a).toNat := by unfold upTo; simp
theorem upTo_at {a b : Int} {i : Nat} (h : i < (upTo a b).length) : (upTo a b)[i] = a + i := by
  simp only [upTo, List.getElem_map, List.getElem_range]
theorem pha_share {T : Tnk} {f h : Int} (h1 : f <= h) (h2 : h <= T.nd.gnd) (e : setT T f = setT T h) : (phaT T f).fl.drop (h - f).toNat = (phaT T h).fl := by
  show ((upTo f T.nd.gnd).map fun g => flowsT T g (setT T f)).drop (h - f).toNat = (upTo h T.nd.gnd).map fun g => flowsT T g (setT T h)
  rw [<- List.map_drop, upTo_drop h1 (by omega), e]
def firT (T : Tnk) : Int := levelI T.nd T.nd.res
def staT (T : Tnk) : List Int := startsR T.rl T.nd.name (firT T) T.nd.gnd
def prfT (T : Tnk) : Prf := ⟨T, (staT T).map (phaT T), volsM T.nd (firT T) (T.nd.gnd + 1 - firT T).toNat⟩
def margP (p : Prf) (x : Pha) (sec : Int) : Int := minL ((List.range x.fl.length).map fun (i : Nat) => margI p.tk.nd.res (valI p.vl (x.fr + i)) (x.fl.getD i default) sec)
def margK (p : Prf) (x : Pha) (sec : Int) (i : Nat) : Int := minL ((List.range i).map fun (i : Nat) => margI p.tk.nd.res (valI p.vl (x.fr + i)) (x.fl.getD i default) sec)
theorem margK_one (p : Prf) (x : Pha) (sec : Int) : margK p x sec 1 = margI p.tk.nd.res (valI p.vl (x.fr + (0 : Nat))) (x.fl.getD 0 default) sec := rfl
theorem margK_next (p : Prf) (x : Pha) (sec : Int) {i : Nat} (h : 0 < i) : margK p x sec (i + 1) = min (margK p x sec i) (margI p.tk.nd.res (valI p.vl (x.fr + i)) (x.fl.getD i default) sec) := by
  unfold margK;rw [List.range_succ, List.map_append, List.map_cons, List.map_nil, minL_app];intro e;have := congrArg List.length e;simp at this; omega
def phsM (p : Prf) (sec h : Int) : Int := phaseI (volI p.tk.nd) (fun g => flowsT p.tk g (setT p.tk h)) p.tk.nd.res p.tk.nd.gnd h sec
theorem marg_phase {T : Tnk} {h sec : Int} (h1 : firT T <= h) : margP (prfT T) (phaT T h) sec = phsM (prfT T) sec h := by
  unfold margP phsM phaseI;congr 1
  refine List.ext_getElem ?_ fun i p q => ?_
  · simp [phaT]; rfl
  · simp only [List.getElem_map, List.getElem_range];have hi : i < (upTo h T.nd.gnd).length := by
      have := q;simp only [List.length_map] at this;exact this
    have hl := upTo_len h T.nd.gnd;have e1 : (upTo h T.nd.gnd)[i] = h + i := upTo_at hi;have e2 : valI (prfT T).vl ((phaT T h).fr + i) = volI T.nd (h + i) := by
      have := volsM_val T.nd (firT T) (T.nd.gnd + 1 - firT T).toNat (h - firT T + i).toNat (by omega);rw [show firT T + ((h - firT T + i).toNat : Int) = h + i by omega] at this;exact this
    have e3 : (phaT T h).fl.getD i default = flowsT T (h + i) (setT T h) := by
      have hl2 : i < (phaT T h).fl.length := by simp [phaT]; exact hi
      rw [getD_is hl2];simp only [phaT, List.getElem_map];rw [upTo_at hi]
    rw [e2, e3];show _ = margI T.nd.res (volI T.nd ((upTo h T.nd.gnd)[i])) (flowsT T ((upTo h T.nd.gnd)[i]) (setT T h)) sec;rw [e1]; rfl
class ProtAt (x : Node) (v : outParam Bool) : Prop where
  h : x.prot = v
theorem protAt {x : Node} {v : Bool} [h : ProtAt x v] : x.prot = v := h.h
attribute [push_cast] protAt
class NameAt (x : Node) (v : outParam ByteArray) : Prop where
  h : x.name = v
theorem nameAt {x : Node} {v : ByteArray} [h : NameAt x v] : x.name = v := h.h
attribute [push_cast] nameAt
structure TankIn (n : Net) (c : List Sect) (l : List Rule) (t : ByteArray) (a : List Sect) : Prop where
  no : netOk n
  co : catOk c
  lo : rulOk l
  nb : netB n = true
  cb : catB c = true
  rb : rulesB l = true
  te : tankE n l t = 0
  fk : findK c (outL n t) [] = some a
theorem tankE_in {n : Net} {l : List Rule} {t : ByteArray} (h : tankE n l t = 0) : l.all (knownR n) = true /\ 0 <= nodeIx n.nodes t /\ (nodeA n t).kind = 2 /\ (nodeA n t).prot = true /\ (nodeA n t).gnd - (nodeA n t).inv <= 20000 := by
  unfold tankE at h;split at h
  · cases h
  · next h1 =>
    split at h
    · cases h
    · next h2 =>
      split at h
      · cases h
      · next h3 =>
        split at h
        · cases h
        · next h4 =>
          have h3 := Decidable.not_not.1 h3;exact ⟨by simpa using h1, by omega, h3.1, h3.2, by omega⟩
theorem rules_in {l : List Rule} (h : rulesB l = true) : ∀ r, r ∈ l -> ruleB r = true := by
  unfold rulesB at h;simp only [Bool.and_eq_true] at h;exact fun r hr => List.all_eq_true.1 h.1.2 r hr
theorem node_res {x : Node} (h : nodeR x = true) (hk : x.kind = 2) (hp : x.prot = true) : 0 <= x.res /\ x.res <= 1125899906842624 /\ x.inv < x.gnd := by
  have ht := nodeR_tab h (by rw [hk]; decide);unfold nodeR at h;simp only [Bool.and_eq_true] at h;have h2 := h.2;unfold kindB at h2;rw [if_pos (.inr hk), hp, if_pos rfl] at h2;simp only [Bool.and_eq_true, decide_eq_true_eq] at h2;have h3 := h2.2;unfold btwB at h3;simp only [Bool.and_eq_true, decide_eq_true_eq] at h3;exact ⟨h3.1, by omega, h2.1.1.1⟩
section
variable {n : Net} {c a : List Sect} {l : List Rule} {t : ByteArray}
theorem TankIn.ni (K : TankIn n c l t a) : NetIn n := (netB_iff n).1 K.nb
theorem TankIn.ci (K : TankIn n c l t a) : CatIn c := (catB_iff c).1 K.cb
theorem TankIn.nm (K : TankIn n c l t a) : (nodeA n t).name = t := (at_mem Node.name (tankE_in K.te).2.1).2
theorem TankIn.me (K : TankIn n c l t a) : nodeA n t ∈ n.nodes := (at_mem Node.name (tankE_in K.te).2.1).1
theorem TankIn.nr (K : TankIn n c l t a) : nodeR (nodeA n t) = true := K.ni.nr _ K.me
theorem TankIn.rs (K : TankIn n c l t a) : 0 <= (nodeA n t).res /\ (nodeA n t).res <= 1125899906842624 /\ (nodeA n t).inv < (nodeA n t).gnd :=
  node_res K.nr (tankE_in K.te).2.2.1 (tankE_in K.te).2.2.2.1
theorem TankIn.fi (K : TankIn n c l t a) : (nodeA n t).inv <= firT (tkOf n l t a) /\ firT (tkOf n l t a) <= (nodeA n t).gnd := levelI_in K.nr K.rs.1
theorem TankIn.kn (K : TankIn n c l t a) : ∀ x, x ∈ outL n t -> knownB c x = true := fun x hx => ((find_in K.fk).2 x hx).1
theorem TankIn.set (K : TankIn n c l t a) (v : Int) : setT (tkOf n l t a) v = setsS l n t v := by
  show (outL n t).map (fun x => grI l (nodeA n t).name x.name v) = (outL n t).map fun x => grI l t x.name v
  rw [K.nm]
theorem TankIn.flow (K : TankIn n c l t a) {v : Int} (hv : btwB v (nodeA n t).inv (nodeA n t).gnd = true) (w : Int) : flowsT (tkOf n l t a) v (setT (tkOf n l t a) w) = flowsS n c t (setsS l n t w) v := by
  rw [K.set];have hS := setsS_len l n t w;refine List.ext_getElem ?_ fun i p q => ?_
  · rw [flowsS_len hS];show ((List.range (outL n t).length).map _).length = _;rw [List.length_map, List.length_range]
  · have hi : i < (outL n t).length := by rw [flowsS_len hS] at q; exact q
    have h1 := flowsS_at (n := n) (c := c) (t := t) (S := setsS l n t w) (v := v) hS hi;rw [getD_is q] at h1;rw [h1];simp only [flowsT, List.getElem_map, List.getElem_range];have hm := most_part (s := (setsS l n t w).getD i default) K.ni K.ci K.fk hi hv (setsS_in (rules_in K.rb) (mem_getD (by rw [hS]; exact hi)));unfold flowT;show (if (mostR (partN n t) a i v ((setsS l n t w).getD i default)).2 = 0 then (mostR (partN n t) a i v ((setsS l n t w).getD i default)).1 else _) = _;rw [hm, if_pos rfl]
def safM (n : Net) (c : List Sect) (l : List Rule) (t : ByteArray) (sec h : Int) : Int := phS n c l (nodeA n t) (volI (nodeA n t)) sec h
def safS (n : Net) (l : List Rule) (t : ByteArray) : List Int := startsR l (nodeA n t).name (levelI (nodeA n t) (nodeA n t).res) (nodeA n t).gnd
theorem phase_congr {vol : Int -> Int} {F E : Int -> List Int} {res gnd h sec : Int} (e : ∀ g, h <= g -> g <= gnd -> F g = E g) : phaseI vol F res gnd h sec = phaseI vol E res gnd h sec := by
  unfold phaseI;congr 1
  refine List.map_congr_left fun g hg => ?_
  have := (upTo_mem _ _ _).1 hg;rw [e g this.1 this.2]
theorem starts_in {h f g : Int} (t : ByteArray) (l : List Rule) (hm : h ∈ startsR l t f g) (hf : f <= g) : f <= h /\ h <= g := by
  unfold startsR at hm;rcases List.mem_cons.1 hm with e | e
  · omega
  · have := (upTo_mem _ _ _).1 (List.mem_filter.1 e).1;omega
theorem TankIn.marg (K : TankIn n c l t a) {sec h : Int} (hh : firT (tkOf n l t a) <= h) (hg : h <= (nodeA n t).gnd) : margP (prfT (tkOf n l t a)) (phaT (tkOf n l t a) h) sec = safM n c l t sec h := by
  rw [marg_phase hh];unfold phsM safM phS;refine phase_congr fun g h1 h2 => ?_
  have hf := K.fi.1;have hb : btwB g (nodeA n t).inv (nodeA n t).gnd = true := by
    unfold btwB;have h2 : g <= (nodeA n t).gnd := h2;simp only [Bool.and_eq_true, decide_eq_true_eq]; omega
  have := K.flow hb h;rw [K.nm];exact this
theorem TankIn.sta (K : TankIn n c l t a) : staT (tkOf n l t a) = safS n l t := rfl
theorem TankIn.stm (K : TankIn n c l t a) {h : Int} (hh : h ∈ staT (tkOf n l t a)) : firT (tkOf n l t a) <= h /\ h <= (nodeA n t).gnd := starts_in _ _ hh K.fi.2
theorem TankIn.pos (K : TankIn n c l t a) {g : Int} (h1 : (nodeA n t).inv <= g) (h2 : g <= (nodeA n t).gnd) (w : Int) : ∀ q, q ∈ flowsS n c t (setsS l n t w) g -> 0 <= q /\ q <= 1099511627776 := by
  intro q hq;rw [flowsS_sets] at hq;obtain ⟨x, hx, rfl⟩ := List.mem_map.1 hq;refine flowX_in K.no K.co K.ni K.ci K.kn hx ?_ (grI_in t x.name w (rules_in K.rb));unfold btwB;simp only [Bool.and_eq_true, decide_eq_true_eq]; omega
end
def safE (n : Net) (c : List Sect) (l : List Rule) (t : ByteArray) (sec : Int) : Int :=
  if (netB n && catB c && rulesB l) = false then 1
  else if ¬ tankE n l t = 0 then tankE n l t
  else if ¬ (1 <= sec /\ sec <= 86400) then 2
  else if findK c (outL n t) [] = none then 9 else 0
theorem safE_in {n : Net} {c : List Sect} {l : List Rule} {t : ByteArray} {sec : Int} (no : netOk n) (co : catOk c) (lo : rulOk l) (h : safE n c l t sec = 0) : (1 <= sec /\ sec <= 86400) /\ ∃ a, TankIn n c l t a := by
  unfold safE at h;split at h
  · cases h
  · next h1 =>
    split at h
    · next h2 => exact absurd h h2
    · next h2 =>
      split at h
      · cases h
      · next h3 =>
        split at h
        · cases h
        · next h4 =>
          rw [Bool.not_eq_false] at h1;simp only [Bool.and_eq_true] at h1;cases hf : findK c (outL n t) [] with
          | none => exact absurd hf h4
          | some a => exact ⟨Decidable.not_not.1 h3, a, no, co, lo, h1.1.1, h1.1.2, h1.2, Decidable.not_not.1 h2, hf⟩
theorem part_ok {n : Net} {t : ByteArray} (no : netOk n) : netOk (partN n t) :=
  ⟨⟨Nat.le_trans List.filter_sublist.length_le no.1.1, fun y hy => no.1.2 y (List.filter_sublist.subset hy)⟩, Nat.le_trans List.filter_sublist.length_le no.2.1, fun y hy => no.2.2 y (List.filter_sublist.subset hy)⟩
theorem some_ok {c a : List Sect} {n : Net} {t : ByteArray} (co : catOk c) (h : findK c (outL n t) [] = some a) : catOk a := by
  have hs := (find_in h).1;have hl : a.length <= c.length := by
    have h1 := nodup_len (a.map Sect.name) (c.map Sect.name) hs.2 fun x hx => by
      obtain ⟨s, hs2, rfl⟩ := List.mem_map.1 hx;exact List.mem_map_of_mem (hs.1 s hs2)
    rw [List.length_map, List.length_map] at h1;exact h1
  exact ⟨Nat.le_trans hl co.1, fun s hs2 => co.2 s (hs.1 s hs2)⟩
theorem dup_nodup {l : List ByteArray} : dupB l = false ↔ l.Nodup := by
  unfold dupB;rw [List.nodup_iff_pairwise_ne, List.pairwise_iff_getElem, List.any_eq_false];constructor
  · intro h i j hi hj hij e;refine h j (List.mem_range.2 hj) ?_;rw [hasB_mem, getD_is hj, <- e];rw [List.mem_take_iff_getElem];exact ⟨i, by omega, rfl⟩
  · intro h j hj hc;have hj := List.mem_range.1 hj;rw [hasB_mem, getD_is hj, List.mem_take_iff_getElem] at hc;obtain ⟨i, hi, e⟩ := hc;exact h i j (by omega) hj (by omega) e
theorem rulesB_sub {l k : List Rule} (h : rulesB l = true) (hs : k.Sublist l) : rulesB k = true := by
  have hl := hs.length_le;have hall := rules_in h;unfold rulesB at h ⊢;simp only [Bool.and_eq_true, decide_eq_true_eq, Bool.not_eq_true'] at h ⊢;refine ⟨⟨by omega, List.all_eq_true.2 fun r hr => hall r (hs.subset hr)⟩, ?_⟩;rw [dup_nodup] at h ⊢;exact List.Pairwise.sublist (hs.map Rule.name) h.2
theorem rulOk_sub {l k : List Rule} (h : rulOk l) (hs : k.Sublist l) : rulOk k :=
  ⟨Nat.le_trans hs.length_le h.1, fun r hr => h.2 r (hs.subset hr)⟩
theorem netOk_sub {n : Net} {ls : List Link} (h : netOk n) (hs : ls.Sublist n.links) : netOk ⟨n.nodes, ls⟩ :=
  ⟨h.1, Nat.le_trans hs.length_le h.2.1, fun y hy => h.2.2 y (hs.subset hy)⟩
theorem less_tank {n : Net} {c a : List Sect} {l k : List Rule} {t : ByteArray} (K : TankIn n c l t a) {ls : List Link} (hs : ls.Sublist n.links) (hk : k.Sublist l) (hr : ∀ r, r ∈ k -> 0 <= linkIx ls r.lnk) : ∃ b, TankIn ⟨n.nodes, ls⟩ c k t b := by
  have ht := tankE_in K.te;have e1 : k.all (knownR ⟨n.nodes, ls⟩) = true := by
    rw [List.all_eq_true];intro r h;have h1 := List.all_eq_true.1 ht.1 r (hk.subset h);rw [knownR_eq, Bool.and_eq_true] at h1 ⊢;exact ⟨decide_eq_true (hr r h), h1.2⟩
  have e2 : (outL ⟨n.nodes, ls⟩ t).Sublist (outL n t) := hs.filter _;cases hf : findK c (outL ⟨n.nodes, ls⟩ t) [] with
  | none =>
    obtain ⟨x, hx, hkn⟩ := findK_none hf;rw [K.kn x (e2.subset hx)] at hkn;cases hkn
  | some b =>
    refine ⟨b, netOk_sub K.no hs, K.co, rulOk_sub K.lo hk, (netB_iff _).2 (part_in K.ni (part_links K.ni hs)), K.cb, rulesB_sub K.rb hk, ?_, hf⟩;unfold tankE;rw [e1, if_neg (by decide)];show (if nodeIx n.nodes t < 0 then (9 : Int) else if ¬ ((nodeA n t).kind = 2 /\ (nodeA n t).prot = true) then 11 else if 20000 < (nodeA n t).gnd - (nodeA n t).inv then 5 else 0) = 0;rw [if_neg (by omega), if_neg (by rw [Decidable.not_not]; exact ⟨ht.2.2.1, ht.2.2.2.1⟩), if_neg (by omega)]
theorem leaves_zero {qs : List Int} {sec : Int} (hs : 0 <= sec) (h : ∀ q, q ∈ qs -> 0 <= q) : 0 <= leavesI qs sec := (leaves_in sec hs qs h).1
def mostS (n : Net) (c : List Sect) (l : List Rule) (t : ByteArray) (v sec : Int) : Int := leavesI (flowsS n c t (setsS l n t v) v) sec
theorem one_tank {n : Net} {c a : List Sect} {l : List Rule} {t : ByteArray} (K : TankIn n c l t a) {x : Link} (hx : x ∈ outL n t) : ∃ b, TankIn (oneN n t x.name) c (l.filter fun r => decide (r.lnk = x.name)) t b := by
  have hm : x ∈ (oneN n t x.name).links := by
    have := List.mem_filter.1 hx;exact List.mem_filter.2 ⟨this.1, by simp⟩
  refine less_tank K List.filter_sublist List.filter_sublist fun r hr => ?_
  have e := of_decide_eq_true (List.mem_filter.1 hr).2;exact idx_pos hm (decide_eq_true e.symm)
end Go.Proofs.YtdhcpkeldpadlaaGreat
