/-
  Contracts of functions of the program, over the engine.
  No condition.
-/
import Derived.Test.YtlbadfjonhgppaaCT17
import Derived.Test.YtlbadfjonhgppaaCT17b
import Derived.Test.YtlbadfjonhgppaaCT17c
import Derived.Test.YtlbadfjonhgppaaCT20
namespace Go.Proofs.Ytlbadfjonhgppaa
open Go.Eng
set_option linter.all false
attribute [local irreducible] DCallsG SWp Fct CallQ XCallQ LCallQ XLCallQ drun xrun

theorem settles_f (n : Net) (s : Sta) (k : Int) (l : List Int) (m : Nat) (hn : netOk n) (hs : staOk s) (hl : l.length ≤ 281474976710656) : DCalls Try.prog 3 [netD n, staD s, li k, ints l] (hget []) m (lb true) (hget []) := by
  cases hL : largeB n with
  | true => exact settlesL_f n s k l m hn hs hl hL awake_f
  | false =>
  cases hG : longB s [l] with
  | true => exact settlesG_f n s k l m hn hs hl hL hG awake_f
  | false =>
  have eS := fun m => settleX_f n s m hn hs
  have eP := fun m => ponded_f n s m hn hs
  have key : ∃ (T : Sta) (Z E : Int) (W : List ByteArray) (F : Int), (∀ m, DCalls Try.prog 7 [netD n, staD s] (hget []) m (.tup [staD T, li Z, li E]) (hget [])) ∧ (∀ m, DCalls Try.prog 8 [netD n, staD s] (hget []) m (.tup [strs W, li F]) (hget [])) ∧ TailS n s T Z E W F := by
    cases hv : netB n with
    | false =>
      simp only [hv, Bool.false_and, Bool.false_eq_true, if_false] at eS eP
      exact ⟨_, _, _, _, _, eS, eP, tail1_f n s hn hv⟩
    | true =>
    cases hb : staB n s with
    | false =>
      simp only [hb, Bool.and_false, Bool.false_eq_true, if_false] at eS eP
      exact ⟨_, _, _, _, _, eS, eP, tail2_f n s hn hs hv hb⟩
    | true =>
      have hSS := hS_same hv hb
      have eqU : stS n s = ⟨vS n (heldL s), pS n (heldL s), s.set, s.on⟩ := by unfold stS; rw [hSS]
      simp only [hv, hb, Bool.and_self, if_true, eqU, hSS] at eS eP
      exact ⟨_, _, _, _, _, eS, eP, tail3_f n s hn hs hv hb⟩
  obtain ⟨T, Z, E, W, F, eS, eP, tail⟩ := key
  cases hv : netB n with
  | false => exact head1_f n s k l m hn hs hl hL hG hv T Z E W F eS eP tail awake_f
  | true =>
  by_cases k1 : k < 0
  · exact head21_f n s k l m hn hs hl hL hG hv k1 T Z E W F eS eP tail awake_f
  by_cases k2 : (n.nodes.length : Int) ≤ k
  · exact head22_f n s k l m hn hs hl hL hG hv k1 k2 T Z E W F eS eP tail awake_f
  by_cases k3 : l.length = n.links.length
  · cases k4 : rangB l 9007199254740992 with
    | true => exact head20_f n s k l m hn hs hl hL hG hv k1 k2 k3 k4 T Z E W F eS eP tail awake_f
    | false => exact head24_f n s k l m hn hs hl hL hG hv k1 k2 k3 k4 T Z E W F eS eP tail awake_f
  · exact head23_f n s k l m hn hs hl hL hG hv k1 k2 k3 T Z E W F eS eP tail awake_f

end Go.Proofs.Ytlbadfjonhgppaa
