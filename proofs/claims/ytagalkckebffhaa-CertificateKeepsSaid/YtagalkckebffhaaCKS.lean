/-
  Contracts of functions of the program, over the engine.
  No condition.
-/
import Derived.Test.YtagalkckebffhaaCC0
namespace Go.Proofs.Ytagalkckebffhaa
open Go.Eng
set_option linter.all false
attribute [local irreducible] DCallsG SWp Fct CallQ XCallQ LCallQ XLCallQ drun xrun

def Stop (p : Prop) : Prop := p
theorem stop_in {p : Prop} (h : Stop p) : p := h
theorem stop_out {p : Prop} (h : p) : Stop p := h
attribute [irreducible] Stop
section
open Go.Eng
variable {P : Program} {N pin nx : Nat}
def midK (L K : List Nat) (M : LE → LH → Prop) (Q : Exit → LE → LH → Nat → Prop) : Exit → LE → LH → Nat → Prop := fun e A H nx =>
  match e with
  | .normal => M (ekeep A L) (hkeep H K)
  | e => Q e A H nx
theorem midK_normal {L K : List Nat} {M : LE → LH → Prop} {Q : Exit → LE → LH → Nat → Prop} {A A2 : LE} {H H2 : LH} (hA : ekeep A L = A2) (hH : hkeep H K = H2) (h : M A2 H2) : midK L K M Q .normal A H nx := by subst hA hH; exact h
theorem midK_ret {L K : List Nat} {M : LE → LH → Prop} {Q : Exit → LE → LH → Nat → Prop} {A : LE} {H : LH} (h : Q .ret A H nx) : midK L K M Q .ret A H nx := h
theorem midK_exit {L K : List Nat} {M : LE → LH → Prop} {Q : Exit → LE → LH → Nat → Prop} {A : LE} {H : LH} {i : Nat} (h : Q (.exit i) A H nx) : midK L K M Q (.exit i) A H nx := h
theorem swp_mid {x y : Code} {Q : Exit → LE → LH → Nat → Prop} {A : LE} {H : LH} (L K : List Nat) (n0 : Nat) (M : LE → LH → Prop) (hp : pin ≤ n0) (hI : ∀ A H, M A H → usesA n0 A ∧ usesH n0 H)
    (h1 : SWp P N pin x (midK L K M Q) A H nx) (h2 : ∀ A H, M A H → SWp P N pin y Q A H n0) : SWp P N pin (.seq x y) Q A H nx := by
  unfold SWp at h1 h2 ⊢
  intro hp1 B hB a w hS
  refine wp_seq (wp_mono (h1 hp1 B hB a w hS) fun e a' w' ⟨A', H', nx', k1, k2, k3⟩ => ?_)
  cases e with
  | normal =>
    have u := hI _ _ k3
    exact h2 _ _ k3 hp B hB a' w' (k2.reset L K u.1 u.2)
  | _ => exact ⟨A', H', nx', k1, k2, k3⟩
end
attribute [irreducible] midK

end Go.Proofs.Ytagalkckebffhaa
