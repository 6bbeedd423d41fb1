/-
  SimulateOrderSaid: for every input the statement of the program returns true, and its arguments read as before.
  No condition.
-/
import Derived.Test.YthacnhidipeckaaGreatCZN
import Derived.Test.YthacnhidipeckaaGreatCZEZFZ9
import Derived.Test.YthacnhidipeckaaGreatCY6T21L14Y7Y11
import Derived.Test.YthacnhidipeckaaGreatEngV
import Derived.Test.YthacnhidipeckaaGreatRows
namespace Go.Proofs.YthacnhidipeckaaGreat
open Go.Eng
set_option linter.all false

attribute [local irreducible] PT
theorem simorder_law (xss : List (List PV)) (h : PTs Tryz.prog 8 Tryz.f7.params.toList xss) : DCalls Tryz.prog 7 (dvTs Tryz.prog Tryz.f7.params.toList xss) (hget []) 0 (lb true) (hget []) := by
  rw [Tryz.params7] at h ⊢
  obtain ⟨a0, _, rfl, h0, a1, _, rfl, h1, a2, _, rfl, h2, a3, _, rfl, h3, a4, _, rfl, h4, a5, _, rfl, h5, rfl⟩ := h
  obtain ⟨x0, rfl, k0⟩ := pt_net (n := 2) h0
  obtain ⟨x1, rfl, k1⟩ := pt_sects (n := 3) h1
  obtain ⟨x2, rfl, k2⟩ := pt_sta (n := 5) h2
  obtain ⟨x3, rfl, k3⟩ := pt_infls (n := 4) h3
  obtain ⟨x4, rfl, k4⟩ := pt_int (n := 7) h4
  obtain ⟨x5, rfl, k5⟩ := pt_u8 (n := 7) h5
  show DCalls Tryz.prog 7 [dvT Tryz.prog 25 (netP x0), dvT Tryz.prog 26 [.dat 5 (x1.map sectP)], dvT Tryz.prog 30 (staP x2), dvT Tryz.prog 62 [.dat 2 (x3.map inflP)], dvT Tryz.prog 3 [.lit (.int .i64 x4)], dvT Tryz.prog 5 [.lit (.int .u8 x5)]] (hget []) 0 (lb true) (hget [])
  rw [dv_net, dv_sects, dv_sta, dv_infls, dv_int, dv_u8]
  exact simorder_f x0 x1 x2 x3 x4 x5 0 k0 k1 k2 k3 k5
set_option maxRecDepth 100000 in
theorem simorder_lifted (os : Os) (started : os.Started) (H : Type) (enc : TypeId × Value → H) :
    ReturnsInHanded {} Tryz.checked os 7 .any (Rows.simulateOrderSpec.pre6 enc Tryz.prog Tryz.f7 Rows.simulateOrderRow.domain false) (Rows.simulateOrderSpec.post enc Tryz.prog Tryz.f7 false true false false) :=
  law_returns (C := Tryz.checked) (n := 8) (tb := 4) own54 started (by kernel_rfl) Tryz.func7 laid54 rfl Tryz.underlying4 rfl (by kernel_rfl)
    (fun ds h => by match ds, h with | [_, _, _, _, _, _], _ => exact ⟨rfl, rfl, rfl⟩) simorder_law
    (ChangeSpec.witness6 (enc := enc) (C := Tryz.checked) false ⟨#[], #[.agg #[.slice none 0 0, .slice none 0 0], .slice none 0 0, .agg #[.slice none 0 0, .slice none 0 0, .slice none 0 0, .slice none 0 0], .slice none 0 0, .int .i64 0, .int .u8 0], []⟩ 8 (by kernel_rfl) (by kernel_rfl) (by kernel_rfl) (by kernel_rfl))
theorem simorder_closed : joinedFacts Tryz.pinned.checked.prog 7 Tryz.f7 Rows.simulateOrderSpec Rows.simulateOrderRow = true := by kernel_rfl
theorem simorder_holds : Rows.SimulateOrderSaid :=
  OpenClaim.holds_of_wide 7 Tryz.f7 rfl rfl rfl rfl rfl rfl rfl ⟨rfl, rfl, rfl, rfl, rfl⟩ rfl rfl rfl rfl rfl (by kernel_rfl) Tryz.func7 simorder_closed
    (of_decide_eq_true (by kernel_rfl)) (by unfold Func.isWrapper; first | (rw [if_pos (by decide +kernel)]; kernel_rfl) | (rw [if_neg (by decide +kernel)]; exact ⟨rfl, rfl⟩))
    (fun os started H enc _ => simorder_lifted os started H enc)

end Go.Proofs.YthacnhidipeckaaGreat
