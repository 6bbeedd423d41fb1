/-
  SimulateLevelsSaid: for every input the statement of the program returns true, and its arguments read as before.
  No condition.
-/
import Derived.Test.YthacnhidipeckaaGreatCZPZT
import Derived.Test.YthacnhidipeckaaGreatCZEZFZ9
import Derived.Test.YthacnhidipeckaaGreatCY6T21L14Y7Y11
import Derived.Test.YthacnhidipeckaaGreatEngV
import Derived.Test.YthacnhidipeckaaGreatRows
namespace Go.Proofs.YthacnhidipeckaaGreat
open Go.Eng
set_option linter.all false

attribute [local irreducible] PT
theorem simlevels_law (xss : List (List PV)) (h : PTs Tryz.prog 8 Tryz.f9.params.toList xss) : DCalls Tryz.prog 9 (dvTs Tryz.prog Tryz.f9.params.toList xss) (hget []) 0 (lb true) (hget []) := by
  rw [Tryz.params9] at h ⊢
  obtain ⟨a0, _, rfl, h0, a1, _, rfl, h1, rfl⟩ := h
  obtain ⟨x0, rfl, k0⟩ := pt_net (n := 2) h0
  obtain ⟨x1, rfl, k1⟩ := pt_stas (n := 4) h1
  show DCalls Tryz.prog 9 [dvT Tryz.prog 25 (netP x0), dvT Tryz.prog 72 [.dat 4 (x1.map staP)]] (hget []) 0 (lb true) (hget [])
  rw [dv_net, dv_stas]
  exact simlevels_f x0 x1 0 k0 k1
set_option maxRecDepth 100000 in
theorem simlevels_lifted (os : Os) (started : os.Started) (H : Type) (enc : TypeId × Value → H) :
    ReturnsInHanded {} Tryz.checked os 9 .any (Rows.simulateLevelsSpec.pre6 enc Tryz.prog Tryz.f9 Rows.simulateLevelsRow.domain false) (Rows.simulateLevelsSpec.post enc Tryz.prog Tryz.f9 false true false false) :=
  law_returns (C := Tryz.checked) (n := 8) (tb := 4) own54 started (by kernel_rfl) Tryz.func9 laid54 rfl Tryz.underlying4 rfl (by kernel_rfl)
    (fun ds h => by match ds, h with | [_, _], _ => exact ⟨rfl, rfl, rfl⟩) simlevels_law
    (ChangeSpec.witness6 (enc := enc) (C := Tryz.checked) false ⟨#[], #[.agg #[.slice none 0 0, .slice none 0 0], .slice none 0 0], []⟩ 8 (by kernel_rfl) (by kernel_rfl) (by kernel_rfl) (by kernel_rfl))
theorem simlevels_closed : joinedFacts Tryz.pinned.checked.prog 9 Tryz.f9 Rows.simulateLevelsSpec Rows.simulateLevelsRow = true := by kernel_rfl
theorem simlevels_holds : Rows.SimulateLevelsSaid :=
  OpenClaim.holds_of_wide 9 Tryz.f9 rfl rfl rfl rfl rfl rfl rfl ⟨rfl, rfl, rfl, rfl, rfl⟩ rfl rfl rfl rfl rfl (by kernel_rfl) Tryz.func9 simlevels_closed
    (of_decide_eq_true (by kernel_rfl)) (by unfold Func.isWrapper; first | (rw [if_pos (by decide +kernel)]; kernel_rfl) | (rw [if_neg (by decide +kernel)]; exact ⟨rfl, rfl⟩))
    (fun os started H enc _ => simlevels_lifted os started H enc)

end Go.Proofs.YthacnhidipeckaaGreat
