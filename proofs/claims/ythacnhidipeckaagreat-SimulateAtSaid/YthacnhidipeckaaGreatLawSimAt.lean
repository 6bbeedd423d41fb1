/-
  SimulateAtSaid: for every input the statement of the program returns true, and its arguments read as before.
  No condition.
-/
import Derived.Test.YthacnhidipeckaaGreatCZH
import Derived.Test.YthacnhidipeckaaGreatCZEZFZ9
import Derived.Test.YthacnhidipeckaaGreatCY6T21L14Y7Y11
import Derived.Test.YthacnhidipeckaaGreatEngV
import Derived.Test.YthacnhidipeckaaGreatRows
namespace Go.Proofs.YthacnhidipeckaaGreat
open Go.Eng
set_option linter.all false

attribute [local irreducible] PT
theorem simat_law (xss : List (List PV)) (h : PTs Tryz.prog 8 Tryz.f5.params.toList xss) : DCalls Tryz.prog 5 (dvTs Tryz.prog Tryz.f5.params.toList xss) (hget []) 0 (lb true) (hget []) := by
  rw [Tryz.params5] at h ⊢
  obtain ⟨a0, _, rfl, h0, a1, _, rfl, h1, a2, _, rfl, h2, rfl⟩ := h
  obtain ⟨x0, rfl, k0⟩ := pt_infls (n := 4) h0
  obtain ⟨x1, rfl, k1⟩ := pt_strs (n := 6) h1
  obtain ⟨x2, rfl, k2⟩ := pt_int (n := 7) h2
  show DCalls Tryz.prog 5 [dvT Tryz.prog 62 [.dat 2 (x0.map inflP)], dvT Tryz.prog 63 [.dat 1 (x1.map strRow)], dvT Tryz.prog 3 [.lit (.int .i64 x2)]] (hget []) 0 (lb true) (hget [])
  rw [dv_infls, dv_strs, dv_int]
  exact lawAt_f x0 x1 x2 0 k0 k1.1
set_option maxRecDepth 100000 in
theorem simat_lifted (os : Os) (started : os.Started) (H : Type) (enc : TypeId × Value → H) :
    ReturnsInHanded {} Tryz.checked os 5 .any (Rows.simulateAtSpec.pre6 enc Tryz.prog Tryz.f5 Rows.simulateAtRow.domain false) (Rows.simulateAtSpec.post enc Tryz.prog Tryz.f5 false true false false) :=
  law_returns (C := Tryz.checked) (n := 8) (tb := 4) own54 started (by kernel_rfl) Tryz.func5 laid54 rfl Tryz.underlying4 rfl (by kernel_rfl)
    (fun ds h => by match ds, h with | [_, _, _], _ => exact ⟨rfl, rfl, rfl⟩) simat_law
    (ChangeSpec.witness6 (enc := enc) (C := Tryz.checked) false ⟨#[], #[.slice none 0 0, .slice none 0 0, .int .i64 0], []⟩ 8 (by kernel_rfl) (by kernel_rfl) (by kernel_rfl) (by kernel_rfl))
theorem simat_holds : Rows.SimulateAtSaid :=
  OpenClaim.holds_of_wide 5 Tryz.f5 rfl rfl rfl rfl rfl rfl rfl ⟨rfl, rfl, rfl, rfl, rfl⟩ rfl rfl rfl rfl rfl (by kernel_rfl) Tryz.func5 (by kernel_rfl)
    (of_decide_eq_true (by kernel_rfl)) (by unfold Func.isWrapper; first | (rw [if_pos (by decide +kernel)]; kernel_rfl) | (rw [if_neg (by decide +kernel)]; exact ⟨rfl, rfl⟩))
    (fun os started H enc _ => simat_lifted os started H enc)

end Go.Proofs.YthacnhidipeckaaGreat
