/-
  ControlFollowsSaid: for every input the statement of the program returns true, and its arguments read as before.
  No condition.
-/
import Derived.Test.YtefkhfkapnmikaaGreatCXC
import Derived.Test.YtefkhfkapnmikaaGreatCX0
import Derived.Test.YtefkhfkapnmikaaGreatCY6T21L14Y7Y11Y9Y10Y12Y8Y14
import Derived.Test.YtefkhfkapnmikaaGreatEngV
import Derived.Test.YtefkhfkapnmikaaGreatRows
namespace Go.Proofs.YtefkhfkapnmikaaGreat
open Go.Eng
set_option linter.all false

attribute [local irreducible] PT
theorem cfollows_law (xss : List (List PV)) (h : PTs Tryz.prog 8 Tryz.f3.params.toList xss) : DCalls Tryz.prog 3 (dvTs Tryz.prog Tryz.f3.params.toList xss) (hget []) 0 (lb true) (hget []) := by
  rw [Tryz.params3] at h ⊢
  obtain ⟨a0, _, rfl, h0, a1, _, rfl, h1, rfl⟩ := h
  obtain ⟨x0, rfl, k0⟩ := pt_cas (n := 1) h0
  obtain ⟨x1, rfl, k1⟩ := pt_ints (n := 6) h1
  show DCalls Tryz.prog 3 [dvT Tryz.prog 33 (casP x0), dvT Tryz.prog 28 [.dat 1 (x1.map inRow)]] (hget []) 0 (lb true) (hget [])
  rw [dv_cas, dv_ints]
  exact cfollows_f x0 x1 0 k0 k1
set_option maxRecDepth 100000 in
theorem cfollows_lifted (os : Os) (started : os.Started) (H : Type) (enc : TypeId × Value → H) :
    ReturnsInHanded {} Tryz.checked os 3 .any (Rows.controlFollowsSpec.pre6 enc Tryz.prog Tryz.f3 Rows.controlFollowsRow.domain false) (Rows.controlFollowsSpec.post enc Tryz.prog Tryz.f3 false true false false) :=
  law_returns (C := Tryz.checked) (n := 8) (tb := 4) own54 started (by kernel_rfl) Tryz.func3 laid54 rfl Tryz.underlying4 rfl (by kernel_rfl)
    (fun ds h => by match ds, h with | [_, _], _ => exact ⟨rfl, rfl, rfl⟩) cfollows_law
    (ChangeSpec.witness6 (enc := enc) (C := Tryz.checked) false ⟨#[], #[.agg #[.slice none 0 0, .slice none 0 0, .slice none 0 0, .slice none 0 0, .slice none 0 0, .slice none 0 0, .slice none 0 0, .slice none 0 0, .int .i64 0], .slice none 0 0], []⟩ 8 (by kernel_rfl) (by kernel_rfl) (by kernel_rfl) (by kernel_rfl))
theorem cfollows_closed : joinedFacts Tryz.pinned.checked.prog 3 Tryz.f3 Rows.controlFollowsSpec Rows.controlFollowsRow = true := by kernel_rfl
theorem cfollows_holds : Rows.ControlFollowsSaid :=
  OpenClaim.holds_of_wide 3 Tryz.f3 rfl rfl rfl rfl rfl rfl rfl ⟨rfl, rfl, rfl, rfl, rfl⟩ rfl rfl rfl rfl rfl (by kernel_rfl) Tryz.func3 cfollows_closed
    (of_decide_eq_true (by kernel_rfl)) (by unfold Func.isWrapper; first | (rw [if_pos (by decide +kernel)]; kernel_rfl) | (rw [if_neg (by decide +kernel)]; exact ⟨rfl, rfl⟩))
    (fun os started H enc _ => cfollows_lifted os started H enc)

end Go.Proofs.YtefkhfkapnmikaaGreat
