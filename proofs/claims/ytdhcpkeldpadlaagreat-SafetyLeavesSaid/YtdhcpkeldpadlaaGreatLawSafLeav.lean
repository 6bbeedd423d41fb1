/-
  SafetyLeavesSaid: for every input the statement of the program returns true, and its arguments read as before.
  No condition.
-/
import Derived.Test.YtdhcpkeldpadlaaGreatCV4
import Derived.Test.YtdhcpkeldpadlaaGreatCU1
import Derived.Test.YtdhcpkeldpadlaaGreatCV0
import Derived.Test.YtdhcpkeldpadlaaGreatEngV
import Derived.Test.YtdhcpkeldpadlaaGreatRows
namespace Go.Proofs.YtdhcpkeldpadlaaGreat
open Go.Eng
set_option linter.all false

attribute [local irreducible] PT
theorem safleav_law (xss : List (List PV)) (h : PTs Tryz.prog 8 Tryz.f3.params.toList xss) : DCalls Tryz.prog 3 (dvTs Tryz.prog Tryz.f3.params.toList xss) (hget []) 0 (lb true) (hget []) := by
  rw [Tryz.params3] at h ⊢
  obtain ⟨a0, _, rfl, h0, a1, _, rfl, h1, a2, _, rfl, h2, a3, _, rfl, h3, a4, _, rfl, h4, a5, _, rfl, h5, a6, _, rfl, h6, rfl⟩ := h
  obtain ⟨x0, rfl, k0⟩ := pt_net (n := 2) h0
  obtain ⟨x1, rfl, k1⟩ := pt_sects (n := 3) h1
  obtain ⟨x2, rfl, k2⟩ := pt_rules (n := 3) h2
  obtain ⟨x3, rfl, k3⟩ := pt_str (n := 7) h3
  obtain ⟨x4, rfl, k4⟩ := pt_int (n := 7) h4
  obtain ⟨x5, rfl, k5⟩ := pt_int (n := 7) h5
  obtain ⟨x6, rfl, k6⟩ := pt_int (n := 7) h6
  show DCalls Tryz.prog 3 [dvT Tryz.prog 25 (netP x0), dvT Tryz.prog 26 [.dat 5 (x1.map sectP)], dvT Tryz.prog 27 [.dat 4 (x2.map ruleP)], dvT Tryz.prog 9 [.lit (.string x3)], dvT Tryz.prog 3 [.lit (.int .i64 x4)], dvT Tryz.prog 3 [.lit (.int .i64 x5)], dvT Tryz.prog 3 [.lit (.int .i64 x6)]] (hget []) 0 (lb true) (hget [])
  simp only [dv_net, dv_sects, dv_rules, dv_str, dv_int]
  exact safleav_f x0 x1 x2 x3 x4 x5 x6 0 k0 k1 k2 k3 k4 k5 k6
set_option maxRecDepth 100000 in
theorem safleav_lifted (os : Os) (started : os.Started) (H : Type) (enc : TypeId × Value → H) :
    ReturnsInHanded {} Tryz.checked os 3 .any (Rows.safetyLeavesSpec.pre6 enc Tryz.prog Tryz.f3 Rows.safetyLeavesRow.domain false) (Rows.safetyLeavesSpec.post enc Tryz.prog Tryz.f3 false true false false) :=
  law_returns (C := Tryz.checked) (n := 8) (tb := 4) own54 started (by kernel_rfl) Tryz.func3 laid54 rfl Tryz.underlying4 rfl (by kernel_rfl)
    (fun ds h => by match ds, h with | [_, _, _, _, _, _, _], _ => exact ⟨rfl, rfl, rfl⟩) safleav_law
    (ChangeSpec.witness6 (enc := enc) (C := Tryz.checked) false ⟨#[], #[.agg #[.slice none 0 0, .slice none 0 0], .slice none 0 0, .slice none 0 0, .string ⟨#[]⟩, .int .i64 0, .int .i64 0, .int .i64 0], []⟩ 8 (by kernel_rfl) (by kernel_rfl) (by kernel_rfl) (by kernel_rfl))
theorem safleav_closed : joinedFacts Tryz.pinned.checked.prog 3 Tryz.f3 Rows.safetyLeavesSpec Rows.safetyLeavesRow = true := by kernel_rfl
theorem safleav_holds : Rows.SafetyLeavesSaid :=
  OpenClaim.holds_of_wide 3 Tryz.f3 rfl rfl rfl rfl rfl rfl rfl ⟨rfl, rfl, rfl, rfl, rfl⟩ rfl rfl rfl rfl rfl (by kernel_rfl) Tryz.func3 safleav_closed
    (of_decide_eq_true (by kernel_rfl)) (by unfold Func.isWrapper; first | (rw [if_pos (by decide +kernel)]; kernel_rfl) | (rw [if_neg (by decide +kernel)]; exact ⟨rfl, rfl⟩))
    (fun os started H enc _ => safleav_lifted os started H enc)

end Go.Proofs.YtdhcpkeldpadlaaGreat
