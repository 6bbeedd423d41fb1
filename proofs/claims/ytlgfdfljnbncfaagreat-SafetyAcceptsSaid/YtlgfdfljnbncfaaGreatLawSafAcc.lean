/-
  SafetyAcceptsSaid: for every input the statement of the program returns true, and its arguments read as before.
  No condition.
-/
import Derived.Test.YtlgfdfljnbncfaaGreatCSZ4
import Derived.Test.YtlgfdfljnbncfaaGreatCU1
import Derived.Test.YtlgfdfljnbncfaaGreatCU0
import Derived.Test.YtlgfdfljnbncfaaGreatEngV
import Derived.Test.YtlgfdfljnbncfaaGreatRows
namespace Go.Proofs.YtlgfdfljnbncfaaGreat
open Go.Eng
set_option linter.all false

attribute [local irreducible] PT
theorem safacc_law (xss : List (List PV)) (h : PTs Tryz.prog 8 Tryz.f6.params.toList xss) : DCalls Tryz.prog 6 (dvTs Tryz.prog Tryz.f6.params.toList xss) (hget []) 0 (lb true) (hget []) := by
  rw [Tryz.params6] at h ⊢
  obtain ⟨a0, _, rfl, h0, a1, _, rfl, h1, a2, _, rfl, h2, a3, _, rfl, h3, a4, _, rfl, h4, rfl⟩ := h
  obtain ⟨x0, rfl, k0⟩ := pt_net (n := 2) h0
  obtain ⟨x1, rfl, k1⟩ := pt_sects (n := 3) h1
  obtain ⟨x2, rfl, k2⟩ := pt_rules (n := 3) h2
  obtain ⟨x3, rfl, k3⟩ := pt_str (n := 7) h3
  obtain ⟨x4, rfl, k4⟩ := pt_int (n := 7) h4
  show DCalls Tryz.prog 6 [dvT Tryz.prog 25 (netP x0), dvT Tryz.prog 26 [.dat 5 (x1.map sectP)], dvT Tryz.prog 27 [.dat 4 (x2.map ruleP)], dvT Tryz.prog 9 [.lit (.string x3)], dvT Tryz.prog 3 [.lit (.int .i64 x4)]] (hget []) 0 (lb true) (hget [])
  rw [dv_net, dv_sects, dv_rules, dv_str, dv_int]
  exact safacc_f x0 x1 x2 x3 x4 0 k0 k1 k2 k3
set_option maxRecDepth 100000 in
theorem safacc_lifted (os : Os) (started : os.Started) (H : Type) (enc : TypeId × Value → H) :
    ReturnsInHanded {} Tryz.checked os 6 .any (Rows.safetyAcceptsSpec.pre6 enc Tryz.prog Tryz.f6 Rows.safetyAcceptsRow.domain false) (Rows.safetyAcceptsSpec.post enc Tryz.prog Tryz.f6 false true false false) :=
  law_returns (C := Tryz.checked) (n := 8) (tb := 4) own54 started (by kernel_rfl) Tryz.func6 laid54 rfl Tryz.underlying4 rfl (by kernel_rfl)
    (fun ds h => by match ds, h with | [_, _, _, _, _], _ => exact ⟨rfl, rfl, rfl⟩) safacc_law
    (ChangeSpec.witness6 (enc := enc) (C := Tryz.checked) false ⟨#[], #[.agg #[.slice none 0 0, .slice none 0 0], .slice none 0 0, .slice none 0 0, .string ⟨#[]⟩, .int .i64 0], []⟩ 8 (by kernel_rfl) (by kernel_rfl) (by kernel_rfl) (by kernel_rfl))
theorem safacc_closed : joinedFacts Tryz.pinned.checked.prog 6 Tryz.f6 Rows.safetyAcceptsSpec Rows.safetyAcceptsRow = true := by kernel_rfl
theorem safacc_holds : Rows.SafetyAcceptsSaid :=
  OpenClaim.holds_of_wide 6 Tryz.f6 rfl rfl rfl rfl rfl rfl rfl ⟨rfl, rfl, rfl, rfl, rfl⟩ rfl rfl rfl rfl rfl (by kernel_rfl) Tryz.func6 safacc_closed
    (of_decide_eq_true (by kernel_rfl)) (by unfold Func.isWrapper; first | (rw [if_pos (by decide +kernel)]; kernel_rfl) | (rw [if_neg (by decide +kernel)]; exact ⟨rfl, rfl⟩))
    (fun os started H enc _ => safacc_lifted os started H enc)

end Go.Proofs.YtlgfdfljnbncfaaGreat
