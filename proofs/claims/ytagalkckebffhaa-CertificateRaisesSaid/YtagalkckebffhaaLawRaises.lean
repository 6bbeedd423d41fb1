/-
  CertificateRaises: for every input the statement of the program returns true, and its arguments read as before.
  No condition.
-/
import Derived.Test.YtagalkckebffhaaCR13
import Derived.Test.YtagalkckebffhaaCC18
import Derived.Test.YtagalkckebffhaaEngV
import Derived.Test.YtagalkckebffhaaRows
namespace Go.Proofs.Ytagalkckebffhaa
open Go.Eng
set_option linter.all false

attribute [local irreducible] PT
theorem raises_law (xss : List (List PV)) (h : PTs Try.prog 8 Try.f6.params.toList xss) : DCalls Try.prog 6 (dvTs Try.prog Try.f6.params.toList xss) (hget []) 0 (lb true) (hget []) := by
  rw [Try.params6] at h ⊢
  obtain ⟨a, _, rfl, ha, b, _, rfl, hb, c, _, rfl, hc, rfl⟩ := h
  obtain ⟨x, rfl, hx⟩ := pt_plan (n := 4) ha
  obtain ⟨y, rfl, hy⟩ := pt_rows (n := 5) hb
  obtain ⟨z, rfl, hz⟩ := pt_ints (n := 6) hc
  show DCalls Try.prog 6 [dvT Try.prog 26 (planP x), dvT Try.prog 27 [.dat 1 (y.map ilRow)], dvT Try.prog 22 [.dat 1 (z.map inRow)]] (hget []) 0 (lb true) (hget [])
  rw [dv_plan, dv_rows, dv_ints]
  exact raises_f x y z 0 hx hy hz.1
set_option maxRecDepth 100000 in
theorem raises_lifted (os : Os) (started : os.Started) (H : Type) (enc : TypeId × Value → H) :
    ReturnsInHanded {} Try.checked os 6 .any (Rows.certificateRaisesSpec.pre6 enc Try.prog Try.f6 Rows.certificateRaisesRow.domain false) (Rows.certificateRaisesSpec.post enc Try.prog Try.f6 false true false false) :=
  law_returns (C := Try.checked) (n := 8) (tb := 4) own54 started (by kernel_rfl) Try.func6 laid54 rfl Try.underlying4 rfl (by kernel_rfl)
    (fun ds h => by match ds, h with | [_, _, _], _ => exact ⟨rfl, rfl, rfl⟩) raises_law
    (ChangeSpec.witness6 (enc := enc) (C := Try.checked) false ⟨#[], #[.agg #[.int .i64 0, .int .i64 0, .int .i64 0, .slice none 0 0, .slice none 0 0, .slice none 0 0, .int .i64 0], .slice none 0 0, .slice none 0 0], []⟩ 8 (by kernel_rfl) (by kernel_rfl) (by kernel_rfl) (by kernel_rfl))
theorem raises_holds : Rows.CertificateRaisesSaid :=
  OpenClaim.holds_of_wide 6 Try.f6 rfl rfl rfl rfl rfl rfl rfl ⟨rfl, rfl, rfl, rfl, rfl⟩ rfl rfl rfl rfl rfl (by kernel_rfl) Try.func6 (by kernel_rfl)
    (of_decide_eq_true (by kernel_rfl)) (by unfold Func.isWrapper; first | (rw [if_pos (by decide +kernel)]; kernel_rfl) | (rw [if_neg (by decide +kernel)]; exact ⟨rfl, rfl⟩))
    (fun os started H enc _ => raises_lifted os started H enc)

end Go.Proofs.Ytagalkckebffhaa
