/-
  CertificateBounds: for every input the statement of the program returns true, and its arguments read as before.
  No condition.
-/
import Derived.Test.YtagalkckebffhaaCS11
import Derived.Test.YtagalkckebffhaaCC18
import Derived.Test.YtagalkckebffhaaEngV
import Derived.Test.YtagalkckebffhaaRows
namespace Go.Proofs.Ytagalkckebffhaa
open Go.Eng
set_option linter.all false

attribute [local irreducible] PT
theorem bounds_law (xss : List (List PV)) (h : PTs Try.prog 8 Try.f3.params.toList xss) : DCalls Try.prog 3 (dvTs Try.prog Try.f3.params.toList xss) (hget []) 0 (lb true) (hget []) := by
  rw [Try.params3] at h ⊢
  obtain ⟨a, _, rfl, ha, b, _, rfl, hb, c, _, rfl, hc, rfl⟩ := h
  obtain ⟨x, rfl, hx⟩ := pt_plan (n := 4) ha
  obtain ⟨y, rfl, hy⟩ := pt_rows (n := 5) hb
  obtain ⟨z, rfl, hz⟩ := pt_bytes (n := 6) hc
  show DCalls Try.prog 3 [dvT Try.prog 26 (planP x), dvT Try.prog 27 [.dat 1 (y.map ilRow)], dvT Try.prog 28 [.dat 1 (z.map byRow)]] (hget []) 0 (lb true) (hget [])
  rw [dv_plan, dv_rows, dv_bytes]
  exact bounds_f x y z 0 hx hy hz
set_option maxRecDepth 100000 in
theorem bounds_lifted (os : Os) (started : os.Started) (H : Type) (enc : TypeId × Value → H) :
    ReturnsInHanded {} Try.checked os 3 .any (Rows.certificateBoundsSpec.pre6 enc Try.prog Try.f3 Rows.certificateBoundsRow.domain false) (Rows.certificateBoundsSpec.post enc Try.prog Try.f3 false true false false) :=
  law_returns (C := Try.checked) (n := 8) (tb := 4) own54 started (by kernel_rfl) Try.func3 laid54 rfl Try.underlying4 rfl (by kernel_rfl)
    (fun ds h => by match ds, h with | [_, _, _], _ => exact ⟨rfl, rfl, rfl⟩) bounds_law
    (ChangeSpec.witness6 (enc := enc) (C := Try.checked) false ⟨#[], #[.agg #[.int .i64 0, .int .i64 0, .int .i64 0, .slice none 0 0, .slice none 0 0, .slice none 0 0, .int .i64 0], .slice none 0 0, .slice none 0 0], []⟩ 8 (by kernel_rfl) (by kernel_rfl) (by kernel_rfl) (by kernel_rfl))
theorem bounds_holds : Rows.CertificateBoundsSaid :=
  OpenClaim.holds_of_wide 3 Try.f3 rfl rfl rfl rfl rfl rfl rfl ⟨rfl, rfl, rfl, rfl, rfl⟩ rfl rfl rfl rfl rfl (by kernel_rfl) Try.func3 (by kernel_rfl)
    (of_decide_eq_true (by kernel_rfl)) (by unfold Func.isWrapper; first | (rw [if_pos (by decide +kernel)]; kernel_rfl) | (rw [if_neg (by decide +kernel)]; exact ⟨rfl, rfl⟩))
    (fun os started H enc _ => bounds_lifted os started H enc)

end Go.Proofs.Ytagalkckebffhaa
