/-
  CertificateRaisedSaid: for every input the statement of the program returns true, and its arguments read as before.
  No condition.
-/
import Derived.Test.YtedocinehadodaaCC18V4
import Derived.Test.YtedocinehadodaaEngV
import Derived.Test.YtedocinehadodaaRows
namespace Go.Proofs.Ytedocinehadodaa
open Go.Eng
set_option linter.all false

attribute [local irreducible] PT
theorem raised_law (xss : List (List PV)) (h : PTs Try.prog 8 Try.f10.params.toList xss) : DCalls Try.prog 10 (dvTs Try.prog Try.f10.params.toList xss) (hget []) 0 (lb true) (hget []) := by
  rw [Try.params10] at h ⊢
  obtain ⟨a0, _, rfl, h0, a1, _, rfl, h1, rfl⟩ := h
  obtain ⟨x0, rfl, k0⟩ := pt_plan (n := 4) h0
  obtain ⟨x1, rfl, k1⟩ := pt_rows (n := 5) h1
  show DCalls Try.prog 10 [dvT Try.prog 26 (planP x0), dvT Try.prog 39 [.dat 1 (x1.map ilRow)]] (hget []) 0 (lb true) (hget [])
  rw [dv_plan, dv_rows]
  exact raised46_f x0 x1 0 k0 k1
set_option maxRecDepth 100000 in
theorem raised_lifted (os : Os) (started : os.Started) (H : Type) (enc : TypeId × Value → H) :
    ReturnsInHanded {} Try.checked os 10 .any (Rows.certificateRaisedSpec.pre6 enc Try.prog Try.f10 Rows.certificateRaisedRow.domain false) (Rows.certificateRaisedSpec.post enc Try.prog Try.f10 false true false false) :=
  law_returns (C := Try.checked) (n := 8) (tb := 4) own54 started (by kernel_rfl) Try.func10 laid54 rfl Try.underlying4 rfl (by kernel_rfl)
    (fun ds h => by match ds, h with | [_, _], _ => exact ⟨rfl, rfl, rfl⟩) raised_law
    (ChangeSpec.witness6 (enc := enc) (C := Try.checked) false ⟨#[], #[.agg #[.int .i64 0, .int .i64 0, .int .i64 0, .slice none 0 0, .slice none 0 0, .slice none 0 0, .int .i64 0], .slice none 0 0], []⟩ 8 (by kernel_rfl) (by kernel_rfl) (by kernel_rfl) (by kernel_rfl))
theorem raised_holds : Rows.CertificateRaisedSaid :=
  OpenClaim.holds_of_wide 10 Try.f10 rfl rfl rfl rfl rfl rfl rfl ⟨rfl, rfl, rfl, rfl, rfl⟩ rfl rfl rfl rfl rfl (by kernel_rfl) Try.func10 (by kernel_rfl)
    (of_decide_eq_true (by kernel_rfl)) (by unfold Func.isWrapper; first | (rw [if_pos (by decide +kernel)]; kernel_rfl) | (rw [if_neg (by decide +kernel)]; exact ⟨rfl, rfl⟩))
    (fun os started H enc _ => raised_lifted os started H enc)

end Go.Proofs.Ytedocinehadodaa
