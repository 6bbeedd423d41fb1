/-
  RecorderSurvives: for every input the statement of the program returns true, and its arguments read as before.
  No condition.
-/
import Derived.Test.YtkhddlhhbanebaaCa30
import Derived.Test.YtkhddlhhbanebaaEngV
import Derived.Test.YtkhddlhhbanebaaRows
namespace Go.Proofs.Ytkhddlhhbanebaa
open Go.Eng
set_option linter.all false

attribute [local irreducible] PT
theorem survives_law (xss : List (List PV)) (h : PTs Try.prog 8 Try.f7.params.toList xss) : DCalls Try.prog 7 (dvTs Try.prog Try.f7.params.toList xss) (hget []) 0 (lb true) (hget []) := by
  rw [Try.params7] at h ⊢
  obtain ⟨a, _, rfl, ha, b, _, rfl, hb, c, _, rfl, hc, d, _, rfl, hd, rfl⟩ := h
  obtain ⟨r, rfl, hr, hr2⟩ := pt_recs (n := 3) ha
  obtain ⟨x, rfl, hx⟩ := pt_u16 (n := 7) hb
  obtain ⟨y, rfl, hy⟩ := pt_u16 (n := 7) hc
  obtain ⟨z, rfl, hz⟩ := pt_u32 (n := 7) hd
  show DCalls Try.prog 7 [dvT Try.prog 55 [.dat 11 (r.map recP)], dvT Try.prog 63 [.lit (.int .u16 x)], dvT Try.prog 63 [.lit (.int .u16 y)], dvT Try.prog 67 [.lit (.int .u32 z)]] (hget []) 0 (lb true) (hget [])
  rw [dv_recs, dv_u16, dv_u16, dv_u32]
  exact survives_f r x y z 0 hr2 hr hx hz
set_option maxRecDepth 100000 in
theorem survives_lifted (os : Os) (started : os.Started) (H : Type) (enc : TypeId × Value → H) :
    ReturnsInHanded {} Try.checked os 7 .any (Rows.recorderSurvivesSpec.pre6 enc Try.prog Try.f7 Rows.recorderSurvivesRow.domain false) (Rows.recorderSurvivesSpec.post enc Try.prog Try.f7 false true false false) :=
  law_returns (C := Try.checked) (n := 8) (tb := 4) own54 started (by kernel_rfl) Try.func7 laid54 rfl Try.underlying4 rfl (by kernel_rfl)
    (fun ds h => by match ds, h with | [_, _, _, _], _ => exact ⟨rfl, rfl, rfl⟩) survives_law
    (ChangeSpec.witness6 (enc := enc) (C := Try.checked) false ⟨#[], #[.slice none 0 0, .int .u16 0, .int .u16 0, .int .u32 0], []⟩ 8 (by kernel_rfl) (by kernel_rfl) (by kernel_rfl) (by kernel_rfl))
theorem survives_holds : Rows.RecorderSurvivesSaid :=
  OpenClaim.holds_of_wide 7 Try.f7 rfl rfl rfl rfl rfl rfl rfl ⟨rfl, rfl, rfl, rfl, rfl⟩ rfl rfl rfl rfl rfl (by kernel_rfl) Try.func7 (by kernel_rfl)
    (of_decide_eq_true (by kernel_rfl)) (by unfold Func.isWrapper; first | (rw [if_pos (by decide +kernel)]; kernel_rfl) | (rw [if_neg (by decide +kernel)]; exact ⟨rfl, rfl⟩))
    (fun os started H enc _ => survives_lifted os started H enc)

end Go.Proofs.Ytkhddlhhbanebaa
