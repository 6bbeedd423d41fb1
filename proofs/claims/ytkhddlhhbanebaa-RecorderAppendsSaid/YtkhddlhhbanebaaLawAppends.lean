/-
  RecorderAppends: for every input the statement of the program returns true, and its arguments read as before.
  No condition.
-/
import Derived.Test.YtkhddlhhbanebaaCa26
import Derived.Test.YtkhddlhhbanebaaEngV
import Derived.Test.YtkhddlhhbanebaaRows
namespace Go.Proofs.Ytkhddlhhbanebaa
open Go.Eng
set_option linter.all false

attribute [local irreducible] PT
theorem appends_law (xss : List (List PV)) (h : PTs Try.prog 8 Try.f5.params.toList xss) : DCalls Try.prog 5 (dvTs Try.prog Try.f5.params.toList xss) (hget []) 0 (lb true) (hget []) := by
  rw [Try.params5] at h ⊢
  obtain ⟨a, _, rfl, ha, b, _, rfl, hb, rfl⟩ := h
  obtain ⟨d, rfl, hd, _⟩ := pt_disk (n := 5) ha
  obtain ⟨r, rfl, hr⟩ := pt_rec (n := 4) hb
  show DCalls Try.prog 5 [dvT Try.prog 42 [.dat 1 (d.data.map byRow), .lit (.int .i64 d.synced), .lit (.int .i64 d.after)], dvT Try.prog 26 (recP r)] (hget []) 0 (lb true) (hget [])
  rw [dv_disk, dv_rec]
  exact appends_f d r 0 hd hr
set_option maxRecDepth 100000 in
theorem appends_lifted (os : Os) (started : os.Started) (H : Type) (enc : TypeId × Value → H) :
    ReturnsInHanded {} Try.checked os 5 .any (Rows.recorderAppendsSpec.pre6 enc Try.prog Try.f5 Rows.recorderAppendsRow.domain false) (Rows.recorderAppendsSpec.post enc Try.prog Try.f5 false true false false) :=
  law_returns (C := Try.checked) (n := 8) (tb := 4) own54 started (by kernel_rfl) Try.func5 laid54 rfl Try.underlying4 rfl (by kernel_rfl)
    (fun ds h => by match ds, h with | [_, _], _ => exact ⟨rfl, rfl, rfl⟩) appends_law
    (ChangeSpec.witness6 (enc := enc) (C := Try.checked) false ⟨#[], #[.agg #[.slice none 0 0, .int .i64 0, .int .i64 0], .agg #[.int .i64 0, .int .i64 0, .slice none 0 0, .string .empty, .int .i64 0, .string .empty, .int .i64 0, .int .i64 0, .int .i64 0, .int .i64 0, .string .empty]], []⟩ 8 (by kernel_rfl) (by kernel_rfl) (by kernel_rfl) (by kernel_rfl))
theorem appends_holds : Rows.RecorderAppendsSaid :=
  OpenClaim.holds_of_wide 5 Try.f5 rfl rfl rfl rfl rfl rfl rfl ⟨rfl, rfl, rfl, rfl, rfl⟩ rfl rfl rfl rfl rfl (by kernel_rfl) Try.func5 (by kernel_rfl)
    (of_decide_eq_true (by kernel_rfl)) (by unfold Func.isWrapper; first | (rw [if_pos (by decide +kernel)]; kernel_rfl) | (rw [if_neg (by decide +kernel)]; exact ⟨rfl, rfl⟩))
    (fun os started H enc _ => appends_lifted os started H enc)

end Go.Proofs.Ytkhddlhhbanebaa
