/-
  Contracts of functions of the program, over the engine.
  No condition.
-/
import Derived.Test.YtlailhdmgehniaaGreatCQ5T2ELU1C18
namespace Go.Proofs.YtlailhdmgehniaaGreat
open Go.Eng
set_option linter.all false
attribute [local irreducible] DCallsG SWp Fct CallQ XCallQ LCallQ XLCallQ drun xrun
attribute [local irreducible] PT
theorem dv_int (n : Int) : dvT Tryz.prog 3 [.lit (.int .i64 n)] = li n := by unfold dvT; rw [Tryz.underlying3]; rfl
end Go.Proofs.YtlailhdmgehniaaGreat
