/- What small printed functions come to. No condition. -/
import Derived.Test.YtnnbecckigpeeabF9
import Derived.Test.YtnnbecckigpeeabF12
import Derived.Test.YtnnbecckigpeeabAid
namespace Go.Proofs.Ytnnbecckigpeeab.Pure
set_option linter.unusedVariables false
set_option linter.unusedSimpArgs false
open Go.RowKit Go.Proofs.Ytnnbecckigpeeab.P Go.Proofs.YtnnbecckigpeeabW.PrintWords Go.Proofs.YtnnbecckigpeeabW.PrintLast Go.Proofs.Ytnnbecckigpeeab.Aid
theorem l1In_f (n lo hi : Int) : spec_l1In.f n lo hi = some (inR n lo hi) := by
  unfold spec_l1In.f inR; by_cases c : lo ≤ n <;> simp [c]
theorem within_f (n lo hi : Int) : impl_within.f n lo hi = some (inR n lo hi) := by
  unfold impl_within.f inR; by_cases c : lo ≤ n <;> simp [c]
end Go.Proofs.Ytnnbecckigpeeab.Pure
