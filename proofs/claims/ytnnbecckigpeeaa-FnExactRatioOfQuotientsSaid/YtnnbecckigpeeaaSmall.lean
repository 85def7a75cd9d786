/- What small printed functions come to. No condition. -/
import Derived.Test.YtnnbecckigpeeaaF36
import Derived.Test.YtnnbecckigpeeaaF38
import Derived.Test.YtnnbecckigpeeaaF47
import Derived.Test.YtnnbecckigpeeaaF48
import Derived.Test.YtnnbecckigpeeaaF28
import Derived.Test.YtnnbecckigpeeaaF30
import Derived.Test.YtnnbecckigpeeaaF32
import Derived.Test.YtnnbecckigpeeaaF34
import Derived.Test.YtnnbecckigpeeaaAid
namespace Go.Proofs.Ytnnbecckigpeeaa.Pure
set_option linter.unusedVariables false
set_option linter.unusedSimpArgs false
open Go.RowKit Go.Proofs.Ytnnbecckigpeeaa.P Go.Proofs.YtnnbecckigpeeaaW.PrintWords Go.Proofs.YtnnbecckigpeeaaW.PrintLast Go.Proofs.Ytnnbecckigpeeaa.Aid
theorem l1In_f (n lo hi : Int) : spec_l1In.f n lo hi = some (inR n lo hi) := by
  unfold spec_l1In.f inR; by_cases c : lo ≤ n <;> simp [c]
theorem within_f (n lo hi : Int) : impl_within.f n lo hi = some (inR n lo hi) := by
  unfold impl_within.f inR; by_cases c : lo ≤ n <;> simp [c]
theorem l1Most_f (a b : Int) : spec_l1Most.f a b = some (max a b) := by
  unfold spec_l1Most.f; split <;> simp <;> omega
theorem l1Least_f (a b : Int) : spec_l1Least.f a b = some (min a b) := by
  unfold spec_l1Least.f; split <;> simp <;> omega
theorem feSize_f (a b m : Int) : spec_feSize.f a b m = some (inR a 1 m && inR b 1 m) := by
  unfold spec_feSize.f; simp only [l1In_f, Option.bind_some]; cases inR a 1 m <;> simp
theorem isLined_f (a b : Int) : impl_isLined.f a b = some (inR a 1 60 && inR b 1 60) := by
  unfold impl_isLined.f; simp only [within_f, Option.bind_some]; cases inR a 1 60 <;> simp
theorem raGood_f (a b : Int) : spec_raGood.f a b = some (inR a 1 1000 && inR b 1 1000) := by
  unfold spec_raGood.f; simp only [l1In_f, Option.bind_some]; cases inR a 1 1000 <;> simp
theorem isRatio_f (a b : Int) : impl_isRatio.f a b = some (inR a 1 1000 && inR b 1 1000) := by
  unfold impl_isRatio.f; simp only [within_f, Option.bind_some]; cases inR a 1 1000 <;> simp
end Go.Proofs.Ytnnbecckigpeeaa.Pure
