/- The printed greatest common divisors. No condition. -/
import Derived.Test.YtnnbecckigpeeaaF56
import Derived.Test.YtnnbecckigpeeaaAid
namespace Go.Proofs.Ytnnbecckigpeeaa.Pure
set_option linter.unusedVariables false
set_option linter.unusedSimpArgs false
open Go.RowKit Go.Proofs.Ytnnbecckigpeeaa.P Go.Proofs.YtnnbecckigpeeaaW.PrintWords Go.Proofs.YtnnbecckigpeeaaW.PrintLast Go.Proofs.Ytnnbecckigpeeaa.Aid
theorem gcd_next (a b : Nat) : Nat.gcd a b = Nat.gcd b (a % b) := by
  rw [Nat.gcd_comm a b, Nat.gcd_rec b a, Nat.gcd_comm]
theorem common_l : ∀ (n a b : Nat), b < n → Ev (fun k => impl_common.l0 k (a : Int) (b : Int)) ((Nat.gcd a b : Nat) : Int)
  | 0, a, b, hb => by omega
  | n + 1, a, b, hb => by
    by_cases h0 : b = 0
    · subst h0
      exact Ev.step (fun _ => impl_common.l0.eq_2 ..) (ev_neg (by omega) (ev_some (by simp)))
    · have hm : Int.tmod (a : Int) (b : Int) = ((a % b : Nat) : Int) := by rw [Int.tmod_eq_emod_of_nonneg (by omega)]; simp
      have hl := Nat.mod_lt a (show b > 0 by omega)
      refine Ev.step (fun _ => impl_common.l0.eq_2 ..) (ev_pos (by omega) (ev_neg (by omega) ?_))
      rw [hm, gcd_next]
      exact common_l n b (a % b) (by omega)
theorem common_ev (a b : Nat) : Ev (fun k => impl_common.f k (a : Int) (b : Int)) ((Nat.gcd a b : Nat) : Int) := common_l (b + 1) a b (by omega)
end Go.Proofs.Ytnnbecckigpeeaa.Pure
