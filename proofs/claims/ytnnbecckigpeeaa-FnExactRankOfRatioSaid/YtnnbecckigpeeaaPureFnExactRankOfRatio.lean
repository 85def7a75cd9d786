/- The program's RankOfRatio returns what the reference's returns, for all arguments. No condition. -/
import Derived.Test.YtnnbecckigpeeaaF7
import Derived.Test.YtnnbecckigpeeaaRank
namespace Go.Proofs.Ytnnbecckigpeeaa.Pure
open Go.RowKit Go.Proofs.Ytnnbecckigpeeaa.P Go.Proofs.YtnnbecckigpeeaaW.PrintWords Go.Proofs.YtnnbecckigpeeaaW.PrintLast Go.Proofs.Ytnnbecckigpeeaa.Aid Go.Proofs.Ytnnbecckigpeeaa.T
theorem FnExactRankOfRatio : laws_FnExactRankOfRatio.Pure := by
  intro a b _ _
  obtain ⟨⟨x, o⟩, h1, h2⟩ := rankOfRatio_both a b
  exact ev_at (ev_bind h1 (ev_bind h2 (ev_pos rfl (ev_neg (by simp) (ev_some rfl)))))
end Go.Proofs.Ytnnbecckigpeeaa.Pure
