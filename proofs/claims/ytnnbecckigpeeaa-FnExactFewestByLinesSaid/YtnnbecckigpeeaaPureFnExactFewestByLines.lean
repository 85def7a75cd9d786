/- The program's FewestByLines returns what the reference's returns, for all arguments. No condition. -/
import Derived.Test.YtnnbecckigpeeaaF3
import Derived.Test.YtnnbecckigpeeaaByLines
namespace Go.Proofs.Ytnnbecckigpeeaa.Pure
set_option linter.unusedVariables false
set_option linter.unusedSimpArgs false
open Go.RowKit Go.Proofs.Ytnnbecckigpeeaa.P Go.Proofs.YtnnbecckigpeeaaW.PrintWords Go.Proofs.YtnnbecckigpeeaaW.PrintLast Go.Proofs.Ytnnbecckigpeeaa.Aid Go.Proofs.Ytnnbecckigpeeaa.T
theorem fewestByLines_both (a b : Int) : ∃ r : Int × Bool, Ev (fun k => spec_FewestByLines.f k a b) r ∧ Ev (fun k => impl_FewestByLines.f k a b) r := by
  by_cases c : (inR a 1 60 && inR b 1 60) = true
  · have hb : (1 ≤ a ∧ a ≤ 60) ∧ 1 ≤ b ∧ b ≤ 60 := by
      rw [Bool.and_eq_true, inR_iff, inR_iff] at c; exact c
    obtain ⟨w, rfl⟩ := Int.eq_ofNat_of_zero_le (show 0 ≤ a by omega)
    obtain ⟨h, rfl⟩ := Int.eq_ofNat_of_zero_le (show 0 ≤ b by omega)
    have h1 := feLines_ev w h (by omega) (by omega)
    have h2 := byLines_ev w h (by omega) (by omega) (by omega)
    have e := tab_end w h w (Nat.le_refl _)
    refine ⟨(bl w h, true), ev_call (feSize_f _ _ _) (ev_pos c (ev_bind h1 ?_)), ev_call (isLined_f _ _) (ev_pos c (ev_bind h2 ?_))⟩
    all_goals
      refine ev_pos (by omega) (ev_pos (by rw [tabN_length]; omega) (ev_pos (by omega) (ev_pos (by rw [e, rowN_length]; omega) (ev_some ?_))))
      rw [e, row_rd w h (h + 1) h (Nat.le_refl _), if_pos (by omega)]
  · exact ⟨(0, false), ev_call (feSize_f _ _ _) (ev_neg c (ev_some rfl)), ev_call (isLined_f _ _) (ev_neg c (ev_some rfl))⟩
theorem FnExactFewestByLines : laws_FnExactFewestByLines.Pure := by
  intro a b _ _
  obtain ⟨⟨x, o⟩, h1, h2⟩ := fewestByLines_both a b
  exact ev_at (ev_bind h1 (ev_bind h2 (ev_pos rfl (ev_neg (by simp) (ev_some rfl)))))
end Go.Proofs.Ytnnbecckigpeeaa.Pure
