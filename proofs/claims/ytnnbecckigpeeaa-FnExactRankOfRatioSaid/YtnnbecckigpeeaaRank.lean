/- The printed ranks of ratios. No condition. -/
import Derived.Test.YtnnbecckigpeeaaF21
import Derived.Test.YtnnbecckigpeeaaF22
import Derived.Test.YtnnbecckigpeeaaWords
namespace Go.Proofs.Ytnnbecckigpeeaa.Pure
set_option linter.unusedVariables false
set_option linter.unusedSimpArgs false
open Go.RowKit Go.Proofs.Ytnnbecckigpeeaa.P Go.Proofs.YtnnbecckigpeeaaW.PrintWords Go.Proofs.YtnnbecckigpeeaaW.PrintLast Go.Proofs.Ytnnbecckigpeeaa.Aid Go.Proofs.Ytnnbecckigpeeaa.T
theorem wrap_idem (x : Int) : wrap64 (wrap64 x + 0) = wrap64 x := by unfold wrap64; omega
theorem rank_l (s : ByteArray) (hs : s.size ≤ 1000000) : ∀ (d i : Nat) (x : Int), i + d = s.size → Ev (fun k => spec_RankOfRatio.l0 k s x (i : Int)) (rankL ((bytesOf s).drop i) x, true)
  | 0, i, x, hd => by
    refine Ev.step (fun _ => spec_RankOfRatio.l0.eq_2 ..) (ev_neg (by omega) (ev_some ?_))
    rw [List.drop_eq_nil_of_le (by rw [bytesOf_length]; omega)]; rfl
  | d + 1, i, x, hd => by
    have hb := rd_bytesOf s (i : Int)
    have hg : (bytesOf s).getD i 0 = bt s (i : Int) := by rw [← hb]; unfold rd; rw [Int.toNat_natCast]
    rw [rankL_drop _ i (by rw [bytesOf_length]; omega), hg]
    refine Ev.step (fun _ => spec_RankOfRatio.l0.eq_2 ..) (ev_pos (by omega) (ev_pos (by omega) ?_))
    by_cases c : bt s (i : Int) = 117
    · rw [if_pos c]
      refine ev_pos c ?_
      have ih := rank_l s hs d (i + 1) (wrap64 (wrap64 (2 * x) + 1)) (by omega)
      rw [w64 (e := (i : Int) + 1) (by omega) (by omega), Int.mul_comm x 2]
      exact ih
    · rw [if_neg c]
      refine ev_neg c ?_
      have ih := rank_l s hs d (i + 1) (wrap64 (wrap64 (2 * x) + 0)) (by omega)
      rw [w64 (e := (i : Int) + 1) (by omega) (by omega), Int.mul_comm x 2]
      rw [wrap_idem] at ih ⊢
      exact ih
theorem rankOfRatio_both (a b : Int) : ∃ r : Int × Bool, Ev (fun k => spec_RankOfRatio.f k a b) r ∧ Ev (fun k => impl_RankOfRatio.f k a b) r := by
  obtain ⟨⟨s, o⟩, hs, ho, h1, h2⟩ := wordOfRatio_both a b
  simp only at hs ho
  refine ⟨(rankL (bytesOf s) 0, o), ?_, ev_bind h2 (ev_pos (by simp only; omega) (ev_some rfl))⟩
  cases o with
  | true =>
    have := rank_l s (by omega) s.size 0 0 (by omega)
    exact ev_bind h1 (ev_pos rfl this)
  | false =>
    rw [ho rfl]
    exact ev_bind h1 (ev_neg (by simp) (ev_some rfl))
end Go.Proofs.Ytnnbecckigpeeaa.Pure
