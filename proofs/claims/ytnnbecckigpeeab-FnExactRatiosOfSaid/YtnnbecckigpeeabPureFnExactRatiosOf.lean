/- The program's RatiosOf and the reference's are one; the result, marked, holds its marks. -/
import Derived.Test.YtnnbecckigpeeabF3
import Derived.Test.YtnnbecckigpeeabF4
import Derived.Test.YtnnbecckigpeeabF5
import Derived.Test.YtnnbecckigpeeabF6
import Derived.Test.YtnnbecckigpeeabF7
import Derived.Test.YtnnbecckigpeeabF8
import Derived.Test.YtnnbecckigpeeabSmall
namespace Go.Proofs.Ytnnbecckigpeeab.Pure
open Go.RowKit Go.Proofs.YtnnbecckigpeeabW.PrintWords Go.Proofs.YtnnbecckigpeeabW.PrintLast Go.Proofs.YtnnbecckigpeeabW.PrintMore Go.Proofs.Ytnnbecckigpeeab.P Go.Proofs.Ytnnbecckigpeeab.Aid
def ratiosOk (a : Int) : Bool :=
  match spec_RatiosOf.f 300 a, impl_RatiosOf.f 300 a with
  | some (l, o), some (l', o') => decide (l = l') && decide (o = o') && decide (laws_eqIntSS.f 300 l l = some true) && (match laws_markIntSS.f 300 l 1 with | some (m, q) => decide (laws_heldIntSS.f 300 q 1 = some m) && decide (0 ≤ m) | none => false)
  | _, _ => false
theorem ratiosOk_all : ratiosOk 0 = true ∧ ratiosOk 1 = true ∧ ratiosOk 2 = true ∧ ratiosOk 3 = true ∧ ratiosOk 4 = true ∧ ratiosOk 5 = true ∧ ratiosOk 6 = true ∧ ratiosOk 7 = true ∧ ratiosOk 8 = true := by
  refine ⟨?_, ?_, ?_, ?_, ?_, ?_, ?_, ?_, ?_⟩ <;> decide +kernel
theorem ratiosOk_out (a : Int) (h : ratiosOk a = true) : ∃ k l o l' m, spec_RatiosOf.f k a = some (l, o) ∧ impl_RatiosOf.f k a = some (l, o) ∧ laws_eqIntSS.f k l l = some true ∧ laws_markIntSS.f k l 1 = some (m, l') ∧ laws_heldIntSS.f k l' 1 = some m ∧ 0 ≤ m := by
  unfold ratiosOk at h
  split at h
  · rename_i l o l' o' h1 h2
    rw [Bool.and_eq_true, Bool.and_eq_true, Bool.and_eq_true] at h
    obtain ⟨⟨⟨h3, h4⟩, h5⟩, h6⟩ := h
    split at h6
    · rename_i m q h7
      rw [Bool.and_eq_true] at h6
      obtain rfl := of_decide_eq_true h3
      obtain rfl := of_decide_eq_true h4
      exact ⟨300, l, o, q, m, h1, h2, of_decide_eq_true h5, h7, of_decide_eq_true h6.1, of_decide_eq_true h6.2⟩
    · cases h6
  · cases h
theorem FnExactRatiosOf : laws_FnExactRatiosOf.Pure := by
  intro a _
  obtain ⟨h0, h1, h2, h3, h4, h5, h6, h7, h8⟩ := ratiosOk_all
  by_cases c : 1 ≤ a ∧ a ≤ 8
  · rcases (by omega : a = 1 ∨ a = 2 ∨ a = 3 ∨ a = 4 ∨ a = 5 ∨ a = 6 ∨ a = 7 ∨ a = 8) with rfl | rfl | rfl | rfl | rfl | rfl | rfl | rfl <;> (apply ratiosOk_out; assumption)
  · have e : inR a 1 8 = false := by rw [Bool.eq_false_iff]; intro h; exact c (inR_iff.1 h)
    refine ⟨1, [], false, [], 1, ?_, ?_, rfl, rfl, rfl, by omega⟩
    · unfold spec_RatiosOf.f; rw [l1In_f, e]; rfl
    · unfold impl_RatiosOf.f; rw [within_f, e]; rfl
end Go.Proofs.Ytnnbecckigpeeab.Pure
