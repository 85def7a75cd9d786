/- Lists of whole numbers: equal, copied, marked, held. No condition. -/
import Derived.Test.YtnnbecckigpeeaaF13
import Derived.Test.YtnnbecckigpeeaaF17
import Derived.Test.YtnnbecckigpeeaaAid
namespace Go.Proofs.Ytnnbecckigpeeaa.Pure
set_option linter.unusedVariables false
set_option linter.unusedSimpArgs false
open Go.RowKit Go.Proofs.Ytnnbecckigpeeaa.P Go.Proofs.YtnnbecckigpeeaaW.PrintWords Go.Proofs.YtnnbecckigpeeaaW.PrintLast Go.Proofs.Ytnnbecckigpeeaa.Aid
/-! numbers lists: equal, marked, held -/
theorem eqIntS_refl_l (l : List Int) (hl : l.length ≤ 9223372036854775807) : ∀ (d : Nat) (i : Int), 0 ≤ i → (l.length : Int) - i = d → Ev (fun k => laws_eqIntS.l0 k l l i) true
  | 0, i, h0, hd => Ev.step (fun _ => rfl) (ev_neg (by omega) (ev_some rfl))
  | d + 1, i, h0, hd => Ev.step (fun _ => rfl) (ev_pos (by omega) (ev_pos h0 (ev_pos (by omega) (ev_pos rfl (by
      rw [w64 (by omega) (by omega)]
      exact eqIntS_refl_l l hl d (i + 1) (by omega) (by omega))))))
theorem eqIntS_refl (l : List Int) (hl : l.length ≤ 9223372036854775807) : Ev (fun k => laws_eqIntS.f k l l) true :=
  ev_pos rfl (eqIntS_refl_l l hl l.length 0 (by omega) (by omega))

/-- the first n of l, then what m has -/
theorem toIntS_l (l : List Int) (hl : l.length ≤ 9223372036854775807) : ∀ (d i : Nat), i + d = l.length → Ev (fun k => laws_toIntS.l0 k l (l.take i ++ List.replicate d 0) i) l
  | 0, i, hd => Ev.step (fun _ => rfl) (ev_neg (by omega) (ev_some (by rw [show i = l.length by omega]; simp)))
  | d + 1, i, hd => Ev.step (fun _ => rfl) (ev_pos (by omega) (ev_pos (by omega) (ev_pos (by simp; omega) (by
      rw [w64 (by omega) (by omega)]
      have := toIntS_l l hl d (i + 1) (by omega)
      rw [show ((i : Int) + 1) = ((i + 1 : Nat) : Int) by omega]
      have e : (l.take i ++ List.replicate (d + 1) 0).set (i : Int).toNat (rd l i) = l.take (i + 1) ++ List.replicate d 0 := by
        have hi : i < l.length := by omega
        simp only [Int.toNat_natCast]
        rw [List.set_append_right _ _ (by simp; omega), List.length_take, show i - min i l.length = 0 by omega, List.replicate_succ, List.set_cons_zero, List.take_succ_eq_append_getElem hi, show rd l (i : Int) = l[i] by simp [rd, hi], List.append_assoc]
        rfl
      rw [e]
      exact this))))
theorem toIntS_ev (l : List Int) (hl : l.length * 8 ≤ 140737488351232) : Ev (fun k => laws_toIntS.f k l) l := by
  have := toIntS_l l (by omega) l.length 0 (by omega)
  refine ev_pos (by omega) (ev_pos (by simp; omega) ?_)
  simpa using this
end Go.Proofs.Ytnnbecckigpeeaa.Pure
