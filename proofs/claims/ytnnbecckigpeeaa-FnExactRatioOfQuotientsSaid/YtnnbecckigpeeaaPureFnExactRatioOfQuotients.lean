/- The program's RatioOfQuotients returns what the reference's returns, for all arguments. No condition. -/
import Derived.Test.YtnnbecckigpeeaaF5
import Derived.Test.YtnnbecckigpeeaaIntS
import Derived.Test.YtnnbecckigpeeaaSmall
namespace Go.Proofs.Ytnnbecckigpeeaa.Pure
set_option linter.unusedVariables false
set_option linter.unusedSimpArgs false
open Go.RowKit Go.Proofs.Ytnnbecckigpeeaa.P Go.Proofs.YtnnbecckigpeeaaW.PrintWords Go.Proofs.YtnnbecckigpeeaaW.PrintLast Go.Proofs.Ytnnbecckigpeeaa.Aid
theorem l1All_l (l : List Int) (lo hi' : Int) (hl : l.length ≤ 9223372036854775807) : ∀ (d i : Nat), i + d = l.length → Ev (fun k => spec_l1All.l0 k lo hi' l (l.length : Int) i) ((l.drop i).all (inR · lo hi'))
  | 0, i, hd => Ev.step (fun _ => rfl) (ev_neg (by omega) (ev_some (by rw [show i = l.length by omega]; simp)))
  | d + 1, i, hd => Ev.step (fun _ => rfl) (ev_pos (by omega) (ev_pos (by omega) (ev_pos (by omega) (ev_call (l1In_f _ _ _) (by
      have hi : i < l.length := by omega
      have := l1All_l l lo hi' hl d (i + 1) (by omega)
      rw [List.drop_eq_getElem_cons hi, List.all_cons, show rd l (i : Int) = l[i] by simp [rd, hi]]
      cases h : inR l[i] lo hi' with
      | false => exact ev_neg (by simp) (ev_some rfl)
      | true =>
        refine ev_pos rfl ?_
        rw [w64 (by omega) (by omega), show ((i : Int) + 1) = ((i + 1 : Nat) : Int) by omega]
        exact this)))))
theorem l1All_ev (l : List Int) (lo hi : Int) (hl : l.length ≤ 9223372036854775807) : Ev (fun k => spec_l1All.f k l lo hi) (l.all (inR · lo hi)) := by
  have := l1All_l l lo hi hl l.length 0 (by omega)
  rw [List.drop_zero] at this
  exact this
def seg (zs : List Int) : Nat → Nat → List (Int × Int)
  | _, 0 => []
  | k, m + 1 => (((zs.length : Int) - 1 - k), rd zs ((zs.length : Int) - 1 - k)) :: seg zs (k + 1) m
theorem backs_seg (zs : List Int) : ∀ (m k : Nat), backs zs (k + m) = backs zs k ++ seg zs k m
  | 0, k => by simp [seg]
  | m + 1, k => by rw [show k + (m + 1) = (k + 1) + m by omega, backs_seg zs m (k + 1), backs_succ, seg]; simp
theorem fold_none (l : List (Int × Int)) : l.foldl ostep none = none := by
  induction l with
  | nil => rfl
  | cons x l ih => exact ih
theorem roq_loop (l : List Int) (hl : l.length ≤ 20) (hin : ∀ i : Nat, i < l.length → 1 ≤ rd l i ∧ rd l i ≤ 1000) : ∀ (m k : Nat) (a b : Int), k + m = l.length → 1 ≤ a → a ≤ 1000 → 0 ≤ b → b ≤ 1000 → Ev (fun r => spec_RatioOfQuotients.l0 r l a b ((m : Int) - 1)) (roqV ((seg l k m).foldl ostep (some (a, b))))
  | 0, k, a, b, hk, _, _, _, _ => Ev.step (fun _ => spec_RatioOfQuotients.l0.eq_2 ..) (ev_neg (by simp) (ev_some rfl))
  | m + 1, k, a, b, hk, ha, ha2, hb, hb2 => by
    have e : ((m + 1 : Nat) : Int) - 1 = (m : Int) := by omega
    rw [e]
    have hd := hin m (by omega)
    have hkm : (l.length : Int) - 1 - k = (m : Int) := by omega
    have hp1 : 0 < rd l m * a := Int.mul_pos (by omega) (by omega)
    have hp2 : rd l m * a ≤ 1000 * 1000 := Int.mul_le_mul hd.2 ha2 (by omega) (by omega)
    have hv : wrap64 (wrap64 (rd l m * a) + b) = rd l m * a + b := by rw [w64 (e := rd l m * a) (by omega) (by omega), w64 (by omega) (by omega)]
    refine Ev.step (fun _ => spec_RatioOfQuotients.l0.eq_2 ..) (ev_pos (by omega) (ev_pos (by omega) (ev_pos (by omega) ?_)))
    rw [hv, seg, List.foldl_cons, hkm]
    simp only [ostep, Option.bind_some, hv]
    by_cases c : 1000 < rd l m * a + b
    · rw [if_pos c, fold_none]
      exact ev_pos c (ev_some rfl)
    · rw [if_neg c]
      refine ev_neg (by omega) ?_
      rw [w64 (by omega) (by omega)]
      exact roq_loop l hl hin m (k + 1) _ _ (by omega) (by omega) (by omega) (by omega) (by omega)
theorem roq_bad (l : List Int) (n : Int) : Ev (fun k => spec_RatioOfQuotients.j0 k l n true) (0, 0, false) := Ev.step (fun _ => spec_RatioOfQuotients.j0.eq_2 ..) (ev_pos rfl (ev_some rfl))
theorem roq_good (l : List Int) (h0 : 1 ≤ l.length) (hl : l.length ≤ 20) (hin : ∀ i : Nat, i < l.length → 1 ≤ rd l i ∧ rd l i ≤ 1000) : Ev (fun k => spec_RatioOfQuotients.j0 k l (l.length : Int) false) (roqV (ofold (backs l l.length))) := by
  refine Ev.step (fun _ => spec_RatioOfQuotients.j0.eq_2 ..) (ev_neg (by simp) ?_)
  rw [w64 (e := (l.length : Int) - 1) (by omega) (by omega), w64 (e := (l.length : Int) - 2) (by omega) (by omega)]
  refine ev_pos (by omega) (ev_pos (by omega) ?_)
  obtain ⟨m, hm⟩ : ∃ m, l.length = m + 1 := ⟨l.length - 1, by omega⟩
  have hd := hin m (by omega)
  have e1 : (l.length : Int) - 1 = (m : Int) := by omega
  have e2 : (l.length : Int) - 2 = (m : Int) - 1 := by omega
  have hs := backs_seg l l.length 0
  rw [Nat.zero_add] at hs
  have := roq_loop l hl hin m 1 (rd l m) 1 (by omega) (by omega) (by omega) (by omega) (by omega)
  have hs2 : backs l l.length = backs l 0 ++ ((((l.length : Int) - 1 - (0 : Nat)), rd l ((l.length : Int) - 1 - (0 : Nat))) :: seg l 1 m) := by
    rw [hs]
    conv => lhs; rw [hm, seg]
  rw [hs2]
  simp only [backs, List.range_zero, List.map_nil, List.nil_append, ofold, List.foldl_cons]
  have hst : ostep (some (1, 0)) ((l.length : Int) - 1 - (0 : Nat), rd l ((l.length : Int) - 1 - (0 : Nat))) = some (rd l m, 1) := by
    rw [show (l.length : Int) - 1 - (0 : Nat) = (m : Int) by omega]
    simp only [ostep, Option.bind_some, Int.mul_one, Int.add_zero]
    rw [w64 (e := rd l m) (by omega) (by omega), w64 (e := rd l m) (by omega) (by omega), if_neg (by omega)]
  rw [hst, e1, e2]
  exact this
theorem roqOk_eq (l : List Int) : roqOk l = (inR (l.length : Int) 1 20 && l.all (inR · 1 1000) && !(decide (1 < (l.length : Int)) && (rd l ((l.length : Int) - 1) == 1))) := by
  unfold roqOk inR
  congr 2
  rw [List.any_eq_not_all_not]
  simp
theorem ratioOfQuotients_ev (l : List Int) (hl : l.length ≤ 9223372036854775807) : ∃ r, Ev (fun k => spec_RatioOfQuotients.f k l) r ∧ impl_RatioOfQuotients.f l = some r := by
  refine ⟨_, ?_, rfl⟩
  rw [roqOk_eq]
  cases h1 : inR (l.length : Int) 1 20 with
  | false => exact ev_call (l1In_f _ _ _) (by rw [h1]; exact ev_neg (by simp) (roq_bad _ _))
  | true =>
    have hn := inR_iff.1 h1
    refine ev_call (l1In_f _ _ _) ?_
    rw [h1]
    refine ev_pos rfl (ev_bind (l1All_ev l 1 1000 hl) ?_)
    cases h2 : l.all (inR · 1 1000) with
    | false => exact ev_neg (by simp) (roq_bad _ _)
    | true =>
      have hin : ∀ i : Nat, i < l.length → 1 ≤ rd l i ∧ rd l i ≤ 1000 := fun i hi => by
        have := List.all_eq_true.1 h2 (l[i]) (List.getElem_mem hi)
        rw [show rd l (i : Int) = l[i] by simp [rd, hi]]
        exact inR_iff.1 this
      refine ev_pos rfl ?_
      rw [w64 (e := (l.length : Int) - 1) (by omega) (by omega)]
      by_cases c : (l.length : Int) > 1
      · refine ev_pos c (ev_pos (by omega) (ev_pos (by omega) ?_))
        have hd := hin (l.length - 1) (by omega)
        rw [show ((l.length - 1 : Nat) : Int) = (l.length : Int) - 1 by omega] at hd
        by_cases c2 : rd l ((l.length : Int) - 1) < 2
        · have c3 : rd l ((l.length : Int) - 1) = 1 := by omega
          rw [decide_eq_true c2, decide_eq_true c, c3]
          exact roq_bad _ _
        · have c3 : (rd l ((l.length : Int) - 1) == 1) = false := by simp; omega
          rw [decide_eq_false c2, c3]
          simp only [Bool.and_false, Bool.not_false, Bool.and_true, if_true]
          exact roq_good l (by omega) (by omega) hin
      · refine ev_neg c ?_
        rw [decide_eq_false (by omega : ¬ 1 < (l.length : Int))]
        simp only [Bool.false_and, Bool.not_false, Bool.and_true, if_true]
        exact roq_good l (by omega) (by omega) hin
theorem FnExactRatioOfQuotients : laws_FnExactRatioOfQuotients.Pure := by
  intro l _ hb _
  obtain ⟨r, h1, h2⟩ := ratioOfQuotients_ev l (by omega)
  by_cases c : (l.length : Int) > 1048576
  · exact ev_at (ev_pos c (ev_some rfl))
  · exact ev_at (ev_neg c (ev_bind (toIntS_ev l hb) (ev_bind h1 (ev_bind (toIntS_ev l hb) (ev_call h2 (ev_pos rfl (ev_pos rfl (Ev.step (fun _ => laws_FnExactRatioOfQuotients.j0.eq_2 ..) (ev_neg (by simp) (ev_bind (toIntS_ev l hb) (ev_bind (eqIntS_refl l (by omega)) (ev_pos rfl (ev_some rfl)))))))))))))
end Go.Proofs.Ytnnbecckigpeeaa.Pure
