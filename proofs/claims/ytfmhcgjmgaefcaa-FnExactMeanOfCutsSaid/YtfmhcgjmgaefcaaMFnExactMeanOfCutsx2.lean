import Derived.Test.YtfmhcgjmgaefcaaMFnExactMeanOfCutsx0
import Derived.Test.YtfmhcgjmgaefcaaMFnExactMeanOfCutsx1
/- The program's MeanOfCuts and the reference's are one. -/
namespace Go.Proofs.Ytfmhcgjmgaefcaa.Pure
set_option linter.unusedVariables false
set_option linter.unusedSimpArgs false
open Go.RowKit Go.Proofs.Ytfmhcgjmgaefcaa.P Go.Proofs.YtfmhcgjmgaefcaaW.PrintWords Go.Proofs.YtfmhcgjmgaefcaaW.PrintLast Go.Proofs.YtfmhcgjmgaefcaaW.PrintMore Go.Proofs.Ytfmhcgjmgaefcaa.Aid Go.Proofs.Ytfmhcgjmgaefcaa.T
section
variable (l : List Int)
theorem imean_l (hl : l.length ≤ 36) (hb : ∀ i, 0 ≤ l.getD i 0 ∧ l.getD i 0 ≤ 2 ^ 36) (x : Int) {r : Int × Int × Bool} (hr : Ev (fun k => (impl_common.f k x (wgtN l l.length)).bind fun t107 => (if t107 = 0 then (none) else (some (wrap64 (Int.tdiv (wgtN l l.length) t107), wrap64 (Int.tdiv x t107), true)))) r) : ∀ (d i : Nat), i + d = l.length → Ev (fun k => impl_MeanOfCuts.l0 k x (wgtN l i) l l.length i) r
  | 0, i, hd => Ev.step (fun _ => impl_MeanOfCuts.l0.eq_2 ..) (ev_neg (by omega) (by rw [show i = l.length by omega]; exact hr))
  | d + 1, i, hd => by
    have ih := imean_l hl hb x hr d (i + 1) (by omega)
    have h1 := wgtN_bd l hb (i + 1) (by omega)
    have h0 := wgtN_bd l hb i (by omega)
    have e : rd l i = l.getD i 0 := by unfold rd; rw [Int.toNat_natCast]
    refine Ev.step (fun _ => impl_MeanOfCuts.l0.eq_2 ..) (ev_pos (by omega) (ev_pos (by omega) (ev_pos (by omega) ?_)))
    have e2 : wgtN l (i + 1) = wgtN l i + (i + 1 : Nat) * l.getD i 0 := rfl
    rw [w64 (e := (i : Int) + 1) (by omega) (by omega), e, show ((i : Int) + 1) = ((i + 1 : Nat) : Int) by omega, w64 (e := ((i + 1 : Nat) : Int) * l.getD i 0) (by omega) (by omega), ← e2, w64 (by omega) (by omega)]
    exact ih
theorem smean_l (hl : l.length ≤ 36) (hb : ∀ i, 0 ≤ l.getD i 0 ∧ l.getD i 0 ≤ 2 ^ 36) {r : Int × Int × Bool} (hr : Ev (fun k => (spec_cuCommon.f k (wgtN l l.length) (sumN l l.length)).bind fun t106 => (if t106 = 0 then (none) else (some (wrap64 (Int.tdiv (wgtN l l.length) t106), wrap64 (Int.tdiv (sumN l l.length) t106), true)))) r) : ∀ (d i : Nat), i + d = l.length → Ev (fun k => spec_MeanOfCuts.l0 k (wgtN l i) (sumN l i) l l.length i) r
  | 0, i, hd => Ev.step (fun _ => spec_MeanOfCuts.l0.eq_2 ..) (ev_neg (by omega) (by rw [show i = l.length by omega]; exact hr))
  | d + 1, i, hd => by
    have ih := smean_l hl hb hr d (i + 1) (by omega)
    have h1 := wgtN_bd l hb (i + 1) (by omega)
    have h0 := wgtN_bd l hb i (by omega)
    have h2 := sumN_bd l hb (i + 1)
    have e : rd l i = l.getD i 0 := by unfold rd; rw [Int.toNat_natCast]
    refine Ev.step (fun _ => spec_MeanOfCuts.l0.eq_2 ..) (ev_pos (by omega) (ev_pos (by omega) (ev_pos (by omega) ?_)))
    have e2 : wgtN l (i + 1) = wgtN l i + (i + 1 : Nat) * l.getD i 0 := rfl
    have e3 : sumN l i + l.getD i 0 = sumN l (i + 1) := rfl
    rw [w64 (e := (i : Int) + 1) (by omega) (by omega), e, show ((i : Int) + 1) = ((i + 1 : Nat) : Int) by omega, w64 (e := ((i + 1 : Nat) : Int) * l.getD i 0) (by omega) (by omega), ← e2, e3, w64 (e := wgtN l (i + 1)) (by omega) (by omega), w64 (e := sumN l (i + 1)) (by omega) (by omega)]
    exact ih
end
theorem meanOfCuts_both (a b : Int) : ∃ r : Int × Int × Bool, Ev (fun k => spec_MeanOfCuts.f k a b) r ∧ Ev (fun k => impl_MeanOfCuts.f k a b) r := by
  by_cases c : (inR a 1 6 && inR b 1 6) = true
  · have c' := c
    simp only [Bool.and_eq_true, inR_iff] at c'
    obtain ⟨W, rfl⟩ : ∃ W : Nat, a = W := ⟨a.toNat, by omega⟩
    obtain ⟨H, rfl⟩ : ∃ H : Nat, b = H := ⟨b.toNat, by omega⟩
    have hp : W * H ≤ 6 * 6 := Nat.mul_le_mul (by omega) (by omega)
    have e : impl_CutsBySquares.f W H = some (counts W H, true) := by
      unfold impl_CutsBySquares.f
      rw [isCounted_f, Option.bind_some, if_pos c, bySquares_f W H (by omega) (by omega), Option.bind_some]
    have hby := ctBy_ev W H (by omega) (by omega)
    obtain ⟨hb, p, hp1⟩ := counts_bounds W H (by omega) (by omega)
    have hlen : (counts W H).length ≤ 36 := by rw [counts_length]; simpa using hp
    generalize counts W H = l at e hby hb hp1 hlen
    have hpl : p < l.length := by
      rcases Nat.lt_or_ge p l.length with h | h
      · exact h
      · rw [List.getD_eq_getElem?_getD, List.getElem?_eq_none h] at hp1
        simp at hp1
    have s1 := sumN_bd l hb l.length
    have s2 := sumN_pos l hb hp1 l.length hpl
    have s3 := wgtN_bd l hb l.length hlen
    obtain ⟨S, hS⟩ : ∃ S : Nat, sumN l l.length = S := ⟨(sumN l l.length).toNat, by omega⟩
    obtain ⟨G, hG⟩ : ∃ G : Nat, wgtN l l.length = G := ⟨(wgtN l l.length).toNat, by omega⟩
    have hg : 0 < Nat.gcd G S := Nat.gcd_pos_of_pos_right _ (by omega)
    refine ⟨(wrap64 (Int.tdiv (G : Int) ((Nat.gcd G S : Nat) : Int)), wrap64 (Int.tdiv (S : Int) ((Nat.gcd G S : Nat) : Int)), true), ev_call (ctSize_f _ _) (ev_pos c (ev_bind hby (smean_l l hlen hb ?_ l.length 0 (by omega)))), ev_call e (ev_pos rfl (ev_bind (isum_l l hlen hb l.length 0 (by omega)) (imean_l l hlen hb _ ?_ l.length 0 (by omega))))⟩
    · rw [hG, hS]
      exact ev_bind (cuCommon_ev G S) (ev_neg (by omega) (ev_some rfl))
    · rw [hG, hS]
      refine ev_bind (common_ev S G) ?_
      rw [Nat.gcd_comm S G]
      exact ev_neg (by omega) (ev_some rfl)
  · have e : impl_CutsBySquares.f a b = some ([], false) := by
      unfold impl_CutsBySquares.f
      rw [isCounted_f, Option.bind_some, if_neg c]
    exact ⟨(0, 0, false), ev_call (ctSize_f _ _) (ev_neg c (ev_some rfl)), ev_call e (ev_neg (by simp) (ev_some rfl))⟩
theorem FnExactMeanOfCuts : laws_FnExactMeanOfCuts.Pure := by
  intro a b _ _
  obtain ⟨⟨r1, r2, r3⟩, h1, h2⟩ := meanOfCuts_both a b
  exact ev_at (ev_bind h1 (ev_bind h2 (ev_pos rfl (ev_pos rfl (ev_neg (by simp) (ev_some rfl))))))
end Go.Proofs.Ytfmhcgjmgaefcaa.Pure
