import Derived.Test.YtfmhcgjmgaefcaaMFnExactCutsWithMostx0
import Derived.Test.YtfmhcgjmgaefcaaMFnExactCutsWithMostx1
/- The program's CutsWithMost and the reference's are one. -/
namespace Go.Proofs.Ytfmhcgjmgaefcaa.Pure
set_option linter.unusedVariables false
set_option linter.unusedSimpArgs false
open Go.RowKit Go.Proofs.Ytfmhcgjmgaefcaa.P Go.Proofs.YtfmhcgjmgaefcaaW.PrintWords Go.Proofs.YtfmhcgjmgaefcaaW.PrintLast Go.Proofs.YtfmhcgjmgaefcaaW.PrintMore Go.Proofs.Ytfmhcgjmgaefcaa.Aid Go.Proofs.Ytfmhcgjmgaefcaa.T
theorem flat_range_cut {α : Type} (g : Nat → List α) (r' : Nat) : ∀ r, r' ≤ r → (∀ i, r' ≤ i → i < r → g i = []) → (List.range r).flatMap g = (List.range r').flatMap g
  | 0, h, _ => by rw [show r' = 0 by omega]
  | r + 1, h, hg => by
    rcases Nat.lt_or_ge r r' with e | e
    · rw [show r' = r + 1 by omega]
    · rw [flat_range_succ, hg r e (by omega), List.append_nil, flat_range_cut g r' r e (fun i h1 h2 => hg i h1 (by omega))]
def lowB (m : Int) (t : List Sq) : Bool := !(t.any fun q => decide (m < q.f2))
theorem lowB_cons (m : Int) (q : Sq) (t : List Sq) : lowB m (q :: t) = (!decide (m < q.f2) && lowB m t) := by unfold lowB; simp [List.any_cons, Bool.not_or]
theorem genM_filter (h m : Int) (hm : 0 ≤ m) : ∀ (n : Nat) (f : List Int), Fits f h → left h f < n → genM h m n f = (gen h n f).filter (lowB m)
  | 0, f, _, hn => by omega
  | n + 1, f, F, hn => by
    simp only [genM, gen]
    split
    · rfl
    · rw [filter_flatMap']
      have e1 : ∀ i, (List.filter (lowB m) ((gen h n (place f (low f) (i + 1) (ht f (low f) + (i + 1 : Nat)))).map (⟨low f, ht f (low f), (i + 1 : Nat)⟩ :: ·))) = if ((i + 1 : Nat) : Int) ≤ m then ((gen h n (place f (low f) (i + 1) (ht f (low f) + (i + 1 : Nat)))).filter (lowB m)).map (⟨low f, ht f (low f), (i + 1 : Nat)⟩ :: ·) else [] := fun i => by
        rw [List.filter_map]
        by_cases c : ((i + 1 : Nat) : Int) ≤ m
        · rw [if_pos c]
          have e2 : (lowB m ∘ fun x => (⟨(low f : Int), ht f (low f), ((i + 1 : Nat) : Int)⟩ : Sq) :: x) = lowB m := by
            funext t
            simp only [Function.comp, lowB_cons]
            rw [decide_eq_false (by omega)]
            rfl
          rw [e2]
        · rw [if_neg c]
          have e2 : (lowB m ∘ fun x => (⟨(low f : Int), ht f (low f), ((i + 1 : Nat) : Int)⟩ : Sq) :: x) = fun _ => false := by
            funext t
            simp only [Function.comp, lowB_cons]
            rw [decide_eq_true (by omega)]
            rfl
          rw [e2]
          simp
      simp only [e1]
      rw [flat_range_cut _ (min (room f h (low f)) m.toNat) _ (by omega) (fun i h1 h2 => if_neg (by omega))]
      apply flatMap_congr'
      intro i hi
      have hi' := List.mem_range.1 hi
      obtain ⟨F', hn'⟩ := step_fits F (i := i) (by omega) hn
      rw [if_pos (by omega), genM_filter h m hm n _ F' hn']
theorem fold_most (m : Int) : ∀ (T : List (List Sq)) (s : Int), 0 ≤ s → s + T.length ≤ 2 ^ 40 → T.foldl (mostStep m) s = s + (T.filter (lowB m)).length
  | [], s, _, _ => by simp
  | t :: T, s, h0, h1 => by
    simp only [List.length_cons] at h1
    rw [List.foldl_cons]
    have e : mostStep m s t = s + if lowB m t = true then 1 else 0 := by
      unfold mostStep lowB
      cases (t.any fun q => decide (m < q.f2)) <;> simp <;> exact w64 (by omega) (by omega)
    rw [e, fold_most m T _ (by split <;> omega) (by split <;> omega), List.filter_cons]
    by_cases c : lowB m t = true
    · rw [if_pos c, if_pos c, List.length_cons]; omega
    · rw [if_neg c, if_neg c]; omega
theorem most_both (W H : Nat) (m : Int) (hW : 1 ≤ W ∧ W ≤ 6) (hH : 1 ≤ H ∧ H ≤ 6) (hm : 1 ≤ m ∧ m ≤ 6) : ∃ l : List Int, Ev (fun k => spec_ctBy.f k W H m) l ∧ Ev (fun k => spec_ctSum.f k l) ((tilings W H).foldl (mostStep m) 0) := by
  have hp : W * H ≤ 6 * 6 := Nat.mul_le_mul hW.2 hH.2
  have e : ((W : Int) * (H : Int)) = ((W * H : Nat) : Int) := (Int.natCast_mul ..).symm
  have hl : left (H : Int) (List.replicate W 0) = W * H := by rw [left_zeros]; simp
  have F := fits_zeros W H (by omega) (by omega)
  have hgen : gen H (W * H + 1) (List.replicate W 0) = tilings W H := by unfold tilings; rw [Int.toNat_natCast]
  have hgm : genM H m (W * H + 1) (List.replicate W 0) = (tilings W H).filter (lowB m) := by rw [genM_filter H m (by omega) _ _ F (by omega), hgen]
  have hcnt : (tilings W H).length ≤ 2 ^ 36 := by
    have := gen_count H (W * H + 1) (List.replicate W 0) F (by omega)
    rw [hl, hgen] at this
    exact Nat.le_trans this (Nat.pow_le_pow_right (by omega) (by omega))
  have hcnt2 : ((tilings W H).filter (lowB m)).length ≤ 2 ^ 36 := Nat.le_trans (List.length_filter_le _ _) hcnt
  have hz : ∀ i, 0 ≤ (List.replicate (W * H) (0 : Int)).getD i 0 ∧ (List.replicate (W * H) (0 : Int)).getD i 0 ≤ (0 : Nat) := fun i => by
    have := ht_zeros (W * H) i
    unfold ht at this
    omega
  have hrl : (List.replicate (W * H) (0 : Int)).length = W * H := by simp
  have hts : ∀ t ∈ (tilings W H).filter (lowB m), 1 ≤ t.length ∧ t.length ≤ (List.replicate (W * H) (0 : Int)).length := fun t ht => by
    have := til_len W H (by omega) (by omega) t (List.mem_filter.1 ht).1
    rw [hrl]
    omega
  obtain ⟨b1, _⟩ := fold_bounds ((tilings W H).filter (lowB m)) (List.replicate (W * H) 0) 0 hz (by omega) hts
  have b2 := fold_sum ((tilings W H).filter (lowB m)) (List.replicate (W * H) 0) 0 hz (by omega) hts
  have hfl := foldB_length ((tilings W H).filter (lowB m)) (List.replicate (W * H) 0)
  have hzs : ∀ n, sumN (List.replicate (W * H) (0 : Int)) n = 0 := fun n => by
    induction n with
    | zero => rfl
    | succ n ih =>
      have := hz n
      simp only [sumN, ih]
      omega
  refine ⟨((tilings W H).filter (lowB m)).foldl (fun s t => bumpC s t.length) (List.replicate (W * H) 0), ?_, ?_⟩
  · unfold spec_ctBy.f
    rw [e, w64 (by omega) (by omega)]
    refine ev_pos (by omega) (ev_pos (by omega) (ev_pos (by omega) (ev_pos (by omega) ?_)))
    simp only [Int.toNat_natCast]
    have h1 := ct_walk H m (by omega) (by omega) (W * H + 1) (List.replicate W 0) 0 (List.replicate (W * H) 0) F (by omega) (by simp; omega) (fun c _ => by rw [ht_zeros]; omega) (by simp; omega) (by simp; omega) (fun h0 => by
      have : 1 * 1 ≤ W * H := Nat.mul_le_mul hW.1 hH.1
      omega)
    refine ev_bind h1 (ev_some ?_)
    rw [hgm]
    simp only [Nat.zero_add]
  · rw [fold_most m _ 0 (by omega) (by omega)]
    rw [hrl, hzs] at b2
    generalize ((tilings W H).filter (lowB m)).foldl (fun s t => bumpC s t.length) (List.replicate (W * H) 0) = l at b1 b2 hfl ⊢
    rw [hrl] at hfl
    have h1 := ssum_l l (by omega) (fun i => by have := b1 i; omega) l.length 0 (by omega)
    rw [hfl, b2, ← hfl] at h1
    exact h1
theorem CutsWithMost_both (a b m : Int) : ∃ r : Int × Bool, Ev (fun k => spec_CutsWithMost.f k a b m) r ∧ impl_CutsWithMost.f a b m = some r := by
  by_cases c : (inR a 1 6 && inR b 1 6) = true
  · have c' := c
    simp only [Bool.and_eq_true, inR_iff] at c'
    by_cases d : inR m 1 6 = true
    · have d' := inR_iff.1 d
      obtain ⟨W, rfl⟩ : ∃ W : Nat, a = W := ⟨a.toNat, by omega⟩
      obtain ⟨H, rfl⟩ : ∃ H : Nat, b = H := ⟨b.toNat, by omega⟩
      obtain ⟨l, h1, h2⟩ := most_both W H m (by omega) (by omega) (by omega)
      refine ⟨((tilings W H).foldl (mostStep m) 0, true), ev_call (ctSize_f _ _) (ev_pos c (ev_call (l1In_f _ _ _) (Ev.step (fun _ => spec_CutsWithMost.j0.eq_2 ..) (ev_neg (by simp [d]) (ev_bind h1 (ev_bind h2 (ev_some rfl))))))), ?_⟩
      unfold impl_CutsWithMost.f
      rw [if_pos (by omega), Int.toNat_natCast]
    · refine ⟨(0, false), ev_call (ctSize_f _ _) (ev_pos c (ev_call (l1In_f _ _ _) (Ev.step (fun _ => spec_CutsWithMost.j0.eq_2 ..) (ev_pos (by simpa using d) (ev_some rfl))))), ?_⟩
      rw [inR_iff] at d
      unfold impl_CutsWithMost.f
      rw [if_neg (by omega)]
  · refine ⟨(0, false), ev_call (ctSize_f _ _) (ev_neg c (Ev.step (fun _ => spec_CutsWithMost.j0.eq_2 ..) (ev_pos rfl (ev_some rfl)))), ?_⟩
    rw [Bool.and_eq_true, inR_iff, inR_iff] at c
    unfold impl_CutsWithMost.f
    rw [if_neg (by omega)]
theorem FnExactCutsWithMost : laws_FnExactCutsWithMost.Pure := by
  intro a b m _ _ _
  obtain ⟨⟨l, o⟩, h1, h2⟩ := CutsWithMost_both a b m
  exact ev_at (ev_bind h1 (ev_call h2 (ev_pos rfl (ev_neg (by simp) (ev_some rfl)))))
end Go.Proofs.Ytfmhcgjmgaefcaa.Pure
