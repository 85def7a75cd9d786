import Derived.Test.YtfmhcgjmgaefcaaMFnExactCutsBySquaresx0
import Derived.Test.YtfmhcgjmgaefcaaMFnExactCutsBySquaresx1
/- The cuts of a rectangle counted by their squares: the program and the reference come to one list. No condition. -/
namespace Go.Proofs.Ytfmhcgjmgaefcaa.Pure
set_option linter.unusedVariables false
set_option linter.unusedSimpArgs false
open Go.RowKit Go.Proofs.Ytfmhcgjmgaefcaa.P Go.Proofs.YtfmhcgjmgaefcaaW.PrintWords Go.Proofs.YtfmhcgjmgaefcaaW.PrintLast Go.Proofs.YtfmhcgjmgaefcaaW.PrintMore Go.Proofs.Ytfmhcgjmgaefcaa.Aid Go.Proofs.Ytfmhcgjmgaefcaa.T
theorem genM_eq (h m : Int) : ∀ (n : Nat) (f : List Int), Fits f h → left h f < n → (f.length : Int) ≤ m → genM h m n f = gen h n f
  | 0, f, _, hn, _ => by omega
  | n + 1, f, F, hn, hm => by
    have L := low_spec f F.1
    have hx := L.lt
    have hl := runAt_le f (low f) (by omega)
    have hr : min (room f h (low f)) m.toNat = room f h (low f) := by unfold room; omega
    simp only [genM, gen, hr]
    split
    · rfl
    · have key : ∀ r, r ≤ room f h (low f) → ((List.range r).flatMap fun i => (genM h m n (place f (low f) (i + 1) (ht f (low f) + (i + 1 : Nat)))).map (⟨low f, ht f (low f), (i + 1 : Nat)⟩ :: ·)) = ((List.range r).flatMap fun i => (gen h n (place f (low f) (i + 1) (ht f (low f) + (i + 1 : Nat)))).map (⟨low f, ht f (low f), (i + 1 : Nat)⟩ :: ·)) := by
        intro r
        induction r with
        | zero => intro _; rfl
        | succ r ih =>
          intro hrr
          obtain ⟨F', hn'⟩ := step_fits F (i := r) (by omega) hn
          have hp : (place f (low f) (r + 1) (ht f (low f) + ((r + 1 : Nat) : Int))).length = f.length := place_length f _ _ _ (by unfold room at hrr; omega)
          rw [flat_range_succ, flat_range_succ, ih (by omega), genM_eq h m n _ F' hn' (by rw [hp]; exact hm)]
      exact key _ (Nat.le_refl _)
theorem left_place_le (h : Int) (f : List Int) (x s : Nat) (hx : x + s ≤ f.length) (hr : s ≤ runAt f x) (hs : 1 ≤ s) (hh : ht f x + s ≤ h) :
    left h (place f x s (ht f x + (s : Nat))) + s ≤ left h f := by
  have e := split_at f x s hx (ht f x) (fun i hi => runAt_eq f x i (by omega))
  have h1 : left h f = left h (f.take x) + (s * (h - ht f x).toNat + left h (f.drop (x + s))) := by
    conv => lhs; rw [e]
    rw [left_append, left_append, left_replicate]
  rw [h1, place, left_append, left_append, left_replicate]
  have h2 : s * ((h - (ht f x + (s : Nat))).toNat + 1) ≤ s * (h - ht f x).toNat := Nat.mul_le_mul_left _ (by omega)
  rw [Nat.mul_succ] at h2
  omega
theorem gen_count (h : Int) : ∀ (n : Nat) (f : List Int), Fits f h → left h f < n → (gen h n f).length ≤ 2 ^ left h f
  | 0, f, _, hn => by omega
  | n + 1, f, F, hn => by
    have L := low_spec f F.1
    have hx := L.lt
    have hl := runAt_le f (low f) (by omega)
    simp only [gen]
    split
    · exact Nat.one_le_two_pow
    · have key : ∀ r, r ≤ room f h (low f) → ((List.range r).flatMap fun i => (gen h n (place f (low f) (i + 1) (ht f (low f) + (i + 1 : Nat)))).map (⟨low f, ht f (low f), (i + 1 : Nat)⟩ :: ·)).length + 2 ^ (left h f - r) ≤ 2 ^ left h f := by
        intro r
        induction r with
        | zero => intro _; simp
        | succ r ih =>
          intro hrr
          obtain ⟨F', hn'⟩ := step_fits F (i := r) (by omega) hn
          have hle := left_place_le h f (low f) (r + 1) (by unfold room at hrr; omega) (by unfold room at hrr; omega) (by omega) (by unfold room at hrr; omega)
          have i1 := gen_count h n _ F' hn'
          have i2 := ih (by omega)
          rw [flat_range_succ, List.length_append, List.length_map]
          have i3 : 2 ^ left h (place f (low f) (r + 1) (ht f (low f) + ((r + 1 : Nat) : Int))) ≤ 2 ^ (left h f - (r + 1)) := Nat.pow_le_pow_right (by omega) (by omega)
          have i4 : 2 ^ (left h f - r) = 2 ^ (left h f - (r + 1)) + 2 ^ (left h f - (r + 1)) := by
            rw [show left h f - r = (left h f - (r + 1)) + 1 by omega, Nat.pow_succ]; omega
          omega
      exact Nat.le_trans (Nat.le_add_right _ _) (key _ (Nat.le_refl _))
/-- the counts -/
def counts (W : Nat) (H : Int) : List Int := (tilings W H).foldl (fun s t => bumpC s t.length) (List.replicate (W * H.toNat) 0)
theorem foldB_length : ∀ (l : List (List Sq)) (s : List Int), (l.foldl (fun s t => bumpC s t.length) s).length = s.length
  | [], s => rfl
  | t :: l, s => by rw [List.foldl_cons, foldB_length l, bumpC_length]
theorem counts_length (W : Nat) (H : Int) : (counts W H).length = W * H.toNat := by unfold counts; rw [foldB_length]; simp
theorem bySquares_f (W H : Nat) (hW : 1 ≤ W ∧ W ≤ 13) (hH : 1 ≤ H ∧ H ≤ 13) : impl_bySquares.f W H = some (counts W H) := by
  unfold impl_bySquares.f
  rw [if_pos (by omega)]
  rfl
theorem ctBy_ev (W H : Nat) (hW : 1 ≤ W ∧ W ≤ 6) (hH : 1 ≤ H ∧ H ≤ 6) : Ev (fun k => spec_ctBy.f k W H 6) (counts W H) := by
  have hp : W * H ≤ 6 * 6 := Nat.mul_le_mul hW.2 hH.2
  have e : ((W : Int) * (H : Int)) = ((W * H : Nat) : Int) := (Int.natCast_mul ..).symm
  unfold spec_ctBy.f
  rw [e, w64 (by omega) (by omega)]
  refine ev_pos (by omega) (ev_pos (by omega) (ev_pos (by omega) (ev_pos (by omega) ?_)))
  simp only [Int.toNat_natCast]
  have hl : left (H : Int) (List.replicate W 0) = W * H := by rw [left_zeros]; simp
  have F := fits_zeros W H (by omega) (by omega)
  have h1 := ct_walk H 6 (by omega) (by omega) (W * H + 1) (List.replicate W 0) 0 (List.replicate (W * H) 0) F (by omega) (by simp; omega) (fun c _ => by rw [ht_zeros]; omega) (by simp; omega) (by simp; omega) (fun h0 => by
    have : 1 * 1 ≤ W * H := Nat.mul_le_mul hW.1 hH.1
    omega)
  refine ev_bind h1 (ev_some ?_)
  rw [genM_eq H 6 _ _ F (by omega) (by simp; omega)]
  unfold counts tilings
  simp only [Nat.zero_add, Int.toNat_natCast]
theorem ctSize_f (a b : Int) : spec_ctSize.f a b = some (inR a 1 6 && inR b 1 6) := by
  unfold spec_ctSize.f; simp only [l1In_f, Option.bind_some]; cases inR a 1 6 <;> simp
theorem isCounted_f (a b : Int) : impl_isCounted.f a b = some (inR a 1 6 && inR b 1 6) := by
  unfold impl_isCounted.f; simp only [within_f, Option.bind_some]; cases inR a 1 6 <;> simp
theorem cutsBySquares_both (a b : Int) : ∃ r : List Int × Bool, r.1.length ≤ 36 ∧ Ev (fun k => spec_CutsBySquares.f k a b) r ∧ impl_CutsBySquares.f a b = some r := by
  by_cases c : (inR a 1 6 && inR b 1 6) = true
  · have c' := c
    simp only [Bool.and_eq_true, inR_iff] at c'
    obtain ⟨W, rfl⟩ : ∃ W : Nat, a = W := ⟨a.toNat, by omega⟩
    obtain ⟨H, rfl⟩ : ∃ H : Nat, b = H := ⟨b.toNat, by omega⟩
    have hp : W * H ≤ 6 * 6 := Nat.mul_le_mul (by omega) (by omega)
    refine ⟨(counts W H, true), by rw [counts_length]; simpa using hp, ev_call (ctSize_f _ _) (ev_pos c (ev_bind (ctBy_ev W H (by omega) (by omega)) (ev_some rfl))), ?_⟩
    unfold impl_CutsBySquares.f
    rw [isCounted_f, Option.bind_some, if_pos c, bySquares_f W H (by omega) (by omega), Option.bind_some]
  · refine ⟨([], false), by simp, ev_call (ctSize_f _ _) (ev_neg c (ev_some rfl)), ?_⟩
    unfold impl_CutsBySquares.f
    rw [isCounted_f, Option.bind_some, if_neg c]
end Go.Proofs.Ytfmhcgjmgaefcaa.Pure

/- Lists of whole numbers: equal, copied, marked, held. No condition. -/
namespace Go.Proofs.Ytfmhcgjmgaefcaa.Pure
set_option linter.unusedVariables false
set_option linter.unusedSimpArgs false
open Go.RowKit Go.Proofs.Ytfmhcgjmgaefcaa.P Go.Proofs.YtfmhcgjmgaefcaaW.PrintWords Go.Proofs.YtfmhcgjmgaefcaaW.PrintLast Go.Proofs.Ytfmhcgjmgaefcaa.Aid
/-! numbers lists: equal, marked, held -/
theorem eqIntS_refl_l (l : List Int) (hl : l.length ≤ 9223372036854775807) : ∀ (d : Nat) (i : Int), 0 ≤ i → (l.length : Int) - i = d → Ev (fun k => laws_eqIntS.l0 k l l i) true
  | 0, i, h0, hd => Ev.step (fun _ => rfl) (ev_neg (by omega) (ev_some rfl))
  | d + 1, i, h0, hd => Ev.step (fun _ => rfl) (ev_pos (by omega) (ev_pos h0 (ev_pos (by omega) (ev_pos rfl (by
      rw [w64 (by omega) (by omega)]
      exact eqIntS_refl_l l hl d (i + 1) (by omega) (by omega))))))
theorem eqIntS_refl (l : List Int) (hl : l.length ≤ 9223372036854775807) : Ev (fun k => laws_eqIntS.f k l l) true :=
  ev_pos rfl (eqIntS_refl_l l hl l.length 0 (by omega) (by omega))

end Go.Proofs.Ytfmhcgjmgaefcaa.Pure

/- Lists of whole numbers: marked, held. No condition. -/
namespace Go.Proofs.Ytfmhcgjmgaefcaa.Pure
set_option linter.unusedVariables false
set_option linter.unusedSimpArgs false
open Go.RowKit Go.Proofs.Ytfmhcgjmgaefcaa.P Go.Proofs.YtfmhcgjmgaefcaaW.PrintWords Go.Proofs.YtfmhcgjmgaefcaaW.PrintLast Go.Proofs.Ytfmhcgjmgaefcaa.Aid
/-- marked from number m on, from place i on -/
def marked (l : List Int) (m : Int) : Nat → List Int
  | 0 => l
  | n + 1 => (marked l m n).set n (m + n)
theorem marked_length (l : List Int) (m : Int) : ∀ n, (marked l m n).length = l.length
  | 0 => rfl
  | n + 1 => by simp only [marked, List.length_set, marked_length l m n]
theorem marked_get (l : List Int) (m : Int) : ∀ n j, j < n → j < l.length → rd (marked l m n) (j : Nat) = m + j
  | 0, j, h, _ => by omega
  | n + 1, j, h, hl => by
    simp only [marked, rd]
    by_cases e : n = j
    · subst e; simp [marked_length, hl]
    · have := marked_get l m n j (by omega) hl
      simp only [rd] at this
      rw [List.getD_eq_getElem?_getD, List.getElem?_set_ne (by simpa using e), ← List.getD_eq_getElem?_getD, this]
theorem markIntS_l (l : List Int) (m : Int) (h0 : 0 ≤ m) (hl : m + l.length ≤ 9223372036854775807) : ∀ (d i : Nat), i + d = l.length → Ev (fun k => laws_markIntS.l0 k (marked l m i) (m + i) i) (m + l.length, marked l m l.length)
  | 0, i, hd => Ev.step (fun _ => rfl) (ev_neg (by rw [marked_length]; omega) (ev_some (by rw [show i = l.length by omega])))
  | d + 1, i, hd => Ev.step (fun _ => rfl) (ev_pos (by rw [marked_length]; omega) (ev_pos (by omega) (by
      rw [w64 (by omega) (by omega), w64 (by omega) (by omega)]
      have := markIntS_l l m h0 hl d (i + 1) (by omega)
      rw [show (m + (i : Int) + 1) = m + ((i + 1 : Nat) : Int) by omega, show ((i : Int) + 1) = ((i + 1 : Nat) : Int) by omega]
      exact this)))
theorem markIntS_ev (l : List Int) (m : Int) (h0 : 0 ≤ m) (hl : m + l.length ≤ 9223372036854775807) : Ev (fun k => laws_markIntS.f k l m) (m + l.length, marked l m l.length) := by
  have := markIntS_l l m h0 hl l.length 0 (by omega)
  simp only [marked, Int.natCast_zero, Int.add_zero] at this
  exact this
theorem heldIntS_l (l : List Int) (m : Int) (h0 : 0 ≤ m) (hl : m + l.length ≤ 9223372036854775807) : ∀ (d i : Nat), i + d = l.length → Ev (fun k => laws_heldIntS.l0 k (marked l m l.length) (m + i) i) (m + l.length)
  | 0, i, hd => Ev.step (fun _ => rfl) (ev_neg (by rw [marked_length]; omega) (ev_some (by rw [show i = l.length by omega])))
  | d + 1, i, hd => Ev.step (fun _ => rfl) (ev_pos (by rw [marked_length]; omega) (ev_pos (by omega) (ev_pos (marked_get l m _ i (by omega) (by omega)) (by
      rw [w64 (by omega) (by omega), w64 (by omega) (by omega)]
      have := heldIntS_l l m h0 hl d (i + 1) (by omega)
      rw [show (m + (i : Int) + 1) = m + ((i + 1 : Nat) : Int) by omega, show ((i : Int) + 1) = ((i + 1 : Nat) : Int) by omega]
      exact this))))
theorem heldIntS_ev (l : List Int) (m : Int) (h0 : 0 ≤ m) (hl : m + l.length ≤ 9223372036854775807) : Ev (fun k => laws_heldIntS.f k (marked l m l.length) m) (m + l.length) := by
  have := heldIntS_l l m h0 hl l.length 0 (by omega)
  simp only [Int.natCast_zero, Int.add_zero] at this
  exact this

end Go.Proofs.Ytfmhcgjmgaefcaa.Pure

/- The program's CutsBySquares and the reference's are one. -/
namespace Go.Proofs.Ytfmhcgjmgaefcaa.Pure
set_option linter.unusedVariables false
set_option linter.unusedSimpArgs false
open Go.RowKit Go.Proofs.Ytfmhcgjmgaefcaa.P Go.Proofs.YtfmhcgjmgaefcaaW.PrintWords Go.Proofs.YtfmhcgjmgaefcaaW.PrintLast Go.Proofs.YtfmhcgjmgaefcaaW.PrintMore Go.Proofs.Ytfmhcgjmgaefcaa.Aid Go.Proofs.Ytfmhcgjmgaefcaa.T
theorem FnExactCutsBySquares : laws_FnExactCutsBySquares.Pure := by
  intro a b _ _
  obtain ⟨⟨l, o⟩, hl, h1, h2⟩ := cutsBySquares_both a b
  simp only at hl
  refine ev_at (ev_bind h1 (ev_call h2 (ev_bind (eqIntS_refl l (by omega)) (ev_pos rfl ?_))))
  refine Ev.step (fun _ => laws_FnExactCutsBySquares.j0.eq_2 ..) (ev_neg (by simp) ?_)
  refine ev_bind (markIntS_ev l 1 (by omega) (by omega)) (ev_bind (heldIntS_ev l 1 (by omega) (by omega)) (ev_neg (by omega) (ev_pos rfl ?_)))
  refine ev_call h2 (ev_bind (eqIntS_refl l (by omega)) (ev_pos rfl ?_))
  refine Ev.step (fun _ => laws_FnExactCutsBySquares.j1.eq_2 ..) (ev_neg (by simp) ?_)
  exact ev_bind (heldIntS_ev l 1 (by omega) (by omega)) (ev_neg (by omega) (ev_pos rfl (ev_some rfl)))
end Go.Proofs.Ytfmhcgjmgaefcaa.Pure
