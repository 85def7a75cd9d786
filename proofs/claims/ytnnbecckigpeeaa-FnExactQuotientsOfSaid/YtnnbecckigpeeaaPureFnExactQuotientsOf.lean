/- The program's QuotientsOf returns what the reference's returns, for all arguments. No condition. -/
import Derived.Test.YtnnbecckigpeeaaPFnExactQuotientsOfx2
import Derived.Test.YtnnbecckigpeeaaAid
namespace Go.Proofs.Ytnnbecckigpeeaa.Pure
open Go.RowKit Go.Proofs.Ytnnbecckigpeeaa.PFnExactQuotientsOf Go.Proofs.YtnnbecckigpeeaaW.PrintWords Go.Proofs.YtnnbecckigpeeaaW.PrintLast Go.Proofs.Ytnnbecckigpeeaa.Aid

/-! numbers lists: equal, marked, held -/
theorem eqIntS_refl_l (l : List Int) (hl : l.length ≤ 9223372036854775807) : ∀ (d : Nat) (i : Int), 0 ≤ i → (l.length : Int) - i = d → Ev (fun k => laws_eqIntS.l0 k l l i) true
  | 0, i, h0, hd => Ev.step (fun _ => rfl) (ev_neg (by omega) (ev_some rfl))
  | d + 1, i, h0, hd => Ev.step (fun _ => rfl) (ev_pos (by omega) (ev_pos h0 (ev_pos (by omega) (ev_pos rfl (by
      rw [w64 (by omega) (by omega)]
      exact eqIntS_refl_l l hl d (i + 1) (by omega) (by omega))))))
theorem eqIntS_refl (l : List Int) (hl : l.length ≤ 9223372036854775807) : Ev (fun k => laws_eqIntS.f k l l) true :=
  ev_pos rfl (eqIntS_refl_l l hl l.length 0 (by omega) (by omega))

/-- marked from number m on, from place i on -/
def marked (l : List Int) (m : Int) : Nat → List Int
  | 0 => l
  | n + 1 => (marked l m n).set n (m + n)
theorem marked_length (l : List Int) (m : Int) : ∀ n, (marked l m n).length = l.length
  | 0 => rfl
  | n + 1 => by simp only [marked, List.length_set, marked_length l m n]
theorem marked_get (l : List Int) (m : Int) : ∀ n j, j < n → j < l.length → rd (marked l m n) (j : Nat) = m + j
  | 0, j, h, _ => by omega
  | n + 1, j, h, hl => by
    simp only [marked, rd]
    by_cases e : n = j
    · subst e; simp [marked_length, hl]
    · have := marked_get l m n j (by omega) hl
      simp only [rd] at this
      rw [List.getD_eq_getElem?_getD, List.getElem?_set_ne (by simpa using e), ← List.getD_eq_getElem?_getD, this]
theorem markIntS_l (l : List Int) (m : Int) (h0 : 0 ≤ m) (hl : m + l.length ≤ 9223372036854775807) : ∀ (d i : Nat), i + d = l.length → Ev (fun k => laws_markIntS.l0 k (marked l m i) (m + i) i) (m + l.length, marked l m l.length)
  | 0, i, hd => Ev.step (fun _ => rfl) (ev_neg (by rw [marked_length]; omega) (ev_some (by rw [show i = l.length by omega])))
  | d + 1, i, hd => Ev.step (fun _ => rfl) (ev_pos (by rw [marked_length]; omega) (ev_pos (by omega) (by
      rw [w64 (by omega) (by omega), w64 (by omega) (by omega)]
      have := markIntS_l l m h0 hl d (i + 1) (by omega)
      rw [show (m + (i : Int) + 1) = m + ((i + 1 : Nat) : Int) by omega, show ((i : Int) + 1) = ((i + 1 : Nat) : Int) by omega]
      exact this)))
theorem markIntS_ev (l : List Int) (m : Int) (h0 : 0 ≤ m) (hl : m + l.length ≤ 9223372036854775807) : Ev (fun k => laws_markIntS.f k l m) (m + l.length, marked l m l.length) := by
  have := markIntS_l l m h0 hl l.length 0 (by omega)
  simp only [marked, Int.natCast_zero, Int.add_zero] at this
  exact this
theorem heldIntS_l (l : List Int) (m : Int) (h0 : 0 ≤ m) (hl : m + l.length ≤ 9223372036854775807) : ∀ (d i : Nat), i + d = l.length → Ev (fun k => laws_heldIntS.l0 k (marked l m l.length) (m + i) i) (m + l.length)
  | 0, i, hd => Ev.step (fun _ => rfl) (ev_neg (by rw [marked_length]; omega) (ev_some (by rw [show i = l.length by omega])))
  | d + 1, i, hd => Ev.step (fun _ => rfl) (ev_pos (by rw [marked_length]; omega) (ev_pos (by omega) (ev_pos (marked_get l m _ i (by omega) (by omega)) (by
      rw [w64 (by omega) (by omega), w64 (by omega) (by omega)]
      have := heldIntS_l l m h0 hl d (i + 1) (by omega)
      rw [show (m + (i : Int) + 1) = m + ((i + 1 : Nat) : Int) by omega, show ((i : Int) + 1) = ((i + 1 : Nat) : Int) by omega]
      exact this))))
theorem heldIntS_ev (l : List Int) (m : Int) (h0 : 0 ≤ m) (hl : m + l.length ≤ 9223372036854775807) : Ev (fun k => laws_heldIntS.f k (marked l m l.length) m) (m + l.length) := by
  have := heldIntS_l l m h0 hl l.length 0 (by omega)
  simp only [Int.natCast_zero, Int.add_zero] at this
  exact this

/-! the two -/
def inR (n lo hi : Int) : Bool := decide (lo ≤ n) && decide (n ≤ hi)
theorem l1In_f (n lo hi : Int) : spec_l1In.f n lo hi = some (inR n lo hi) := by
  unfold spec_l1In.f inR; by_cases c : lo ≤ n <;> simp [c]
theorem within_f (n lo hi : Int) : impl_within.f n lo hi = some (inR n lo hi) := by
  unfold impl_within.f inR; by_cases c : lo ≤ n <;> simp [c]
theorem raGood_f (a b : Int) : spec_raGood.f a b = some (inR a 1 1000 && inR b 1 1000) := by
  unfold spec_raGood.f; simp only [l1In_f, Option.bind_some]; cases inR a 1 1000 <;> simp
theorem isRatio_f (a b : Int) : impl_isRatio.f a b = some (inR a 1 1000 && inR b 1 1000) := by
  unfold impl_isRatio.f; simp only [within_f, Option.bind_some]; cases inR a 1 1000 <;> simp
theorem l1Most_f (a b : Int) : spec_l1Most.f a b = some (max a b) := by
  unfold spec_l1Most.f; split <;> simp <;> omega
theorem l1Least_f (a b : Int) : spec_l1Least.f a b = some (min a b) := by
  unfold spec_l1Least.f; split <;> simp <;> omega

/-- both loops come to one list -/
theorem quot_l : ∀ (d : Nat) (a b : Int) (l : List Int), 0 ≤ a → a ≤ 1000 → 0 ≤ b → b < d → d ≤ 1001 → l.length + d ≤ 2000 → ∃ r : List Int, r.length ≤ 2000 ∧ Ev (fun k => spec_raQuotients.l0 k a b l) r ∧ Ev (fun k => impl_quotients.l0 k a b l) r
  | 0, a, b, l, h0, h1, h2, h3, h4, h5 => by omega
  | d + 1, a, b, l, h0, h1, h2, h3, h4, h5 => by
    by_cases e : b > 0
    · have hm : Int.tmod a b = a % b := Int.tmod_eq_emod_of_nonneg h0
      have h6 := Int.emod_nonneg a (show b ≠ 0 by omega)
      have h7 := Int.emod_lt_of_pos a e
      obtain ⟨r, hr, h8, h9⟩ := quot_l d b (Int.tmod a b) (l ++ [wrap64 (Int.tdiv a b)]) (by omega) (by omega) (by omega) (by omega) (by omega) (by simp; omega)
      exact ⟨r, hr, Ev.step (fun _ => rfl) (ev_pos e (ev_neg (by omega) (ev_pos (by omega) h8))), Ev.step (fun _ => rfl) (ev_pos e (ev_neg (by omega) (ev_pos (by omega) h9)))⟩
    · exact ⟨l, by omega, Ev.step (fun _ => rfl) (ev_neg e (ev_some rfl)), Ev.step (fun _ => rfl) (ev_neg e (ev_some rfl))⟩

theorem quotientsOf_both (a b : Int) : ∃ r : List Int × Bool, r.1.length ≤ 2000 ∧ Ev (fun k => spec_QuotientsOf.f k a b) r ∧ Ev (fun k => impl_QuotientsOf.f k a b) r := by
  by_cases c : (inR a 1 1000 && inR b 1 1000) = true
  · have hb : 1 ≤ a ∧ a ≤ 1000 ∧ 1 ≤ b ∧ b ≤ 1000 := by
      simp [inR] at c; omega
    obtain ⟨r, hr, h8, h9⟩ := quot_l 1001 (max a b) (min a b) [] (by omega) (by omega) (by omega) (by omega) (by omega) (by simp)
    refine ⟨(r, true), hr, ?_, ?_⟩
    · refine ev_call (raGood_f a b) (ev_pos c (ev_bind (a := r) ?_ (ev_some rfl)))
      exact ev_call (l1Most_f a b) (ev_call (l1Least_f a b) h8)
    · refine ev_call (isRatio_f a b) (ev_pos c (ev_bind (a := r) ?_ (ev_some rfl)))
      have e1 : mx a b = max a b := by unfold mx; omega
      have e2 : mn a b = min a b := by unfold mn; omega
      show Ev (fun k => impl_quotients.l0 k (mx a b) (mn a b) ([] : List Int)) r
      rw [e1, e2]; exact h9
  · exact ⟨([], false), by simp, ev_call (raGood_f a b) (ev_neg c (ev_some rfl)), ev_call (isRatio_f a b) (ev_neg c (ev_some rfl))⟩

theorem FnExactQuotientsOf : laws_FnExactQuotientsOf.Pure := by
  intro a b _ _
  obtain ⟨⟨l, o⟩, hl, h1, h2⟩ := quotientsOf_both a b
  simp only at hl
  refine ev_at (ev_bind h1 (ev_bind h2 (ev_bind (eqIntS_refl l (by omega)) (ev_pos rfl ?_))))
  refine Ev.step (fun _ => rfl) (ev_neg (by simp) ?_)
  refine ev_bind (markIntS_ev l 1 (by omega) (by omega)) (ev_bind (heldIntS_ev l 1 (by omega) (by omega)) (ev_neg (by omega) (ev_pos rfl ?_)))
  refine ev_bind h2 (ev_bind (eqIntS_refl l (by omega)) (ev_pos rfl ?_))
  refine Ev.step (fun _ => rfl) (ev_neg (by simp) ?_)
  exact ev_bind (heldIntS_ev l 1 (by omega) (by omega)) (ev_neg (by omega) (ev_pos rfl (ev_some rfl)))

end Go.Proofs.Ytnnbecckigpeeaa.Pure
