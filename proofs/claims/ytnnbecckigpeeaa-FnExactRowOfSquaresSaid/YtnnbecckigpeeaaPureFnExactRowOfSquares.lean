/- The program's RowOfSquares returns what the reference's returns, for all arguments. No condition. -/
import Derived.Test.YtnnbecckigpeeaaPFnExactRowOfSquaresx3
import Derived.Test.YtnnbecckigpeeaaAid
namespace Go.Proofs.Ytnnbecckigpeeaa.Pure
open Go.RowKit Go.Proofs.Ytnnbecckigpeeaa.PFnExactRowOfSquares Go.Proofs.YtnnbecckigpeeaaW.PrintWords Go.Proofs.YtnnbecckigpeeaaW.PrintLast Go.Proofs.Ytnnbecckigpeeaa.Aid

/-! squares lists: equal, marked, held -/
theorem eqSquare_refl (a b c : Int) : laws_eqSquare.f a b c a b c = some true := by unfold laws_eqSquare.f; simp
theorem eqSquareS_refl_l (l : List S56) (hl : l.length ≤ 9223372036854775807) : ∀ (d : Nat) (i : Int), 0 ≤ i → (l.length : Int) - i = d → Ev (fun k => laws_eqSquareS.l0 k l l i) true
  | 0, i, h0, hd => Ev.step (fun _ => rfl) (ev_neg (by omega) (ev_some rfl))
  | d + 1, i, h0, hd => Ev.step (fun _ => rfl) (ev_pos (by omega) (ev_pos h0 (ev_pos (by omega) (ev_call (eqSquare_refl _ _ _) (ev_pos rfl (by
      rw [w64 (by omega) (by omega)]
      exact eqSquareS_refl_l l hl d (i + 1) (by omega) (by omega)))))))
theorem eqSquareS_refl (l : List S56) (hl : l.length ≤ 9223372036854775807) : Ev (fun k => laws_eqSquareS.f k l l) true :=
  ev_pos rfl (eqSquareS_refl_l l hl l.length 0 (by omega) (by omega))
theorem eqCut_refl (a b : Int) (l : List S56) (hl : l.length ≤ 9223372036854775807) : Ev (fun k => laws_eqCut.f k a b l a b l) true :=
  ev_pos rfl (ev_pos rfl (ev_bind (eqSquareS_refl l hl) (ev_pos rfl (ev_some rfl))))

def markedS (l : List S56) (m : Int) : Nat → List S56
  | 0 => l
  | n + 1 => (markedS l m n).set n ⟨m + 3 * n, m + 3 * n + 1, m + 3 * n + 2⟩
theorem markedS_length (l : List S56) (m : Int) : ∀ n, (markedS l m n).length = l.length
  | 0 => rfl
  | n + 1 => by simp only [markedS, List.length_set, markedS_length l m n]
theorem markedS_get (l : List S56) (m : Int) : ∀ n j, j < n → j < l.length → rd_T56 (markedS l m n) (j : Nat) = ⟨m + 3 * j, m + 3 * j + 1, m + 3 * j + 2⟩
  | 0, j, h, _ => by omega
  | n + 1, j, h, hl => by
    simp only [markedS, rd_T56]
    by_cases e : n = j
    · subst e; simp [markedS_length, hl]
    · have := markedS_get l m n j (by omega) hl
      simp only [rd_T56] at this
      rw [List.getD_eq_getElem?_getD, List.getElem?_set_ne (by simpa using e), ← List.getD_eq_getElem?_getD, this]
theorem rd_set_self (l : List S56) (i : Nat) (x : S56) (h : i < l.length) : rd_T56 (l.set i x) (i : Int) = x := by simp [rd_T56, h]
theorem markSquareS_l (l : List S56) (m : Int) (h0 : 0 ≤ m) (hl : m + 3 * l.length ≤ 9223372036854775807) : ∀ (d i : Nat), i + d = l.length → Ev (fun k => laws_markSquareS.l0 k (markedS l m i) (m + 3 * i) i) (m + 3 * l.length, markedS l m l.length)
  | 0, i, hd => Ev.step (fun _ => rfl) (ev_neg (by rw [markedS_length]; omega) (ev_some (by rw [show i = l.length by omega])))
  | d + 1, i, hd => Ev.step (fun _ => rfl) (ev_pos (by rw [markedS_length]; omega) (ev_pos (by omega) (by
      refine ev_call rfl (ev_call rfl ?_)
      have e1 : (i : Int).toNat = i := by omega
      have hL := markedS_length l m i
      simp only [e1, List.set_set]
      rw [rd_set_self _ i _ (by rw [hL]; omega), rd_set_self _ i _ (by rw [hL]; omega)]
      simp only
      rw [w64 (e := m + 3 * (i : Int) + 1) (by omega) (by omega), w64 (e := m + 3 * (i : Int) + 1 + 1) (by omega) (by omega), w64 (e := m + 3 * (i : Int) + 1 + 1 + 1) (by omega) (by omega), w64 (e := (i : Int) + 1) (by omega) (by omega)]
      have := markSquareS_l l m h0 hl d (i + 1) (by omega)
      rw [show (m + 3 * (i : Int) + 1 + 1 + 1) = m + 3 * ((i + 1 : Nat) : Int) by omega, show ((i : Int) + 1) = ((i + 1 : Nat) : Int) by omega, show (m + 3 * (i : Int) + 1 + 1) = m + 3 * (i : Int) + 2 by omega]
      exact this)))
theorem markSquareS_ev (l : List S56) (m : Int) (h0 : 0 ≤ m) (hl : m + 3 * l.length ≤ 9223372036854775807) : Ev (fun k => laws_markSquareS.f k l m) (m + 3 * l.length, markedS l m l.length) := by
  have := markSquareS_l l m h0 hl l.length 0 (by omega)
  simp only [markedS, Int.natCast_zero, Int.mul_zero, Int.add_zero] at this
  exact this
theorem heldSquareS_l (l : List S56) (m : Int) (h0 : 0 ≤ m) (hl : m + 3 * l.length ≤ 9223372036854775807) : ∀ (d i : Nat), i + d = l.length → Ev (fun k => laws_heldSquareS.l0 k (markedS l m l.length) (m + 3 * i) i) (m + 3 * l.length)
  | 0, i, hd => Ev.step (fun _ => rfl) (ev_neg (by rw [markedS_length]; omega) (ev_some (by rw [show i = l.length by omega])))
  | d + 1, i, hd => by
    have hg := markedS_get l m l.length i (by omega) (by omega)
    have e1 := w64 (e := m + 3 * (i : Int) + 1) (by omega) (by omega)
    have e2 := w64 (e := m + 3 * (i : Int) + 1 + 1) (by omega) (by omega)
    refine Ev.step (fun _ => rfl) (ev_pos (by rw [markedS_length]; omega) (ev_pos (by omega) (ev_pos (by rw [hg]) (ev_pos (by rw [hg, e1]) (ev_pos (by rw [hg, e1, e2]; show _ + 2 = _; omega) ?_)))))
    rw [e1, e2, w64 (e := m + 3 * (i : Int) + 1 + 1 + 1) (by omega) (by omega), w64 (e := (i : Int) + 1) (by omega) (by omega)]
    have := heldSquareS_l l m h0 hl d (i + 1) (by omega)
    rw [show (m + 3 * (i : Int) + 1 + 1 + 1) = m + 3 * ((i + 1 : Nat) : Int) by omega, show ((i : Int) + 1) = ((i + 1 : Nat) : Int) by omega]
    exact this
theorem heldSquareS_ev (l : List S56) (m : Int) (h0 : 0 ≤ m) (hl : m + 3 * l.length ≤ 9223372036854775807) : Ev (fun k => laws_heldSquareS.f k (markedS l m l.length) m) (m + 3 * l.length) := by
  have := heldSquareS_l l m h0 hl l.length 0 (by omega)
  simp only [Int.natCast_zero, Int.mul_zero, Int.add_zero] at this
  exact this
theorem markCut_ev (a b : Int) (l : List S56) (m : Int) (h0 : 0 ≤ m) (hl : m + 3 * l.length ≤ 9223372036854775807) : Ev (fun k => laws_markCut.f k a b l m) (m + 3 * l.length, markedS l m l.length) :=
  ev_bind (markSquareS_ev l m h0 hl) (ev_some rfl)
theorem heldCut_ev (a b : Int) (l : List S56) (m : Int) (h0 : 0 ≤ m) (hl : m + 3 * l.length ≤ 9223372036854775807) : Ev (fun k => laws_heldCut.f k a b (markedS l m l.length) m) (m + 3 * l.length) :=
  ev_bind (heldSquareS_ev l m h0 hl) (ev_neg (by omega) (ev_some rfl))

/-! the two -/
def inR (n lo hi : Int) : Bool := decide (lo ≤ n) && decide (n ≤ hi)
theorem l1In_f (n lo hi : Int) : spec_l1In.f n lo hi = some (inR n lo hi) := by
  unfold spec_l1In.f inR; by_cases c : lo ≤ n <;> simp [c]
theorem within_f (n lo hi : Int) : impl_within.f n lo hi = some (inR n lo hi) := by
  unfold impl_within.f inR; by_cases c : lo ≤ n <;> simp [c]

theorem row_l (n a b : Int) (hn : n ≤ 30) : ∀ (d : Nat) (i : Int) (l : List S56), 0 ≤ i → n - i = d → l.length = i.toNat → ∃ r : List S56, r.length ≤ 30 ∧ Ev (fun k => spec_RowOfSquares.l0 k n i a b l) (a, b, r, true) ∧ Ev (fun k => impl_RowOfSquares.l0 k n i a b l) (a, b, r, true)
  | 0, i, l, h0, hd, hl => ⟨l, by omega, Ev.step (fun _ => rfl) (ev_neg (by omega) (ev_some rfl)), Ev.step (fun _ => rfl) (ev_neg (by omega) (ev_some rfl))⟩
  | d + 1, i, l, h0, hd, hl => by
    obtain ⟨r, hr, h1, h2⟩ := row_l n a b hn d (i + 1) (l ++ [⟨i, 0, 1⟩]) (by omega) (by omega) (by simp; omega)
    rw [← w64 (e := i + 1) (by omega) (by omega)] at h1 h2
    exact ⟨r, hr, Ev.step (fun _ => rfl) (ev_pos (by omega) (ev_pos (by omega) h1)), Ev.step (fun _ => rfl) (ev_pos (by omega) (ev_pos (by omega) h2))⟩

theorem row_both (n : Int) : ∃ (a b : Int) (r : List S56) (o : Bool), r.length ≤ 30 ∧ Ev (fun k => spec_RowOfSquares.f k n) (a, b, r, o) ∧ Ev (fun k => impl_RowOfSquares.f k n) (a, b, r, o) := by
  by_cases c : inR n 1 30 = true
  · have hb : 1 ≤ n ∧ n ≤ 30 := by simp [inR] at c; omega
    obtain ⟨r, hr, h1, h2⟩ := row_l n n 1 (by omega) n.toNat 0 [] (by omega) (by omega) (by simp)
    exact ⟨n, 1, r, true, hr, ev_call (l1In_f n 1 30) (ev_pos c h1), ev_call (within_f n 1 30) (ev_pos c h2)⟩
  · exact ⟨0, 0, [], false, by simp, ev_call (l1In_f n 1 30) (ev_neg c (ev_some rfl)), ev_call (within_f n 1 30) (ev_neg c (ev_some rfl))⟩

theorem FnExactRowOfSquares : laws_FnExactRowOfSquares.Pure := by
  intro n _
  obtain ⟨a, b, l, o, hl, h1, h2⟩ := row_both n
  refine ev_at (ev_bind h1 (ev_bind h2 (ev_bind (eqCut_refl a b l (by omega)) (ev_pos rfl ?_))))
  refine Ev.step (fun _ => rfl) (ev_neg (by simp) ?_)
  refine ev_bind (markCut_ev a b l 1 (by omega) (by omega)) (ev_bind (heldCut_ev a b l 1 (by omega) (by omega)) (ev_neg (by omega) (ev_pos rfl ?_)))
  refine ev_bind h2 (ev_bind (eqCut_refl a b l (by omega)) (ev_pos rfl ?_))
  refine Ev.step (fun _ => rfl) (ev_neg (by simp) ?_)
  exact ev_bind (heldCut_ev a b l 1 (by omega) (by omega)) (ev_neg (by omega) (ev_pos rfl (ev_some rfl)))

end Go.Proofs.Ytnnbecckigpeeaa.Pure
