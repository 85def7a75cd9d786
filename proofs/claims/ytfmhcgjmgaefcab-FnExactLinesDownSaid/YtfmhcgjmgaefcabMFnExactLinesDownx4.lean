import Derived.Test.YtfmhcgjmgaefcabMFnExactLinesDownx0
import Derived.Test.YtfmhcgjmgaefcabMFnExactLinesDownx1
import Derived.Test.YtfmhcgjmgaefcabMFnExactLinesDownx2
import Derived.Test.YtfmhcgjmgaefcabMFnExactLinesDownx3
/- Lists of whole numbers: marked, held. No condition. -/
namespace Go.Proofs.Ytfmhcgjmgaefcab.Pure
set_option linter.unusedVariables false
set_option linter.unusedSimpArgs false
open Go.RowKit Go.Proofs.Ytfmhcgjmgaefcab.P Go.Proofs.YtfmhcgjmgaefcabW.PrintWords Go.Proofs.YtfmhcgjmgaefcabW.PrintLast Go.Proofs.Ytfmhcgjmgaefcab.Aid
/-- marked from number m on, from place i on -/
def marked (l : List Int) (m : Int) : Nat → List Int
  | 0 => l
  | n + 1 => (marked l m n).set n (m + n)
theorem marked_length (l : List Int) (m : Int) : ∀ n, (marked l m n).length = l.length
  | 0 => rfl
  | n + 1 => by simp only [marked, List.length_set, marked_length l m n]
theorem marked_get (l : List Int) (m : Int) : ∀ n j, j < n → j < l.length → rd (marked l m n) (j : Nat) = m + j
  | 0, j, h, _ => by omega
  | n + 1, j, h, hl => by
    simp only [marked, rd]
    by_cases e : n = j
    · subst e; simp [marked_length, hl]
    · have := marked_get l m n j (by omega) hl
      simp only [rd] at this
      rw [List.getD_eq_getElem?_getD, List.getElem?_set_ne (by simpa using e), ← List.getD_eq_getElem?_getD, this]
theorem markIntS_l (l : List Int) (m : Int) (h0 : 0 ≤ m) (hl : m + l.length ≤ 9223372036854775807) : ∀ (d i : Nat), i + d = l.length → Ev (fun k => laws_markIntS.l0 k (marked l m i) (m + i) i) (m + l.length, marked l m l.length)
  | 0, i, hd => Ev.step (fun _ => rfl) (ev_neg (by rw [marked_length]; omega) (ev_some (by rw [show i = l.length by omega])))
  | d + 1, i, hd => Ev.step (fun _ => rfl) (ev_pos (by rw [marked_length]; omega) (ev_pos (by omega) (by
      rw [w64 (by omega) (by omega), w64 (by omega) (by omega)]
      have := markIntS_l l m h0 hl d (i + 1) (by omega)
      rw [show (m + (i : Int) + 1) = m + ((i + 1 : Nat) : Int) by omega, show ((i : Int) + 1) = ((i + 1 : Nat) : Int) by omega]
      exact this)))
theorem markIntS_ev (l : List Int) (m : Int) (h0 : 0 ≤ m) (hl : m + l.length ≤ 9223372036854775807) : Ev (fun k => laws_markIntS.f k l m) (m + l.length, marked l m l.length) := by
  have := markIntS_l l m h0 hl l.length 0 (by omega)
  simp only [marked, Int.natCast_zero, Int.add_zero] at this
  exact this
theorem heldIntS_l (l : List Int) (m : Int) (h0 : 0 ≤ m) (hl : m + l.length ≤ 9223372036854775807) : ∀ (d i : Nat), i + d = l.length → Ev (fun k => laws_heldIntS.l0 k (marked l m l.length) (m + i) i) (m + l.length)
  | 0, i, hd => Ev.step (fun _ => rfl) (ev_neg (by rw [marked_length]; omega) (ev_some (by rw [show i = l.length by omega])))
  | d + 1, i, hd => Ev.step (fun _ => rfl) (ev_pos (by rw [marked_length]; omega) (ev_pos (by omega) (ev_pos (marked_get l m _ i (by omega) (by omega)) (by
      rw [w64 (by omega) (by omega), w64 (by omega) (by omega)]
      have := heldIntS_l l m h0 hl d (i + 1) (by omega)
      rw [show (m + (i : Int) + 1) = m + ((i + 1 : Nat) : Int) by omega, show ((i : Int) + 1) = ((i + 1 : Nat) : Int) by omega]
      exact this))))
theorem heldIntS_ev (l : List Int) (m : Int) (h0 : 0 ≤ m) (hl : m + l.length ≤ 9223372036854775807) : Ev (fun k => laws_heldIntS.f k (marked l m l.length) m) (m + l.length) := by
  have := heldIntS_l l m h0 hl l.length 0 (by omega)
  simp only [Int.natCast_zero, Int.add_zero] at this
  exact this

end Go.Proofs.Ytfmhcgjmgaefcab.Pure

/- The program's LinesDown and the reference's are one. -/
namespace Go.Proofs.Ytfmhcgjmgaefcab.Pure
set_option linter.unusedVariables false
set_option linter.unusedSimpArgs false
open Go.RowKit Go.Proofs.Ytfmhcgjmgaefcab.P Go.Proofs.YtfmhcgjmgaefcabW.PrintWords Go.Proofs.YtfmhcgjmgaefcabW.PrintLast Go.Proofs.YtfmhcgjmgaefcabW.PrintMore Go.Proofs.Ytfmhcgjmgaefcab.Aid Go.Proofs.Ytfmhcgjmgaefcab.T
theorem linesDown_both (a b : Int) (l : List Sq) (hl : l.length ≤ 9223372036854775807) : ∃ r : List Int × Bool, r.1.length ≤ 1000 ∧ Ev (fun k => spec_LinesDown.f k a b l) r ∧ impl_LinesDown.f a b l = some r := by
  by_cases g : goodB a b l = true
  · have hg := goodB_iff.1 g
    have hw := hg.w
    have hh := hg.h
    have hn : l.length ≤ 1000 := by have := hg.len; omega
    obtain ⟨x, rfl⟩ : ∃ x : Nat, a = x := ⟨a.toNat, by omega⟩
    have hll := linesTo_len l (x - 1)
    refine ⟨(linesTo l (x - 1), true), by simp only; omega, ev_bind (cuGood_ev x b l hl) (ev_pos g (ev_bind (joLines_ev l hn x (by omega) b) (ev_some rfl))), ?_⟩
    unfold impl_LinesDown.f impl_Cut_linesDown.f
    rw [isCut_f, Option.bind_some, if_pos g, if_pos (by omega), Option.bind_some, Int.toNat_natCast]
  · refine ⟨([], false), by simp, ev_bind (cuGood_ev a b l hl) (ev_neg g (ev_some rfl)), ?_⟩
    unfold impl_LinesDown.f
    rw [isCut_f, Option.bind_some, if_neg g]
theorem FnExactLinesDown : laws_FnExactLinesDown.Pure := by
  intro a b l _ _ hl _
  unfold maxLen at hl
  obtain ⟨⟨r, o⟩, hr, h1, h2⟩ := linesDown_both a b l hl
  simp only at hr
  refine ev_at (ev_call (szCut_f a b l 1048576 (by omega) (by omega) hl) ?_)
  by_cases c : (1048576 : Int) < l.length
  · rw [if_pos c]; exact ev_pos (by omega) (ev_some rfl)
  · rw [if_neg c]
    have hm := markE a b l 1 (by omega) (by omega) (by omega)
    have tc := toCut_ev a b l (by omega)
    have eqr := eqIntS_refl r (by omega)
    refine ev_neg (by omega) (ev_bind tc (ev_bind h1 (ev_bind tc (ev_call h2 (ev_bind eqr (ev_pos rfl ?_))))))
    refine Ev.step (fun _ => laws_FnExactLinesDown.j0.eq_2 ..) (ev_neg (by simp) (ev_bind tc (ev_bind (eqCut_refl a b l hl) (ev_pos rfl (ev_bind hm (ev_neg (by simp only; omega) (ev_bind eqr (ev_pos rfl ?_))))))))
    refine Ev.step (fun _ => laws_FnExactLinesDown.j1.eq_2 ..) (ev_neg (by simp) (ev_bind (markIntS_ev r 1 (by omega) (by omega)) (ev_bind (heldIntS_ev r 1 (by omega) (by omega)) (ev_neg (by omega) (ev_pos rfl ?_)))))
    refine ev_bind tc (ev_call h2 (ev_bind eqr (ev_pos rfl ?_)))
    refine Ev.step (fun _ => laws_FnExactLinesDown.j2.eq_2 ..) (ev_neg (by simp) ?_)
    exact ev_bind (heldIntS_ev r 1 (by omega) (by omega)) (ev_neg (by omega) (ev_pos rfl (ev_some rfl)))
end Go.Proofs.Ytfmhcgjmgaefcab.Pure
