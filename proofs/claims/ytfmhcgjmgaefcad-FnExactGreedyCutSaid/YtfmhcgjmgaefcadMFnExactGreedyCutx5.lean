import Derived.Test.YtfmhcgjmgaefcadMFnExactGreedyCutx0
import Derived.Test.YtfmhcgjmgaefcadMFnExactGreedyCutx1
import Derived.Test.YtfmhcgjmgaefcadMFnExactGreedyCutx2
import Derived.Test.YtfmhcgjmgaefcadMFnExactGreedyCutx3
import Derived.Test.YtfmhcgjmgaefcadMFnExactGreedyCutx4
namespace Go.Proofs.Ytfmhcgjmgaefcad.Pure
set_option linter.unusedVariables false
set_option linter.unusedSimpArgs false
open Go.RowKit Go.Proofs.Ytfmhcgjmgaefcad.P Go.Proofs.YtfmhcgjmgaefcadW.PrintWords Go.Proofs.YtfmhcgjmgaefcadW.PrintLast Go.Proofs.YtfmhcgjmgaefcadW.PrintMore Go.Proofs.Ytfmhcgjmgaefcad.Aid Go.Proofs.Ytfmhcgjmgaefcad.T
theorem greedy_done (W H : Int) (x y w h : Int) (x' y' : Int) (l : List Sq) (h0 : 0 < l.length) (h1 : l.length ≤ 500000) (hk : l.all okQ = true) (hi : ¬ (0 < w ∧ 0 < h)) (hs : ¬ (x' < W ∧ y' < H)) :
    Ev (fun k => impl_GreedyCut.l0 k W H x y w h l) (cutV W H l) ∧ Ev (fun k => spec_GreedyCut.l0 k W H l x' y') (cutV W H l) := by
  have e1 : Ev (fun k => impl_GreedyCut.j2 k W H x y w h l false) (cutV W H l) := Ev.step (fun _ => impl_GreedyCut.j2.eq_2 ..) (ev_neg (by decide) (ev_call (cutOf_f W H l h0 (by omega) hk) (ev_some rfl)))
  have e2 : Ev (fun k => spec_GreedyCut.j2 k W H l x' y' false) (cutV W H l) := Ev.step (fun _ => spec_GreedyCut.j2.eq_2 ..) (ev_neg (by decide) (ev_bind (cuMake_ev W H l h1) (ev_some rfl)))
  constructor
  · refine Ev.step (fun _ => impl_GreedyCut.l0.eq_2 ..) ?_
    by_cases c : w > 0
    · refine ev_pos c ?_
      rw [decide_eq_false (show ¬ h > 0 by omega)]; exact e1
    · exact ev_neg c e1
  · refine Ev.step (fun _ => spec_GreedyCut.l0.eq_2 ..) ?_
    by_cases c : x' < W
    · refine ev_pos c ?_
      rw [decide_eq_false (show ¬ y' < H by omega)]; exact e2
    · exact ev_neg c e2
theorem greedy_l (W H : Int) (hW : 1 ≤ W ∧ W ≤ 1000) (hH : 1 ≤ H ∧ H ≤ 1000) : ∀ (d : Nat) (x y w h : Int) (l : List Sq), 0 ≤ x → 0 ≤ y → 0 ≤ w → 0 ≤ h → x + w = W → y + h = H → w + h < d → l.length + d ≤ 10000 → l.all okQ = true → (0 < l.length ∨ (0 < w ∧ 0 < h)) →
    ∃ r : Int × Int × List Sq × Bool, r.2.2.1.length ≤ 30 ∧ Ev (fun k => impl_GreedyCut.l0 k W H x y w h l) r ∧ Ev (fun k => spec_GreedyCut.l0 k W H l x y) r
  | 0, x, y, w, h, l, hx, hy, hw, hh, h1, h2, hd, hl, hk, hn => by omega
  | d + 1, x, y, w, h, l, hx, hy, hw, hh, h1, h2, hd, hl, hk, hn => by
    by_cases c : 0 < w ∧ 0 < h
    · have hk' : (l ++ [(⟨x, y, min w h⟩ : Sq)]).all okQ = true := by
        rw [List.all_append, hk, Bool.true_and]
        simp only [List.all_cons, List.all_nil, Bool.and_true]
        exact okQ_iff.2 (by simp only; omega)
      have hl' : (l ++ [(⟨x, y, min w h⟩ : Sq)]).length = l.length + 1 := by simp
      have st1 : ∀ {r}, Ev (fun k => if w > h then impl_GreedyCut.l0 k W H (wrap64 (x + mn w h)) y (wrap64 (w - mn w h)) h (l ++ [(⟨x, y, mn w h⟩ : Sq)]) else impl_GreedyCut.l0 k W H x (wrap64 (y + mn w h)) w (wrap64 (h - mn w h)) (l ++ [(⟨x, y, mn w h⟩ : Sq)])) r → Ev (fun k => impl_GreedyCut.l0 k W H x y w h l) r := fun {r} e => by
        refine Ev.step (fun _ => impl_GreedyCut.l0.eq_2 ..) (ev_pos (show w > 0 from c.1) ?_)
        rw [decide_eq_true (show h > 0 from c.2)]
        refine Ev.step (fun _ => impl_GreedyCut.j2.eq_2 ..) (ev_pos rfl (ev_pos (by omega) ?_))
        simp only [Option.bind_some]
        exact e
      have st2 : ∀ {r}, Ev (fun k => if w ≥ h then spec_GreedyCut.l0 k W H (l ++ [(⟨x, y, min w h⟩ : Sq)]) (wrap64 (x + min w h)) y else spec_GreedyCut.l0 k W H (l ++ [(⟨x, y, min w h⟩ : Sq)]) x (wrap64 (y + min w h))) r → Ev (fun k => spec_GreedyCut.l0 k W H l x y) r := fun {r} e => by
        refine Ev.step (fun _ => spec_GreedyCut.l0.eq_2 ..) (ev_pos (show x < W by omega) ?_)
        rw [decide_eq_true (show y < H by omega)]
        refine Ev.step (fun _ => spec_GreedyCut.j2.eq_2 ..) (ev_pos rfl ?_)
        rw [w64 (e := W - x) (by omega) (by omega), w64 (e := H - y) (by omega) (by omega), show W - x = w by omega, show H - y = h by omega]
        refine ev_call (l1Least_f w h) (ev_pos (by omega) ?_)
        simp only [Option.bind_some]
        exact e
      rw [mn_min] at st1
      rcases Int.lt_trichotomy w h with hc | hc | hc
      · have e1 : wrap64 (y + min w h) = y + w := by rw [w64 (by omega) (by omega)]; omega
        have e2 : wrap64 (h - min w h) = h - w := by rw [w64 (by omega) (by omega)]; omega
        obtain ⟨r, hr, r1, r2⟩ := greedy_l W H hW hH d x (y + w) w (h - w) _ hx (by omega) hw (by omega) h1 (by omega) (by omega) (by rw [hl']; omega) hk' (.inl (by omega))
        refine ⟨r, hr, st1 (ev_neg (by omega) ?_), st2 (ev_neg (by omega) ?_)⟩
        · rw [e1, e2]; exact r1
        · rw [e1]; exact r2
      · have e1 : wrap64 (y + min w h) = y + w := by rw [w64 (by omega) (by omega)]; omega
        have e2 : wrap64 (h - min w h) = h - w := by rw [w64 (by omega) (by omega)]; omega
        have e3 : wrap64 (x + min w h) = x + w := by rw [w64 (by omega) (by omega)]; omega
        obtain ⟨r1, r2⟩ := greedy_done W H x (y + w) w (h - w) (x + w) y (l ++ [(⟨x, y, min w h⟩ : Sq)]) (by omega) (by omega) hk' (by omega) (by omega)
        refine ⟨_, cutV_len W H (l ++ [(⟨x, y, min w h⟩ : Sq)]), st1 (ev_neg (by omega) ?_), st2 (ev_pos (by omega) ?_)⟩
        · rw [e1, e2]; exact r1
        · rw [e3]; exact r2
      · have e1 : wrap64 (x + min w h) = x + h := by rw [w64 (by omega) (by omega)]; omega
        have e2 : wrap64 (w - min w h) = w - h := by rw [w64 (by omega) (by omega)]; omega
        obtain ⟨r, hr, r1, r2⟩ := greedy_l W H hW hH d (x + h) y (w - h) h _ (by omega) hy (by omega) hh (by omega) h2 (by omega) (by rw [hl']; omega) hk' (.inl (by omega))
        refine ⟨r, hr, st1 (ev_pos (by omega) ?_), st2 (ev_pos (by omega) ?_)⟩
        · rw [e1, e2]; exact r1
        · rw [e1]; exact r2
    · obtain ⟨r1, r2⟩ := greedy_done W H x y w h x y l (by omega) (by omega) hk c (by omega)
      exact ⟨_, cutV_len _ _ _, r1, r2⟩
theorem greedyCut_both (a b : Int) : ∃ r : Int × Int × List Sq × Bool, r.2.2.1.length ≤ 30 ∧ Ev (fun k => spec_GreedyCut.f k a b) r ∧ Ev (fun k => impl_GreedyCut.f k a b) r := by
  have no1 : Ev (fun k => spec_GreedyCut.j0 k a b true) (0, 0, [], false) := Ev.step (fun _ => spec_GreedyCut.j0.eq_2 ..) (ev_pos rfl (ev_some rfl))
  have no2 : Ev (fun k => impl_GreedyCut.j0 k a b true) (0, 0, [], false) := Ev.step (fun _ => impl_GreedyCut.j0.eq_2 ..) (ev_pos rfl (ev_some rfl))
  by_cases h : (inR a 1 1000 && inR b 1 1000) = true
  · obtain ⟨q, hq, q1, q2⟩ := quot_both h
    obtain ⟨s, s1, s2⟩ := qsum_both q (by omega)
    have hc : Ev (fun k => impl_CountGreedy.f k a b) (s, true) := by
      refine ev_bind (a := (q, true)) ?_ (ev_bind s2 (ev_some rfl))
      refine ev_call (isRatio_f a b) (ev_pos h (ev_bind q2 (ev_some rfl)))
    have hab := h
    rw [Bool.and_eq_true, inR_iff, inR_iff] at hab
    by_cases hs : s > 30
    · refine ⟨(0, 0, [], false), by simp, ev_call (raGood_f a b) (ev_pos h (ev_bind q1 (ev_bind s1 ?_))), ev_bind hc (ev_pos rfl ?_)⟩
      · rw [decide_eq_true hs]; exact no1
      · rw [decide_eq_true hs]; exact no2
    · obtain ⟨r, hr, r1, r2⟩ := greedy_l a b hab.1 hab.2 2002 0 0 a b [] (by omega) (by omega) (by omega) (by omega) (by omega) (by omega) (by omega) (by simp) rfl (.inr (by omega))
      refine ⟨r, hr, ev_call (raGood_f a b) (ev_pos h (ev_bind q1 (ev_bind s1 ?_))), ev_bind hc (ev_pos rfl ?_)⟩
      · rw [decide_eq_false hs]; exact Ev.step (fun _ => spec_GreedyCut.j0.eq_2 ..) (ev_neg (by decide) r2)
      · rw [decide_eq_false hs]; exact Ev.step (fun _ => impl_GreedyCut.j0.eq_2 ..) (ev_neg (by decide) r1)
  · have e0 : Ev (fun k => impl_sum.f k ([] : List Int)) 0 := Ev.step (g := fun k => impl_sum.f k ([] : List Int)) (fun _ => impl_sum.l0.eq_2 ..) (ev_neg (by simp) (ev_some rfl))
    have hc : Ev (fun k => impl_CountGreedy.f k a b) (0, false) := ev_bind (a := (([] : List Int), false)) (ev_call (isRatio_f a b) (ev_neg h (ev_some rfl))) (ev_bind e0 (ev_some rfl))
    refine ⟨(0, 0, [], false), by simp, ev_call (raGood_f a b) (ev_neg h no1), ev_bind hc (ev_neg (by decide) no2)⟩
theorem FnExactGreedyCut : laws_FnExactGreedyCut.Pure := by
  intro a b _ _
  obtain ⟨⟨r1, r2, r3, r4⟩, hl, h1, h2⟩ := greedyCut_both a b
  simp only at hl
  refine ev_at (ev_bind h1 (ev_bind h2 (ev_bind (eqCut_refl r1 r2 r3 (by omega)) (ev_pos rfl ?_))))
  refine Ev.step (fun _ => laws_FnExactGreedyCut.j0.eq_2 ..) (ev_neg (by simp) ?_)
  refine ev_bind (markE r1 r2 r3 1 (by omega) (by omega) (by omega)) (ev_bind (heldE r1 r2 r3.length 1 (by omega) (by omega) (by omega)) (ev_neg (by omega) (ev_pos rfl ?_)))
  refine ev_bind h2 (ev_bind (eqCut_refl r1 r2 r3 (by omega)) (ev_pos rfl ?_))
  refine Ev.step (fun _ => laws_FnExactGreedyCut.j1.eq_2 ..) (ev_neg (by simp) ?_)
  exact ev_bind (heldE r1 r2 r3.length 1 (by omega) (by omega) (by omega)) (ev_neg (by omega) (ev_pos rfl (ev_some rfl)))
end Go.Proofs.Ytfmhcgjmgaefcad.Pure
