/- What the program's and the reference's tables of cuts by lines hold. Both come to 'tabN'. -/
import Derived.Test.YtnnbecckigpeeaaF29
import Derived.Test.YtnnbecckigpeeaaF31
import Derived.Test.YtnnbecckigpeeaaSmall
import Derived.Test.YtnnbecckigpeeaaT6
namespace Go.Proofs.Ytnnbecckigpeeaa.Pure
set_option linter.unusedVariables false
set_option linter.unusedSimpArgs false
open Go.RowKit Go.Proofs.Ytnnbecckigpeeaa.P Go.Proofs.YtnnbecckigpeeaaW.PrintWords Go.Proofs.YtnnbecckigpeeaaW.PrintLast Go.Proofs.YtnnbecckigpeeaaW.PrintMore Go.Proofs.Ytnnbecckigpeeaa.Aid Go.Proofs.Ytnnbecckigpeeaa.T

theorem bl_le_sq (W H i j : Nat) (hi : i ≤ W) (hj : j ≤ H) (hW : W ≤ 60) (hH : H ≤ 60) : bl i j ≤ 3600 := by
  have h1 := bl_le i j
  have h2 : ((i : Int) * j) ≤ 60 * 60 := Int.mul_le_mul (by omega) (by omega) (by omega) (by omega)
  omega
theorem tab_rd (W H w : Nat) (i : Nat) (hi : i < w) (hw : w ≤ W) (r : List Int) : rd_L1 (tabN W H w r) (i : Int) = rowN i H (H + 1) := by
  have := tabN_get W H w i r (by omega)
  rw [if_pos hi] at this
  exact this
theorem tab_rd_now (W H w : Nat) (hw : w ≤ W) (r : List Int) : rd_L1 (tabN W H w r) (w : Int) = r := by
  have := tabN_get W H w w r hw
  rw [if_neg (by omega), if_pos rfl] at this
  exact this
theorem row_rd (w H n h : Nat) (hh : h ≤ H) : rd (rowN w H n) (h : Int) = if h < n then bl w h else 0 := rowN_get w H n h hh

theorem half_w (n : Nat) (hn : n ≤ 60) : wrap64 (Int.tdiv (n : Int) 2) = ((n / 2 : Nat) : Int) := by
  rw [Int.tdiv_eq_ediv_of_nonneg (by omega), w64 (by omega) (by omega)]; omega

theorem sub_w (n m : Nat) (hm : m ≤ n) (hn : n ≤ 60) : wrap64 ((n : Int) - m) = ((n - m : Nat) : Int) := by
  rw [w64 (by omega) (by omega)]; omega
theorem inc_w (n : Nat) (hn : n ≤ 1000) : wrap64 ((n : Int) + 1) = ((n + 1 : Nat) : Int) := by
  rw [w64 (by omega) (by omega)]; omega

section
variable (W H : Nat) (hW : W ≤ 60) (hH : H ≤ 60)
include hW hH

-- the reference's loops
theorem fe_l3 (w h : Nat) (hw : w ≤ W) (hh : h ≤ H) (hw1 : 1 ≤ w) (hh1 : 1 ≤ h) (X : List (List Int)) :
    Ev (fun k => spec_feLines.l1 k H (tabN W H w (rowN w H (h + 1))) w (h + 1 : Nat) (W + 1 : Nat) w) X →
    ∀ (d a : Nat) (b : Int), 1 ≤ a → a + d = h / 2 + 1 → -10000 ≤ b → b ≤ 10000 → minUp (fun k => bl w k + bl w (h - k)) b a d = bl w h → Ev (fun k => spec_feLines.l3 k H (tabN W H w (rowN w H h)) w h b a (W + 1 : Nat) w) X
  | hX, 0, a, b, h1, h2, _, _, hb => by
    have hbl : b = bl w h := hb
    refine Ev.step (fun _ => spec_feLines.l3.eq_2 ..) (ev_neg (by rw [w64 (by omega) (by omega)]; omega) (ev_pos (by omega) (ev_pos (by rw [tabN_length]; omega) (ev_pos (by omega) (ev_pos (by rw [tab_rd_now W H w hw, rowN_length]; omega) ?_)))))
    rw [w64 (by omega) (by omega), tab_rd_now W H w hw, hbl, Int.toNat_natCast, Int.toNat_natCast, rowN_set w H h hh, tabN_set W H w _ _ hw]
    exact hX
  | hX, d + 1, a, b, h1, h2, hb1, hb2, hb => by
    have l1 := bl_le_sq W H w a hw (by omega) hW hH
    have l2 := bl_le_sq W H w (h - a) hw (by omega) hW hH
    have g1 := bl_ge w a
    have g2 := bl_ge w (h - a)
    have e := Aside0.mk (sub_w h a (by omega) (by omega))
    refine Ev.step (fun _ => spec_feLines.l3.eq_2 ..) (ev_pos (by rw [w64 (by omega) (by omega)]; omega) (ev_pos (by omega) (ev_pos (by rw [tabN_length]; omega) (ev_pos (by omega) (ev_pos (by rw [tab_rd_now W H w hw, rowN_length]; omega) (ev_pos (by rw [e.out]; omega) (ev_pos (by rw [e.out, tab_rd_now W H w hw, rowN_length]; omega) ?_)))))))
    rw [e.out, tab_rd_now W H w hw, row_rd w H h a (by omega), row_rd w H h (h - a) (by omega), if_pos (by omega), if_pos (by omega), w64 (e := (a : Int) + 1) (by omega) (by omega), w64 (by omega) (by omega)]
    refine ev_call (l1Least_f _ _) ?_
    exact fe_l3 w h hw hh hw1 hh1 X hX d (a + 1) _ (by omega) (by omega) (by omega) (by omega) hb

theorem fe_l2 (w h : Nat) (hw : w ≤ W) (hh : h ≤ H) (hw1 : 1 ≤ w) (hh1 : 1 ≤ h) (X : List (List Int))
    (hX : Ev (fun k => spec_feLines.l1 k H (tabN W H w (rowN w H (h + 1))) w (h + 1 : Nat) (W + 1 : Nat) w) X) :
    ∀ (d a : Nat) (b : Int), 1 ≤ a → a + d = w / 2 + 1 → -10000 ≤ b → b ≤ 10000 → minUp (fun k => bl w k + bl w (h - k)) (minUp (fun k => bl k h + bl (w - k) h) b a d) 1 (h / 2) = bl w h → Ev (fun k => spec_feLines.l2 k H (tabN W H w (rowN w H h)) w h b a (W + 1 : Nat) w) X
  | 0, a, b, h1, h2, hb1, hb2, hb => by
    refine Ev.step (fun _ => spec_feLines.l2.eq_2 ..) (ev_neg (by rw [w64 (by omega) (by omega)]; omega) ?_)
    exact fe_l3 W H hW hH w h hw hh hw1 hh1 X hX (h / 2) 1 b (by omega) (by omega) hb1 hb2 hb
  | d + 1, a, b, h1, h2, hb1, hb2, hb => by
    have l1 := bl_le_sq W H a h (by omega) hh hW hH
    have l2 := bl_le_sq W H (w - a) h (by omega) hh hW hH
    have g1 := bl_ge a h
    have g2 := bl_ge (w - a) h
    have e := Aside0.mk (sub_w w a (by omega) (by omega))
    refine Ev.step (fun _ => spec_feLines.l2.eq_2 ..) (ev_pos (by rw [w64 (by omega) (by omega)]; omega) (ev_pos (by omega) (ev_pos (by rw [tabN_length]; omega) (ev_pos (by omega) (ev_pos (by rw [tab_rd W H w a (by omega) hw, rowN_length]; omega) (ev_pos (by rw [e.out]; omega) (ev_pos (by rw [e.out, tabN_length]; omega) (ev_pos (by rw [e.out, tab_rd W H w (w - a) (by omega) hw, rowN_length]; omega) ?_))))))))
    rw [e.out, tab_rd W H w a (by omega) hw, tab_rd W H w (w - a) (by omega) hw, row_rd a H _ h hh, row_rd (w - a) H _ h hh, if_pos (by omega), if_pos (by omega), w64 (e := (a : Int) + 1) (by omega) (by omega), w64 (by omega) (by omega)]
    refine ev_call (l1Least_f _ _) ?_
    exact fe_l2 w h hw hh hw1 hh1 X hX d (a + 1) _ (by omega) (by omega) (by omega) (by omega) hb

theorem fe_l1 (w : Nat) (hw : w ≤ W) (hw1 : 1 ≤ w) (X : List (List Int)) (hX : Ev (fun k => spec_feLines.l0 k H (tabN W H w (rowN w H (H + 1))) (W + 1 : Nat) (w + 1 : Nat)) X) :
    ∀ (d h : Nat), 1 ≤ h → h + d = H + 1 → Ev (fun k => spec_feLines.l1 k H (tabN W H w (rowN w H h)) w h (W + 1 : Nat) w) X
  | 0, h, h1, h2 => by
    obtain rfl : h = H + 1 := by omega
    refine Ev.step (fun _ => spec_feLines.l1.eq_2 ..) (ev_pos (by omega) (Ev.step (fun _ => spec_feLines.j2.eq_2 ..) (ev_neg (by simp; omega) ?_)))
    rw [w64 (by omega) (by omega)]
    exact hX
  | d + 1, h, h1, h2 => by
    have ih := fe_l1 w hw hw1 X hX d (h + 1) (by omega) (by omega)
    refine Ev.step (fun _ => spec_feLines.l1.eq_2 ..) (ev_pos (by omega) (Ev.step (fun _ => spec_feLines.j2.eq_2 ..) (ev_pos (by simp; omega) ?_)))
    have hb := bl_eq w h (by omega) (by omega)
    by_cases e : w = h
    · refine ev_pos (by omega) (Ev.step (fun _ => spec_feLines.j3.eq_2 ..) ?_)
      exact fe_l2 W H hW hH w h hw (by omega) hw1 h1 X ih (w / 2) 1 1 (by omega) (by omega) (by omega) (by omega) (by rw [hb, if_pos e])
    · have hm : ((w : Int) * h) ≤ 60 * 60 := Int.mul_le_mul (by omega) (by omega) (by omega) (by omega)
      have hm0 : 0 ≤ ((w : Int) * h) := Int.mul_nonneg (by omega) (by omega)
      refine ev_neg (by omega) (Ev.step (fun _ => spec_feLines.j3.eq_2 ..) ?_)
      rw [w64 (e := (w : Int) * h) (by omega) (by omega)]
      exact fe_l2 W H hW hH w h hw (by omega) hw1 h1 X ih (w / 2) 1 _ (by omega) (by omega) (by omega) (by omega) (by rw [hb, if_neg e])

theorem fe_l0 : ∀ (d w : Nat), w + d = W + 1 → Ev (fun k => spec_feLines.l0 k H (tabN W H w []) (W + 1 : Nat) w) (tabN W H (W + 1) [])
  | 0, w, hd => by
    obtain rfl : w = W + 1 := by omega
    exact Ev.step (fun _ => spec_feLines.l0.eq_2 ..) (ev_neg (by omega) (ev_some rfl))
  | d + 1, w, hd => by
    have ih := fe_l0 d (w + 1) (by omega)
    rw [← tabN_next] at ih
    have e := Aside0.mk (inc_w H (by omega))
    refine Ev.step (fun _ => spec_feLines.l0.eq_2 ..) (ev_pos (by omega) (ev_pos (by rw [e.out]; omega) (ev_pos (by rw [e.out]; omega) (ev_pos (by omega) (ev_pos (by rw [tabN_length]; omega) ?_)))))
    rw [e.out, Int.toNat_natCast, Int.toNat_natCast, tabN_set W H w _ _ (by omega), rowN_zero w H]
    by_cases h0 : w = 0
    · subst h0
      refine Ev.step (fun _ => spec_feLines.l1.eq_2 ..) (ev_neg (by simp) (Ev.step (fun _ => spec_feLines.j2.eq_2 ..) (ev_neg (by simp) ?_)))
      rw [rowN_null H 1, w64 (by omega) (by omega)]
      exact ih
    · exact fe_l1 W H hW hH w (by omega) (by omega) _ ih H 1 (by omega) (by omega)

theorem feLines_ev : Ev (fun k => spec_feLines.f k W H) (tabN W H (W + 1) []) := by
  have e := Aside0.mk (inc_w W (by omega))
  refine ev_pos (by rw [e.out]; omega) (ev_pos (by rw [e.out]; omega) (ev_call rfl ?_))
  rw [e.out, Int.toNat_natCast, tabN_start W H, tabN_length]
  exact fe_l0 W H hW hH (W + 1) 0 (by omega)

-- the program's loops
theorem by_l3 (w h : Nat) (hw : w ≤ W) (hh : h ≤ H) (hw1 : 1 ≤ w) (hh1 : 1 ≤ h) (X : List (List Int)) :
    Ev (fun k => impl_byLines.l1 k H (tabN W H w (rowN w H (h + 1))) w (h + 1 : Nat) (W + 1 : Nat) w) X →
    ∀ (d a : Nat) (b : Int), 1 ≤ a → a + d = h / 2 + 1 → -10000 ≤ b → b ≤ 10000 → minUp (fun k => bl w k + bl w (h - k)) b a d = bl w h → Ev (fun k => impl_byLines.l3 k H (tabN W H w (rowN w H h)) w h b a (W + 1 : Nat) w) X
  | hX, 0, a, b, h1, h2, _, _, hb => by
    have hbl : b = bl w h := hb
    have t := Aside0.mk (half_w h (by omega))
    refine Ev.step (fun _ => impl_byLines.l3.eq_2 ..) ?_
    rw [t.out]
    refine (ev_neg (by omega) (ev_pos (by omega) (ev_pos (by rw [tabN_length]; omega) (ev_pos (by omega) (ev_pos (by rw [tab_rd_now W H w hw, rowN_length]; omega) ?_)))))
    rw [w64 (by omega) (by omega), tab_rd_now W H w hw, hbl, Int.toNat_natCast, Int.toNat_natCast, rowN_set w H h hh, tabN_set W H w _ _ hw]
    exact hX
  | hX, d + 1, a, b, h1, h2, hb1, hb2, hb => by
    have l1 := bl_le_sq W H w a hw (by omega) hW hH
    have l2 := bl_le_sq W H w (h - a) hw (by omega) hW hH
    have g1 := bl_ge w a
    have g2 := bl_ge w (h - a)
    have t := Aside0.mk (half_w h (by omega))
    have e := Aside0.mk (sub_w h a (by omega) (by omega))
    refine Ev.step (fun _ => impl_byLines.l3.eq_2 ..) ?_
    rw [t.out]
    refine (ev_pos (by omega) (ev_pos (by omega) (ev_pos (by rw [tabN_length]; omega) (ev_pos (by omega) (ev_pos (by rw [tab_rd_now W H w hw, rowN_length]; omega) (ev_pos (by rw [e.out]; omega) (ev_pos (by rw [e.out, tab_rd_now W H w hw, rowN_length]; omega) ?_)))))))
    rw [e.out, tab_rd_now W H w hw, row_rd w H h a (by omega), row_rd w H h (h - a) (by omega), if_pos (by omega), if_pos (by omega), w64 (e := (a : Int) + 1) (by omega) (by omega), w64 (by omega) (by omega), mn_min]
    exact by_l3 w h hw hh hw1 hh1 X hX d (a + 1) _ (by omega) (by omega) (by omega) (by omega) hb

theorem by_l2 (w h : Nat) (hw : w ≤ W) (hh : h ≤ H) (hw1 : 1 ≤ w) (hh1 : 1 ≤ h) (X : List (List Int))
    (hX : Ev (fun k => impl_byLines.l1 k H (tabN W H w (rowN w H (h + 1))) w (h + 1 : Nat) (W + 1 : Nat) w) X) :
    ∀ (d a : Nat) (b : Int), 1 ≤ a → a + d = w / 2 + 1 → -10000 ≤ b → b ≤ 10000 → minUp (fun k => bl w k + bl w (h - k)) (minUp (fun k => bl k h + bl (w - k) h) b a d) 1 (h / 2) = bl w h → Ev (fun k => impl_byLines.l2 k H (tabN W H w (rowN w H h)) w h b a (W + 1 : Nat) w) X
  | 0, a, b, h1, h2, hb1, hb2, hb => by
    have t := Aside0.mk (half_w w (by omega))
    refine Ev.step (fun _ => impl_byLines.l2.eq_2 ..) ?_
    rw [t.out]
    refine (ev_neg (by omega) ?_)
    exact by_l3 W H hW hH w h hw hh hw1 hh1 X hX (h / 2) 1 b (by omega) (by omega) hb1 hb2 hb
  | d + 1, a, b, h1, h2, hb1, hb2, hb => by
    have l1 := bl_le_sq W H a h (by omega) hh hW hH
    have l2 := bl_le_sq W H (w - a) h (by omega) hh hW hH
    have g1 := bl_ge a h
    have g2 := bl_ge (w - a) h
    have t := Aside0.mk (half_w w (by omega))
    have e := Aside0.mk (sub_w w a (by omega) (by omega))
    refine Ev.step (fun _ => impl_byLines.l2.eq_2 ..) ?_
    rw [t.out]
    refine (ev_pos (by omega) (ev_pos (by omega) (ev_pos (by rw [tabN_length]; omega) (ev_pos (by omega) (ev_pos (by rw [tab_rd W H w a (by omega) hw, rowN_length]; omega) (ev_pos (by rw [e.out]; omega) (ev_pos (by rw [e.out, tabN_length]; omega) (ev_pos (by rw [e.out, tab_rd W H w (w - a) (by omega) hw, rowN_length]; omega) ?_))))))))
    rw [e.out, tab_rd W H w a (by omega) hw, tab_rd W H w (w - a) (by omega) hw, row_rd a H _ h hh, row_rd (w - a) H _ h hh, if_pos (by omega), if_pos (by omega), w64 (e := (a : Int) + 1) (by omega) (by omega), w64 (by omega) (by omega), mn_min]
    exact by_l2 w h hw hh hw1 hh1 X hX d (a + 1) _ (by omega) (by omega) (by omega) (by omega) hb

theorem by_l1 (w : Nat) (hw : w ≤ W) (hw1 : 1 ≤ w) (X : List (List Int)) (hX : Ev (fun k => impl_byLines.l0 k H (tabN W H w (rowN w H (H + 1))) (W + 1 : Nat) (w + 1 : Nat)) X) :
    ∀ (d h : Nat), 1 ≤ h → h + d = H + 1 → Ev (fun k => impl_byLines.l1 k H (tabN W H w (rowN w H h)) w h (W + 1 : Nat) w) X
  | 0, h, h1, h2 => by
    obtain rfl : h = H + 1 := by omega
    refine Ev.step (fun _ => impl_byLines.l1.eq_2 ..) (ev_neg (by omega) (Ev.step (fun _ => impl_byLines.j2.eq_2 ..) (ev_neg (by simp) ?_)))
    rw [w64 (by omega) (by omega)]
    exact hX
  | d + 1, h, h1, h2 => by
    have ih := by_l1 w hw hw1 X hX d (h + 1) (by omega) (by omega)
    refine Ev.step (fun _ => impl_byLines.l1.eq_2 ..) (ev_pos (by omega) (Ev.step (fun _ => impl_byLines.j2.eq_2 ..) (ev_pos (by simp; omega) ?_)))
    have hb := bl_eq w h (by omega) (by omega)
    by_cases e : w = h
    · refine ev_pos (by omega) (Ev.step (fun _ => impl_byLines.j3.eq_2 ..) ?_)
      exact by_l2 W H hW hH w h hw (by omega) hw1 h1 X ih (w / 2) 1 1 (by omega) (by omega) (by omega) (by omega) (by rw [hb, if_pos e])
    · have hm : ((w : Int) * h) ≤ 60 * 60 := Int.mul_le_mul (by omega) (by omega) (by omega) (by omega)
      have hm0 : 0 ≤ ((w : Int) * h) := Int.mul_nonneg (by omega) (by omega)
      refine ev_neg (by omega) (Ev.step (fun _ => impl_byLines.j3.eq_2 ..) ?_)
      rw [w64 (e := (w : Int) * h) (by omega) (by omega)]
      exact by_l2 W H hW hH w h hw (by omega) hw1 h1 X ih (w / 2) 1 _ (by omega) (by omega) (by omega) (by omega) (by rw [hb, if_neg e])

theorem by_l0 (hH1 : 1 ≤ H) : ∀ (d w : Nat), w + d = W + 1 → Ev (fun k => impl_byLines.l0 k H (tabN W H w []) (W + 1 : Nat) w) (tabN W H (W + 1) [])
  | 0, w, hd => by
    obtain rfl : w = W + 1 := by omega
    exact Ev.step (fun _ => impl_byLines.l0.eq_2 ..) (ev_neg (by omega) (ev_some rfl))
  | d + 1, w, hd => by
    have ih := by_l0 hH1 d (w + 1) (by omega)
    rw [← tabN_next] at ih
    have e := Aside0.mk (inc_w H (by omega))
    refine Ev.step (fun _ => impl_byLines.l0.eq_2 ..) (ev_pos (by omega) (ev_pos (by rw [e.out]; omega) (ev_pos (by rw [e.out]; omega) (ev_pos (by omega) (ev_pos (by rw [tabN_length]; omega) ?_)))))
    rw [e.out, Int.toNat_natCast, Int.toNat_natCast, tabN_set W H w _ _ (by omega), rowN_zero w H]
    by_cases h0 : w = 0
    · subst h0
      refine Ev.step (fun _ => impl_byLines.l1.eq_2 ..) (ev_pos (by omega) (Ev.step (fun _ => impl_byLines.j2.eq_2 ..) (ev_neg (by simp) ?_)))
      rw [rowN_null H 1, w64 (by omega) (by omega)]
      exact ih
    · exact by_l1 W H hW hH w (by omega) (by omega) _ ih H 1 (by omega) (by omega)

theorem byLines_ev (hH1 : 1 ≤ H) : Ev (fun k => impl_byLines.f k W H) (tabN W H (W + 1) []) := by
  have e := Aside0.mk (inc_w W (by omega))
  refine ev_pos (by rw [e.out]; omega) (ev_pos (by rw [e.out]; omega) (ev_call rfl ?_))
  rw [e.out, Int.toNat_natCast, tabN_start W H, tabN_length]
  exact by_l0 W H hW hH hH1 (W + 1) 0 (by omega)
end

theorem tab_end (W H : Nat) (i : Nat) (hi : i ≤ W) : rd_L1 (tabN W H (W + 1) []) (i : Int) = rowN i H (H + 1) := by
  have := tabN_get W H (W + 1) i [] hi
  rw [if_pos (by omega)] at this
  exact this
end Go.Proofs.Ytnnbecckigpeeaa.Pure
