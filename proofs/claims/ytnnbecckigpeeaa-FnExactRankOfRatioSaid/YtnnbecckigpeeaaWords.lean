/- What the printed words of ratios come to. No condition. -/
import Derived.Test.YtnnbecckigpeeaaF41
import Derived.Test.YtnnbecckigpeeaaF42
import Derived.Test.YtnnbecckigpeeaaCommon
import Derived.Test.YtnnbecckigpeeaaSmall
import Derived.Test.YtnnbecckigpeeaaT7
namespace Go.Proofs.Ytnnbecckigpeeaa.Pure
set_option linter.unusedVariables false
set_option linter.unusedSimpArgs false
open Go.RowKit Go.Proofs.Ytnnbecckigpeeaa.P Go.Proofs.YtnnbecckigpeeaaW.PrintWords Go.Proofs.YtnnbecckigpeeaaW.PrintLast Go.Proofs.Ytnnbecckigpeeaa.Aid Go.Proofs.Ytnnbecckigpeeaa.T
-- the bytes reversed
theorem rev_l (l : List Int) (hl : l.length ≤ 1000000) : ∀ (d i : Nat) (r : List Int), r.length = l.length → d = l.length - 2 * i → i ≤ l.length →
    (∀ j, j < l.length → r.getD j 0 = if j < i ∨ l.length - i ≤ j then l.getD (l.length - 1 - j) 0 else l.getD j 0) → Ev (fun k => slices_Reverse_byte_byte.l0 k r (i : Int) ((l.length : Int) - 1 - i)) l.reverse
  | d, i, r, hr, hd, hi, h => by
    by_cases hlt : 2 * i + 1 < l.length
    · have hs := rev_step l i hlt r hr h
      have ih := rev_l l hl (d - 2) (i + 1) _ (by simp [hr]) (by omega) (by omega) hs
      have e : ((l.length : Int) - 1 - i).toNat = l.length - 1 - i := by omega
      refine Ev.step (fun _ => slices_Reverse_byte_byte.l0.eq_2 ..) (ev_pos (by omega) (ev_pos (by omega) (ev_pos (by omega) (ev_pos (by omega) (ev_pos (by omega) ?_)))))
      rw [w64 (by omega) (by omega), w64 (by omega) (by omega), e, Int.toNat_natCast]
      have e1 : rd r ((l.length : Int) - 1 - i) = r.getD (l.length - 1 - i) 0 := by unfold rd; rw [e]
      have e2 : rd r (i : Int) = r.getD i 0 := by unfold rd; rw [Int.toNat_natCast]
      rw [e1, e2, show ((i : Int) + 1) = ((i + 1 : Nat) : Int) by omega, show ((l.length : Int) - 1 - i - 1) = (l.length : Int) - 1 - ((i + 1 : Nat) : Int) by omega]
      exact ih
    · refine Ev.step (fun _ => slices_Reverse_byte_byte.l0.eq_2 ..) (ev_neg (by omega) (ev_some ?_))
      exact rev_done l r hr i (by omega) h
  termination_by d => d
  decreasing_by omega
theorem reverse_ev (l : List Int) (hl : l.length ≤ 1000000) : Ev (fun k => slices_Reverse_byte_byte.f k l) l.reverse := by
  have := rev_l l hl l.length 0 l rfl (by omega) (by omega) (fun j hj => by rw [if_neg (by omega)])
  unfold slices_Reverse_byte_byte.f
  rw [w64 (by omega) (by omega)]
  simpa using this

theorem strOf_cons (c : Int) (l : List Int) (s : ByteArray) : strOfNums (l ++ [c]) ++ s = strOfNums l ++ (strOfNums [c] ++ s) := by
  apply ByteArray.ext
  simp [strOfNums, Array.append_assoc]
theorem raOf_l : ∀ (n w h : Nat) (s : ByteArray), w + h ≤ n → 0 < w → 0 < h → w + h ≤ 2000 → s.size + w + h ≤ 4000 → Ev (fun k => spec_raOf.l0 k (w : Int) (h : Int) s) (strOfNums (wd w h).reverse ++ s)
  | 0, w, h, s, hn, h0, h1, h2, hs => by omega
  | n + 1, w, h, s, hn, h0, h1, h2, hs => by
    rcases Nat.lt_trichotomy w h with e | e | e
    · have ih := raOf_l n w (h - w) (strOfNums [117] ++ s) (by omega) h0 (by omega) (by omega) (by rw [ByteArray.size_append]; have : (strOfNums [117]).size = 1 := rfl; omega)
      refine Ev.step (fun _ => spec_raOf.l0.eq_2 ..) (ev_neg (by omega) (ev_neg (by omega) (ev_pos (by omega) ?_)))
      rw [w64 (by omega) (by omega), show ((h : Int) - w) = ((h - w : Nat) : Int) by omega, wd_lt w h h0 e, List.reverse_cons, strOf_cons]
      exact ih
    · subst e
      refine Ev.step (fun _ => spec_raOf.l0.eq_2 ..) (ev_pos rfl (ev_some ?_))
      rw [wd_eq]
      apply ByteArray.ext
      simp [strOfNums]
    · have ih := raOf_l n (w - h) h (strOfNums [98] ++ s) (by omega) (by omega) h1 (by omega) (by rw [ByteArray.size_append]; have : (strOfNums [98]).size = 1 := rfl; omega)
      refine Ev.step (fun _ => spec_raOf.l0.eq_2 ..) (ev_neg (by omega) (ev_pos (by omega) (ev_pos (by omega) ?_)))
      rw [w64 (by omega) (by omega), show ((w : Int) - h) = ((w - h : Nat) : Int) by omega, wd_gt w h h1 e, List.reverse_cons, strOf_cons]
      exact ih
theorem raOf_ev (w h : Nat) (h0 : 0 < w) (h1 : 0 < h) (h2 : w + h ≤ 2000) : Ev (fun k => spec_raOf.f k (w : Int) (h : Int)) (strOfNums (wd w h).reverse) := by
  have := raOf_l (w + h) w h ⟨#[]⟩ (Nat.le_refl _) h0 h1 h2 (by show 0 + w + h ≤ 4000; omega)
  have e : strOfNums (wd w h).reverse ++ (⟨#[]⟩ : ByteArray) = strOfNums (wd w h).reverse := by
    apply ByteArray.ext; simp
  rw [e] at this
  exact this
/-- the word of a ratio, if it is not too long -/
def wordR (w h : Nat) : ByteArray × Bool := if (wd w h).length ≤ 20 then (strOfNums (wd w h).reverse, true) else (⟨#[]⟩, false)
theorem wordOf_l : ∀ (n w h : Nat) (o : List Int), w + h ≤ n → 0 < w → 0 < h → w + h ≤ 2000 → o.length ≤ 20 → Ev (fun k => impl_wordOf.l0 k o (w : Int) (h : Int)) (if o.length + (wd w h).length ≤ 20 then (strOfNums (o ++ wd w h).reverse, true) else (⟨#[]⟩, false))
  | 0, w, h, o, hn, h0, h1, h2, ho => by omega
  | n + 1, w, h, o, hn, h0, h1, h2, ho => by
    rcases Nat.lt_trichotomy w h with e | e | e
    · rw [wd_lt w h h0 e]
      by_cases hf : o.length = 20
      · refine Ev.step (fun _ => impl_wordOf.l0.eq_2 ..) (ev_neg (by omega) (ev_pos (by omega) (ev_some ?_)))
        rw [if_neg (by simp; omega)]
      · have ih := wordOf_l n w (h - w) (o ++ [117]) (by omega) h0 (by omega) (by omega) (by simp; omega)
        refine Ev.step (fun _ => impl_wordOf.l0.eq_2 ..) (ev_neg (by omega) (ev_neg (by omega) (ev_neg (by omega) (ev_pos (by omega) ?_))))
        rw [w64 (by omega) (by omega), show ((h : Int) - w) = ((h - w : Nat) : Int) by omega]
        simp only [List.length_append, List.length_cons, List.length_nil, List.append_assoc, List.singleton_append, Nat.zero_add, Nat.add_assoc, Nat.add_comm 1] at ih ⊢
        exact ih
    · subst e
      refine Ev.step (fun _ => impl_wordOf.l0.eq_2 ..) (ev_pos rfl (ev_bind (reverse_ev o (by omega)) (ev_some ?_)))
      rw [wd_eq, if_pos (by simpa using ho), List.append_nil]
    · rw [wd_gt w h h1 e]
      by_cases hf : o.length = 20
      · refine Ev.step (fun _ => impl_wordOf.l0.eq_2 ..) (ev_neg (by omega) (ev_pos (by omega) (ev_some ?_)))
        rw [if_neg (by simp; omega)]
      · have ih := wordOf_l n (w - h) h (o ++ [98]) (by omega) (by omega) h1 (by omega) (by simp; omega)
        refine Ev.step (fun _ => impl_wordOf.l0.eq_2 ..) (ev_neg (by omega) (ev_neg (by omega) (ev_pos (by omega) (ev_pos (by omega) ?_))))
        rw [w64 (by omega) (by omega), show ((w : Int) - h) = ((w - h : Nat) : Int) by omega]
        simp only [List.length_append, List.length_cons, List.length_nil, List.append_assoc, List.singleton_append, Nat.zero_add, Nat.add_assoc, Nat.add_comm 1] at ih ⊢
        exact ih
theorem wordOf_ev (w h : Nat) (h0 : 0 < w) (h1 : 0 < h) (hw : w ≤ 1000) (hh : h ≤ 1000) : Ev (fun k => impl_wordOf.f k (w : Int) (h : Int)) (wordR w h) := by
  have hg : 0 < Nat.gcd w h := Nat.gcd_pos_of_pos_left h h0
  obtain ⟨a, ha⟩ := Nat.gcd_dvd_left w h
  obtain ⟨b, hb⟩ := Nat.gcd_dvd_right w h
  have ha0 : 0 < a := by
    rcases Nat.eq_zero_or_pos a with e | e
    · rw [e, Nat.mul_zero] at ha; omega
    · exact e
  have hb0 : 0 < b := by
    rcases Nat.eq_zero_or_pos b with e | e
    · rw [e, Nat.mul_zero] at hb; omega
    · exact e
  have hal : a ≤ w := by rw [ha]; exact Nat.le_mul_of_pos_left a hg
  have hbl : b ≤ h := by rw [hb]; exact Nat.le_mul_of_pos_left b hg
  have key := wordOf_l (a + b) a b [] (Nat.le_refl _) ha0 hb0 (by omega) (by simp)
  have hs := wd_scale (Nat.gcd w h) hg (a + b) a b (Nat.le_refl _) ha0 hb0
  rw [← ha, ← hb] at hs
  refine ev_bind (common_ev w h) (ev_neg (by omega) ?_)
  have e1 : Int.tdiv (w : Int) ((Nat.gcd w h : Nat) : Int) = (a : Int) := by
    rw [Int.tdiv_eq_ediv_of_nonneg (by omega)]
    have : w / Nat.gcd w h = a := Nat.div_eq_of_eq_mul_right hg ha
    omega
  have e2 : Int.tdiv (h : Int) ((Nat.gcd w h : Nat) : Int) = (b : Int) := by
    rw [Int.tdiv_eq_ediv_of_nonneg (by omega)]
    have : h / Nat.gcd w h = b := Nat.div_eq_of_eq_mul_right hg hb
    omega
  rw [e1, e2, w64 (by omega) (by omega), w64 (by omega) (by omega)]
  unfold wordR
  rw [hs]
  simpa using key
theorem wordOfRatio_both (a b : Int) : ∃ r : ByteArray × Bool, r.1.size ≤ 20 ∧ (r.2 = false → r.1 = ⟨#[]⟩) ∧ Ev (fun k => spec_WordOfRatio.f k a b) r ∧ Ev (fun k => impl_WordOfRatio.f k a b) r := by
  by_cases c : (inR a 1 1000 && inR b 1 1000) = true
  · have hb : (1 ≤ a ∧ a ≤ 1000) ∧ 1 ≤ b ∧ b ≤ 1000 := by
      rw [Bool.and_eq_true, inR_iff, inR_iff] at c; exact c
    obtain ⟨w, rfl⟩ := Int.eq_ofNat_of_zero_le (show 0 ≤ a by omega)
    obtain ⟨h, rfl⟩ := Int.eq_ofNat_of_zero_le (show 0 ≤ b by omega)
    have h1 := raOf_ev w h (by omega) (by omega) (by omega)
    have h2 := wordOf_ev w h (by omega) (by omega) (by omega) (by omega)
    refine ⟨wordR w h, ?_, ?_, ev_call (raGood_f _ _) (ev_pos c (ev_bind h1 ?_)), ev_call (isRatio_f _ _) (ev_pos c (ev_bind h2 (ev_some rfl)))⟩
    · unfold wordR; split
      · simp only [strOfNums_size, List.length_reverse]; assumption
      · show 0 ≤ 20; omega
    · unfold wordR; split
      · intro h; cases h
      · intro _; rfl
    · unfold wordR
      by_cases hl : (wd w h).length ≤ 20
      · rw [if_pos hl]
        exact ev_neg (by rw [strOfNums_size, List.length_reverse]; omega) (ev_bind h1 (ev_some rfl))
      · rw [if_neg hl]
        exact ev_pos (by rw [strOfNums_size, List.length_reverse]; omega) (ev_some rfl)
  · exact ⟨(⟨#[]⟩, false), by show 0 ≤ 20; omega, fun _ => rfl, ev_call (raGood_f _ _) (ev_neg c (ev_some rfl)), ev_call (isRatio_f _ _) (ev_neg c (ev_some rfl))⟩
end Go.Proofs.Ytnnbecckigpeeaa.Pure
