namespace Go.Proofs.Ytnnbecckigpeeaa.T
/-- the steps from a ratio down to a square: 98: a square taken off beside, 117: under -/
def steps : Nat → Nat → Nat → List Int
  | 0, _, _ => []
  | n + 1, w, h => if w = h then [] else if w > h then 98 :: steps n (w - h) h else 117 :: steps n w (h - w)
theorem steps_more : ∀ (n m w h : Nat), 0 < w → 0 < h → w + h ≤ n → w + h ≤ m → steps n w h = steps m w h
  | 0, _, w, h, h0, h1, h2, _ => by omega
  | n + 1, 0, w, h, h0, h1, _, h3 => by omega
  | n + 1, m + 1, w, h, h0, h1, h2, h3 => by
    simp only [steps]
    split
    · rfl
    · split
      · rw [steps_more n m (w - h) h (by omega) h1 (by omega) (by omega)]
      · rw [steps_more n m w (h - w) h0 (by omega) (by omega) (by omega)]
def wd (w h : Nat) : List Int := steps (w + h) w h
theorem wd_eq (w : Nat) : wd w w = [] := by
  unfold wd; cases w with
  | zero => rfl
  | succ w => rw [show w + 1 + (w + 1) = (w + 1 + w) + 1 by omega]; simp [steps]
theorem wd_gt (w h : Nat) (h0 : 0 < h) (hl : h < w) : wd w h = 98 :: wd (w - h) h := by
  unfold wd
  obtain ⟨n, hn⟩ : ∃ n, w + h = n + 1 := ⟨w + h - 1, by omega⟩
  rw [hn]
  simp only [steps]
  rw [if_neg (by omega), if_pos hl, steps_more n (w - h + h) (w - h) h (by omega) h0 (by omega) (by omega)]
theorem wd_lt (w h : Nat) (h0 : 0 < w) (hl : w < h) : wd w h = 117 :: wd w (h - w) := by
  unfold wd
  obtain ⟨n, hn⟩ : ∃ n, w + h = n + 1 := ⟨w + h - 1, by omega⟩
  rw [hn]
  simp only [steps]
  rw [if_neg (by omega), if_neg (by omega), steps_more n (w + (h - w)) w (h - w) h0 (by omega) (by omega) (by omega)]
theorem wd_scale (g : Nat) (hg : 0 < g) : ∀ (n w h : Nat), w + h ≤ n → 0 < w → 0 < h → wd (g * w) (g * h) = wd w h
  | 0, w, h, hn, h0, h1 => by omega
  | n + 1, w, h, hn, h0, h1 => by
    have hgw : 0 < g * w := Nat.mul_pos hg h0
    have hgh : 0 < g * h := Nat.mul_pos hg h1
    rcases Nat.lt_trichotomy w h with e | e | e
    · rw [wd_lt w h h0 e, wd_lt _ _ hgw (Nat.mul_lt_mul_of_pos_left e hg), ← Nat.mul_sub, wd_scale g hg n w (h - w) (by omega) h0 (by omega)]
    · subst e; rw [wd_eq, wd_eq]
    · rw [wd_gt w h h1 e, wd_gt _ _ hgh (Nat.mul_lt_mul_of_pos_left e hg), ← Nat.mul_sub, wd_scale g hg n (w - h) h (by omega) (by omega) h1]
theorem wd_length : ∀ (n w h : Nat), w + h ≤ n → 0 < w → 0 < h → (wd w h).length + 2 ≤ w + h
  | 0, w, h, hn, h0, h1 => by omega
  | n + 1, w, h, hn, h0, h1 => by
    rcases Nat.lt_trichotomy w h with e | e | e
    · have := wd_length n w (h - w) (by omega) h0 (by omega); rw [wd_lt w h h0 e]; simp; omega
    · subst e; rw [wd_eq]; simp; omega
    · have := wd_length n (w - h) h (by omega) (by omega) h1; rw [wd_gt w h h1 e]; simp; omega
theorem wd_signs : ∀ (n w h : Nat), w + h ≤ n → 0 < w → 0 < h → ∀ c ∈ wd w h, c = 98 ∨ c = 117
  | 0, w, h, hn, h0, h1 => by omega
  | n + 1, w, h, hn, h0, h1 => by
    intro c hc
    rcases Nat.lt_trichotomy w h with e | e | e
    · rw [wd_lt w h h0 e] at hc
      rcases List.mem_cons.1 hc with rfl | hc
      · exact .inr rfl
      · exact wd_signs n w (h - w) (by omega) h0 (by omega) c hc
    · subst e; rw [wd_eq] at hc; simp at hc
    · rw [wd_gt w h h1 e] at hc
      rcases List.mem_cons.1 hc with rfl | hc
      · exact .inl rfl
      · exact wd_signs n (w - h) h (by omega) (by omega) h1 c hc

/-- the reversal, exchange by exchange -/
theorem rev_step (l : List Int) (i : Nat) (hi : 2 * i + 1 < l.length) (r : List Int) (hr : r.length = l.length)
    (h : ∀ j, j < l.length → r.getD j 0 = if j < i ∨ l.length - i ≤ j then l.getD (l.length - 1 - j) 0 else l.getD j 0) :
    ∀ j, j < l.length → ((r.set i (r.getD (l.length - 1 - i) 0)).set (l.length - 1 - i) (r.getD i 0)).getD j 0 = if j < i + 1 ∨ l.length - (i + 1) ≤ j then l.getD (l.length - 1 - j) 0 else l.getD j 0 := by
  intro j hj
  have h1 := h (l.length - 1 - i) (by omega)
  rw [if_neg (by omega)] at h1
  have h2 := h i (by omega)
  rw [if_neg (by omega)] at h2
  simp only [List.getD_eq_getElem?_getD, List.getElem?_set] at *
  by_cases e1 : l.length - 1 - i = j
  · rw [if_pos e1, if_pos (by simp; omega), Option.getD_some, h2, if_pos (by omega)]
    rw [show l.length - 1 - j = i by omega]
  · rw [if_neg e1]
    by_cases e2 : i = j
    · subst e2
      rw [if_pos rfl, if_pos (by omega), Option.getD_some, h1, if_pos (by omega)]
    · rw [if_neg e2]
      have h3 := h j hj
      rw [h3]
      by_cases c : j < i ∨ l.length - i ≤ j
      · rw [if_pos c, if_pos (by omega)]
      · rw [if_neg c, if_neg (by omega)]
theorem rev_done (l r : List Int) (hr : r.length = l.length) (i : Nat) (hi : l.length ≤ 2 * i + 1)
    (h : ∀ j, j < l.length → r.getD j 0 = if j < i ∨ l.length - i ≤ j then l.getD (l.length - 1 - j) 0 else l.getD j 0) : r = l.reverse := by
  apply List.ext_getElem?
  intro j
  by_cases hj : j < l.length
  · have h1 := h j hj
    have h2 : r.getD j 0 = l.getD (l.length - 1 - j) 0 := by
      rw [h1]; split
      · rfl
      · rw [show l.length - 1 - j = j by omega]
    rw [List.getElem?_reverse hj]
    simp only [List.getD_eq_getElem?_getD] at h2
    rw [List.getElem?_eq_getElem (by omega)] at h2 ⊢
    rw [List.getElem?_eq_getElem (by omega)] at h2 ⊢
    simpa using h2
  · rw [List.getElem?_eq_none (by omega), List.getElem?_eq_none (by simp; omega)]
end Go.Proofs.Ytnnbecckigpeeaa.T
