namespace Go.Proofs.Ytnnbecckigpeeaa.T
/-- the least of b and g k, g (k + 1), .. (n of them) -/
def minUp (g : Nat → Int) (b : Int) (k : Nat) : Nat → Int
  | 0 => b
  | n + 1 => minUp g (min b (g k)) (k + 1) n
theorem minUp_le (g : Nat → Int) : ∀ (n : Nat) (b : Int) (k : Nat), minUp g b k n ≤ b
  | 0, b, k => Int.le_refl _
  | n + 1, b, k => by have := minUp_le g n (min b (g k)) (k + 1); simp only [minUp]; omega
theorem minUp_le_at (g : Nat → Int) : ∀ (n : Nat) (b : Int) (k i : Nat), k ≤ i → i < k + n → minUp g b k n ≤ g i
  | 0, b, k, i, h1, h2 => by omega
  | n + 1, b, k, i, h1, h2 => by
    simp only [minUp]
    by_cases e : i = k
    · subst e; have := minUp_le g n (min b (g i)) (i + 1); omega
    · exact minUp_le_at g n _ (k + 1) i (by omega) (by omega)
theorem minUp_ge (g : Nat → Int) (m : Int) : ∀ (n : Nat) (b : Int) (k : Nat), m ≤ b → (∀ i, k ≤ i → i < k + n → m ≤ g i) → m ≤ minUp g b k n
  | 0, b, k, h, _ => h
  | n + 1, b, k, h, hg => minUp_ge g m n _ (k + 1) (by have := hg k (by omega) (by omega); omega) (fun i h1 h2 => hg i (by omega) (by omega))
theorem minUp_congr {g g' : Nat → Int} : ∀ (n : Nat) (b : Int) (k : Nat), (∀ i, k ≤ i → i < k + n → g i = g' i) → minUp g b k n = minUp g' b k n
  | 0, b, k, _ => rfl
  | n + 1, b, k, h => by
    simp only [minUp]
    rw [h k (by omega) (by omega)]
    exact minUp_congr n _ (k + 1) (fun i h1 h2 => h i (by omega) (by omega))
/-- it is b, or one of them -/
theorem minUp_is (g : Nat → Int) : ∀ (n : Nat) (b : Int) (k : Nat), minUp g b k n = b ∨ ∃ i, k ≤ i ∧ i < k + n ∧ minUp g b k n = g i
  | 0, b, k => .inl rfl
  | n + 1, b, k => by
    simp only [minUp]
    rcases minUp_is g n (min b (g k)) (k + 1) with h | ⟨i, h1, h2, h3⟩
    · rcases Int.le_total b (g k) with e | e
      · exact .inl (by rw [h]; omega)
      · exact .inr ⟨k, by omega, by omega, by rw [h]; omega⟩
    · exact .inr ⟨i, by omega, by omega, h3⟩

/-- how many squares a cut by lines has at least, so many rounds deep -/
def blF : Nat → Nat → Nat → Int
  | 0, _, _ => 0
  | n + 1, w, h => if w = 0 ∨ h = 0 then 0 else
    minUp (fun k => blF n w k + blF n w (h - k)) (minUp (fun k => blF n k h + blF n (w - k) h) (if w = h then 1 else (w : Int) * h) 1 (w / 2)) 1 (h / 2)
theorem blF_more : ∀ (n m w h : Nat), w + h ≤ n → w + h ≤ m → blF n w h = blF m w h
  | 0, 0, _, _, _, _ => rfl
  | 0, m + 1, w, h, hn, _ => by simp only [blF]; rw [if_pos (by omega)]
  | n + 1, 0, w, h, _, hm => by simp only [blF]; rw [if_pos (by omega)]
  | n + 1, m + 1, w, h, hn, hm => by
    simp only [blF]
    split
    · rfl
    · rw [minUp_congr (g' := fun k => blF m k h + blF m (w - k) h) (w / 2) _ 1 (fun i h1 h2 => by rw [blF_more n m i h (by omega) (by omega), blF_more n m (w - i) h (by omega) (by omega)])]
      exact minUp_congr _ _ 1 (fun i h1 h2 => by rw [blF_more n m w i (by omega) (by omega), blF_more n m w (h - i) (by omega) (by omega)])
def bl (w h : Nat) : Int := blF (w + h) w h
theorem bl_eq (w h : Nat) (hw : 0 < w) (hh : 0 < h) : bl w h =
    minUp (fun k => bl w k + bl w (h - k)) (minUp (fun k => bl k h + bl (w - k) h) (if w = h then 1 else (w : Int) * h) 1 (w / 2)) 1 (h / 2) := by
  obtain ⟨n, hn⟩ : ∃ n, w + h = n + 1 := ⟨w + h - 1, by omega⟩
  unfold bl
  rw [hn]
  simp only [blF]
  rw [if_neg (by omega)]
  rw [minUp_congr (g' := fun k => blF (k + h) k h + blF (w - k + h) (w - k) h) (w / 2) _ 1 (fun i h1 h2 => by rw [blF_more n (i + h) i h (by omega) (by omega), blF_more n (w - i + h) (w - i) h (by omega) (by omega)])]
  exact minUp_congr _ _ 1 (fun i h1 h2 => by rw [blF_more n (w + i) w i (by omega) (by omega), blF_more n (w + (h - i)) w (h - i) (by omega) (by omega)])
theorem bl_zero (w h : Nat) (h0 : w = 0 ∨ h = 0) : bl w h = 0 := by
  unfold bl
  cases e : w + h with
  | zero => rfl
  | succ n => simp only [blF]; rw [if_pos h0]
theorem bl_nonneg : ∀ (n w h : Nat), 0 ≤ blF n w h
  | 0, _, _ => by simp [blF]
  | n + 1, w, h => by
    simp only [blF]
    split
    · omega
    · refine minUp_ge _ _ _ _ _ (minUp_ge _ _ _ _ _ ?_ (fun i _ _ => ?_)) (fun i _ _ => ?_)
      · split
        · omega
        · exact Int.mul_nonneg (by omega) (by omega)
      · have := bl_nonneg n i h; have := bl_nonneg n (w - i) h; omega
      · have := bl_nonneg n w i; have := bl_nonneg n w (h - i); omega
theorem bl_pos : ∀ (n w h : Nat), 0 < w → 0 < h → w + h ≤ n → 1 ≤ blF n w h
  | 0, _, _, h1, h2, h3 => by omega
  | n + 1, w, h, h1, h2, h3 => by
    simp only [blF]
    rw [if_neg (by omega)]
    refine minUp_ge _ _ _ _ _ (minUp_ge _ _ _ _ _ ?_ (fun i _ _ => ?_)) (fun i _ _ => ?_)
    · split
      · omega
      · have : (1 : Int) * 1 ≤ w * h := Int.mul_le_mul (by omega) (by omega) (by omega) (by omega)
        omega
    · have := bl_pos n i h (by omega) h2 (by omega); have := bl_nonneg n (w - i) h; omega
    · have := bl_pos n w i h1 (by omega) (by omega); have := bl_nonneg n w (h - i); omega
theorem bl_ge (w h : Nat) : 0 ≤ bl w h := bl_nonneg _ _ _
theorem bl_ge_one (w h : Nat) (hw : 0 < w) (hh : 0 < h) : 1 ≤ bl w h := bl_pos _ _ _ hw hh (Nat.le_refl _)
theorem bl_le (w h : Nat) : bl w h ≤ w * h := by
  by_cases h0 : w = 0 ∨ h = 0
  · rw [bl_zero w h h0]; exact Int.mul_nonneg (by omega) (by omega)
  · rw [bl_eq w h (by omega) (by omega)]
    have h1 := minUp_le (fun k => bl w k + bl w (h - k)) (h / 2) (minUp (fun k => bl k h + bl (w - k) h) (if w = h then 1 else (w : Int) * h) 1 (w / 2)) 1
    have h2 := minUp_le (fun k => bl k h + bl (w - k) h) (w / 2) (if w = h then 1 else (w : Int) * h) 1
    have : (if w = h then 1 else (w : Int) * h) ≤ w * h := by
      split
      · have : (1 : Int) * 1 ≤ w * h := Int.mul_le_mul (by omega) (by omega) (by omega) (by omega)
        omega
      · omega
    omega
theorem bl_symm : ∀ (n w h : Nat), w + h ≤ n → bl w h = bl h w
  | 0, w, h, hn => by rw [bl_zero _ _ (by omega), bl_zero _ _ (by omega)]
  | n + 1, w, h, hn => by
    by_cases h0 : w = 0 ∨ h = 0
    · rw [bl_zero _ _ h0, bl_zero _ _ (by omega)]
    · have key : ∀ w h : Nat, w + h ≤ n + 1 → 0 < w → 0 < h → bl w h ≤ bl h w := by
        intro w h hn hw hh
        rw [bl_eq h w hh hw]
        refine minUp_ge _ _ _ _ _ (minUp_ge _ _ _ _ _ ?_ (fun i h1 h2 => ?_)) (fun i h1 h2 => ?_)
        · rw [bl_eq w h hw hh]
          have h1 := minUp_le (fun k => bl w k + bl w (h - k)) (h / 2) (minUp (fun k => bl k h + bl (w - k) h) (if w = h then 1 else (w : Int) * h) 1 (w / 2)) 1
          have h2 := minUp_le (fun k => bl k h + bl (w - k) h) (w / 2) (if w = h then 1 else (w : Int) * h) 1
          have : (if w = h then 1 else (w : Int) * h) = (if h = w then 1 else (h : Int) * w) := by
            rw [Int.mul_comm]; by_cases e : w = h
            · rw [if_pos e, if_pos e.symm]
            · rw [if_neg e, if_neg (fun k => e k.symm)]
          omega
        · rw [bl_eq w h hw hh, bl_symm n i w (by omega), bl_symm n (h - i) w (by omega)]
          exact minUp_le_at (fun k => bl w k + bl w (h - k)) (h / 2) _ 1 i h1 h2
        · rw [bl_eq w h hw hh, bl_symm n h i (by omega), bl_symm n h (w - i) (by omega)]
          exact Int.le_trans (minUp_le _ _ _ _) (minUp_le_at (fun k => bl k h + bl (w - k) h) (w / 2) _ 1 i h1 h2)
      have h1 := key w h hn (by omega) (by omega)
      have h2 := key h w (by omega) (by omega) (by omega)
      omega

/-- a row of the table, filled up to n -/
def rowN (w H n : Nat) : List Int := (List.range (H + 1)).map fun h => if h < n then bl w h else 0
def tabN (W H w : Nat) (row : List Int) : List (List Int) := (List.range (W + 1)).map fun i => if i < w then rowN i H (H + 1) else if i = w then row else []
theorem rowN_length (w H n : Nat) : (rowN w H n).length = H + 1 := by simp [rowN]
theorem tabN_length (W H w : Nat) (r : List Int) : (tabN W H w r).length = W + 1 := by simp [tabN]
theorem rowN_get (w H n h : Nat) (hh : h ≤ H) : (rowN w H n).getD h 0 = if h < n then bl w h else 0 := by
  simp [rowN, List.getD_eq_getElem?_getD, show h < H + 1 by omega]
theorem rowN_set (w H n : Nat) (hn : n ≤ H) : (rowN w H n).set n (bl w n) = rowN w H (n + 1) := by
  apply List.ext_getElem?
  intro i
  unfold rowN
  rw [List.getElem?_set, List.length_map, List.length_range, List.getElem?_map, List.getElem?_map]
  by_cases hi : i < H + 1
  · rw [List.getElem?_range hi]
    by_cases e : n = i
    · subst e; simp [hi]
    · rw [if_neg e]
      simp only [Option.map_some, Option.some.injEq]
      by_cases c : i < n
      · rw [if_pos c, if_pos (by omega)]
      · rw [if_neg c, if_neg (by omega)]
  · rw [if_neg (by omega), List.getElem?_eq_none (by simp; omega)]; rfl
theorem rowN_zero (w H : Nat) : List.replicate (H + 1) 0 = rowN w H 1 := by
  apply List.ext_getElem?
  intro i
  unfold rowN
  rw [List.getElem?_replicate, List.getElem?_map]
  by_cases hi : i < H + 1
  · rw [if_pos hi, List.getElem?_range hi]
    simp only [Option.map_some, Option.some.injEq]
    split
    · rw [bl_zero w i (by omega)]
    · rfl
  · rw [if_neg hi, List.getElem?_eq_none (by simp; omega)]; rfl
theorem rowN_null (H n : Nat) : rowN 0 H n = rowN 0 H (H + 1) := by
  unfold rowN
  apply List.map_congr_left
  intro h _
  rw [bl_zero 0 h (.inl rfl)]; simp
theorem tabN_get (W H w i : Nat) (r : List Int) (hi : i ≤ W) : (tabN W H w r).getD i [] = if i < w then rowN i H (H + 1) else if i = w then r else [] := by
  simp [tabN, List.getD_eq_getElem?_getD, show i < W + 1 by omega]
theorem tabN_set (W H w : Nat) (r r' : List Int) (hw : w ≤ W) : (tabN W H w r).set w r' = tabN W H w r' := by
  apply List.ext_getElem?
  intro i
  unfold tabN
  rw [List.getElem?_set, List.length_map, List.length_range, List.getElem?_map, List.getElem?_map]
  by_cases hi : i < W + 1
  · rw [List.getElem?_range hi]
    by_cases e : w = i
    · subst e; simp [hi]
    · rw [if_neg e]
      simp only [Option.map_some, Option.some.injEq]
      rw [if_neg (show ¬ i = w from fun k => e k.symm), if_neg (show ¬ i = w from fun k => e k.symm)]
  · rw [if_neg (by omega), List.getElem?_eq_none (by simp; omega)]; rfl
theorem tabN_next (W H w : Nat) : tabN W H w (rowN w H (H + 1)) = tabN W H (w + 1) [] := by
  unfold tabN
  apply List.map_congr_left
  intro i _
  by_cases h1 : i < w
  · rw [if_pos h1, if_pos (by omega)]
  · rw [if_neg h1]
    by_cases h2 : i = w
    · subst h2; rw [if_pos rfl, if_pos (by omega)]
    · rw [if_neg h2, if_neg (by omega)]; split <;> rfl
theorem tabN_start (W H : Nat) : List.replicate (W + 1) [] = tabN W H 0 [] := by
  apply List.ext_getElem?
  intro i
  unfold tabN
  rw [List.getElem?_replicate, List.getElem?_map]
  by_cases hi : i < W + 1
  · rw [if_pos hi, List.getElem?_range hi]; simp
  · rw [if_neg hi, List.getElem?_eq_none (by simp; omega)]; rfl
end Go.Proofs.Ytnnbecckigpeeaa.T
