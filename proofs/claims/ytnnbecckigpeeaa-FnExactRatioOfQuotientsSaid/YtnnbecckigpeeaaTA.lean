namespace Go.Proofs.Ytnnbecckigpeeaa.T
/-- the first place at which p holds, from k on; -1 -/
def idxF {α : Type} (p : α → Bool) : List α → Nat → Int
  | [], _ => -1
  | x :: l, i => if p x = true then i else idxF p l (i + 1)
theorem idxF_hit {α : Type} (p : α → Bool) (l : List α) (j : Nat) (x : α) (hx : l[j]? = some x) (hp : p x = true) (hb : ∀ (i : Nat) (y : α), i < j → l[i]? = some y → p y = false) : ∀ k : Nat, idxF p l k = (k + j : Nat) := by
  induction l generalizing j with
  | nil => simp at hx
  | cons z l ih =>
    intro k
    cases j with
    | zero => simp at hx; subst hx; simp [idxF, hp]
    | succ j =>
      have hz := hb 0 z (by omega) rfl
      simp only [idxF, hz]
      rw [if_neg (by simp), ih j (by simpa using hx) (fun i y hi hy => hb (i + 1) y (by omega) (by simpa using hy))]
      omega
theorem idxF_miss {α : Type} (p : α → Bool) (l : List α) (hb : ∀ (i : Nat) (y : α), l[i]? = some y → p y = false) : ∀ k : Nat, idxF p l k = -1 := by
  induction l with
  | nil => intro k; rfl
  | cons z l ih =>
    intro k
    have hz := hb 0 z rfl
    simp only [idxF, hz]
    rw [if_neg (by simp), ih (fun i y hy => hb (i + 1) y (by simpa using hy))]
theorem idxF_nonneg {α : Type} (p : α → Bool) (l : List α) : ∀ k : Nat, 0 ≤ idxF p l k ↔ l.any p = true := by
  induction l with
  | nil => intro k; simp [idxF]
  | cons z l ih =>
    intro k
    have := ih (k + 1)
    simp only [idxF, List.any_cons]
    by_cases h : p z = true
    · rw [if_pos h, h]; simp
    · rw [if_neg h, this, Bool.eq_false_iff.mpr h]; simp
theorem idxF_any {α : Type} (p : α → Bool) (l : List α) (k : Nat) : decide (0 ≤ idxF p l k) = l.any p := by
  by_cases h : l.any p = true
  · rw [h, decide_eq_true ((idxF_nonneg p l k).2 h)]
  · rw [decide_eq_false (fun e => h ((idxF_nonneg p l k).1 e))]; simpa using h
end Go.Proofs.Ytnnbecckigpeeaa.T
