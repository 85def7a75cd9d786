import Derived.Test.YtfmhcgjmgaefcadMFnExactGreedyCutx0
import Derived.Test.YtfmhcgjmgaefcadMFnExactGreedyCutx1
import Derived.Test.YtfmhcgjmgaefcadWWords
import Derived.Test.YtfmhcgjmgaefcadWMore
import Derived.Below
import Derived.Deep.QuietTactic
import Derived.Deep.Draws
import Derived.Shelf.Abstract
import Derived.Deep.RegionLaw
import Derived.Deep.RegionLawGrows
import Derived.Deep.DeepCutAuto
namespace Go.Proofs.Ytfmhcgjmgaefcad.T
/-- a fold that may end early -/
def foldE {σ α : Type} (step : σ → α → σ × Bool) : σ → List α → σ × Bool
  | s, [] => (s, true)
  | s, t :: l => if (step s t).2 = true then foldE step (step s t).1 l else ((step s t).1, false)
theorem foldE_on {σ α : Type} (step : σ → α → σ × Bool) : ∀ (l l' : List α) (s s' : σ), foldE step s l = (s', true) → foldE step s (l ++ l') = foldE step s' l'
  | [], l', s, s', h => by simp only [foldE, Prod.mk.injEq] at h; rw [h.1]; rfl
  | t :: l, l', s, s', h => by
    cases c : (step s t).2 with
    | true =>
      simp only [List.cons_append, foldE, c, if_true] at h ⊢
      exact foldE_on step l l' _ _ h
    | false => simp [foldE, c] at h
theorem foldE_off {σ α : Type} (step : σ → α → σ × Bool) : ∀ (l l' : List α) (s s' : σ), foldE step s l = (s', false) → foldE step s (l ++ l') = (s', false)
  | [], l', s, s', h => by simp [foldE] at h
  | t :: l, l', s, s', h => by
    cases c : (step s t).2 with
    | true =>
      simp only [List.cons_append, foldE, c, if_true] at h ⊢
      exact foldE_off step l l' _ _ h
    | false =>
      simp only [List.cons_append, foldE, c] at h ⊢
      exact h
theorem foldE_true {σ α : Type} (step : σ → α → σ × Bool) (h : ∀ s t, (step s t).2 = true) (s : σ) (l : List α) : foldE step s l = (l.foldl (fun s t => (step s t).1) s, true) := by
  induction l generalizing s with
  | nil => rfl
  | cons t l ih => simp only [foldE, h, if_true, ih, List.foldl_cons]
theorem place_zero (f : List Int) (x : Nat) (y : Int) : place f x 0 y = f := by simp [place]
theorem list_ext_ht {f g : List Int} (hl : f.length = g.length) (h : ∀ c, c < f.length → ht f c = ht g c) : f = g := by
  refine List.ext_getElem hl (fun i h1 h2 => ?_)
  have := h i h1
  simpa [ht, h1, h2] using this
theorem place_back (f : List Int) (x s : Nat) (Y y : Int) (h : x + s ≤ f.length) (hr : ∀ i, i < s → ht f (x + i) = y) : place (place f x s Y) x s y = f := by
  have h1 : x + s ≤ (place f x s Y).length := by rw [place_length f x s Y h]; exact h
  refine list_ext_ht (by rw [place_length _ _ _ _ h1, place_length _ _ _ _ h]) (fun c hc => ?_)
  rw [ht_place _ _ _ _ h1, ht_place _ _ _ _ h]
  split
  · rename_i hx
    have := hr (c - x) (by omega)
    rw [show x + (c - x) = c by omega] at this
    exact this.symm
  · rfl
theorem room_iff (f : List Int) (h : Int) (x : Nat) (hx : x < f.length) (i : Nat) (hh : ht f x ≤ h) (hprev : i ≤ room f h x) : i < room f h x ↔ x + (i + 1) ≤ f.length ∧ ht f x + (i + 1 : Nat) ≤ h ∧ ht f (x + i) = ht f x := by
  unfold room at *
  have hl := runAt_le f x (by omega)
  constructor
  · intro hi
    exact ⟨by omega, by omega, runAt_eq f x i (by omega)⟩
  · rintro ⟨h1, h2, h3⟩
    rcases Nat.lt_or_ge i (runAt f x) with h4 | h4
    · omega
    · exfalso
      have : i = runAt f x := by omega
      subst this
      exact runAt_end f x (by omega) h3
/-- all ways to fill a rectangle with squares, in the order of their lists -/
def tilings (W : Nat) (H : Int) : List (List Sq) := gen H (W * H.toNat + 1) (List.replicate W 0)
theorem ht_zeros (n c : Nat) : ht (List.replicate n 0) c = 0 := by
  unfold ht
  rw [List.getD_eq_getElem?_getD, List.getElem?_replicate]
  split <;> rfl
theorem left_zeros (n : Nat) (H : Int) : left H (List.replicate n 0) = n * H.toNat := by rw [left_replicate]; simp
theorem fits_zeros (n : Nat) (H : Int) (hn : 0 < n) (h0 : 0 ≤ H) : Fits (List.replicate n 0) H := ⟨fun e => by simp at e; omega, fun c _ => by rw [ht_zeros]; exact h0⟩
theorem til_mem (W : Nat) (H : Int) (hW : 0 < W) (hH : 0 ≤ H) (t : List Sq) : t ∈ tilings W H ↔ Tiles (List.replicate W 0) H t ∧ t.Pairwise Lt :=
  gen_mem H _ _ t (fits_zeros W H hW hH) (by rw [left_zeros]; omega)
theorem til_area (W : Nat) (H : Int) (hW : 0 < W) (hH : 0 ≤ H) (t : List Sq) (h : t ∈ tilings W H) : area t = W * H := by
  have := area_left H _ _ t (fits_zeros W H hW hH) (by rw [left_zeros]; omega) h
  rw [left_zeros] at this
  rw [this, Int.natCast_mul, Int.toNat_of_nonneg hH]
theorem area_ge_len : ∀ t : List Sq, (∀ q ∈ t, 1 ≤ q.f2) → (t.length : Int) ≤ area t
  | [], _ => by simp [area]
  | q :: t, h => by
    have ih := area_ge_len t (fun q hq => h q (List.mem_cons_of_mem _ hq))
    have hq := h q List.mem_cons_self
    have : 1 * 1 ≤ q.f2 * q.f2 := Int.mul_le_mul hq hq (by omega) (by omega)
    simp only [area, List.length_cons]
    omega
theorem til_side (W : Nat) (H : Int) (hW : 0 < W) (hH : 0 ≤ H) (t : List Sq) (h : t ∈ tilings W H) : ∀ q ∈ t, 1 ≤ q.f2 := fun q hq => (((til_mem W H hW hH t).1 h).1.box q hq).1
theorem til_len (W : Nat) (H : Int) (hW : 0 < W) (hH : 1 ≤ H) (t : List Sq) (h : t ∈ tilings W H) : 1 ≤ t.length ∧ (t.length : Int) ≤ W * H := by
  have ha := til_area W H hW (by omega) t h
  have hl := area_ge_len t (til_side W H hW (by omega) t h)
  refine ⟨?_, by omega⟩
  rcases Nat.eq_zero_or_pos t.length with h0 | h0
  · have e : t = [] := List.eq_nil_of_length_eq_zero h0
    subst e
    have : (1 : Int) * 1 ≤ W * H := Int.mul_le_mul (by omega) hH (by omega) (by omega)
    simp [area] at ha
    omega
  · exact h0
theorem gen_ne (h : Int) : ∀ (n : Nat) (f : List Int), Fits f h → left h f < n → gen h n f ≠ []
  | 0, f, _, hn => by omega
  | n + 1, f, F, hn => by
    have L := low_spec f F.1
    by_cases e : ht f (low f) = h
    · simp [gen, e]
    · have hr := runAt_pos f (low f) L.lt
      have hf := F.2 _ L.lt
      have h0 : 0 < room f h (low f) := by unfold room; omega
      obtain ⟨F', hn'⟩ := step_fits F h0 hn
      have ih := gen_ne h n _ F' hn'
      obtain ⟨t, ht_⟩ := List.exists_mem_of_ne_nil _ ih
      refine List.ne_nil_of_mem (a := ⟨low f, ht f (low f), (0 + 1 : Nat)⟩ :: t) ?_
      simp only [gen, if_neg e, List.mem_flatMap]
      exact ⟨0, List.mem_range.2 h0, List.mem_map.2 ⟨t, ht_, rfl⟩⟩
theorem til_ne (W : Nat) (H : Int) (hW : 0 < W) (hH : 0 ≤ H) : tilings W H ≠ [] := gen_ne H _ _ (fits_zeros W H hW hH) (by rw [left_zeros]; omega)
/-- the least number of squares -/
def minLen : List (List Sq) → Nat
  | [] => 0
  | [t] => t.length
  | t :: u :: l => min t.length (minLen (u :: l))
theorem minLen_le : ∀ (L : List (List Sq)) (t : List Sq), t ∈ L → minLen L ≤ t.length
  | [], t, h => by cases h
  | [u], t, h => by rw [List.mem_singleton.1 h]; exact Nat.le_refl _
  | u :: v :: l, t, h => by
    simp only [minLen]
    rcases List.mem_cons.1 h with rfl | h
    · omega
    · have := minLen_le (v :: l) t h; omega
theorem minLen_at : ∀ L : List (List Sq), L ≠ [] → ∃ t ∈ L, t.length = minLen L
  | [], h => absurd rfl h
  | [u], _ => ⟨u, List.mem_singleton.2 rfl, rfl⟩
  | u :: v :: l, _ => by
    obtain ⟨t, h1, h2⟩ := minLen_at (v :: l) (by simp)
    simp only [minLen]
    by_cases c : u.length ≤ minLen (v :: l)
    · exact ⟨u, List.mem_cons_self, by omega⟩
    · exact ⟨t, List.mem_cons_of_mem _ h1, by omega⟩
def fewM (W : Nat) (H : Int) : Nat := minLen (tilings W H)
/-- the program's search, from an empty rectangle -/
theorem fillP_til (W : Nat) (H most : Int) (hW : 0 < W) (hH : 0 ≤ H) (hm : 0 ≤ most) : fillP H most (W * H.toNat + 1) (List.replicate W 0) [] = (tilings W H).filter (fun t => decide ((t.length : Int) ≤ most)) := by
  rw [fillP_eq H most _ _ [] (fits_zeros W H hW hH) (by rw [left_zeros]; omega) (by simpa using hm)]
  simp [tilings]
theorem fillP_all (W : Nat) (H : Int) (hW : 0 < W) (hH : 1 ≤ H) : fillP H (W * H) (W * H.toNat + 1) (List.replicate W 0) [] = tilings W H := by
  rw [fillP_til W H _ hW (by omega) (Int.mul_nonneg (by omega) (by omega))]
  exact List.filter_eq_self.2 (fun t ht => by simpa using (til_len W H hW hH t ht).2)
theorem few_below (W : Nat) (H : Int) (hW : 0 < W) (hH : 0 ≤ H) (m : Nat) (hm : m < fewM W H) : fillP H m (W * H.toNat + 1) (List.replicate W 0) [] = [] := by
  rw [fillP_til W H _ hW hH (by omega)]
  refine List.filter_eq_nil_iff.2 (fun t ht => ?_)
  have := minLen_le _ t ht
  unfold fewM at hm
  simp; omega
theorem few_at (W : Nat) (H : Int) (hW : 0 < W) (hH : 0 ≤ H) : fillP H (fewM W H) (W * H.toNat + 1) (List.replicate W 0) [] ≠ [] := by
  rw [fillP_til W H _ hW hH (by omega)]
  obtain ⟨t, h1, h2⟩ := minLen_at _ (til_ne W H hW hH)
  exact List.ne_nil_of_mem (a := t) (List.mem_filter.2 ⟨h1, by simp [fewM, h2]⟩)
theorem few_pos (W : Nat) (H : Int) (hW : 0 < W) (hH : 1 ≤ H) : 1 ≤ fewM W H ∧ (fewM W H : Int) ≤ W * H := by
  obtain ⟨t, h1, h2⟩ := minLen_at _ (til_ne W H hW (by omega))
  have := til_len W H hW hH t h1
  unfold fewM
  omega
theorem flat_range_succ {α : Type} (ch : Nat → List α) (i : Nat) : (List.range (i + 1)).flatMap ch = (List.range i).flatMap ch ++ ch i := by
  rw [List.range_succ, List.flatMap_append, List.flatMap_singleton]
theorem flat_range_at {α : Type} (ch : Nat → List α) (i : Nat) : ∀ d, ∃ rest, (List.range (i + 1 + d)).flatMap ch = (List.range i).flatMap ch ++ (ch i ++ rest)
  | 0 => ⟨[], by rw [Nat.add_zero, flat_range_succ]; simp⟩
  | d + 1 => by
    obtain ⟨r, hr⟩ := flat_range_at ch i d
    exact ⟨r ++ ch (i + 1 + d), by rw [show i + 1 + (d + 1) = i + 1 + d + 1 by omega, flat_range_succ, hr]; simp⟩
end Go.Proofs.Ytfmhcgjmgaefcad.T

namespace Go.Proofs.Ytfmhcgjmgaefcad.T
/-- a square's numbers come before another's -/
def Bef (a b : Sq) : Prop := a.f0 < b.f0 ∨ a.f0 = b.f0 ∧ (a.f1 < b.f1 ∨ a.f1 = b.f1 ∧ a.f2 < b.f2)
instance (a b : Sq) : Decidable (Bef a b) := by unfold Bef; infer_instance
/-- the order of cuts of one size -/
def lexB : List Sq → List Sq → Bool
  | [], [] => false
  | [], _ :: _ => true
  | _ :: _, [] => false
  | s :: a, q :: b => if s = q then lexB a b else decide (Bef s q)
theorem Bef.irrefl (a : Sq) : ¬ Bef a a := by unfold Bef; omega
theorem Bef.trans {a b c : Sq} (h : Bef a b) (k : Bef b c) : Bef a c := by unfold Bef at *; omega
theorem Bef.asymm {a b : Sq} (h : Bef a b) : ¬ Bef b a := by unfold Bef at *; omega
theorem Bef.total {a b : Sq} (h : a ≠ b) : Bef a b ∨ Bef b a := by
  by_cases c0 : a.f0 = b.f0
  · by_cases c1 : a.f1 = b.f1
    · have : a.f2 ≠ b.f2 := fun c2 => h (by cases a; cases b; simp_all)
      unfold Bef; omega
    · unfold Bef; omega
  · unfold Bef; omega
theorem lexB_irrefl : ∀ a, lexB a a = false
  | [] => rfl
  | s :: a => by simp only [lexB, if_true]; exact lexB_irrefl a
theorem lexB_trans : ∀ {a b c : List Sq}, lexB a b = true → lexB b c = true → lexB a c = true
  | [], [], _, h, _ => by simp [lexB] at h
  | [], _ :: _, [], _, k => by simp [lexB] at k
  | [], _ :: _, _ :: _, _, _ => rfl
  | _ :: _, [], _, h, _ => by simp [lexB] at h
  | _ :: _, _ :: _, [], _, k => by simp [lexB] at k
  | s :: a, q :: b, r :: c, h, k => by
    simp only [lexB] at h k ⊢
    by_cases c1 : s = q
    · subst c1
      rw [if_pos rfl] at h
      by_cases c2 : s = r
      · subst c2
        rw [if_pos rfl] at k ⊢
        exact lexB_trans h k
      · rw [if_neg c2] at k ⊢; exact k
    · rw [if_neg c1, decide_eq_true_eq] at h
      by_cases c2 : q = r
      · subst c2
        rw [if_neg c1]; exact decide_eq_true h
      · rw [if_neg c2, decide_eq_true_eq] at k
        have hk := h.trans k
        rw [if_neg (fun e => by subst e; exact Bef.irrefl _ hk)]
        exact decide_eq_true hk
theorem lexB_asymm {a b : List Sq} (h : lexB a b = true) : lexB b a = false := by
  cases hc : lexB b a with
  | false => rfl
  | true => have := lexB_trans h hc; rw [lexB_irrefl] at this; cases this
theorem lexB_total : ∀ {a b : List Sq}, a ≠ b → lexB a b = true ∨ lexB b a = true
  | [], [], h => absurd rfl h
  | [], _ :: _, _ => .inl rfl
  | _ :: _, [], _ => .inr rfl
  | s :: a, q :: b, h => by
    simp only [lexB]
    by_cases c : s = q
    · subst c
      rw [if_pos rfl, if_pos rfl]
      exact lexB_total (fun e => h (by rw [e]))
    · rw [if_neg c, if_neg (Ne.symm c), decide_eq_true_eq, decide_eq_true_eq]
      exact Bef.total c
theorem gen_lex (h : Int) : ∀ (n : Nat) (f : List Int), (gen h n f).Pairwise (fun a b => lexB a b = true)
  | 0, f => List.Pairwise.nil
  | n + 1, f => by
    simp only [gen]
    split
    · exact List.pairwise_singleton _ _
    · rw [List.pairwise_flatMap]
      refine ⟨fun i hi => ?_, ?_⟩
      · rw [List.pairwise_map]
        refine (gen_lex h n _).imp ?_
        intro a b hab
        simp only [lexB, if_true]; exact hab
      · refine List.pairwise_lt_range.imp ?_
        intro i j hij a ha b hb
        obtain ⟨a', _, rfl⟩ := List.mem_map.1 ha
        obtain ⟨b', _, rfl⟩ := List.mem_map.1 hb
        simp only [lexB]
        rw [if_neg (fun e => by injection e with e1 e2 e3; omega), decide_eq_true_eq]
        exact .inr ⟨rfl, .inr ⟨rfl, by simp only; omega⟩⟩
theorem til_lex (W : Nat) (H : Int) : (tilings W H).Pairwise (fun a b => lexB a b = true) := gen_lex _ _ _
theorem til_nodup (W : Nat) (H : Int) : (tilings W H).Nodup := (til_lex W H).imp (fun h e => by subst e; rw [lexB_irrefl] at h; cases h)
theorem reverse_flatMap' {α β : Type} (l : List α) (g : α → List β) : (l.flatMap g).reverse = l.reverse.flatMap fun a => (g a).reverse := by
  induction l with
  | nil => rfl
  | cons a l ih => rw [List.flatMap_cons, List.reverse_append, ih, List.reverse_cons, List.flatMap_append]; simp
theorem lookP_rev (h m : Int) (hm : 0 ≤ m) : ∀ (n : Nat) (f : List Int) (sq : List Sq) (more : Int), Fits f h → left h f < n → 0 ≤ more → (∀ c, c < f.length → 0 ≤ ht f c) → (f.length : Int) ≤ m ∨ h ≤ m →
    lookP h m n f sq more = (((gen h n f).filter (fun t => decide ((t.length : Int) ≤ more))).map (sq ++ ·)).reverse
  | 0, f, sq, more, _, hn, _, _, _ => by omega
  | n + 1, f, sq, more, F, hn, hmo, hpos, hbig => by
    have L := low_spec f F.1
    have hl := runAt_le f (low f) (by have := L.lt; omega)
    by_cases e : ht f (low f) = h
    · have e' := (left_zero_iff F).2 e
      simp only [lookP, gen, if_pos e, if_pos e']
      rw [List.filter_cons_of_pos (by simpa using hmo)]; simp
    · have e' : ¬ left h f = 0 := fun k => e ((left_zero_iff F).1 k)
      by_cases hp : (left h f : Int) > more * m * m
      · have := lookP_perm h m hm (n + 1) f sq more F hn hmo hpos hbig
        have h0 : lookP h m (n + 1) f sq more = [] := by simp only [lookP, if_neg e', if_pos hp]
        rw [h0] at this ⊢
        rw [List.nil_perm.1 this]; rfl
      · have hmo1 : 1 ≤ more := by
          rcases Int.lt_or_le 0 more with k | k
          · omega
          · exfalso
            obtain rfl : more = 0 := by omega
            simp at hp; omega
        simp only [lookP, if_neg e, if_neg e', if_neg hp, gen]
        rw [filter_flatMap', map_flatMap', reverse_flatMap']
        refine flatMap_congr' (fun i hi => ?_)
        have hi := List.mem_range.1 (List.mem_reverse.1 hi)
        obtain ⟨F', hn'⟩ := step_fits F hi hn
        unfold room at hi
        have hx : low f + (i + 1) ≤ f.length := by omega
        have ih := lookP_rev h m hm n _ (sq ++ [⟨low f, ht f (low f), (i + 1 : Nat)⟩]) (more - 1) F' hn' (by omega) (fun c hc => by
          rw [ht_place _ _ _ _ hx]
          rw [place_length _ _ _ _ hx] at hc
          have := hpos _ L.lt
          split
          · omega
          · exact hpos c hc) (by rw [place_length _ _ _ _ hx]; exact hbig)
        rw [ih]
        congr 1
        rw [List.filter_map, List.map_map]
        have : (fun t : List Sq => decide ((t.length : Int) ≤ more - 1)) = ((fun t : List Sq => decide ((t.length : Int) ≤ more)) ∘ fun x => (⟨low f, ht f (low f), (i + 1 : Nat)⟩ : Sq) :: x) := by
          funext t
          simp only [Function.comp, List.length_cons]
          congr 1
          exact propext ⟨fun h => by omega, fun h => by omega⟩
        rw [this]
        refine List.map_congr_left (fun t _ => ?_)
        simp [Function.comp]
/-- the tilings with at most so many squares -/
def tilMost (W : Nat) (H : Int) (more : Int) : List (List Sq) := (tilings W H).filter (fun t => decide ((t.length : Int) ≤ more))
theorem look_til (W : Nat) (H more : Int) (hW : 0 < W) (hH : 0 ≤ H) (hm : 0 ≤ more) : lookP H (min (W : Int) H) (W * H.toNat + 1) (List.replicate W 0) [] more = (tilMost W H more).reverse := by
  rw [lookP_rev H (min (W : Int) H) (by omega) _ _ [] more (fits_zeros W H hW hH) (by rw [left_zeros]; omega) hm (fun c _ => by rw [ht_zeros]; exact Int.le_refl _) (by rw [List.length_replicate]; omega)]
  simp [tilMost, tilings]
theorem tilMost_none (W : Nat) (H : Int) (m : Nat) (hm : m < fewM W H) : tilMost W H m = [] := by
  refine List.filter_eq_nil_iff.2 (fun t ht => ?_)
  have := minLen_le _ t ht
  unfold fewM at hm
  simp; omega
/-- the tilings with the fewest squares -/
def tilFew (W : Nat) (H : Int) : List (List Sq) := tilMost W H (fewM W H)
theorem tilFew_ne (W : Nat) (H : Int) (hW : 0 < W) (hH : 0 ≤ H) : tilFew W H ≠ [] := by
  obtain ⟨t, h1, h2⟩ := minLen_at _ (til_ne W H hW hH)
  exact List.ne_nil_of_mem (a := t) (List.mem_filter.2 ⟨h1, by simp [fewM, h2]⟩)
theorem tilFew_mem {W : Nat} {H : Int} {t : List Sq} (h : t ∈ tilFew W H) : t ∈ tilings W H ∧ t.length = fewM W H := by
  obtain ⟨h1, h2⟩ := List.mem_filter.1 h
  have := minLen_le _ t h1
  unfold fewM at *
  simp at h2
  exact ⟨h1, by omega⟩
theorem tilMost_all (W : Nat) (H : Int) (hW : 0 < W) (hH : 1 ≤ H) : tilMost W H (W * H) = tilings W H := List.filter_eq_self.2 (fun t ht => by simpa using (til_len W H hW hH t ht).2)
end Go.Proofs.Ytfmhcgjmgaefcad.T

namespace Go.Proofs.Ytfmhcgjmgaefcad.Aid
open Go.RowKit Go.Proofs.YtfmhcgjmgaefcadW.PrintWords Go.Proofs.YtfmhcgjmgaefcadW.PrintMore
theorem w64 {e : Int} (h0 : -9223372036854775808 ≤ e) (h1 : e ≤ 9223372036854775807) : wrap64 e = e := by unfold wrap64; omega
theorem ev_pos {α : Type} {c : Prop} [Decidable c] {a b : Nat → Option α} {r : α} (h : c) (e : Ev a r) : Ev (fun k => if c then a k else b k) r := by simpa only [if_pos h] using e
theorem ev_neg {α : Type} {c : Prop} [Decidable c] {a b : Nat → Option α} {r : α} (h : ¬ c) (e : Ev b r) : Ev (fun k => if c then a k else b k) r := by simpa only [if_neg h] using e
theorem ev_some {α : Type} {r s : α} (h : s = r) : Ev (fun _ => some s) r := by subst h; exact Ev.now _
theorem ev_bind {α β : Type} {g : Nat → Option α} {f : Nat → α → Option β} {a : α} {r : β} (h : Ev g a) (k : Ev (fun n => f n a) r) : Ev (fun n => (g n).bind (f n)) r := Ev.bind h k
/-- a call that counts no rounds -/
theorem ev_call {α β : Type} {g : Option α} {f : Nat → α → Option β} {a : α} {r : β} (h : g = some a) (k : Ev (fun n => f n a) r) : Ev (fun n => g.bind (f n)) r := by subst h; exact k
theorem ev_at {α : Type} {g : Nat → Option α} {r : α} (h : Ev g r) : ∃ k, g k = some r := Ev.rounds h
theorem mx_max (a b : Int) : mx a b = max a b := by unfold mx; omega
theorem mn_min (a b : Int) : mn a b = min a b := by unfold mn; omega
/-- n lies in lo..hi -/
def inR (n lo hi : Int) : Bool := decide (lo ≤ n) && decide (n ≤ hi)
theorem inR_iff {n lo hi : Int} : inR n lo hi = true ↔ lo ≤ n ∧ n ≤ hi := by simp [inR]
end Go.Proofs.Ytfmhcgjmgaefcad.Aid

namespace Go.Proofs.Ytfmhcgjmgaefcad.Gr
open Go Go.RowKit
/-- A world in which all that lay in X lies unturned. -/
structure Gr (X : World) where
  W : World
  h : Below X.heap.size X W
instance (X : World) : Inhabited (Gr X) := ⟨⟨X, Below.refl _ _⟩⟩
theorem wp_region_gr {P : Program} {id : Nat} {Q : Exit → Act → World → Prop} {a : Act} {X : World} {l : List Oper} (hm : P.follows .mixedOrders = true) (hB : Region.lexB .any l.toArray = true)
    (h : wpQuiet P l.toArray (fun W => ∃ p : Gr X, W = p.W) (fun a' => ∀ w', (∃ p : Gr X, w' = p.W) → Q .normal a' w') l a) : (Code.region id l.toArray true).wp P Q a X :=
  wp_region_quiet (C := fun W => ∃ p : Gr X, W = p.W) hm hB ⟨⟨{ X with drawn := X.drawn + 1 }, (Below.refl X.heap.size X).drew⟩, rfl⟩ (by simpa using h)
theorem cell_gr {X : World} {a : Addr} {v : Value} (hb : a.block < X.heap.size) (h : X.cell? a = some v) (p : Gr X) : p.W.cell? a = some v := (p.h.cell hb).trans h
theorem Calls.gr_of {P : Program} {f : FuncId} {args : Array Value} {X : World} {p : Gr X} {v : Value} (h : Calls P f args p.W fun e w' => e = .returned v ∧ Below p.W.heap.size p.W w') :
    Calls P f args p.W fun e w'' => e = .returned v ∧ ∃ q : Gr X, w'' = q.W :=
  h.mono fun _ w' ⟨he, hb⟩ => ⟨he, ⟨⟨w', p.h.trans (hb.mono p.h.size)⟩, rfl⟩⟩
end Go.Proofs.Ytfmhcgjmgaefcad.Gr

namespace Go.Proofs.Ytfmhcgjmgaefcad.P
open Go.RowKit Go.Proofs.YtfmhcgjmgaefcadW.PrintWords Go.Proofs.YtfmhcgjmgaefcadW.PrintLast Go.Proofs.YtfmhcgjmgaefcadW.PrintMore
attribute [local go_sem] max2_int min2_int max_two min_two max_three min_three max_four min_four
set_option linter.unusedVariables false
set_option linter.unusedSimpArgs false

/-! ### spec_cuSorted: function 60 -/
open Go.Proofs.Ytfmhcgjmgaefcad.T Go.Proofs.Ytfmhcgjmgaefcad.Aid Go.Proofs.Ytfmhcgjmgaefcad.Gr
def spec_cuSorted.f (k : Nat) (l0 : List S48) : Option (List S48) := if l0.length ≤ 500000 then some (srt l0) else none
theorem spec_cuSorted.mono : ∀ a0 k, LeO (spec_cuSorted.f k a0) (spec_cuSorted.f (k + 1) a0) := fun _ _ => LeO.refl _
theorem cuLess_s (a b : Sq) : spec_cuLess.f a.f0 a.f1 a.f2 b.f0 b.f1 b.f2 = some (ltb a b) := by
  unfold spec_cuLess.f ltb
  by_cases c1 : a.f1 < b.f1
  · simp [c1]
  · by_cases c2 : a.f1 = b.f1 <;> simp [c1, c2]
theorem rd_sqs (l : List Sq) (i : Nat) : rd_T48 l (i : Int) = l.getD i ⟨0, 0, 0⟩ := by unfold rd_T48; rw [Int.toNat_natCast]; rfl
theorem srtF_drop (l o : List Sq) (i : Nat) (hi : i < l.length) : srtF ltb ⟨0, 0, 0⟩ o (l.drop i) = srtF ltb ⟨0, 0, 0⟩ (insG ltb ⟨0, 0, 0⟩ (l.getD i ⟨0, 0, 0⟩) o) (l.drop (i + 1)) := by
  have e : l.drop i = l.getD i ⟨0, 0, 0⟩ :: l.drop (i + 1) := by
    rw [List.drop_eq_getElem_cons hi]
    simp [hi]
  rw [e]; rfl
theorem insG_lencs {α : Type} (lt : α → α → Bool) (z s : α) (out : List α) : (insG lt z s out).length = out.length + 1 := by
  have := (insG_perm lt z s out).length_eq
  simpa using this
theorem R_slcs {α : Type} {d : Kd α} {w : World} {base e : Nat} {ok : Nat → Prop} {v : Value} {xs : List α} (h : d.R e w base ok v xs) : ∃ A n c, v = .slice A n c := by
  obtain ⟨A, c, e⟩ := Kd.R_slice h
  exact ⟨_, _, _, e⟩
theorem R_emptycs (W : World) (base : Nat) (hb : base ≤ W.heap.size) : Kd.R k48 48 (W.alloc (.cells #[] 48)) base (fun _ => True) (.slice (some ⟨W.heap.size, 0, none⟩) 0 0) [] :=
  ⟨fun k hk => trivial, [], World.ownsRow_lit (base := base) (e := 48) (size := 3) W #[] 0 hb (by simp [maxLen]) (by simp), Reps.none _ _⟩
theorem C_of_blkcs {W : World} {L : Nat} (q : Sq) (h : W.heap[L]? = some (.cells #[.int .i64 q.f0, .int .i64 q.f1, .int .i64 q.f2] 48 (0, 0))) : Kd.C k48 W (some ⟨L, 0, none⟩) 1 [q] := by
  have hh : Kd.R k48 48 W 0 (fun _ => True) (.slice (some ⟨L, 0, none⟩) 1 1) [q] :=
    ⟨fun k hk => trivial, [.int .i64 q.f0, .int .i64 q.f1, .int .i64 q.f2], ⟨by rfl, .inr ⟨L, 1, _, rfl, Nat.zero_le _, h, Nat.le_refl _, by simp [maxLen], by rfl, by rfl⟩⟩, Reps.c3 (k48_mkM _ _ _ q) (Reps.none _ _)⟩
  exact (Kd.R_reads' hh).2.2
set_option maxHeartbeats 4000000 in
set_option maxRecDepth 100000 in
theorem spec_cuSorted.calls (k : Nat) (A0 : Option Addr) (c0 : Nat) (l0 : List S48) (r : List S48) (w : World) (hr0 : Kd.C k48 w A0 l0.length l0) (hc0 : l0.length ≤ c0) (h : spec_cuSorted.f k l0 = some r) :
    Calls Try.prog 60 #[.slice A0 l0.length c0] w fun e w' => ∃ v0_ : Value, e = .returned (v0_) ∧ Kd.R k48 48 w' w.heap.size (fun _ => True) v0_ r ∧ Below w.heap.size w w' := by
  unfold spec_cuSorted.f at h
  by_cases hl : l0.length ≤ 500000
  · rw [if_pos hl] at h
    have hr := Option.some.inj h
    clear h
    have HR0 := Aside0.mk hr0
    have HL := Aside0.mk hl
    have HRES := Aside0.mk hr
    clear hr0 hr
    have hu60 := Try.underlying48
    go_enter Try.func60, Try.ntmps60
    go_wp2_with fail
    go_loopg [3, 10] l0.length (fun kq v3 v10 wc => ∃ (i : Nat) (xi : Int) (out : List S48), i ≤ l0.length ∧ l0.length - i ≤ kq ∧ (i : Int) = xi ∧ v10 = .int .i64 xi ∧ Aside0 (out.length = i ∧ srtF ltb ⟨0, 0, 0⟩ out (l0.drop i) = srt l0) ∧ Aside0 (Kd.R k48 48 wc w.heap.size (fun _ => True) v3 out) ∧ Aside0 (Below w.heap.size w wc))
    case atStart => exact ⟨0, 0, [], by omega, by omega, rfl, rfl, ⟨rfl, rfl⟩, ⟨Kd.R_nil _ _ _ _ _⟩, ⟨Below.refl _ _⟩⟩
    case round =>
      obtain ⟨i, xi, out, hi, hk, hxi, rfl, HV, HO, HB⟩ := hrel
      by_cases hlt : i < l0.length
      · have b1 : decide (xi < (l0.length : Int)) = true := decide_eq_true (by omega)
        obtain ⟨ad, e1, h0, h1, h2⟩ := at_T48 HR0.out xi (by omega) (by omega)
        cases e1
        replace h0 := (HB.out.cell (World.block_lt_of_cell? w _ h0)).trans h0
        replace h1 := (HB.out.cell (World.block_lt_of_cell? w _ h1)).trans h1
        replace h2 := (HB.out.cell (World.block_lt_of_cell? w _ h2)).trans h2
        have q1 := eq_true (show 0 ≤ xi by omega)
        have q2 := eq_true (show xi < (l0.length : Int) by omega)
        obtain ⟨s, hs⟩ : ∃ s, rd_T48 l0 xi = s := ⟨_, rfl⟩
        rw [hs] at h0 h1 h2
        have HSV : Aside0 (l0.getD i ⟨0, 0, 0⟩ = s) := ⟨by rw [← rd_sqs, hxi]; exact hs⟩
        obtain ⟨A1, c1, e1⟩ := Kd.R_slice HO.out
        subst e1
        have HI := Aside0.mk (And.intro hi (And.intro hk (And.intro hxi hlt)))
        clear hi hk hxi hlt hs
        go_wp2_with (first | ((with_reducible refine gate_dst (N := 5) rfl ?_); refine box_event ?hg (N := 5) ?hd (cs := #[.int .i64 0, .int .i64 0, .int .i64 0]) (t := 48) ?hr ?_; (case hd => rfl); (case hg => rfl); (case hr => first | (go_simp; done) | (go_simp; rfl)); intro gb hg w5 hbox hb; have HBX := Aside0.mk hbox; have HB5 := Aside0.mk hb; have HG := Aside0.mk hg; have hcz0 : w5.cell? ⟨gb, 0, none⟩ = some (.int .i64 0) := (blk_cell hbox 0).trans rfl; have hcz1 : w5.cell? ⟨gb, 1, none⟩ = some (.int .i64 0) := (blk_cell hbox 1).trans rfl; have hcz2 : w5.cell? ⟨gb, 2, none⟩ = some (.int .i64 0) := (blk_cell hbox 2).trans rfl; have hfz0 := blk_frozen hbox 0; have hfz1 := blk_frozen hbox 1; have hfz2 := blk_frozen hbox 2; clear hb hbox hg))
        have GE : w.heap.size ≤ gb := by rw [HG.out]; exact HB.out.size
        have HO5 := Kd.R_below (Kd.R_elderB HO.out gb (Nat.le_of_eq HG.out.symm)) HB5.out
        have HO6 : Aside0 (Kd.R k48 48 (((w5.setCell ⟨gb, 0, none⟩ (.int .i64 s.f0)).setCell ⟨gb, 1, none⟩ (.int .i64 s.f1)).setCell ⟨gb, 2, none⟩ (.int .i64 s.f2)) w.heap.size (fun k_ => k_ ≠ gb) (.slice A1 out.length c1) out) := ⟨Kd.R_mono (Kd.R_far (p := ⟨gb, 2, none⟩) (Kd.R_far (p := ⟨gb, 1, none⟩) (Kd.R_far (p := ⟨gb, 0, none⟩) (Kd.R_mono HO5 (fun k_ hk => (⟨hk, hk.2⟩ : _ ∧ k_ ≠ gb))) (fun _ hk => hk.2) (.int .i64 s.f0)) (fun _ hk => hk.2) (.int .i64 s.f1)) (fun _ hk => hk.2) (.int .i64 s.f2)) (fun _ hk => hk.2)⟩
        have HX6 : Aside0 ((((w5.setCell ⟨gb, 0, none⟩ (.int .i64 s.f0)).setCell ⟨gb, 1, none⟩ (.int .i64 s.f1)).setCell ⟨gb, 2, none⟩ (.int .i64 s.f2)).heap[gb]? = some (.cells #[.int .i64 s.f0, .int .i64 s.f1, .int .i64 s.f2] 48 (0, 0))) := ⟨blk_put (cs := #[.int .i64 s.f0, .int .i64 s.f1, .int .i64 0]) (blk_put (cs := #[.int .i64 s.f0, .int .i64 0, .int .i64 0]) (blk_put (cs := #[.int .i64 0, .int .i64 0, .int .i64 0]) HBX.out 0 _ rfl) 1 _ rfl) 2 _ rfl⟩
        have HB6 : Aside0 (Below w.heap.size w (((w5.setCell ⟨gb, 0, none⟩ (.int .i64 s.f0)).setCell ⟨gb, 1, none⟩ (.int .i64 s.f1)).setCell ⟨gb, 2, none⟩ (.int .i64 s.f2))) := ⟨below_set (below_set (below_set (below_step HB.out HB5.out) GE) GE) GE⟩
        generalize (((w5.setCell ⟨gb, 0, none⟩ (.int .i64 s.f0)).setCell ⟨gb, 1, none⟩ (.int .i64 s.f1)).setCell ⟨gb, 2, none⟩ (.int .i64 s.f2)) = W6 at HO6 HX6 HB6 ⊢
        clear HBX HB5 HO5 hcz0 hcz1 hcz2 hfz0 hfz1 hfz2 h0 h1 h2 b1 q1 q2 HG HO HB
        go_loopg [6] out.length (fun kq v6 wc => ∃ (j : Nat) (ji : Int), j ≤ out.length ∧ j ≤ kq ∧ (j : Int) = ji ∧ v6 = .int .i64 ji ∧ Aside0 (insK ltb ⟨0, 0, 0⟩ s out out.length = insK ltb ⟨0, 0, 0⟩ s out j) ∧ Aside0 (Below W6.heap.size W6 wc))
        case atStart => exact ⟨out.length, _, Nat.le_refl _, Nat.le_refl _, rfl, rfl, ⟨rfl⟩, ⟨Below.refl _ _⟩⟩
        case round =>
          obtain ⟨j, ji, hj, hjk, hji, rfl, HV2, HB7⟩ := hrel
          have HO7 := Aside0.mk (Kd.R_below HO6.out HB7.out)
          have HX7 := Aside0.mk (blk_below HX6.out HB7.out)
          have HJ := Aside0.mk (And.intro hj (And.intro hjk hji))
          have hol : out.length ≤ 500000 := by have h1 := HV.out.1; have h2 := HI.out.1; have h3 := HL.out; omega
          obtain ⟨jp, hjp⟩ : ∃ jp : Int, ji - 1 = jp := ⟨_, rfl⟩
          have hwj : wrap64 (ji - 1) = jp := by rw [w64 (by omega) (by omega)]; exact hjp
          have HJP := Aside0.mk (And.intro hjp hwj)
          clear hj hjk hji hjp hwj
          go_upto_region 6 with (fail)
          go_cut [26] (fun v26 wc => ∃ b : Bool, v26 = .bool b ∧ Aside0 (if b = true then 0 < j ∧ insK ltb ⟨0, 0, 0⟩ s out j = insK ltb ⟨0, 0, 0⟩ s out (j - 1) else insK ltb ⟨0, 0, 0⟩ s out j = j) ∧ Aside0 (Below wr.heap.size wr wc))
          case first => as_aux_lemma =>
            have hj1 := HJ.out
            rcases Nat.eq_zero_or_pos j with hz | hz
            · subst hz
              have z1 : decide ((0 : Int) < ji) = false := decide_eq_false (by omega)
              clear hj1
              refine wp_region_gr (by kernel_rfl) (by kernel_rfl) ?_
              repeat (go_big_quiet_step (fail))
              refine wpQuiet_nil ?_
              intro W2 hw'
              obtain ⟨⟨V2, hB2⟩, hw''⟩ := hw'
              replace hw'' : W2 = V2 := hw''
              subst hw''
              try go_wp2_with fail
              go_meet
              case rel => exact ⟨false, rfl, ⟨rfl⟩, ⟨hB2⟩⟩
            · have z1 : decide ((0 : Int) < ji) = true := decide_eq_true (by omega)
              have hjp := HJP.out.1
              have hwj := HJP.out.2
              obtain ⟨ad2, e2, g0, g1, g2⟩ := at_T48 (Kd.R_reads' HO7.out).2.2 jp (by omega) (by omega)
              cases e2
              obtain ⟨p, hp⟩ : ∃ p, rd_T48 out jp = p := ⟨_, rfl⟩
              rw [hp] at g0 g1 g2
              have HP : Aside0 (out.getD (j - 1) ⟨0, 0, 0⟩ = p) := ⟨by rw [← rd_sqs, ← hp]; congr 1; omega⟩
              have q1 := eq_true (show 0 ≤ jp by omega)
              have q2 := eq_true (show jp < (out.length : Int) by omega)
              have HCL : Aside0 (∀ W, Calls Try.prog 59 #[.agg #[.int .i64 s.f0, .int .i64 s.f1, .int .i64 s.f2], .agg #[.int .i64 p.f0, .int .i64 p.f1, .int .i64 p.f2]] W fun e w' => e = .returned (.bool (ltb s p)) ∧ Below W.heap.size W w') := ⟨fun W => spec_cuLess.calls _ _ _ _ _ _ _ W (cuLess_s s p)⟩
              have HBV : Aside0 (if ltb s p = true then 0 < j ∧ insK ltb ⟨0, 0, 0⟩ s out j = insK ltb ⟨0, 0, 0⟩ s out (j - 1) else insK ltb ⟨0, 0, 0⟩ s out j = j) := ⟨by
                have e : insK ltb ⟨0, 0, 0⟩ s out j = if ltb s p = true then insK ltb ⟨0, 0, 0⟩ s out (j - 1) else j := by
                  obtain ⟨j', rfl⟩ : ∃ j', j = j' + 1 := ⟨j - 1, by omega⟩
                  have := HP.out
                  rw [Nat.add_sub_cancel] at this
                  rw [insK, this, Nat.add_sub_cancel]
                rw [e]
                split
                · exact ⟨hz, rfl⟩
                · rfl⟩
              generalize ltb s p = b at HCL HBV
              have l1 := blk_lt HX7.out
              have l2 := World.block_lt_of_cell? wr _ g0
              have x0 := fun p => cell_gr (p := p) l1 ((blk_cell HX7.out 0).trans rfl)
              have x1 := fun p => cell_gr (p := p) l1 ((blk_cell HX7.out 1).trans rfl)
              have x2 := fun p => cell_gr (p := p) l1 ((blk_cell HX7.out 2).trans rfl)
              have x3 := fun p => cell_gr (p := p) l2 g0
              have x4 := fun p => cell_gr (p := p) (World.block_lt_of_cell? wr _ g1) g1
              have x5 := fun p => cell_gr (p := p) (World.block_lt_of_cell? wr _ g2) g2
              clear hj1 hjp hp g0 g1 g2 l1 l2
              refine wp_region_gr (by kernel_rfl) (by kernel_rfl) ?_
              repeat (go_big_quiet_step (first | (go_at_call 59; refine Calls.gr_of (HCL.out _))))
              refine wpQuiet_nil ?_
              intro W2 hw'
              obtain ⟨⟨V2, hB2⟩, hw''⟩ := hw'
              replace hw'' : W2 = V2 := hw''
              subst hw''
              try go_wp2_with fail
              go_meet
              case rel => exact ⟨b, rfl, HBV, ⟨hB2⟩⟩
          case rest =>
            obtain ⟨b, rfl, HBV, HB8⟩ := hcut
            have HB9 := Aside0.mk (HB7.out.trans (HB8.out.mono HB7.out.size))
            cases b with
            | true =>
              have hd := HBV.out
              rw [if_pos rfl] at hd
              have HD := Aside0.mk hd
              have hwj := HJP.out.2
              clear hd
              go_wp2_with fail
              go_roundg (j - 1)
              case measure => have h1 := HD.out.1; have h2 := HJ.out.2.1; omega
              case rel => exact ⟨j - 1, jp, by have := HJ.out.1; omega, by omega, by have h1 := HD.out.1; have h2 := HJ.out.2.2; have h3 := HJP.out.1; omega, by first | rfl | rw [hwj], ⟨HV2.out.trans HD.out.2⟩, HB9⟩
            | false =>
              have hd := HBV.out
              rw [if_neg (by decide)] at hd
              have HD : Aside0 (insK ltb ⟨0, 0, 0⟩ s out out.length = j) := ⟨HV2.out.trans hd⟩
              clear hd HBV HJP HV2 HB8 HO7 HX7 HB7
              go_upto_region 8 with (fail)
              obtain ⟨w5, rfl⟩ : ∃ w5 : World, w5 = wc := ⟨_, rfl⟩
              have HO8 := Aside0.mk (Kd.R_below HO6.out HB9.out)
              have HX8 := Aside0.mk (blk_below HX6.out HB9.out)
              have HJI : Aside0 (0 ≤ ji ∧ ji ≤ out.length ∧ ji.toNat = j) := ⟨by have h1 := HJ.out.1; have h2 := HJ.out.2.2; omega⟩
              obtain ⟨i0, hi0, _, hsz, _⟩ := info_parts info48
              have hroom : out.length ≤ c1 := (Kd.R_reads' HO8.out).2.1
              have hcutt := cut_to (P := Try.prog) 27 48 .i64 Try.underlying27 hi0 A1 out.length c1 ji HJI.out.1 HJI.out.2.1 hroom
              have hcutf := cut_from (P := Try.prog) 27 48 .i64 Try.underlying27 hi0 3 hsz A1 out.length c1 ji HJI.out.1 HJI.out.2.1
              have HTK := Aside0.mk (Kd.C_take (m := ji.toNat) (Kd.R_reads' HO8.out).2.2 (by have := HJI.out; omega))
              have hdr : Kd.C k48 w5 (if c1 = ji.toNat then A1 else A1.map (·.add (ji.toNat * 3))) (out.drop ji.toNat).length (out.drop ji.toNat) := Kd.C_drop (m := ji.toNat) (c := c1) (Kd.R_reads' HO8.out).2.2 (by have := HJI.out; omega) hroom
              have hl1 : (out.take ji.toNat).length = ji.toNat := by rw [List.length_take]; have := HJI.out; omega
              have hl2 : (out.drop ji.toNat).length = out.length - ji.toNat := List.length_drop
              rw [← hl1] at hcutt
              obtain ⟨AD, hAD⟩ : ∃ AD, (if c1 = ji.toNat then A1 else A1.map (·.add (ji.toNat * 3))) = AD := ⟨_, rfl⟩
              obtain ⟨cD, hcD⟩ : ∃ cD, c1 - ji.toNat = cD := ⟨_, rfl⟩
              rw [hAD] at hdr
              rw [hAD, hcD, ← hl2] at hcutf
              have HOL : Aside0 (out.length ≤ 500000) := ⟨by have h1 := HV.out.1; have h2 := HI.out.1; have h3 := HL.out; omega⟩
              obtain ⟨sq, hsq⟩ : ∃ sq, out.take ji.toNat = sq := ⟨_, rfl⟩
              obtain ⟨dq, hdq⟩ : ∃ dq, out.drop ji.toNat = dq := ⟨_, rfl⟩
              have HSQ : Aside0 (sq.length ≤ 500000) := ⟨by rw [← hsq, List.length_take]; have := HOL.out; omega⟩
              have HDQ : Aside0 (dq.length ≤ 500000) := ⟨by rw [← hdq, List.length_drop]; have := HOL.out; omega⟩
              have HINS : Aside0 (insG ltb ⟨0, 0, 0⟩ s out = sq ++ [s] ++ dq) := ⟨by
                unfold insG
                rw [HD.out, ← hsq, ← hdq, HJI.out.2.2]; simp⟩
              have HSC5 := HTK
              rw [hsq] at hcutt HSC5
              rw [hdq] at hcutf hdr
              have HDC5 := Aside0.mk hdr
              have HP6 : Aside0 (∀ W, Below w5.heap.size w5 W → W.cell? ⟨gb, 0, none⟩ = some (.int .i64 s.f0) ∧ W.cell? ⟨gb, 1, none⟩ = some (.int .i64 s.f1) ∧ W.cell? ⟨gb, 2, none⟩ = some (.int .i64 s.f2)) := ⟨fun W hW => ⟨(blk_cell (blk_below HX8.out hW) 0).trans rfl, (blk_cell (blk_below HX8.out hW) 1).trans rfl, (blk_cell (blk_below HX8.out hW) 2).trans rfl⟩⟩
              have HB10 := Aside0.mk (HB6.out.trans (HB9.out.mono HB6.out.size))
              clear HTK hdr hl1 hl2 hsq hdq hAD hcD hi0 hsz hroom
              have q3 := eq_true HJI.out.1
              have q4 := eq_true HJI.out.2.1
              go_cut [7] (fun v7 wc => Aside0 (Kd.R k48 48 wc w5.heap.size (fun _ => True) v7 (sq ++ [s])) ∧ Aside0 (Below w5.heap.size w5 wc))
              case first => as_aux_lemma =>
                obtain ⟨p50, p51, p52⟩ := HP6.out w5 (Below.refl _ _)
                obtain ⟨p5a, p5b, p5c⟩ := HP6.out (w5.alloc (.cells #[] 48)) (below_alloc (Below.refl _ _) _)
                go_region_law (first | (refine Kd.R_append_rows_step k48 (w0 := w5) w5.heap.size (by simp [Region.wanted]) (.tmp 29) (.tmp 32) 27 48 (.agg #[.int .i64 0, .int .i64 0, .int .i64 0]) 24 rfl Try.underlying27 info48 rfl (by decide) (by omega) (.slice (some ⟨w5.heap.size, 0, none⟩) 0 0) [] sq _ _ _ (fun _ => True) (fun _ => False) rfl rfl ?aO ?aR (fun _ _ h => h) (fun _ h => h.elim) (fun _ _ => trivial) ?aB ?aS ?aL ?_; (case aO => exact (by first | exact R_emptycs _ _ (by simp) | exact Kd.R_drew (R_emptycs _ _ (by simp)) | exact Kd.R_drew (Kd.R_alloc (R_emptycs _ _ (by simp)) _) | exact Kd.R_alloc (R_emptycs _ _ (by simp)) _)); (case aR => exact (show Kd.C k48 _ A1 sq.length sq from by (with_reducible repeat (first | refine Kd.C_alloc ?_ _ | refine Kd.C_drew ?_)); exact HSC5.out)); (case aB => exact (by repeat (first | exact Below.refl _ _ | apply below_alloc | apply below_drew))); (case aS => exact (by simp; try omega)); (case aL => exact (by have := HSQ.out; simp; omega)); intro v118 w6 ho hb hg hat; obtain ⟨A6, n6, c6, e6⟩ := R_slcs ho; subst e6; rw [List.nil_append] at ho; have HR6 := Aside0.mk ho; have HB6 := Aside0.mk hb; obtain ⟨p60, p61, p62⟩ := HP6.out _ hb; (first | (have hq6 := blk_grown (w1 := w6) (heap_alloc_new (w5.drew.alloc (.cells #[] 48)) (.cells #[.int .i64 s.f0, .int .i64 s.f1, .int .i64 s.f2] 48)) hg (by first | (simp [Value.ownBlock]; done) | (intro h_; injection h_ with h_; omega))) | skip); clear ho hb hg hat) | (refine Kd.R_append_step k48 (w0 := w5) w5.heap.size (by simp [Region.wanted]) (.tmp 33) (.tmp 35) 27 48 (.agg #[.int .i64 0, .int .i64 0, .int .i64 0]) 24 rfl Try.underlying27 info48 rfl (by decide) (by omega) _ sq s [.int .i64 s.f0, .int .i64 s.f1, .int .i64 s.f2] (fun _ => True) (fun _ => False) rfl rfl (k48_mkM _ _ _ _) (fun _ h => h.elim) (fun _ _ => trivial) HR6.out HB6.out HB6.out.size ?aL ?_; (case aL => exact (by have := HSQ.out; omega)); intro v127 w7 ho hb hg hat; obtain ⟨A7, n7, c7, e7⟩ := R_slcs ho; subst e7; have HR7 := Aside0.mk ho; have HB7 := Aside0.mk hb; clear ho hb hg hat) | (refine Kd.R_append_rows_step k48 (w0 := w5) w5.heap.size (by simp [Region.wanted]) (.tmp 33) (.tmp 35) 27 48 (.agg #[.int .i64 0, .int .i64 0, .int .i64 0]) 24 rfl Try.underlying27 info48 rfl (by decide) (by omega) _ sq [s] _ _ _ (fun _ => True) (fun _ => False) rfl rfl HR6.out (show Kd.C k48 w6 _ 1 [s] from C_of_blkcs s (by first | exact hq6 | simpa using hq6)) (fun _ _ h => h) (fun _ h => h.elim) (fun _ _ => trivial) HB6.out HB6.out.size ?aL ?_; (case aL => exact (by have := HSQ.out; omega)); intro v127 w7 ho hb hg hat; obtain ⟨A7, n7, c7, e7⟩ := R_slcs ho; subst e7; have HR7 := Aside0.mk ho; have HB7 := Aside0.mk hb; clear ho hb hg hat) | (refine Kd.R_append_rows_step k48 (w0 := w5) w5.heap.size (by simp [Region.wanted]) (.tmp 29) (.tmp 32) 27 48 (.agg #[.int .i64 0, .int .i64 0, .int .i64 0]) 24 rfl Try.underlying27 info48 rfl (by decide) (by omega) (.slice (some ⟨w5.heap.size + 1, 0, none⟩) 0 0) [] sq _ _ _ (fun _ => True) (fun _ => False) rfl rfl ?aO ?aR (fun _ _ h => h) (fun _ h => h.elim) (fun _ _ => trivial) ?aB ?aS ?aL ?_; (case aO => exact (by have h := R_emptycs (w5.alloc (.cells #[.int .i64 s.f0, .int .i64 s.f1, .int .i64 s.f2] 48)) w5.heap.size (below_alloc (Below.refl _ _) _).size; rw [show (w5.alloc (.cells #[.int .i64 s.f0, .int .i64 s.f1, .int .i64 s.f2] 48)).heap.size = w5.heap.size + 1 from by simp] at h; first | exact Kd.R_drew h | exact h)); (case aR => exact (show Kd.C k48 _ A1 sq.length sq from by (with_reducible repeat (first | refine Kd.C_alloc ?_ _ | refine Kd.C_drew ?_)); exact HSC5.out)); (case aB => exact (by repeat (first | exact Below.refl _ _ | apply below_alloc | apply below_drew))); (case aS => exact (by simp; try omega)); (case aL => exact (by have := HSQ.out; simp; omega)); intro v118 w6 ho hb hg hat; obtain ⟨A6, n6, c6, e6⟩ := R_slcs ho; subst e6; rw [List.nil_append] at ho; have HR6 := Aside0.mk ho; have HB6 := Aside0.mk hb; obtain ⟨p60, p61, p62⟩ := HP6.out _ hb; have hq6 := blk_grown (w1 := w6) (blk_alloc (heap_alloc_new w5.drew (.cells #[.int .i64 s.f0, .int .i64 s.f1, .int .i64 s.f2] 48)) _) hg (by first | (simp [Value.ownBlock]; done) | (intro h_; injection h_ with h_; omega)); clear ho hb hg hat))
                all_goals
                  go_wp2_with fail
                  go_meet
                  case rel => exact ⟨HR7, HB7⟩
              case rest =>
                obtain ⟨HR7, HB7⟩ := hcut
                obtain ⟨A7, n7, c7, e7⟩ := R_slcs HR7.out
                subst e7
                have HD7 := Aside0.mk (Kd.C_below HDC5.out HB7.out)
                have hw3 : wrap64 (xi + 1) = ((i + 1 : Nat) : Int) := by
                  have h1 := HI.out
                  have h2 := HL.out
                  rw [w64 (by omega) (by omega)]; omega
                have HNX : Aside0 ((sq ++ [s] ++ dq).length = i + 1 ∧ srtF ltb ⟨0, 0, 0⟩ (sq ++ [s] ++ dq) (l0.drop (i + 1)) = srt l0) := ⟨by
                  have h1 := HV.out
                  refine ⟨by rw [← HINS.out, insG_lencs, h1.1], ?_⟩
                  rw [← HINS.out, ← h1.2, srtF_drop _ _ _ HI.out.2.2.2, HSV.out]⟩
                go_wp2_with (first | ((with_reducible refine gate_builtin (b := .append) (xs := #[.tmp 37, .tmp 40]) rfl ?_); at_builtin; refine Kd.R_append_rows k48 (w0 := w5) w5.heap.size rfl (.tmp 37) (.tmp 40) 27 48 (.agg #[(.int .i64 0), (.int .i64 0), (.int .i64 0)]) 24 rfl Try.underlying27 info48 rfl (by decide) (by omega) _ (sq ++ [s]) dq _ _ _ (fun _ => True) (fun _ => False) rfl rfl HR7.out HD7.out (fun _ _ h => h) (fun _ h => h.elim) (fun _ _ => trivial) HB7.out HB7.out.size (by have h1 := HSQ.out; have h2 := HDQ.out; rw [List.length_append, List.length_singleton]; omega) ?_; intro v41 w6 ho hb hg hat; have HO9 := Aside0.mk ho; have HB11 := Aside0.mk hb; clear ho hb hg hat))
                go_roundg (l0.length - (i + 1))
                case measure => have := HI.out; omega
                case rel => exact ⟨i + 1, _, _, by have := HI.out; omega, Nat.le_refl _, rfl, by first | rfl | rw [hw3], HNX, ⟨Kd.R_lower HO9.out HB10.out.size⟩, ⟨HB10.out.trans (HB11.out.mono HB10.out.size)⟩⟩
      · have b1 : decide (xi < (l0.length : Int)) = false := decide_eq_false (by omega)
        obtain rfl : i = l0.length := by omega
        have e2 := HV.out.2
        rw [List.drop_length] at e2
        have HE : Aside0 (out = r) := ⟨e2.trans HRES.out⟩
        clear e2
        go_wp2_with fail
        go_ret
        exact ⟨_, rfl, by rw [← HE.out]; exact HO.out, HB.out⟩
  · rw [if_neg hl] at h; cases h

end Go.Proofs.Ytfmhcgjmgaefcad.P

namespace Go.Proofs.Ytfmhcgjmgaefcad.P
open Go.RowKit Go.Proofs.YtfmhcgjmgaefcadW.PrintWords Go.Proofs.YtfmhcgjmgaefcadW.PrintLast Go.Proofs.YtfmhcgjmgaefcadW.PrintMore
attribute [local go_sem] max2_int min2_int max_two min_two max_three min_three max_four min_four
set_option linter.unusedVariables false
set_option linter.unusedSimpArgs false

/-! ### spec_cuMake: function 28 -/
def spec_cuMake.f (k : Nat) (a0 : Int) (a1 : Int) (l2 : List (S48)) : Option (Int × Int × (List (S48)) × Bool) := if (l2.length : Int) > 30 then (some (0, 0, ([] : List (S48)), false)) else ((spec_cuSorted.f k l2).bind fun t102 => ((spec_cuGood.f k a0 a1 t102).bind fun t106 => (if t106 = true then (some (a0, a1, t102, true)) else (some (0, 0, ([] : List (S48)), false)))))
theorem spec_cuMake.mono : ∀ a0 a1 a2 k, LeO (spec_cuMake.f k a0 a1 a2) (spec_cuMake.f (k + 1) a0 a1 a2) := by
  intro a0 a1 a2 k
  unfold spec_cuMake.f
  repeat' first
      | (with_reducible exact spec_cuGood.mono _ _ _ _)
      | (with_reducible exact spec_cuSorted.mono _ _)
      | (with_reducible exact LeO.refl _)
      | (with_reducible exact LeO.none _)
      | (with_reducible refine LeO.ite ?_ ?_)
      | (with_reducible refine LeO.bind ?_ (fun _ => ?_))
      | exact spec_cuGood.mono _ _ _ _
      | exact spec_cuSorted.mono _ _
      | exact LeO.none _
      | refine LeO.ite ?_ ?_
      | refine LeO.bind ?_ (fun _ => ?_)
set_option maxHeartbeats 8000000 in
set_option maxRecDepth 100000 in
theorem spec_cuMake.calls (k : Nat) (a0 : Int) (a1 : Int) (A2 : Option Addr) (c2 : Nat) (l2 : List (S48)) (r1 : Int) (r2 : Int) (r3 : List (S48)) (r4 : Bool) (w : World) (hr2 : Kd.C k48 w A2 l2.length l2) (hc2 : l2.length ≤ c2) (h : spec_cuMake.f k a0 a1 l2 = some (r1, r2, r3, r4)) :
    Calls Try.prog 28 #[.int .i64 a0, .int .i64 a1, .slice A2 l2.length c2] w fun e w' => ∃ v2_ : Value, e = .returned (.tuple #[.agg #[.int .i64 r1, .int .i64 r2, v2_], .bool r4]) ∧ Kd.R k48 48 w' w.heap.size (fun _ => True) v2_ r3 ∧ Below w.heap.size w w' := by
  have hu29 := Try.underlying29
  have HR2 := Aside0.mk hr2
  have HC2 := Aside0.mk hc2
  clear hr2 hc2
  have HB := Aside0.mk (Below.refl w.heap.size w)
  have H : (if (l2.length : Int) > 30 then (some (0, 0, ([] : List (S48)), false)) else ((spec_cuSorted.f k l2).bind fun t102 => ((spec_cuGood.f k a0 a1 t102).bind fun t106 => (if t106 = true then (some (a0, a1, t102, true)) else (some (0, 0, ([] : List (S48)), false)))))) = some (r1, r2, r3, r4) := h
  clear h
  by_cases c4 : (l2.length : Int) > 30
  · rw [if_pos c4] at H
    have c4b0 : decide (30 < (l2.length : Int)) = true := decide_eq_true c4
    have c4b1 : decide (30 < l2.length) = true := decide_eq_true (by omega)
    clear c4
    simp only [Option.some.injEq, Prod.mk.injEq] at H
    obtain ⟨rfl, rfl, rfl, rfl⟩ := H
    go_enter Try.func28, Try.ntmps28
    go_wp2_with (first | ((with_reducible refine gate_dst (N := 6) rfl ?_); refine box_event ?hg (N := 6) ?hd (cs := #[.int .i64 0, .int .i64 0, .slice none 0 0]) (t := 29) ?hr ?_; (case hd => rfl); (case hg => rfl); (case hr => first | (go_simp; done) | (go_simp; rfl)); intro gb101 hg w5 hbox hb; have n0_ := Aside0.mk (below_step (by repeat (first | (with_reducible first | exact HB.out | apply below_alloc | apply pw_below_drewN | apply below_drew1) | exact HB.out)) hb); have n1_ := Aside0.mk (hbox); have n2_ := Aside0.mk ((by rw [hg]; exact (below_size (by repeat (first | (with_reducible first | exact HB.out | apply below_alloc | apply pw_below_drewN | apply below_drew1) | exact HB.out))) : w.heap.size ≤ gb101)); have n3_ := Aside0.mk ((by rw [hg]; exact (below_size (by repeat (first | (with_reducible first | exact HB.out | apply below_alloc | apply pw_below_drewN | apply below_drew1) | exact HB.out))) : w.heap.size ≤ gb101)); clear HB; have HB := n0_; have BK101 := n1_; have GW101 := n2_; have GE101 := n3_; clear n0_ n1_ n2_ n3_; clear hb hbox hg; have hcz6_0 : w5.cell? ⟨gb101, 0, none⟩ = some (.int .i64 0) := (blk_cell BK101.out 0).trans rfl; have hcz6_1 : w5.cell? ⟨gb101, 1, none⟩ = some (.int .i64 0) := (blk_cell BK101.out 1).trans rfl; have hcz6_2 : w5.cell? ⟨gb101, 2, none⟩ = some (.slice none 0 0) := (blk_cell BK101.out 2).trans rfl; have hfz6_0 := blk_frozen BK101.out 0; have hfz6_1 := blk_frozen BK101.out 1; have hfz6_2 := blk_frozen BK101.out 2))
    refine bodyPost_ret (results_ct rfl _ _ gb101 29 #[.int .i64 0, .int .i64 0, .slice none 0 0] (0, 0) _ rfl (by (with_reducible repeat (first | refine blk_drewN ?_ _ | refine blk_drew ?_ | refine blk_alloc ?_ _)); refine blk_put (cs := #[.int .i64 0, .int .i64 0, .slice none 0 0]) ?_ 2 _ rfl; (with_reducible repeat (first | refine blk_drewN ?_ _ | refine blk_drew ?_ | refine blk_alloc ?_ _)); refine blk_put (cs := #[.int .i64 0, .int .i64 0, .slice none 0 0]) ?_ 1 _ rfl; (with_reducible repeat (first | refine blk_drewN ?_ _ | refine blk_drew ?_ | refine blk_alloc ?_ _)); refine blk_put (cs := #[.int .i64 0, .int .i64 0, .slice none 0 0]) ?_ 0 _ rfl; (with_reducible repeat (first | refine blk_drewN ?_ _ | refine blk_drew ?_ | refine blk_alloc ?_ _)); exact BK101.out) Try.underlying29 rfl (by kernel_rfl)) rfl ?_
    exact ⟨_, by first | rfl | (simp [errW_none, errW_some] <;> rfl) | (simp [*, errW_none, errW_some] <;> rfl), by first | exact Kd.R_nil _ _ _ _ _ | exact Kd.N_nil _ _ _ _ _ | exact Kd.V_nil _ _ _ _ _ | exact Kd.Q_nil _ _ _ _ _ | exact Kd.S_nil _ _ _ _ _, by repeat (first | (with_reducible first | exact HB.out | apply below_alloc | apply pw_below_drewN | apply below_drew1 | refine below_set ?_ GE101.out) | exact HB.out)⟩
  · rw [if_neg c4] at H
    have c4b0 : decide (30 < (l2.length : Int)) = false := decide_eq_false c4
    have c4b1 : decide (30 < l2.length) = false := decide_eq_false (by omega)
    clear c4
    replace H := Option.bind_eq_some_iff.mp H
    obtain ⟨t102, A70, H⟩ := H
    replace H : ((spec_cuGood.f k a0 a1 t102).bind fun t106 => (if t106 = true then (some (a0, a1, t102, true)) else (some (0, 0, ([] : List (S48)), false)))) = some (r1, r2, r3, r4) := H
    have A7 := Aside0.mk A70
    clear A70
    replace H := Option.bind_eq_some_iff.mp H
    obtain ⟨t106, A80, H⟩ := H
    replace H : (if t106 = true then (some (a0, a1, t102, true)) else (some (0, 0, ([] : List (S48)), false))) = some (r1, r2, r3, r4) := H
    have A8 := Aside0.mk A80
    clear A80
    by_cases c9 : t106 = true
    · subst c9
      have H1 : (some (a0, a1, t102, true)) = some (r1, r2, r3, r4) := by rw [if_pos rfl] at H; exact H
      clear H
      have H := H1
      clear H1
      simp only [Option.some.injEq, Prod.mk.injEq] at H
      obtain ⟨rfl, rfl, rfl, rfl⟩ := H
      go_enter Try.func28, Try.ntmps28
      go_wp2_with (first | ((with_reducible refine gate_dst (N := 6) rfl ?_); refine box_event ?hg (N := 6) ?hd (cs := #[.int .i64 0, .int .i64 0, .slice none 0 0]) (t := 29) ?hr ?_; (case hd => rfl); (case hg => rfl); (case hr => first | (go_simp; done) | (go_simp; rfl)); intro gb101 hg w10 hbox hb; have n0_ := Aside0.mk (below_step (by repeat (first | (with_reducible first | exact HB.out | apply below_alloc | apply pw_below_drewN | apply below_drew1) | exact HB.out)) hb); have n1_ := Aside0.mk (hbox); have n2_ := Aside0.mk ((by rw [hg]; exact (below_size (by repeat (first | (with_reducible first | exact HB.out | apply below_alloc | apply pw_below_drewN | apply below_drew1) | exact HB.out))) : w.heap.size ≤ gb101)); have n3_ := Aside0.mk ((by rw [hg]; exact (below_size (by repeat (first | (with_reducible first | exact HB.out | apply below_alloc | apply pw_below_drewN | apply below_drew1) | exact HB.out))) : w.heap.size ≤ gb101)); clear HB; have HB := n0_; have BK101 := n1_; have GW101 := n2_; have GE101 := n3_; clear n0_ n1_ n2_ n3_; clear hb hbox hg) | ((with_reducible refine gate_callee (f := 60) rfl ?_); refine goesL_ (some 16) rfl rfl Try.func60 (by kernel_rfl) rfl #[.slice A2 l2.length c2] rfl (by (try simp only [List.map_toArray, List.map_cons, List.map_nil]); first | done | rfl | (simp only [List.length_drop, List.length_take]; rfl)) ?_; (with_reducible refine (spec_cuSorted.calls k _ _ l2 t102 _ ?side1 ?side2 A7.out).mono ?_); (case side1 => repeat (first | exact (Kd.C_below HR2.out HB.out) | (with_reducible refine Kd.C_alloc ?_ _) | (with_reducible refine Kd.C_drewN ?_ _) | (with_reducible refine Kd.C_drew ?_))); (case side2 => exact HC2.out); rintro e w11 ⟨v103, rfl, ho0, hb⟩; refine ⟨_, rfl, ?_⟩; have n0_ := Aside0.mk (Kd.R_lower ho0 (below_size (by repeat (first | (with_reducible first | exact HB.out | apply below_alloc | apply pw_below_drewN | apply below_drew1 | refine below_set ?_ GE101.out) | exact HB.out)))); have n1_ := Aside0.mk (blk_below (g := gb101) (o := .cells #[.int .i64 0, .int .i64 0, .slice none 0 0] 29 (0, 0)) (by (with_reducible repeat (first | refine blk_drewN ?_ _ | refine blk_drew ?_ | refine blk_alloc ?_ _)); exact BK101.out) hb); have n2_ := Aside0.mk (below_step (by repeat (first | (with_reducible first | exact HB.out | apply below_alloc | apply pw_below_drewN | apply below_drew1 | refine below_set ?_ GE101.out) | exact HB.out)) hb); clear BK101; clear HB; have HO104 := n0_; have BK101 := n1_; have HB := n2_; clear n0_ n1_ n2_; (try clear hb); (try clear hb2); (try clear hk); (try clear hi); (try clear ho0); obtain ⟨Ao12, co12, eo12⟩ := Kd.R_slice HO104.out; subst eo12) | ((with_reducible refine gate_dst (N := 8) rfl ?_); refine box_event ?hg (N := 8) ?hd (cs := #[.int .i64 0, .int .i64 0, .slice none 0 0]) (t := 29) ?hr ?_; (case hd => rfl); (case hg => rfl); (case hr => first | (go_simp; done) | (go_simp; rfl)); intro gb105 hg w13 hbox hb; have n0_ := Aside0.mk (Kd.R_below (by (with_reducible repeat (first | apply Kd.R_alloc | apply Kd.R_drewN | apply Kd.R_drew)); exact HO104.out) hb); have n1_ := Aside0.mk (blk_below (g := gb101) (o := .cells #[.int .i64 0, .int .i64 0, .slice none 0 0] 29 (0, 0)) (by (with_reducible repeat (first | refine blk_drewN ?_ _ | refine blk_drew ?_ | refine blk_alloc ?_ _)); exact BK101.out) hb); have n2_ := Aside0.mk (below_step (by repeat (first | (with_reducible first | exact HB.out | apply below_alloc | apply pw_below_drewN | apply below_drew1 | refine below_set ?_ GE101.out) | exact HB.out)) hb); have n3_ := Aside0.mk (hbox); have n4_ := Aside0.mk ((by rw [hg]; exact (below_size (by repeat (first | (with_reducible first | exact HB.out | apply below_alloc | apply pw_below_drewN | apply below_drew1 | refine below_set ?_ GE101.out) | exact HB.out))) : w.heap.size ≤ gb105)); have n5_ := Aside0.mk ((by rw [hg]; exact (below_size (by repeat (first | (with_reducible first | exact HB.out | apply below_alloc | apply pw_below_drewN | apply below_drew1 | refine below_set ?_ GE101.out) | exact HB.out))) : w.heap.size ≤ gb105)); have n6_ := Aside0.mk ((by rw [hg]; exact Nat.ne_of_lt (blk_lt (g := gb101) (o := .cells #[.int .i64 0, .int .i64 0, .slice none 0 0] 29 (0, 0)) (by (with_reducible repeat (first | refine blk_drewN ?_ _ | refine blk_drew ?_ | refine blk_alloc ?_ _)); exact BK101.out)) : gb101 ≠ gb105)); have n7_ := Aside0.mk ((by rw [hg]; exact Nat.ne_of_gt (blk_lt (g := gb101) (o := .cells #[.int .i64 0, .int .i64 0, .slice none 0 0] 29 (0, 0)) (by (with_reducible repeat (first | refine blk_drewN ?_ _ | refine blk_drew ?_ | refine blk_alloc ?_ _)); exact BK101.out)) : gb105 ≠ gb101)); clear HO104; clear BK101; clear HB; have HO104 := n0_; have BK101 := n1_; have HB := n2_; have BK105 := n3_; have GW105 := n4_; have GE105 := n5_; have NB101_105 := n6_; have NB105_101 := n7_; clear n0_ n1_ n2_ n3_ n4_ n5_ n6_ n7_; clear hb hbox hg; have hnb14 := NB105_101.out; have hnc14 := NB101_105.out; have hcz15_0 : w13.cell? ⟨gb105, 0, none⟩ = some (.int .i64 0) := (blk_cell BK105.out 0).trans rfl; have hcz15_1 : w13.cell? ⟨gb105, 1, none⟩ = some (.int .i64 0) := (blk_cell BK105.out 1).trans rfl; have hcz15_2 : w13.cell? ⟨gb105, 2, none⟩ = some (.slice none 0 0) := (blk_cell BK105.out 2).trans rfl; have hfz15_0 := blk_frozen BK105.out 0; have hfz15_1 := blk_frozen BK105.out 1; have hfz15_2 := blk_frozen BK105.out 2) | ((with_reducible refine gate_callee (f := 24) rfl ?_); refine goesL_ (some 19) rfl rfl Try.func24 (by kernel_rfl) rfl #[.agg #[.int .i64 a0, .int .i64 a1, .slice Ao12 t102.length co12]] rfl (by (try simp only [List.map_toArray, List.map_cons, List.map_nil]); first | done | rfl | (simp only [List.length_drop, List.length_take]; rfl)) ?_; (with_reducible refine (spec_cuGood.calls k a0 a1 _ _ t102 true _ ?side1 ?side2 A8.out).mono ?_); (case side1 => refine (Kd.R_reads' (e := 48) (base := w.heap.size) (ok := fun k_ => True) (n := t102.length) (c := co12) ?_).2.2; exact (by (with_reducible repeat (first | apply Kd.R_alloc | apply Kd.R_drewN | apply Kd.R_drew)); exact (Kd.R_mono (Kd.R_far (p := ⟨gb105, 2, none⟩) (Kd.R_far (p := ⟨gb105, 1, none⟩) (Kd.R_far (p := ⟨gb105, 0, none⟩) (Kd.R_types HO104.out BK105.out (by decide)) (fun _ hk => hk.2) (.int .i64 a0)) (fun _ hk => hk.2) (.int .i64 a1)) (fun _ hk => hk.2) (.slice Ao12 t102.length co12)) (fun _ h_ => h_.1)))); (case side2 => exact (Kd.R_reads' HO104.out).2.1); rintro e w16 ⟨rfl, hb⟩; refine ⟨_, rfl, ?_⟩; have n0_ := Aside0.mk (Kd.R_below (by (with_reducible repeat (first | apply Kd.R_alloc | apply Kd.R_drewN | apply Kd.R_drew)); exact (Kd.R_mono (Kd.R_far (p := ⟨gb105, 2, none⟩) (Kd.R_far (p := ⟨gb105, 1, none⟩) (Kd.R_far (p := ⟨gb105, 0, none⟩) (Kd.R_types HO104.out BK105.out (by decide)) (fun _ hk => hk.2) (.int .i64 a0)) (fun _ hk => hk.2) (.int .i64 a1)) (fun _ hk => hk.2) (.slice Ao12 t102.length co12)) (fun _ h_ => h_.1))) hb); have n1_ := Aside0.mk (blk_below (g := gb101) (o := .cells #[.int .i64 0, .int .i64 0, .slice none 0 0] 29 (0, 0)) (by (with_reducible repeat (first | refine blk_drewN ?_ _ | refine blk_drew ?_ | refine blk_alloc ?_ _)); refine blk_far ?_ NB101_105.out _; (with_reducible repeat (first | refine blk_drewN ?_ _ | refine blk_drew ?_ | refine blk_alloc ?_ _)); refine blk_far ?_ NB101_105.out _; (with_reducible repeat (first | refine blk_drewN ?_ _ | refine blk_drew ?_ | refine blk_alloc ?_ _)); refine blk_far ?_ NB101_105.out _; (with_reducible repeat (first | refine blk_drewN ?_ _ | refine blk_drew ?_ | refine blk_alloc ?_ _)); exact BK101.out) hb); have n2_ := Aside0.mk (blk_below (g := gb105) (o := .cells #[.int .i64 a0, .int .i64 a1, .slice Ao12 t102.length co12] 29 (0, 0)) (by (with_reducible repeat (first | refine blk_drewN ?_ _ | refine blk_drew ?_ | refine blk_alloc ?_ _)); refine blk_put (cs := #[.int .i64 a0, .int .i64 a1, .slice none 0 0]) ?_ 2 _ rfl; (with_reducible repeat (first | refine blk_drewN ?_ _ | refine blk_drew ?_ | refine blk_alloc ?_ _)); refine blk_put (cs := #[.int .i64 a0, .int .i64 0, .slice none 0 0]) ?_ 1 _ rfl; (with_reducible repeat (first | refine blk_drewN ?_ _ | refine blk_drew ?_ | refine blk_alloc ?_ _)); refine blk_put (cs := #[.int .i64 0, .int .i64 0, .slice none 0 0]) ?_ 0 _ rfl; (with_reducible repeat (first | refine blk_drewN ?_ _ | refine blk_drew ?_ | refine blk_alloc ?_ _)); exact BK105.out) hb); have n3_ := Aside0.mk (below_step (by repeat (first | (with_reducible first | exact HB.out | apply below_alloc | apply pw_below_drewN | apply below_drew1 | refine below_set ?_ GE101.out | refine below_set ?_ GE105.out) | exact HB.out)) hb); clear HO104; clear BK101; clear BK105; clear HB; have HO104 := n0_; have BK101 := n1_; have BK105 := n2_; have HB := n3_; clear n0_ n1_ n2_ n3_; (try clear hb); (try clear hb2); (try clear hk); (try clear hi); have hcz17_0 : w16.cell? ⟨gb105, 0, none⟩ = some (.int .i64 a0) := (blk_cell BK105.out 0).trans rfl; have hcz17_1 : w16.cell? ⟨gb105, 1, none⟩ = some (.int .i64 a1) := (blk_cell BK105.out 1).trans rfl; have hcz17_2 : w16.cell? ⟨gb105, 2, none⟩ = some (.slice Ao12 t102.length co12) := (blk_cell BK105.out 2).trans rfl; have hfz17_0 := blk_frozen BK105.out 0; have hfz17_1 := blk_frozen BK105.out 1; have hfz17_2 := blk_frozen BK105.out 2; have hcz18_0 : w16.cell? ⟨gb101, 0, none⟩ = some (.int .i64 0) := (blk_cell BK101.out 0).trans rfl; have hcz18_1 : w16.cell? ⟨gb101, 1, none⟩ = some (.int .i64 0) := (blk_cell BK101.out 1).trans rfl; have hcz18_2 : w16.cell? ⟨gb101, 2, none⟩ = some (.slice none 0 0) := (blk_cell BK101.out 2).trans rfl; have hfz18_0 := blk_frozen BK101.out 0; have hfz18_1 := blk_frozen BK101.out 1; have hfz18_2 := blk_frozen BK101.out 2))
      refine bodyPost_ret (results_ct rfl _ _ gb101 29 #[.int .i64 a0, .int .i64 a1, .slice Ao12 t102.length co12] (0, 0) _ rfl (by (with_reducible repeat (first | refine blk_drewN ?_ _ | refine blk_drew ?_ | refine blk_alloc ?_ _)); refine blk_put (cs := #[.int .i64 a0, .int .i64 a1, .slice none 0 0]) ?_ 2 _ rfl; (with_reducible repeat (first | refine blk_drewN ?_ _ | refine blk_drew ?_ | refine blk_alloc ?_ _)); refine blk_put (cs := #[.int .i64 a0, .int .i64 0, .slice none 0 0]) ?_ 1 _ rfl; (with_reducible repeat (first | refine blk_drewN ?_ _ | refine blk_drew ?_ | refine blk_alloc ?_ _)); refine blk_put (cs := #[.int .i64 0, .int .i64 0, .slice none 0 0]) ?_ 0 _ rfl; (with_reducible repeat (first | refine blk_drewN ?_ _ | refine blk_drew ?_ | refine blk_alloc ?_ _)); exact BK101.out) Try.underlying29 rfl (by kernel_rfl)) rfl ?_
      exact ⟨_, by first | rfl | (simp [errW_none, errW_some] <;> rfl) | (simp [*, errW_none, errW_some] <;> rfl), by (with_reducible repeat (first | apply Kd.R_alloc | apply Kd.R_drewN | apply Kd.R_drew)); exact Kd.R_mono (Kd.R_far (p := ⟨gb101, 2, none⟩) (Kd.R_far (p := ⟨gb101, 1, none⟩) (Kd.R_far (p := ⟨gb101, 0, none⟩) (Kd.R_types HO104.out BK101.out (by decide)) (fun _ hk => hk.2) (.int .i64 a0)) (fun _ hk => hk.2) (.int .i64 a1)) (fun _ hk => hk.2) (.slice Ao12 t102.length co12)) (fun _ hk => trivial), by repeat (first | (with_reducible first | exact HB.out | apply below_alloc | apply pw_below_drewN | apply below_drew1 | refine below_set ?_ GE101.out | refine below_set ?_ GE105.out) | exact HB.out)⟩
    · replace c9 := Bool.eq_false_iff.mpr c9
      subst c9
      have H1 : (some (0, 0, ([] : List (S48)), false)) = some (r1, r2, r3, r4) := by rw [if_neg (show ¬ (false = true) by decide)] at H; exact H
      clear H
      have H := H1
      clear H1
      simp only [Option.some.injEq, Prod.mk.injEq] at H
      obtain ⟨rfl, rfl, rfl, rfl⟩ := H
      go_enter Try.func28, Try.ntmps28
      go_wp2_with (first | ((with_reducible refine gate_dst (N := 6) rfl ?_); refine box_event ?hg (N := 6) ?hd (cs := #[.int .i64 0, .int .i64 0, .slice none 0 0]) (t := 29) ?hr ?_; (case hd => rfl); (case hg => rfl); (case hr => first | (go_simp; done) | (go_simp; rfl)); intro gb101 hg w19 hbox hb; have n0_ := Aside0.mk (below_step (by repeat (first | (with_reducible first | exact HB.out | apply below_alloc | apply pw_below_drewN | apply below_drew1) | exact HB.out)) hb); have n1_ := Aside0.mk (hbox); have n2_ := Aside0.mk ((by rw [hg]; exact (below_size (by repeat (first | (with_reducible first | exact HB.out | apply below_alloc | apply pw_below_drewN | apply below_drew1) | exact HB.out))) : w.heap.size ≤ gb101)); have n3_ := Aside0.mk ((by rw [hg]; exact (below_size (by repeat (first | (with_reducible first | exact HB.out | apply below_alloc | apply pw_below_drewN | apply below_drew1) | exact HB.out))) : w.heap.size ≤ gb101)); clear HB; have HB := n0_; have BK101 := n1_; have GW101 := n2_; have GE101 := n3_; clear n0_ n1_ n2_ n3_; clear hb hbox hg) | ((with_reducible refine gate_callee (f := 60) rfl ?_); refine goesL_ (some 16) rfl rfl Try.func60 (by kernel_rfl) rfl #[.slice A2 l2.length c2] rfl (by (try simp only [List.map_toArray, List.map_cons, List.map_nil]); first | done | rfl | (simp only [List.length_drop, List.length_take]; rfl)) ?_; (with_reducible refine (spec_cuSorted.calls k _ _ l2 t102 _ ?side1 ?side2 A7.out).mono ?_); (case side1 => repeat (first | exact (Kd.C_below HR2.out HB.out) | (with_reducible refine Kd.C_alloc ?_ _) | (with_reducible refine Kd.C_drewN ?_ _) | (with_reducible refine Kd.C_drew ?_))); (case side2 => exact HC2.out); rintro e w20 ⟨v103, rfl, ho0, hb⟩; refine ⟨_, rfl, ?_⟩; have n0_ := Aside0.mk (Kd.R_lower ho0 (below_size (by repeat (first | (with_reducible first | exact HB.out | apply below_alloc | apply pw_below_drewN | apply below_drew1 | refine below_set ?_ GE101.out) | exact HB.out)))); have n1_ := Aside0.mk (blk_below (g := gb101) (o := .cells #[.int .i64 0, .int .i64 0, .slice none 0 0] 29 (0, 0)) (by (with_reducible repeat (first | refine blk_drewN ?_ _ | refine blk_drew ?_ | refine blk_alloc ?_ _)); exact BK101.out) hb); have n2_ := Aside0.mk (below_step (by repeat (first | (with_reducible first | exact HB.out | apply below_alloc | apply pw_below_drewN | apply below_drew1 | refine below_set ?_ GE101.out) | exact HB.out)) hb); clear BK101; clear HB; have HO104 := n0_; have BK101 := n1_; have HB := n2_; clear n0_ n1_ n2_; (try clear hb); (try clear hb2); (try clear hk); (try clear hi); (try clear ho0); obtain ⟨Ao21, co21, eo21⟩ := Kd.R_slice HO104.out; subst eo21) | ((with_reducible refine gate_dst (N := 8) rfl ?_); refine box_event ?hg (N := 8) ?hd (cs := #[.int .i64 0, .int .i64 0, .slice none 0 0]) (t := 29) ?hr ?_; (case hd => rfl); (case hg => rfl); (case hr => first | (go_simp; done) | (go_simp; rfl)); intro gb105 hg w22 hbox hb; have n0_ := Aside0.mk (Kd.R_below (by (with_reducible repeat (first | apply Kd.R_alloc | apply Kd.R_drewN | apply Kd.R_drew)); exact HO104.out) hb); have n1_ := Aside0.mk (blk_below (g := gb101) (o := .cells #[.int .i64 0, .int .i64 0, .slice none 0 0] 29 (0, 0)) (by (with_reducible repeat (first | refine blk_drewN ?_ _ | refine blk_drew ?_ | refine blk_alloc ?_ _)); exact BK101.out) hb); have n2_ := Aside0.mk (below_step (by repeat (first | (with_reducible first | exact HB.out | apply below_alloc | apply pw_below_drewN | apply below_drew1 | refine below_set ?_ GE101.out) | exact HB.out)) hb); have n3_ := Aside0.mk (hbox); have n4_ := Aside0.mk ((by rw [hg]; exact (below_size (by repeat (first | (with_reducible first | exact HB.out | apply below_alloc | apply pw_below_drewN | apply below_drew1 | refine below_set ?_ GE101.out) | exact HB.out))) : w.heap.size ≤ gb105)); have n5_ := Aside0.mk ((by rw [hg]; exact (below_size (by repeat (first | (with_reducible first | exact HB.out | apply below_alloc | apply pw_below_drewN | apply below_drew1 | refine below_set ?_ GE101.out) | exact HB.out))) : w.heap.size ≤ gb105)); have n6_ := Aside0.mk ((by rw [hg]; exact Nat.ne_of_lt (blk_lt (g := gb101) (o := .cells #[.int .i64 0, .int .i64 0, .slice none 0 0] 29 (0, 0)) (by (with_reducible repeat (first | refine blk_drewN ?_ _ | refine blk_drew ?_ | refine blk_alloc ?_ _)); exact BK101.out)) : gb101 ≠ gb105)); have n7_ := Aside0.mk ((by rw [hg]; exact Nat.ne_of_gt (blk_lt (g := gb101) (o := .cells #[.int .i64 0, .int .i64 0, .slice none 0 0] 29 (0, 0)) (by (with_reducible repeat (first | refine blk_drewN ?_ _ | refine blk_drew ?_ | refine blk_alloc ?_ _)); exact BK101.out)) : gb105 ≠ gb101)); clear HO104; clear BK101; clear HB; have HO104 := n0_; have BK101 := n1_; have HB := n2_; have BK105 := n3_; have GW105 := n4_; have GE105 := n5_; have NB101_105 := n6_; have NB105_101 := n7_; clear n0_ n1_ n2_ n3_ n4_ n5_ n6_ n7_; clear hb hbox hg; have hnb23 := NB105_101.out; have hnc23 := NB101_105.out; have hcz24_0 : w22.cell? ⟨gb105, 0, none⟩ = some (.int .i64 0) := (blk_cell BK105.out 0).trans rfl; have hcz24_1 : w22.cell? ⟨gb105, 1, none⟩ = some (.int .i64 0) := (blk_cell BK105.out 1).trans rfl; have hcz24_2 : w22.cell? ⟨gb105, 2, none⟩ = some (.slice none 0 0) := (blk_cell BK105.out 2).trans rfl; have hfz24_0 := blk_frozen BK105.out 0; have hfz24_1 := blk_frozen BK105.out 1; have hfz24_2 := blk_frozen BK105.out 2) | ((with_reducible refine gate_callee (f := 24) rfl ?_); refine goesL_ (some 19) rfl rfl Try.func24 (by kernel_rfl) rfl #[.agg #[.int .i64 a0, .int .i64 a1, .slice Ao21 t102.length co21]] rfl (by (try simp only [List.map_toArray, List.map_cons, List.map_nil]); first | done | rfl | (simp only [List.length_drop, List.length_take]; rfl)) ?_; (with_reducible refine (spec_cuGood.calls k a0 a1 _ _ t102 false _ ?side1 ?side2 A8.out).mono ?_); (case side1 => refine (Kd.R_reads' (e := 48) (base := w.heap.size) (ok := fun k_ => True) (n := t102.length) (c := co21) ?_).2.2; exact (by (with_reducible repeat (first | apply Kd.R_alloc | apply Kd.R_drewN | apply Kd.R_drew)); exact (Kd.R_mono (Kd.R_far (p := ⟨gb105, 2, none⟩) (Kd.R_far (p := ⟨gb105, 1, none⟩) (Kd.R_far (p := ⟨gb105, 0, none⟩) (Kd.R_types HO104.out BK105.out (by decide)) (fun _ hk => hk.2) (.int .i64 a0)) (fun _ hk => hk.2) (.int .i64 a1)) (fun _ hk => hk.2) (.slice Ao21 t102.length co21)) (fun _ h_ => h_.1)))); (case side2 => exact (Kd.R_reads' HO104.out).2.1); rintro e w25 ⟨rfl, hb⟩; refine ⟨_, rfl, ?_⟩; have n0_ := Aside0.mk (Kd.R_below (by (with_reducible repeat (first | apply Kd.R_alloc | apply Kd.R_drewN | apply Kd.R_drew)); exact (Kd.R_mono (Kd.R_far (p := ⟨gb105, 2, none⟩) (Kd.R_far (p := ⟨gb105, 1, none⟩) (Kd.R_far (p := ⟨gb105, 0, none⟩) (Kd.R_types HO104.out BK105.out (by decide)) (fun _ hk => hk.2) (.int .i64 a0)) (fun _ hk => hk.2) (.int .i64 a1)) (fun _ hk => hk.2) (.slice Ao21 t102.length co21)) (fun _ h_ => h_.1))) hb); have n1_ := Aside0.mk (blk_below (g := gb101) (o := .cells #[.int .i64 0, .int .i64 0, .slice none 0 0] 29 (0, 0)) (by (with_reducible repeat (first | refine blk_drewN ?_ _ | refine blk_drew ?_ | refine blk_alloc ?_ _)); refine blk_far ?_ NB101_105.out _; (with_reducible repeat (first | refine blk_drewN ?_ _ | refine blk_drew ?_ | refine blk_alloc ?_ _)); refine blk_far ?_ NB101_105.out _; (with_reducible repeat (first | refine blk_drewN ?_ _ | refine blk_drew ?_ | refine blk_alloc ?_ _)); refine blk_far ?_ NB101_105.out _; (with_reducible repeat (first | refine blk_drewN ?_ _ | refine blk_drew ?_ | refine blk_alloc ?_ _)); exact BK101.out) hb); have n2_ := Aside0.mk (blk_below (g := gb105) (o := .cells #[.int .i64 a0, .int .i64 a1, .slice Ao21 t102.length co21] 29 (0, 0)) (by (with_reducible repeat (first | refine blk_drewN ?_ _ | refine blk_drew ?_ | refine blk_alloc ?_ _)); refine blk_put (cs := #[.int .i64 a0, .int .i64 a1, .slice none 0 0]) ?_ 2 _ rfl; (with_reducible repeat (first | refine blk_drewN ?_ _ | refine blk_drew ?_ | refine blk_alloc ?_ _)); refine blk_put (cs := #[.int .i64 a0, .int .i64 0, .slice none 0 0]) ?_ 1 _ rfl; (with_reducible repeat (first | refine blk_drewN ?_ _ | refine blk_drew ?_ | refine blk_alloc ?_ _)); refine blk_put (cs := #[.int .i64 0, .int .i64 0, .slice none 0 0]) ?_ 0 _ rfl; (with_reducible repeat (first | refine blk_drewN ?_ _ | refine blk_drew ?_ | refine blk_alloc ?_ _)); exact BK105.out) hb); have n3_ := Aside0.mk (below_step (by repeat (first | (with_reducible first | exact HB.out | apply below_alloc | apply pw_below_drewN | apply below_drew1 | refine below_set ?_ GE101.out | refine below_set ?_ GE105.out) | exact HB.out)) hb); clear HO104; clear BK101; clear BK105; clear HB; have HO104 := n0_; have BK101 := n1_; have BK105 := n2_; have HB := n3_; clear n0_ n1_ n2_ n3_; (try clear hb); (try clear hb2); (try clear hk); (try clear hi); have hcz26_0 : w25.cell? ⟨gb101, 0, none⟩ = some (.int .i64 0) := (blk_cell BK101.out 0).trans rfl; have hcz26_1 : w25.cell? ⟨gb101, 1, none⟩ = some (.int .i64 0) := (blk_cell BK101.out 1).trans rfl; have hcz26_2 : w25.cell? ⟨gb101, 2, none⟩ = some (.slice none 0 0) := (blk_cell BK101.out 2).trans rfl; have hfz26_0 := blk_frozen BK101.out 0; have hfz26_1 := blk_frozen BK101.out 1; have hfz26_2 := blk_frozen BK101.out 2))
      refine bodyPost_ret (results_ct rfl _ _ gb101 29 #[.int .i64 0, .int .i64 0, .slice none 0 0] (0, 0) _ rfl (by (with_reducible repeat (first | refine blk_drewN ?_ _ | refine blk_drew ?_ | refine blk_alloc ?_ _)); refine blk_put (cs := #[.int .i64 0, .int .i64 0, .slice none 0 0]) ?_ 2 _ rfl; (with_reducible repeat (first | refine blk_drewN ?_ _ | refine blk_drew ?_ | refine blk_alloc ?_ _)); refine blk_put (cs := #[.int .i64 0, .int .i64 0, .slice none 0 0]) ?_ 1 _ rfl; (with_reducible repeat (first | refine blk_drewN ?_ _ | refine blk_drew ?_ | refine blk_alloc ?_ _)); refine blk_put (cs := #[.int .i64 0, .int .i64 0, .slice none 0 0]) ?_ 0 _ rfl; (with_reducible repeat (first | refine blk_drewN ?_ _ | refine blk_drew ?_ | refine blk_alloc ?_ _)); exact BK101.out) Try.underlying29 rfl (by kernel_rfl)) rfl ?_
      exact ⟨_, by first | rfl | (simp [errW_none, errW_some] <;> rfl) | (simp [*, errW_none, errW_some] <;> rfl), by first | exact Kd.R_nil _ _ _ _ _ | exact Kd.N_nil _ _ _ _ _ | exact Kd.V_nil _ _ _ _ _ | exact Kd.Q_nil _ _ _ _ _ | exact Kd.S_nil _ _ _ _ _, by repeat (first | (with_reducible first | exact HB.out | apply below_alloc | apply pw_below_drewN | apply below_drew1 | refine below_set ?_ GE101.out | refine below_set ?_ GE105.out) | exact HB.out)⟩

end Go.Proofs.Ytfmhcgjmgaefcad.P

namespace Go.Proofs.Ytfmhcgjmgaefcad.P
open Go.RowKit Go.Proofs.YtfmhcgjmgaefcadW.PrintWords Go.Proofs.YtfmhcgjmgaefcadW.PrintLast Go.Proofs.YtfmhcgjmgaefcadW.PrintMore
attribute [local go_sem] max2_int min2_int max_two min_two max_three min_three max_four min_four
set_option linter.unusedVariables false
set_option linter.unusedSimpArgs false

/-! ### spec_raGood: function 47 -/
def spec_raGood.f (a0 : Int) (a1 : Int) : Option (Bool) := (spec_l1In.f a0 1 1000).bind fun t101 => (if t101 = true then ((spec_l1In.f a1 1 1000).bind fun t102 => (some t102)) else (some false))
set_option maxHeartbeats 8000000 in
set_option maxRecDepth 100000 in
theorem spec_raGood.calls (a0 : Int) (a1 : Int) (r : Bool) (w : World) (h : spec_raGood.f a0 a1 = some r) :
    Calls Try.prog 47 #[.int .i64 a0, .int .i64 a1] w fun e w' => e = .returned (.bool r) ∧ Drawn0 w w' := by
  have H : ((spec_l1In.f a0 1 1000).bind fun t101 => (if t101 = true then ((spec_l1In.f a1 1 1000).bind fun t102 => (some t102)) else (some false))) = some r := h
  clear h
  replace H := Option.bind_eq_some_iff.mp H
  obtain ⟨t101, A30, H⟩ := H
  replace H : (if t101 = true then ((spec_l1In.f a1 1 1000).bind fun t102 => (some t102)) else (some false)) = some r := H
  have A3 := Aside0.mk A30
  clear A30
  by_cases c4 : t101 = true
  · subst c4
    have H1 : ((spec_l1In.f a1 1 1000).bind fun t102 => (some t102)) = some r := by rw [if_pos rfl] at H; exact H
    clear H
    have H := H1
    clear H1
    replace H := Option.bind_eq_some_iff.mp H
    obtain ⟨t102, A50, H⟩ := H
    replace H : (some t102) = some r := H
    have A5 := Aside0.mk A50
    clear A50
    obtain rfl := Option.some.inj H
    go_enter Try.func47, Try.ntmps47
    go_wp2_with (first | ((with_reducible refine gate_callee (f := 58) rfl ?_); refine goesL_ (some 6) rfl rfl Try.func58 (by kernel_rfl) rfl #[.int .i64 a0, .int .i64 1, .int .i64 1000] rfl (by (try simp only [List.map_toArray, List.map_cons, List.map_nil]); first | done | rfl | (simp only [List.length_drop, List.length_take]; rfl)) ?_; (with_reducible refine (spec_l1In.calls a0 1 1000 true _ A3.out).mono ?_); rintro e w' ⟨rfl, ⟨nd, rfl⟩⟩; refine ⟨_, rfl, ?_⟩) | (go_at_call 58; (with_reducible refine (spec_l1In.calls a1 1 1000 t102 _ A5.out).mono ?_); rintro e w' ⟨rfl, ⟨nd, rfl⟩⟩))
    go_ret
    exact ⟨by first | rfl | (simp; done) | (simp [*]; done), by repeat (first | exact Drawn0.refl _ | apply Drawn0.step)⟩
  · replace c4 := Bool.eq_false_iff.mpr c4
    subst c4
    have H1 : (some false) = some r := by rw [if_neg (show ¬ (false = true) by decide)] at H; exact H
    clear H
    have H := H1
    clear H1
    obtain rfl := Option.some.inj H
    go_enter Try.func47, Try.ntmps47
    go_wp2_with (first | ((with_reducible refine gate_callee (f := 58) rfl ?_); refine goesL_ (some 6) rfl rfl Try.func58 (by kernel_rfl) rfl #[.int .i64 a0, .int .i64 1, .int .i64 1000] rfl (by (try simp only [List.map_toArray, List.map_cons, List.map_nil]); first | done | rfl | (simp only [List.length_drop, List.length_take]; rfl)) ?_; (with_reducible refine (spec_l1In.calls a0 1 1000 false _ A3.out).mono ?_); rintro e w' ⟨rfl, ⟨nd, rfl⟩⟩; refine ⟨_, rfl, ?_⟩))
    go_ret
    exact ⟨by first | rfl | (simp; done) | (simp [*]; done), by repeat (first | exact Drawn0.refl _ | apply Drawn0.step)⟩

end Go.Proofs.Ytfmhcgjmgaefcad.P

namespace Go.Proofs.Ytfmhcgjmgaefcad.P
open Go.RowKit Go.Proofs.YtfmhcgjmgaefcadW.PrintWords Go.Proofs.YtfmhcgjmgaefcadW.PrintLast Go.Proofs.YtfmhcgjmgaefcadW.PrintMore
attribute [local go_sem] max2_int min2_int max_two min_two max_three min_three max_four min_four
set_option linter.unusedVariables false
set_option linter.unusedSimpArgs false

/-! ### spec_raSum: function 48 -/
def spec_raSum.l0 : Nat → Int → List Int → Int → Int → Option (Int)
  | 0, _, _, _, _ => none
  | k + 1, x3, x6, x7, x8 => if x8 < x7 then (if 0 ≤ x8 then (if x8 < (x6.length : Int) then (spec_raSum.l0 k (wrap64 (x3 + (rd x6 x8))) x6 x7 (wrap64 (x8 + 1))) else (none)) else (none)) else (some x3)
def spec_raSum.f (k : Nat) (l0 : List Int) : Option (Int) := spec_raSum.l0 k 0 l0 (l0.length : Int) 0
theorem spec_raSum.mono_l : ∀ k, (∀ y0 y1 y2 y3, LeO (spec_raSum.l0 k y0 y1 y2 y3) (spec_raSum.l0 (k + 1) y0 y1 y2 y3))
  | 0 => fun _ _ _ _ r h => by simp [spec_raSum.l0] at h
  | k + 1 => by
    have ih0 := spec_raSum.mono_l k
    · intro y0 y1 y2 y3
      unfold spec_raSum.l0
      repeat' first
      | (with_reducible exact ih0 _ _ _ _)
      | (with_reducible exact LeO.refl _)
      | (with_reducible exact LeO.none _)
      | (with_reducible refine LeO.ite ?_ ?_)
      | (with_reducible refine LeO.bind ?_ (fun _ => ?_))
      | exact ih0 _ _ _ _
      | exact LeO.none _
      | refine LeO.ite ?_ ?_
      | refine LeO.bind ?_ (fun _ => ?_)
theorem spec_raSum.mono : ∀ a0 k, LeO (spec_raSum.f k a0) (spec_raSum.f (k + 1) a0) := by
  intro a0 k
  have ih0 := spec_raSum.mono_l k
  unfold spec_raSum.f
  repeat' first
      | (with_reducible exact ih0 _ _ _ _)
      | (with_reducible exact LeO.refl _)
      | (with_reducible exact LeO.none _)
      | (with_reducible refine LeO.ite ?_ ?_)
      | (with_reducible refine LeO.bind ?_ (fun _ => ?_))
      | exact ih0 _ _ _ _
      | exact LeO.none _
      | refine LeO.ite ?_ ?_
      | refine LeO.bind ?_ (fun _ => ?_)
set_option maxHeartbeats 8000000 in
set_option maxRecDepth 100000 in
theorem spec_raSum.calls (k : Nat) (A0 : Option Addr) (c0 : Nat) (l0 : List Int) (r : Int) (w : World) (hr0 : Kd.C (Kd.int .i64) w A0 l0.length l0) (hc0 : l0.length ≤ c0) (h : spec_raSum.f k l0 = some r) :
    Calls Try.prog 48 #[.slice A0 l0.length c0] w fun e w' => e = .returned (.int .i64 r) ∧ Drawn0 w w' := by
  have HR0 := Aside0.mk hr0
  have HC0 := Aside0.mk hc0
  clear hr0 hc0
  have H : (spec_raSum.l0 k 0 l0 (l0.length : Int) 0) = some r := h
  clear h
  have H' := Aside0.mk H
  clear H
  go_enter Try.func48, Try.ntmps48
  go_wp2
  go_loopg [3, 8] k (fun kq v3 v8 w' => ∃ (x3_1 : Int) (x8_1 : Int), v3 = .int .i64 x3_1 ∧ v8 = .int .i64 x8_1 ∧ Aside0 (spec_raSum.l0 kq x3_1 l0 (l0.length : Int) x8_1 = some r) ∧ Aside0 (kq ≤ k) ∧ Drawn0 w w')
  case atStart => exact ⟨(0), (0), (by first | rfl | (simp; done) | (simp [*]; done)), (by first | rfl | (simp; done) | (simp [*]; done)), H', ⟨Nat.le_refl _⟩, by repeat (first | exact Drawn0.refl _ | apply Drawn0.step)⟩
  case round =>
    clear H'
    obtain ⟨x3_1, x8_1, rfl, rfl, HA, HK1, ⟨m1, rfl⟩⟩ := hrel
    cases gk with
    | zero => exact absurd HA.out (by simp [spec_raSum.l0])
    | succ k1 =>
      have H := HA.out
      clear HA
      simp only [spec_raSum.l0] at H
      by_cases c2 : x8_1 < (l0.length : Int)
      · rw [if_pos c2] at H
        have c2b0 : decide (x8_1 < (l0.length : Int)) = true := decide_eq_true c2
        clear c2
        by_cases c3 : 0 ≤ x8_1
        · rw [if_pos c3] at H
          have c3b0 : decide (0 ≤ x8_1) = true := decide_eq_true c3
          clear c3
          by_cases c4 : x8_1 < (l0.length : Int)
          · rw [if_pos c4] at H
            have c4b0 : decide (x8_1 < (l0.length : Int)) = true := decide_eq_true c4
            clear c4
            have H' := Aside0.mk H
            clear H
            have p101 : 0 ≤ (x8_1 : Int) := of_decide_eq_true (by first | (with_reducible assumption) | assumption)
            have q101 : x8_1 < (l0.length : Int) := of_decide_eq_true (by first | (with_reducible assumption) | assumption)
            obtain ⟨ad101, e101, hx101_0⟩ := Kd.at_int HR0.out x8_1 p101 q101
            cases e101
            replace p101 := eq_true p101
            replace q101 := eq_true q101
            go_wp2
            go_roundg k1
            case measure => have := HK1.out; omega
            case rel => exact ⟨(wrap64 (x3_1 + (rd l0 x8_1))), (wrap64 (x8_1 + 1)), (by first | rfl | (simp; done) | (simp [*]; done)), (by first | rfl | (simp; done) | (simp [*]; done)), H', ⟨by have := HK1.out; omega⟩, by repeat (first | exact Drawn0.refl _ | apply Drawn0.step)⟩
          · rw [if_neg c4] at H
            exact absurd H (by simp)
        · rw [if_neg c3] at H
          exact absurd H (by simp)
      · rw [if_neg c2] at H
        have c2b0 : decide (x8_1 < (l0.length : Int)) = false := decide_eq_false c2
        clear c2
        obtain rfl := Option.some.inj H
        go_wp2
        go_ret
        exact ⟨by first | rfl | (simp; done) | (simp [*]; done), by repeat (first | exact Drawn0.refl _ | apply Drawn0.step)⟩

end Go.Proofs.Ytfmhcgjmgaefcad.P

namespace Go.Proofs.Ytfmhcgjmgaefcad.P
open Go.RowKit Go.Proofs.YtfmhcgjmgaefcadW.PrintWords Go.Proofs.YtfmhcgjmgaefcadW.PrintLast Go.Proofs.YtfmhcgjmgaefcadW.PrintMore
attribute [local go_sem] max2_int min2_int max_two min_two max_three min_three max_four min_four
set_option linter.unusedVariables false
set_option linter.unusedSimpArgs false

/-! ### spec_l1Most: function 27 -/
def spec_l1Most.f (a0 : Int) (a1 : Int) : Option (Int) := if a0 > a1 then (some a0) else (some a1)
set_option maxHeartbeats 8000000 in
set_option maxRecDepth 100000 in
theorem spec_l1Most.calls (a0 : Int) (a1 : Int) (r : Int) (w : World) (h : spec_l1Most.f a0 a1 = some r) :
    Calls Try.prog 27 #[.int .i64 a0, .int .i64 a1] w fun e w' => e = .returned (.int .i64 r) ∧ Drawn0 w w' := by
  have H : (if a0 > a1 then (some a0) else (some a1)) = some r := h
  clear h
  by_cases c3 : a0 > a1
  · rw [if_pos c3] at H
    have c3b0 : decide (a1 < a0) = true := decide_eq_true c3
    clear c3
    obtain rfl := Option.some.inj H
    go_enter Try.func27, Try.ntmps27
    go_wp2
    go_ret
    exact ⟨by first | rfl | (simp; done) | (simp [*]; done), by repeat (first | exact Drawn0.refl _ | apply Drawn0.step)⟩
  · rw [if_neg c3] at H
    have c3b0 : decide (a1 < a0) = false := decide_eq_false c3
    clear c3
    obtain rfl := Option.some.inj H
    go_enter Try.func27, Try.ntmps27
    go_wp2
    go_ret
    exact ⟨by first | rfl | (simp; done) | (simp [*]; done), by repeat (first | exact Drawn0.refl _ | apply Drawn0.step)⟩

end Go.Proofs.Ytfmhcgjmgaefcad.P

namespace Go.Proofs.Ytfmhcgjmgaefcad.P
open Go.RowKit Go.Proofs.YtfmhcgjmgaefcadW.PrintWords Go.Proofs.YtfmhcgjmgaefcadW.PrintLast Go.Proofs.YtfmhcgjmgaefcadW.PrintMore
attribute [local go_sem] max2_int min2_int max_two min_two max_three min_three max_four min_four
set_option linter.unusedVariables false
set_option linter.unusedSimpArgs false

/-! ### spec_raQuotients: function 49 -/
def spec_raQuotients.l0 : Nat → Int → Int → List Int → Option (List Int)
  | 0, _, _, _ => none
  | k + 1, x5, x6, x7 => if x6 > 0 then (if x6 = 0 then (none) else (if x7.length < 17592186044416 then (spec_raQuotients.l0 k x6 (Int.tmod x5 x6) (x7 ++ [wrap64 (Int.tdiv x5 x6)])) else (none))) else (some x7)
def spec_raQuotients.f (k : Nat) (a0 : Int) (a1 : Int) : Option (List Int) := (spec_l1Most.f a0 a1).bind fun t101 => ((spec_l1Least.f a0 a1).bind fun t102 => (spec_raQuotients.l0 k t101 t102 ([] : List Int)))
theorem spec_raQuotients.mono_l : ∀ k, (∀ y0 y1 y2, LeO (spec_raQuotients.l0 k y0 y1 y2) (spec_raQuotients.l0 (k + 1) y0 y1 y2))
  | 0 => fun _ _ _ r h => by simp [spec_raQuotients.l0] at h
  | k + 1 => by
    have ih0 := spec_raQuotients.mono_l k
    · intro y0 y1 y2
      unfold spec_raQuotients.l0
      repeat' first
      | (with_reducible exact ih0 _ _ _)
      | (with_reducible exact LeO.refl _)
      | (with_reducible exact LeO.none _)
      | (with_reducible refine LeO.ite ?_ ?_)
      | (with_reducible refine LeO.bind ?_ (fun _ => ?_))
      | exact ih0 _ _ _
      | exact LeO.none _
      | refine LeO.ite ?_ ?_
      | refine LeO.bind ?_ (fun _ => ?_)
theorem spec_raQuotients.mono : ∀ a0 a1 k, LeO (spec_raQuotients.f k a0 a1) (spec_raQuotients.f (k + 1) a0 a1) := by
  intro a0 a1 k
  have ih0 := spec_raQuotients.mono_l k
  unfold spec_raQuotients.f
  repeat' first
      | (with_reducible exact ih0 _ _ _)
      | (with_reducible exact LeO.refl _)
      | (with_reducible exact LeO.none _)
      | (with_reducible refine LeO.ite ?_ ?_)
      | (with_reducible refine LeO.bind ?_ (fun _ => ?_))
      | exact ih0 _ _ _
      | exact LeO.none _
      | refine LeO.ite ?_ ?_
      | refine LeO.bind ?_ (fun _ => ?_)
set_option maxHeartbeats 8000000 in
set_option maxRecDepth 100000 in
theorem spec_raQuotients.calls (k : Nat) (a0 : Int) (a1 : Int) (r : List Int) (w : World) (h : spec_raQuotients.f k a0 a1 = some r) :
    Calls Try.prog 49 #[.int .i64 a0, .int .i64 a1] w fun e w' => ∃ v0_ : Value, e = .returned (v0_) ∧ Kd.R (Kd.int .i64) 3 w' w.heap.size (fun _ => True) v0_ r ∧ Below w.heap.size w w' := by
  have HB := Aside0.mk (Below.refl w.heap.size w)
  have H : ((spec_l1Most.f a0 a1).bind fun t101 => ((spec_l1Least.f a0 a1).bind fun t102 => (spec_raQuotients.l0 k t101 t102 ([] : List Int)))) = some r := h
  clear h
  replace H := Option.bind_eq_some_iff.mp H
  obtain ⟨t101, A30, H⟩ := H
  replace H : ((spec_l1Least.f a0 a1).bind fun t102 => (spec_raQuotients.l0 k t101 t102 ([] : List Int))) = some r := H
  have A3 := Aside0.mk A30
  clear A30
  replace H := Option.bind_eq_some_iff.mp H
  obtain ⟨t102, A40, H⟩ := H
  replace H : (spec_raQuotients.l0 k t101 t102 ([] : List Int)) = some r := H
  have A4 := Aside0.mk A40
  clear A40
  have H' := Aside0.mk H
  clear H
  go_enter Try.func49, Try.ntmps49
  go_wp2_with (first | (go_at_call 27; (with_reducible refine (spec_l1Most.calls a0 a1 t101 _ A3.out).mono ?_); rintro e w' ⟨rfl, ⟨nd, rfl⟩⟩; (try first | exact ⟨rfl, _, World.drewN_drewN _ _ _⟩ | exact ⟨rfl, _, Eq.trans (World.drewN_drewN _ _ _) (congrArg (World.drewN _) (Nat.add_assoc _ _ _))⟩)) | (go_at_call 26; (with_reducible refine (spec_l1Least.calls a0 a1 t102 _ A4.out).mono ?_); rintro e w' ⟨rfl, ⟨nd, rfl⟩⟩; (try first | exact ⟨rfl, _, World.drewN_drewN _ _ _⟩ | exact ⟨rfl, _, Eq.trans (World.drewN_drewN _ _ _) (congrArg (World.drewN _) (Nat.add_assoc _ _ _))⟩)))
  repeat (go_quiet (first | (go_at_call 27; (with_reducible refine (spec_l1Most.calls a0 a1 t101 _ A3.out).mono ?_); rintro e w' ⟨rfl, ⟨nd, rfl⟩⟩; (try first | exact ⟨rfl, _, World.drewN_drewN _ _ _⟩ | exact ⟨rfl, _, Eq.trans (World.drewN_drewN _ _ _) (congrArg (World.drewN _) (Nat.add_assoc _ _ _))⟩)) | (go_at_call 26; (with_reducible refine (spec_l1Least.calls a0 a1 t102 _ A4.out).mono ?_); rintro e w' ⟨rfl, ⟨nd, rfl⟩⟩; (try first | exact ⟨rfl, _, World.drewN_drewN _ _ _⟩ | exact ⟨rfl, _, Eq.trans (World.drewN_drewN _ _ _) (congrArg (World.drewN _) (Nat.add_assoc _ _ _))⟩))); try go_wp2_with (first | (go_at_call 27; (with_reducible refine (spec_l1Most.calls a0 a1 t101 _ A3.out).mono ?_); rintro e w' ⟨rfl, ⟨nd, rfl⟩⟩; (try first | exact ⟨rfl, _, World.drewN_drewN _ _ _⟩ | exact ⟨rfl, _, Eq.trans (World.drewN_drewN _ _ _) (congrArg (World.drewN _) (Nat.add_assoc _ _ _))⟩)) | (go_at_call 26; (with_reducible refine (spec_l1Least.calls a0 a1 t102 _ A4.out).mono ?_); rintro e w' ⟨rfl, ⟨nd, rfl⟩⟩; (try first | exact ⟨rfl, _, World.drewN_drewN _ _ _⟩ | exact ⟨rfl, _, Eq.trans (World.drewN_drewN _ _ _) (congrArg (World.drewN _) (Nat.add_assoc _ _ _))⟩))))
  go_loopg [5, 6, 7] k (fun kq v5 v6 v7 w' => ∃ (x5_1 : Int) (x6_1 : Int) (x7_1 : List Int), v5 = .int .i64 x5_1 ∧ v6 = .int .i64 x6_1 ∧ Aside0 (spec_raQuotients.l0 kq x5_1 x6_1 x7_1 = some r) ∧ Aside0 (kq ≤ k) ∧ Aside0 (Kd.R (Kd.int .i64) 3 w' w.heap.size (fun _ => True) v7 x7_1) ∧ Aside0 (Below w.heap.size w w'))
  case atStart => exact ⟨(t101), (t102), (([] : List Int)), (by first | rfl | (simp; done) | (simp [*]; done)), (by first | rfl | (simp; done) | (simp [*]; done)), H', ⟨Nat.le_refl _⟩, ⟨by first | exact Kd.R_nil _ _ _ _ _ | exact Kd.N_nil _ _ _ _ _ | exact Kd.V_nil _ _ _ _ _ | exact Kd.Q_nil _ _ _ _ _ | exact Kd.S_nil _ _ _ _ _⟩, ⟨by repeat (first | (with_reducible first | exact HB.out | apply below_alloc | apply pw_below_drewN | apply below_drew1) | exact HB.out)⟩⟩
  case round =>
    clear H'
    try clear p2
    try clear c4
    obtain ⟨x5_1, x6_1, x7_1, rfl, rfl, HA, HK1, HO_7, HB⟩ := hrel
    cases gk with
    | zero => exact absurd HA.out (by simp [spec_raQuotients.l0])
    | succ k1 =>
      have H := HA.out
      clear HA
      simp only [spec_raQuotients.l0] at H
      by_cases c5 : x6_1 > 0
      · rw [if_pos c5] at H
        have c5b0 : decide (0 < x6_1) = true := decide_eq_true c5
        clear c5
        by_cases c6 : x6_1 = 0
        · rw [if_pos c6] at H
          exact absurd H (by simp)
        · rw [if_neg c6] at H
          have c6b0 : (x6_1 == 0) = false := beq_eq_false_iff_ne.mpr c6
          have c6b1 : (x6_1 != 0) = true := bne_iff_ne.mpr c6
          by_cases c7 : x7_1.length < 17592186044416
          · rw [if_pos c7] at H
            have LMc7 := Aside0.mk c7
            clear c7
            obtain ⟨y103, hy103⟩ : ∃ y_ : List Int, y_ = (x7_1 ++ [wrap64 (Int.tdiv x5_1 x6_1)]) := ⟨_, rfl⟩
            replace H : (spec_raQuotients.l0 k1 x6_1 (Int.tmod x5_1 x6_1) y103) = some r := by first | (rw [hy103]; with_reducible exact H) | (have H2_ := (Option.bind_some _ _).symm.trans H; rw [hy103]; with_reducible exact H2_) | (have H2_ := (Option.bind_some _ _).symm.trans H; with_reducible exact H2_) | with_reducible exact H | (rw [hy103]; exact H) | exact H
            have Ny103 := Aside0.mk hy103
            clear hy103
            have H' := Aside0.mk H
            clear H
            go_wp2_with (first | ((with_reducible refine gate_builtin (b := .append) (xs := #[.tmp 16, .tmp 20]) rfl ?_); at_builtin; refine Kd.R_append (Kd.int .i64) (w0 := w) w.heap.size rfl (.tmp 16) (.tmp 20) 25 3 (.int .i64 0) 8 rfl Try.underlying25 info3 rfl (by decide) (by omega) u7 x7_1 (wrap64 (Int.tdiv x5_1 x6_1)) [.int .i64 (wrap64 (Int.tdiv x5_1 x6_1))] (fun _ => True) (fun _ => False) rfl rfl ?aP (fun _ hk => hk.elim) ?aF ?aO ?aB ?aS ?aL ?_; (case aP => exact rfl); (case aB => exact (by repeat (first | (with_reducible first | exact HB.out | apply below_alloc | apply pw_below_drewN | apply below_drew1) | exact HB.out))); (case aF => exact (fun _ _ => trivial)); (case aO => exact (by (with_reducible repeat (first | apply Kd.R_alloc | apply Kd.R_drewN | apply Kd.R_drew)); exact HO_7.out)); (case aS => exact (below_size (by repeat (first | (with_reducible first | exact HB.out | apply below_alloc | apply pw_below_drewN | apply below_drew1) | exact HB.out)))); (case aL => have := LMc7.out; omega); intro v104 w8 ho hb hg hat; rw [← Ny103.out] at ho; have n0_ := Aside0.mk (hb); have n1_ := Aside0.mk (ho); clear HB; clear HO_7; have HB := n0_; have HO105 := n1_; clear n0_ n1_; clear ho hb hg hat))
            repeat (go_quiet (first | ((with_reducible refine gate_builtin (b := .append) (xs := #[.tmp 16, .tmp 20]) rfl ?_); at_builtin; refine Kd.R_append (Kd.int .i64) (w0 := w) w.heap.size rfl (.tmp 16) (.tmp 20) 25 3 (.int .i64 0) 8 rfl Try.underlying25 info3 rfl (by decide) (by omega) u7 x7_1 (wrap64 (Int.tdiv x5_1 x6_1)) [.int .i64 (wrap64 (Int.tdiv x5_1 x6_1))] (fun _ => True) (fun _ => False) rfl rfl ?aP (fun _ hk => hk.elim) ?aF ?aO ?aB ?aS ?aL ?_; (case aP => exact rfl); (case aB => exact (by repeat (first | (with_reducible first | exact HB.out | apply below_alloc | apply pw_below_drewN | apply below_drew1) | exact HB.out))); (case aF => exact (fun _ _ => trivial)); (case aO => exact (by (with_reducible repeat (first | apply Kd.R_alloc | apply Kd.R_drewN | apply Kd.R_drew)); exact HO_7.out)); (case aS => exact (below_size (by repeat (first | (with_reducible first | exact HB.out | apply below_alloc | apply pw_below_drewN | apply below_drew1) | exact HB.out)))); (case aL => have := LMc7.out; omega); intro v104 w8 ho hb hg hat; rw [← Ny103.out] at ho; have n0_ := Aside0.mk (hb); have n1_ := Aside0.mk (ho); clear HB; clear HO_7; have HB := n0_; have HO105 := n1_; clear n0_ n1_; clear ho hb hg hat)); try go_wp2_with (first | ((with_reducible refine gate_builtin (b := .append) (xs := #[.tmp 16, .tmp 20]) rfl ?_); at_builtin; refine Kd.R_append (Kd.int .i64) (w0 := w) w.heap.size rfl (.tmp 16) (.tmp 20) 25 3 (.int .i64 0) 8 rfl Try.underlying25 info3 rfl (by decide) (by omega) u7 x7_1 (wrap64 (Int.tdiv x5_1 x6_1)) [.int .i64 (wrap64 (Int.tdiv x5_1 x6_1))] (fun _ => True) (fun _ => False) rfl rfl ?aP (fun _ hk => hk.elim) ?aF ?aO ?aB ?aS ?aL ?_; (case aP => exact rfl); (case aB => exact (by repeat (first | (with_reducible first | exact HB.out | apply below_alloc | apply pw_below_drewN | apply below_drew1) | exact HB.out))); (case aF => exact (fun _ _ => trivial)); (case aO => exact (by (with_reducible repeat (first | apply Kd.R_alloc | apply Kd.R_drewN | apply Kd.R_drew)); exact HO_7.out)); (case aS => exact (below_size (by repeat (first | (with_reducible first | exact HB.out | apply below_alloc | apply pw_below_drewN | apply below_drew1) | exact HB.out)))); (case aL => have := LMc7.out; omega); intro v104 w8 ho hb hg hat; rw [← Ny103.out] at ho; have n0_ := Aside0.mk (hb); have n1_ := Aside0.mk (ho); clear HB; clear HO_7; have HB := n0_; have HO105 := n1_; clear n0_ n1_; clear ho hb hg hat)))
            go_roundg k1
            case measure => have := HK1.out; omega
            case rel => exact ⟨(x6_1), (Int.tmod x5_1 x6_1), (y103), (by first | rfl | (simp; done) | (simp [*]; done)), (by first | rfl | (simp; done) | (simp [*]; done)), H', ⟨by have := HK1.out; omega⟩, ⟨by (with_reducible repeat (first | apply Kd.R_alloc | apply Kd.R_drewN | apply Kd.R_drew)); exact HO105.out⟩, ⟨by repeat (first | (with_reducible first | exact HB.out | apply below_alloc | apply pw_below_drewN | apply below_drew1) | exact HB.out)⟩⟩
          · rw [if_neg c7] at H
            exact absurd H (by simp)
      · rw [if_neg c5] at H
        have c5b0 : decide (0 < x6_1) = false := decide_eq_false c5
        clear c5
        obtain rfl := Option.some.inj H
        go_wp2
        repeat (go_quiet (fail); try go_wp2)
        go_ret
        exact ⟨_, by first | rfl | (simp [errW_none, errW_some] <;> rfl) | (simp [*, errW_none, errW_some] <;> rfl), by (with_reducible repeat (first | apply Kd.R_alloc | apply Kd.R_drewN | apply Kd.R_drew)); exact HO_7.out, by repeat (first | (with_reducible first | exact HB.out | apply below_alloc | apply pw_below_drewN | apply below_drew1) | exact HB.out)⟩

end Go.Proofs.Ytfmhcgjmgaefcad.P

namespace Go.Proofs.Ytfmhcgjmgaefcad.P
open Go.RowKit Go.Proofs.YtfmhcgjmgaefcadW.PrintWords Go.Proofs.YtfmhcgjmgaefcadW.PrintLast Go.Proofs.YtfmhcgjmgaefcadW.PrintMore
attribute [local go_sem] max2_int min2_int max_two min_two max_three min_three max_four min_four
set_option linter.unusedVariables false
set_option linter.unusedSimpArgs false

/-! ### spec_GreedyCut: function 19 -/
mutual
def spec_GreedyCut.j0 : Nat → Int → Int → Bool → Option (Int × Int × (List (S48)) × Bool)
  | 0, _, _, _ => none
  | k + 1, x0, x1, x22 => if x22 = true then (some (0, 0, ([] : List (S48)), false)) else (spec_GreedyCut.l0 k x0 x1 ([] : List (S48)) 0 0)
def spec_GreedyCut.l0 : Nat → Int → Int → List (S48) → Int → Int → Option (Int × Int × (List (S48)) × Bool)
  | 0, _, _, _, _, _ => none
  | k + 1, x0, x1, x6, x7, x8 => if x7 < x0 then (spec_GreedyCut.j2 k x0 x1 x6 x7 x8 (decide (x8 < x1))) else (spec_GreedyCut.j2 k x0 x1 x6 x7 x8 false)
def spec_GreedyCut.j2 : Nat → Int → Int → List (S48) → Int → Int → Bool → Option (Int × Int × (List (S48)) × Bool)
  | 0, _, _, _, _, _, _ => none
  | k + 1, x0, x1, x6, x7, x8, x31 => if x31 = true then ((spec_l1Least.f (wrap64 (x0 - x7)) (wrap64 (x1 - x8))).bind fun t107 => (if x6.length < 5864062014805 then ((some (x6 ++ [(⟨x7, x8, t107⟩ : S48)] : List (S48))).bind fun y108 => (if (wrap64 (x0 - x7)) ≥ (wrap64 (x1 - x8)) then (spec_GreedyCut.l0 k x0 x1 y108 (wrap64 (x7 + t107)) x8) else (spec_GreedyCut.l0 k x0 x1 y108 x7 (wrap64 (x8 + t107))))) else (none))) else ((spec_cuMake.f k x0 x1 x6).bind fun bt111 => (some (bt111.1, bt111.2.1, bt111.2.2.1, bt111.2.2.2)))
end
def spec_GreedyCut.f (k : Nat) (a0 : Int) (a1 : Int) : Option (Int × Int × (List (S48)) × Bool) := (spec_raGood.f a0 a1).bind fun t102 => (if t102 = true then ((spec_raQuotients.f k a0 a1).bind fun t103 => ((spec_raSum.f k t103).bind fun t106 => (spec_GreedyCut.j0 k a0 a1 (decide (t106 > 30))))) else (spec_GreedyCut.j0 k a0 a1 true))
theorem spec_GreedyCut.mono_l : ∀ k, (∀ y0 y1 y2, LeO (spec_GreedyCut.j0 k y0 y1 y2) (spec_GreedyCut.j0 (k + 1) y0 y1 y2)) ∧ (∀ y0 y1 y2 y3 y4, LeO (spec_GreedyCut.l0 k y0 y1 y2 y3 y4) (spec_GreedyCut.l0 (k + 1) y0 y1 y2 y3 y4)) ∧ (∀ y0 y1 y2 y3 y4 y5, LeO (spec_GreedyCut.j2 k y0 y1 y2 y3 y4 y5) (spec_GreedyCut.j2 (k + 1) y0 y1 y2 y3 y4 y5))
  | 0 => ⟨fun _ _ _ r h => by simp [spec_GreedyCut.j0] at h, fun _ _ _ _ _ r h => by simp [spec_GreedyCut.l0] at h, fun _ _ _ _ _ _ r h => by simp [spec_GreedyCut.j2] at h⟩
  | k + 1 => by
    obtain ⟨ih0, ih1, ih2⟩ := spec_GreedyCut.mono_l k
    refine ⟨?_, ?_, ?_⟩
    · intro y0 y1 y2
      unfold spec_GreedyCut.j0
      repeat' first
      | (with_reducible exact ih0 _ _ _)
      | (with_reducible exact ih1 _ _ _ _ _)
      | (with_reducible exact ih2 _ _ _ _ _ _)
      | (with_reducible exact spec_cuMake.mono _ _ _ _)
      | (with_reducible exact spec_raQuotients.mono _ _ _)
      | (with_reducible exact spec_raSum.mono _ _)
      | (with_reducible exact LeO.refl _)
      | (with_reducible exact LeO.none _)
      | (with_reducible refine LeO.ite ?_ ?_)
      | (with_reducible refine LeO.bind ?_ (fun _ => ?_))
      | exact ih0 _ _ _
      | exact ih1 _ _ _ _ _
      | exact ih2 _ _ _ _ _ _
      | exact spec_cuMake.mono _ _ _ _
      | exact spec_raQuotients.mono _ _ _
      | exact spec_raSum.mono _ _
      | exact LeO.none _
      | refine LeO.ite ?_ ?_
      | refine LeO.bind ?_ (fun _ => ?_)
    · intro y0 y1 y2 y3 y4
      unfold spec_GreedyCut.l0
      repeat' first
      | (with_reducible exact ih0 _ _ _)
      | (with_reducible exact ih1 _ _ _ _ _)
      | (with_reducible exact ih2 _ _ _ _ _ _)
      | (with_reducible exact spec_cuMake.mono _ _ _ _)
      | (with_reducible exact spec_raQuotients.mono _ _ _)
      | (with_reducible exact spec_raSum.mono _ _)
      | (with_reducible exact LeO.refl _)
      | (with_reducible exact LeO.none _)
      | (with_reducible refine LeO.ite ?_ ?_)
      | (with_reducible refine LeO.bind ?_ (fun _ => ?_))
      | exact ih0 _ _ _
      | exact ih1 _ _ _ _ _
      | exact ih2 _ _ _ _ _ _
      | exact spec_cuMake.mono _ _ _ _
      | exact spec_raQuotients.mono _ _ _
      | exact spec_raSum.mono _ _
      | exact LeO.none _
      | refine LeO.ite ?_ ?_
      | refine LeO.bind ?_ (fun _ => ?_)
    · intro y0 y1 y2 y3 y4 y5
      unfold spec_GreedyCut.j2
      repeat' first
      | (with_reducible exact ih0 _ _ _)
      | (with_reducible exact ih1 _ _ _ _ _)
      | (with_reducible exact ih2 _ _ _ _ _ _)
      | (with_reducible exact spec_cuMake.mono _ _ _ _)
      | (with_reducible exact spec_raQuotients.mono _ _ _)
      | (with_reducible exact spec_raSum.mono _ _)
      | (with_reducible exact LeO.refl _)
      | (with_reducible exact LeO.none _)
      | (with_reducible refine LeO.ite ?_ ?_)
      | (with_reducible refine LeO.bind ?_ (fun _ => ?_))
      | exact ih0 _ _ _
      | exact ih1 _ _ _ _ _
      | exact ih2 _ _ _ _ _ _
      | exact spec_cuMake.mono _ _ _ _
      | exact spec_raQuotients.mono _ _ _
      | exact spec_raSum.mono _ _
      | exact LeO.none _
      | refine LeO.ite ?_ ?_
      | refine LeO.bind ?_ (fun _ => ?_)
theorem spec_GreedyCut.mono : ∀ a0 a1 k, LeO (spec_GreedyCut.f k a0 a1) (spec_GreedyCut.f (k + 1) a0 a1) := by
  intro a0 a1 k
  obtain ⟨ih0, ih1, ih2⟩ := spec_GreedyCut.mono_l k
  unfold spec_GreedyCut.f
  repeat' first
      | (with_reducible exact ih0 _ _ _)
      | (with_reducible exact ih1 _ _ _ _ _)
      | (with_reducible exact ih2 _ _ _ _ _ _)
      | (with_reducible exact spec_cuMake.mono _ _ _ _)
      | (with_reducible exact spec_raQuotients.mono _ _ _)
      | (with_reducible exact spec_raSum.mono _ _)
      | (with_reducible exact LeO.refl _)
      | (with_reducible exact LeO.none _)
      | (with_reducible refine LeO.ite ?_ ?_)
      | (with_reducible refine LeO.bind ?_ (fun _ => ?_))
      | exact ih0 _ _ _
      | exact ih1 _ _ _ _ _
      | exact ih2 _ _ _ _ _ _
      | exact spec_cuMake.mono _ _ _ _
      | exact spec_raQuotients.mono _ _ _
      | exact spec_raSum.mono _ _
      | exact LeO.none _
      | refine LeO.ite ?_ ?_
      | refine LeO.bind ?_ (fun _ => ?_)
set_option maxHeartbeats 8000000 in
set_option maxRecDepth 100000 in
theorem spec_GreedyCut.calls (k : Nat) (a0 : Int) (a1 : Int) (r1 : Int) (r2 : Int) (r3 : List (S48)) (r4 : Bool) (w : World) (h : spec_GreedyCut.f k a0 a1 = some (r1, r2, r3, r4)) :
    Calls Try.prog 19 #[.int .i64 a0, .int .i64 a1] w fun e w' => ∃ v2_ : Value, e = .returned (.tuple #[.agg #[.int .i64 r1, .int .i64 r2, v2_], .bool r4]) ∧ Kd.R k48 48 w' w.heap.size (fun _ => True) v2_ r3 ∧ Below w.heap.size w w' := by
  have hu29 := Try.underlying29
  have hu48 := Try.underlying48
  have HB := Aside0.mk (Below.refl w.heap.size w)
  have H : ((spec_raGood.f a0 a1).bind fun t102 => (if t102 = true then ((spec_raQuotients.f k a0 a1).bind fun t103 => ((spec_raSum.f k t103).bind fun t106 => (spec_GreedyCut.j0 k a0 a1 (decide (t106 > 30))))) else (spec_GreedyCut.j0 k a0 a1 true))) = some (r1, r2, r3, r4) := h
  clear h
  have HC3 := Aside0.mk H
  clear H
  go_enter Try.func19, Try.ntmps19
  go_upto_region 1 with (first | ((with_reducible refine gate_dst (N := 4) rfl ?_); refine box_event ?hg (N := 4) ?hd (cs := #[.int .i64 0, .int .i64 0, .slice none 0 0]) (t := 29) ?hr ?_; (case hd => rfl); (case hg => rfl); (case hr => first | (go_simp; done) | (go_simp; rfl)); intro gb101 hg w4 hbox hb; have n0_ := Aside0.mk (below_step (by repeat (first | (with_reducible first | exact HB.out | apply below_alloc | apply pw_below_drewN | apply below_drew1) | exact HB.out)) hb); have n1_ := Aside0.mk (hbox); have n2_ := Aside0.mk ((by rw [hg]; exact (below_size (by repeat (first | (with_reducible first | exact HB.out | apply below_alloc | apply pw_below_drewN | apply below_drew1) | exact HB.out))) : w.heap.size ≤ gb101)); have n3_ := Aside0.mk ((by rw [hg]; exact (below_size (by repeat (first | (with_reducible first | exact HB.out | apply below_alloc | apply pw_below_drewN | apply below_drew1) | exact HB.out))) : w.heap.size ≤ gb101)); clear HB; have HB := n0_; have BK101 := n1_; have GW101 := n2_; have GE101 := n3_; clear n0_ n1_ n2_ n3_; clear hb hbox hg))
  (try simp only [Act.put, List.setIfInBounds_toArray, List.set_cons_zero, List.set_cons_succ])
  go_cut [22] (fun v22 wc => ∃ (kq : Nat) (x22_2 : Bool), v22 = .bool x22_2 ∧ Aside0 (spec_GreedyCut.j0 kq a0 a1 x22_2 = some (r1, r2, r3, r4)) ∧ Aside0 (kq ≤ k) ∧ Aside0 (wc.heap[gb101]? = some (.cells #[.int .i64 0, .int .i64 0, (.slice none 0 0)] 29 (0, 0))) ∧ Aside0 (Below w.heap.size w wc))
  case first =>
    have H := HC3.out
    clear HC3
    replace H := Option.bind_eq_some_iff.mp H
    obtain ⟨t102, A50, H⟩ := H
    replace H : (if t102 = true then ((spec_raQuotients.f k a0 a1).bind fun t103 => ((spec_raSum.f k t103).bind fun t106 => (spec_GreedyCut.j0 k a0 a1 (decide (t106 > 30))))) else (spec_GreedyCut.j0 k a0 a1 true)) = some (r1, r2, r3, r4) := H
    have A5 := Aside0.mk A50
    clear A50
    by_cases c6 : t102 = true
    · subst c6
      have H1 : ((spec_raQuotients.f k a0 a1).bind fun t103 => ((spec_raSum.f k t103).bind fun t106 => (spec_GreedyCut.j0 k a0 a1 (decide (t106 > 30))))) = some (r1, r2, r3, r4) := by rw [if_pos rfl] at H; exact H
      clear H
      have H := H1
      clear H1
      replace H := Option.bind_eq_some_iff.mp H
      obtain ⟨t103, A70, H⟩ := H
      replace H : ((spec_raSum.f k t103).bind fun t106 => (spec_GreedyCut.j0 k a0 a1 (decide (t106 > 30)))) = some (r1, r2, r3, r4) := H
      have A7 := Aside0.mk A70
      clear A70
      replace H := Option.bind_eq_some_iff.mp H
      obtain ⟨t106, A80, H⟩ := H
      replace H : (spec_GreedyCut.j0 k a0 a1 (decide (t106 > 30))) = some (r1, r2, r3, r4) := H
      have A8 := Aside0.mk A80
      clear A80
      have H' := Aside0.mk H
      clear H
      go_wp2_with (first | ((with_reducible refine gate_callee (f := 47) rfl ?_); refine goesL_ (some 14) rfl rfl Try.func47 (by kernel_rfl) rfl #[.int .i64 a0, .int .i64 a1] rfl (by (try simp only [List.map_toArray, List.map_cons, List.map_nil]); first | done | rfl | (simp only [List.length_drop, List.length_take]; rfl)) ?_; (with_reducible refine (spec_raGood.calls a0 a1 true _ A5.out).mono ?_); rintro e w' ⟨rfl, ⟨nd, rfl⟩⟩; refine ⟨_, rfl, ?_⟩) | (go_at_call 49; (with_reducible refine (spec_raQuotients.calls k a0 a1 t103 _ A7.out).mono ?_); rintro e w9 ⟨v104, rfl, ho0, hb⟩; have n0_ := Aside0.mk (Kd.R_lower ho0 (below_size (by repeat (first | (with_reducible first | exact HB.out | apply below_alloc | apply pw_below_drewN | apply below_drew1 | refine below_set ?_ GE101.out) | exact HB.out)))); have n1_ := Aside0.mk (blk_below (g := gb101) (o := .cells #[.int .i64 0, .int .i64 0, .slice none 0 0] 29 (0, 0)) (by (with_reducible repeat (first | refine blk_drewN ?_ _ | refine blk_drew ?_ | refine blk_alloc ?_ _)); exact BK101.out) hb); have n2_ := Aside0.mk (below_step (by repeat (first | (with_reducible first | exact HB.out | apply below_alloc | apply pw_below_drewN | apply below_drew1 | refine below_set ?_ GE101.out) | exact HB.out)) hb); clear BK101; clear HB; have HO105 := n0_; have BK101 := n1_; have HB := n2_; clear n0_ n1_ n2_; (try clear hb); (try clear hb2); (try clear hk); (try clear hi); (try clear ho0); obtain ⟨Ao10, co10, eo10⟩ := Kd.R_slice HO105.out; subst eo10) | (go_at_call 48; (with_reducible refine (spec_raSum.calls k _ _ t103 t106 _ ?side1 ?side2 A8.out).mono ?_); (case side1 => repeat (first | exact (Kd.R_reads' HO105.out).2.2 | (with_reducible refine Kd.C_alloc ?_ _) | (with_reducible refine Kd.C_drewN ?_ _) | (with_reducible refine Kd.C_drew ?_))); (case side2 => exact (Kd.R_reads' HO105.out).2.1); rintro e w' ⟨rfl, ⟨nd, rfl⟩⟩))
      go_meet
      case rel => exact ⟨_, (decide (t106 > 30)), (by first | rfl | (simp; done) | (simp [*]; done)), H', ⟨by first | omega | exact Nat.le_refl _⟩, ⟨by (with_reducible repeat (first | refine blk_drewN ?_ _ | refine blk_drew ?_ | refine blk_alloc ?_ _)); exact BK101.out⟩, ⟨by repeat (first | (with_reducible first | exact HB.out | apply below_alloc | apply pw_below_drewN | apply below_drew1 | refine below_set ?_ GE101.out) | exact HB.out)⟩⟩
    · replace c6 := Bool.eq_false_iff.mpr c6
      subst c6
      have H1 : (spec_GreedyCut.j0 k a0 a1 true) = some (r1, r2, r3, r4) := by rw [if_neg (show ¬ (false = true) by decide)] at H; exact H
      clear H
      have H := H1
      clear H1
      have H' := Aside0.mk H
      clear H
      go_wp2_with (first | ((with_reducible refine gate_callee (f := 47) rfl ?_); refine goesL_ (some 14) rfl rfl Try.func47 (by kernel_rfl) rfl #[.int .i64 a0, .int .i64 a1] rfl (by (try simp only [List.map_toArray, List.map_cons, List.map_nil]); first | done | rfl | (simp only [List.length_drop, List.length_take]; rfl)) ?_; (with_reducible refine (spec_raGood.calls a0 a1 false _ A5.out).mono ?_); rintro e w' ⟨rfl, ⟨nd, rfl⟩⟩; refine ⟨_, rfl, ?_⟩))
      go_meet
      case rel => exact ⟨_, (true), (by first | rfl | (simp; done) | (simp [*]; done)), H', ⟨by first | omega | exact Nat.le_refl _⟩, ⟨by (with_reducible repeat (first | refine blk_drewN ?_ _ | refine blk_drew ?_ | refine blk_alloc ?_ _)); exact BK101.out⟩, ⟨by repeat (first | (with_reducible first | exact HB.out | apply below_alloc | apply pw_below_drewN | apply below_drew1 | refine below_set ?_ GE101.out) | exact HB.out)⟩⟩
  case rest =>
    clear HC3
    try clear c1
    try clear p2
    try clear c4
    try clear c6
    obtain ⟨kq, x22_2, rfl, HA, HJ2, BK101, HB⟩ := hcut
    cases kq with
    | zero => exact absurd HA.out (by simp [spec_GreedyCut.j0])
    | succ kj2 =>
      have H := HA.out
      clear HA
      simp only [spec_GreedyCut.j0] at H
      by_cases c11 : x22_2 = true
      · subst c11
        have H1 : (some (0, 0, ([] : List (S48)), false)) = some (r1, r2, r3, r4) := by rw [if_pos rfl] at H; exact H
        clear H
        have H := H1
        clear H1
        simp only [Option.some.injEq, Prod.mk.injEq] at H
        obtain ⟨rfl, rfl, rfl, rfl⟩ := H
        have hcz12_0 : wc.cell? ⟨gb101, 0, none⟩ = some (.int .i64 0) := (blk_cell BK101.out 0).trans rfl
        have hcz12_1 : wc.cell? ⟨gb101, 1, none⟩ = some (.int .i64 0) := (blk_cell BK101.out 1).trans rfl
        have hcz12_2 : wc.cell? ⟨gb101, 2, none⟩ = some (.slice none 0 0) := (blk_cell BK101.out 2).trans rfl
        have hfz12_0 := blk_frozen BK101.out 0
        have hfz12_1 := blk_frozen BK101.out 1
        have hfz12_2 := blk_frozen BK101.out 2
        go_wp2
        refine bodyPost_ret (results_ct rfl _ _ gb101 29 #[.int .i64 0, .int .i64 0, .slice none 0 0] (0, 0) _ rfl (by (with_reducible repeat (first | refine blk_drewN ?_ _ | refine blk_drew ?_ | refine blk_alloc ?_ _)); refine blk_put (cs := #[.int .i64 0, .int .i64 0, .slice none 0 0]) ?_ 2 _ rfl; (with_reducible repeat (first | refine blk_drewN ?_ _ | refine blk_drew ?_ | refine blk_alloc ?_ _)); refine blk_put (cs := #[.int .i64 0, .int .i64 0, .slice none 0 0]) ?_ 1 _ rfl; (with_reducible repeat (first | refine blk_drewN ?_ _ | refine blk_drew ?_ | refine blk_alloc ?_ _)); refine blk_put (cs := #[.int .i64 0, .int .i64 0, .slice none 0 0]) ?_ 0 _ rfl; (with_reducible repeat (first | refine blk_drewN ?_ _ | refine blk_drew ?_ | refine blk_alloc ?_ _)); exact BK101.out) Try.underlying29 rfl (by kernel_rfl)) rfl ?_
        exact ⟨_, by first | rfl | (simp [errW_none, errW_some] <;> rfl) | (simp [*, errW_none, errW_some] <;> rfl), by first | exact Kd.R_nil _ _ _ _ _ | exact Kd.N_nil _ _ _ _ _ | exact Kd.V_nil _ _ _ _ _ | exact Kd.Q_nil _ _ _ _ _ | exact Kd.S_nil _ _ _ _ _, by repeat (first | (with_reducible first | exact HB.out | apply below_alloc | apply pw_below_drewN | apply below_drew1 | refine below_set ?_ GE101.out) | exact HB.out)⟩
      · replace c11 := Bool.eq_false_iff.mpr c11
        subst c11
        have H1 : (spec_GreedyCut.l0 kj2 a0 a1 ([] : List (S48)) 0 0) = some (r1, r2, r3, r4) := by rw [if_neg (show ¬ (false = true) by decide)] at H; exact H
        clear H
        have H := H1
        clear H1
        have H' := Aside0.mk H
        clear H
        go_wp2
        go_loopg [6, 7, 8] kj2 (fun kq v6 v7 v8 w' => ∃ (x6_2 : List (S48)) (x7_2 : Int) (x8_2 : Int), v7 = .int .i64 x7_2 ∧ v8 = .int .i64 x8_2 ∧ Aside0 (spec_GreedyCut.l0 kq a0 a1 x6_2 x7_2 x8_2 = some (r1, r2, r3, r4)) ∧ Aside0 (kq ≤ kj2) ∧ Aside0 (Kd.R k48 48 w' w.heap.size (fun _ => True) v6 x6_2) ∧ Aside0 (w'.heap[gb101]? = some (.cells #[.int .i64 0, .int .i64 0, (.slice none 0 0)] 29 (0, 0))) ∧ Aside0 (Below w.heap.size w w'))
        case atStart => exact ⟨(([] : List (S48))), (0), (0), (by first | rfl | (simp; done) | (simp [*]; done)), (by first | rfl | (simp; done) | (simp [*]; done)), H', ⟨Nat.le_refl _⟩, ⟨by first | exact Kd.R_nil _ _ _ _ _ | exact Kd.N_nil _ _ _ _ _ | exact Kd.V_nil _ _ _ _ _ | exact Kd.Q_nil _ _ _ _ _ | exact Kd.S_nil _ _ _ _ _⟩, ⟨by (with_reducible repeat (first | refine blk_drewN ?_ _ | refine blk_drew ?_ | refine blk_alloc ?_ _)); exact BK101.out⟩, ⟨by repeat (first | (with_reducible first | exact HB.out | apply below_alloc | apply pw_below_drewN | apply below_drew1 | refine below_set ?_ GE101.out) | exact HB.out)⟩⟩
        case round =>
          clear H'
          try clear c1
          try clear p2
          try clear c4
          try clear c6
          try clear c11
          try clear hcz12_0
          try clear hcz12_1
          try clear hcz12_2
          try clear hfz12_0
          try clear hfz12_1
          try clear hfz12_2
          try clear p2
          obtain ⟨x6_2, x7_2, x8_2, rfl, rfl, HA, HK2, HO_6, BK101, HB⟩ := hrel
          cases gk with
          | zero => exact absurd HA.out (by simp [spec_GreedyCut.l0])
          | succ k2 =>
            have H := HA.out
            clear HA
            simp only [spec_GreedyCut.l0] at H
            have HC13 := Aside0.mk H
            clear H
            go_upto_region 5 with (fail)
            go_cut [31] (fun v31 wc => ∃ (kq : Nat) (x31_12 : Bool), v31 = .bool x31_12 ∧ Aside0 (spec_GreedyCut.j2 kq a0 a1 x6_2 x7_2 x8_2 x31_12 = some (r1, r2, r3, r4)) ∧ Aside0 (kq ≤ k2) ∧ Aside0 (Kd.R k48 48 wc w.heap.size (fun _ => True) u6 x6_2) ∧ Aside0 (wc.heap[gb101]? = some (.cells #[.int .i64 0, .int .i64 0, (.slice none 0 0)] 29 (0, 0))) ∧ Aside0 (Below w.heap.size w wc))
            case first =>
              have H := HC13.out
              clear HC13
              by_cases c14 : x7_2 < a0
              · rw [if_pos c14] at H
                have c14b0 : decide (x7_2 < a0) = true := decide_eq_true c14
                clear c14
                (first | rw [c14b0] | (simp only [i64_w, i32_w]; rw [c14b0]) | skip)
                have H' := Aside0.mk H
                clear H
                go_wp2
                go_meet
                case rel => exact ⟨_, (decide (x8_2 < a1)), (by first | rfl | (simp; done) | (simp [*]; done)), H', ⟨by have := HJ2.out; have := HK2.out; first | omega | exact Nat.le_refl _⟩, ⟨by (with_reducible repeat (first | apply Kd.R_alloc | apply Kd.R_drewN | apply Kd.R_drew)); exact HO_6.out⟩, ⟨by (with_reducible repeat (first | refine blk_drewN ?_ _ | refine blk_drew ?_ | refine blk_alloc ?_ _)); exact BK101.out⟩, ⟨by repeat (first | (with_reducible first | exact HB.out | apply below_alloc | apply pw_below_drewN | apply below_drew1 | refine below_set ?_ GE101.out) | exact HB.out)⟩⟩
              · rw [if_neg c14] at H
                have c14b0 : decide (x7_2 < a0) = false := decide_eq_false c14
                clear c14
                (first | rw [c14b0] | (simp only [i64_w, i32_w]; rw [c14b0]) | skip)
                have H' := Aside0.mk H
                clear H
                go_wp2
                go_meet
                case rel => exact ⟨_, (false), (by first | rfl | (simp; done) | (simp [*]; done)), H', ⟨by have := HJ2.out; have := HK2.out; first | omega | exact Nat.le_refl _⟩, ⟨by (with_reducible repeat (first | apply Kd.R_alloc | apply Kd.R_drewN | apply Kd.R_drew)); exact HO_6.out⟩, ⟨by (with_reducible repeat (first | refine blk_drewN ?_ _ | refine blk_drew ?_ | refine blk_alloc ?_ _)); exact BK101.out⟩, ⟨by repeat (first | (with_reducible first | exact HB.out | apply below_alloc | apply pw_below_drewN | apply below_drew1 | refine below_set ?_ GE101.out) | exact HB.out)⟩⟩
            case rest =>
              clear HC13
              try clear c1
              try clear p2
              try clear c4
              try clear c6
              try clear c11
              try clear c14
              try clear c14b0
              try clear hcz12_0
              try clear hcz12_1
              try clear hcz12_2
              try clear hfz12_0
              try clear hfz12_1
              try clear hfz12_2
              try clear p2
              obtain ⟨kq, x31_12, rfl, HA, HJ12, HO_6, BK101, HB⟩ := hcut
              cases kq with
              | zero => exact absurd HA.out (by simp [spec_GreedyCut.j2])
              | succ kj12 =>
                have H := HA.out
                clear HA
                simp only [spec_GreedyCut.j2] at H
                by_cases c15 : x31_12 = true
                · subst c15
                  have H1 : ((spec_l1Least.f (wrap64 (a0 - x7_2)) (wrap64 (a1 - x8_2))).bind fun t107 => (if x6_2.length < 5864062014805 then ((some (x6_2 ++ [(⟨x7_2, x8_2, t107⟩ : S48)] : List (S48))).bind fun y108 => (if (wrap64 (a0 - x7_2)) ≥ (wrap64 (a1 - x8_2)) then (spec_GreedyCut.l0 kj12 a0 a1 y108 (wrap64 (x7_2 + t107)) x8_2) else (spec_GreedyCut.l0 kj12 a0 a1 y108 x7_2 (wrap64 (x8_2 + t107))))) else (none))) = some (r1, r2, r3, r4) := by rw [if_pos rfl] at H; exact H
                  clear H
                  have H := H1
                  clear H1
                  replace H := Option.bind_eq_some_iff.mp H
                  obtain ⟨t107, A160, H⟩ := H
                  replace H : (if x6_2.length < 5864062014805 then ((some (x6_2 ++ [(⟨x7_2, x8_2, t107⟩ : S48)] : List (S48))).bind fun y108 => (if (wrap64 (a0 - x7_2)) ≥ (wrap64 (a1 - x8_2)) then (spec_GreedyCut.l0 kj12 a0 a1 y108 (wrap64 (x7_2 + t107)) x8_2) else (spec_GreedyCut.l0 kj12 a0 a1 y108 x7_2 (wrap64 (x8_2 + t107))))) else (none)) = some (r1, r2, r3, r4) := H
                  have A16 := Aside0.mk A160
                  clear A160
                  by_cases c17 : x6_2.length < 5864062014805
                  · rw [if_pos c17] at H
                    have LMc17 := Aside0.mk c17
                    clear c17
                    obtain ⟨y108, hy108⟩ : ∃ y_ : List (S48), y_ = (x6_2 ++ [(⟨x7_2, x8_2, t107⟩ : S48)]) := ⟨_, rfl⟩
                    replace H : (if (wrap64 (a0 - x7_2)) ≥ (wrap64 (a1 - x8_2)) then (spec_GreedyCut.l0 kj12 a0 a1 y108 (wrap64 (x7_2 + t107)) x8_2) else (spec_GreedyCut.l0 kj12 a0 a1 y108 x7_2 (wrap64 (x8_2 + t107)))) = some (r1, r2, r3, r4) := by first | (rw [hy108]; with_reducible exact H) | (have H2_ := (Option.bind_some _ _).symm.trans H; rw [hy108]; with_reducible exact H2_) | (have H2_ := (Option.bind_some _ _).symm.trans H; with_reducible exact H2_) | with_reducible exact H | (rw [hy108]; exact H) | exact H
                    have Ny108 := Aside0.mk hy108
                    clear hy108
                    by_cases c18 : (wrap64 (a0 - x7_2)) ≥ (wrap64 (a1 - x8_2))
                    · rw [if_pos c18] at H
                      have c18b0 : decide ((wrap64 (a1 - x8_2)) ≤ (wrap64 (a0 - x7_2))) = true := decide_eq_true c18
                      clear c18
                      have H' := Aside0.mk H
                      clear H
                      go_wp2_with (first | ((with_reducible refine gate_callee (f := 26) rfl ?_); refine goesL_ (some 40) rfl rfl Try.func26 (by kernel_rfl) rfl #[.int .i64 (wrap64 (a0 - x7_2)), .int .i64 (wrap64 (a1 - x8_2))] rfl (by (try simp only [List.map_toArray, List.map_cons, List.map_nil]); first | done | rfl | (simp only [List.length_drop, List.length_take]; rfl)) ?_; (with_reducible refine (spec_l1Least.calls (wrap64 (a0 - x7_2)) (wrap64 (a1 - x8_2)) t107 _ A16.out).mono ?_); rintro e w' ⟨rfl, ⟨nd, rfl⟩⟩; refine ⟨_, rfl, ?_⟩) | ((with_reducible refine gate_builtin (b := .append) (xs := #[.tmp 41, .tmp 46]) rfl ?_); at_builtin; refine Kd.R_append k48 (w0 := w) w.heap.size rfl (.tmp 41) (.tmp 46) 27 48 (.agg #[(.int .i64 0), (.int .i64 0), (.int .i64 0)]) 24 rfl Try.underlying27 info48 rfl (by decide) (by omega) u6 x6_2 (⟨x7_2, x8_2, t107⟩ : S48) [.int .i64 x7_2, .int .i64 x8_2, .int .i64 t107] (fun _ => True) (fun _ => False) rfl rfl ?aP (fun _ hk => hk.elim) ?aF ?aO ?aB ?aS ?aL ?_; (case aP => exact k48_mkM _ _ _ (⟨x7_2, x8_2, t107⟩ : S48)); (case aB => exact (by repeat (first | (with_reducible first | exact HB.out | apply below_alloc | apply pw_below_drewN | apply below_drew1 | refine below_set ?_ GE101.out) | exact HB.out))); (case aF => exact (fun _ _ => trivial)); (case aO => exact (by (with_reducible repeat (first | apply Kd.R_alloc | apply Kd.R_drewN | apply Kd.R_drew)); exact HO_6.out)); (case aS => exact (below_size (by repeat (first | (with_reducible first | exact HB.out | apply below_alloc | apply pw_below_drewN | apply below_drew1 | refine below_set ?_ GE101.out) | exact HB.out)))); (case aL => have := LMc17.out; omega); intro v109 w19 ho hb hg hat; rw [← Ny108.out] at ho; have n0_ := Aside0.mk (blk_grown (g := gb101) (o := .cells #[.int .i64 0, .int .i64 0, .slice none 0 0] 29 (0, 0)) (by (with_reducible repeat (first | refine blk_drewN ?_ _ | refine blk_drew ?_ | refine blk_alloc ?_ _)); exact BK101.out) hg (Kd.R_ne HO_6.out BK101.out (by decide))); have n1_ := Aside0.mk (hb); have n2_ := Aside0.mk (ho); clear BK101; clear HB; clear HO_6; have BK101 := n0_; have HB := n1_; have HO110 := n2_; clear n0_ n1_ n2_; clear ho hb hg hat))
                      go_roundg kj12
                      case measure => have := HJ2.out; have := HK2.out; have := HJ12.out; omega
                      case rel => exact ⟨(y108), (wrap64 (x7_2 + t107)), (x8_2), (by first | rfl | (simp; done) | (simp [*]; done)), (by first | rfl | (simp; done) | (simp [*]; done)), H', ⟨by have := HJ2.out; have := HK2.out; have := HJ12.out; omega⟩, ⟨by (with_reducible repeat (first | apply Kd.R_alloc | apply Kd.R_drewN | apply Kd.R_drew)); exact HO110.out⟩, ⟨by (with_reducible repeat (first | refine blk_drewN ?_ _ | refine blk_drew ?_ | refine blk_alloc ?_ _)); exact BK101.out⟩, ⟨by repeat (first | (with_reducible first | exact HB.out | apply below_alloc | apply pw_below_drewN | apply below_drew1 | refine below_set ?_ GE101.out) | exact HB.out)⟩⟩
                    · rw [if_neg c18] at H
                      have c18b0 : decide ((wrap64 (a1 - x8_2)) ≤ (wrap64 (a0 - x7_2))) = false := decide_eq_false c18
                      clear c18
                      have H' := Aside0.mk H
                      clear H
                      go_wp2_with (first | ((with_reducible refine gate_callee (f := 26) rfl ?_); refine goesL_ (some 40) rfl rfl Try.func26 (by kernel_rfl) rfl #[.int .i64 (wrap64 (a0 - x7_2)), .int .i64 (wrap64 (a1 - x8_2))] rfl (by (try simp only [List.map_toArray, List.map_cons, List.map_nil]); first | done | rfl | (simp only [List.length_drop, List.length_take]; rfl)) ?_; (with_reducible refine (spec_l1Least.calls (wrap64 (a0 - x7_2)) (wrap64 (a1 - x8_2)) t107 _ A16.out).mono ?_); rintro e w' ⟨rfl, ⟨nd, rfl⟩⟩; refine ⟨_, rfl, ?_⟩) | ((with_reducible refine gate_builtin (b := .append) (xs := #[.tmp 41, .tmp 46]) rfl ?_); at_builtin; refine Kd.R_append k48 (w0 := w) w.heap.size rfl (.tmp 41) (.tmp 46) 27 48 (.agg #[(.int .i64 0), (.int .i64 0), (.int .i64 0)]) 24 rfl Try.underlying27 info48 rfl (by decide) (by omega) u6 x6_2 (⟨x7_2, x8_2, t107⟩ : S48) [.int .i64 x7_2, .int .i64 x8_2, .int .i64 t107] (fun _ => True) (fun _ => False) rfl rfl ?aP (fun _ hk => hk.elim) ?aF ?aO ?aB ?aS ?aL ?_; (case aP => exact k48_mkM _ _ _ (⟨x7_2, x8_2, t107⟩ : S48)); (case aB => exact (by repeat (first | (with_reducible first | exact HB.out | apply below_alloc | apply pw_below_drewN | apply below_drew1 | refine below_set ?_ GE101.out) | exact HB.out))); (case aF => exact (fun _ _ => trivial)); (case aO => exact (by (with_reducible repeat (first | apply Kd.R_alloc | apply Kd.R_drewN | apply Kd.R_drew)); exact HO_6.out)); (case aS => exact (below_size (by repeat (first | (with_reducible first | exact HB.out | apply below_alloc | apply pw_below_drewN | apply below_drew1 | refine below_set ?_ GE101.out) | exact HB.out)))); (case aL => have := LMc17.out; omega); intro v109 w20 ho hb hg hat; rw [← Ny108.out] at ho; have n0_ := Aside0.mk (blk_grown (g := gb101) (o := .cells #[.int .i64 0, .int .i64 0, .slice none 0 0] 29 (0, 0)) (by (with_reducible repeat (first | refine blk_drewN ?_ _ | refine blk_drew ?_ | refine blk_alloc ?_ _)); exact BK101.out) hg (Kd.R_ne HO_6.out BK101.out (by decide))); have n1_ := Aside0.mk (hb); have n2_ := Aside0.mk (ho); clear BK101; clear HB; clear HO_6; have BK101 := n0_; have HB := n1_; have HO110 := n2_; clear n0_ n1_ n2_; clear ho hb hg hat))
                      go_roundg kj12
                      case measure => have := HJ2.out; have := HK2.out; have := HJ12.out; omega
                      case rel => exact ⟨(y108), (x7_2), (wrap64 (x8_2 + t107)), (by first | rfl | (simp; done) | (simp [*]; done)), (by first | rfl | (simp; done) | (simp [*]; done)), H', ⟨by have := HJ2.out; have := HK2.out; have := HJ12.out; omega⟩, ⟨by (with_reducible repeat (first | apply Kd.R_alloc | apply Kd.R_drewN | apply Kd.R_drew)); exact HO110.out⟩, ⟨by (with_reducible repeat (first | refine blk_drewN ?_ _ | refine blk_drew ?_ | refine blk_alloc ?_ _)); exact BK101.out⟩, ⟨by repeat (first | (with_reducible first | exact HB.out | apply below_alloc | apply pw_below_drewN | apply below_drew1 | refine below_set ?_ GE101.out) | exact HB.out)⟩⟩
                  · rw [if_neg c17] at H
                    exact absurd H (by simp)
                · replace c15 := Bool.eq_false_iff.mpr c15
                  subst c15
                  have H1 : ((spec_cuMake.f kj12 a0 a1 x6_2).bind fun bt111 => (some (bt111.1, bt111.2.1, bt111.2.2.1, bt111.2.2.2))) = some (r1, r2, r3, r4) := by rw [if_neg (show ¬ (false = true) by decide)] at H; exact H
                  clear H
                  have H := H1
                  clear H1
                  replace H := Option.bind_eq_some_iff.mp H
                  obtain ⟨⟨t111, t112, t113, t116⟩, A210, H⟩ := H
                  replace H : (some (t111, t112, t113, t116)) = some (r1, r2, r3, r4) := H
                  have A21 := Aside0.mk A210
                  clear A210
                  simp only [Option.some.injEq, Prod.mk.injEq] at H
                  obtain ⟨rfl, rfl, rfl, rfl⟩ := H
                  obtain ⟨Ao22, co22, eo22⟩ := Kd.R_slice HO_6.out
                  subst eo22
                  go_wp2_with (first | ((with_reducible refine gate_callee (f := 28) rfl ?_); refine goesL_ (some 60) rfl rfl Try.func28 (by kernel_rfl) rfl #[.int .i64 a0, .int .i64 a1, .slice Ao22 x6_2.length co22] rfl (by (try simp only [List.map_toArray, List.map_cons, List.map_nil]); first | done | rfl | (simp only [List.length_drop, List.length_take]; rfl)) ?_; (with_reducible refine (spec_cuMake.calls kj12 a0 a1 _ _ x6_2 t111 t112 t113 t116 _ ?side1 ?side2 A21.out).mono ?_); (case side1 => repeat (first | exact (Kd.R_reads' HO_6.out).2.2 | (with_reducible refine Kd.C_alloc ?_ _) | (with_reducible refine Kd.C_drewN ?_ _) | (with_reducible refine Kd.C_drew ?_))); (case side2 => exact (Kd.R_reads' HO_6.out).2.1); rintro e w23 ⟨v114, rfl, ho0, hb⟩; refine ⟨_, rfl, ?_⟩; have n0_ := Aside0.mk (Kd.R_elder' (by (with_reducible repeat (first | apply Kd.R_alloc | apply Kd.R_drewN | apply Kd.R_drew)); exact HO_6.out) (Kd.R_base ho0) hb); have n1_ := Aside0.mk (Kd.R_lower (Kd.R_new' ho0 (Kd.R_lt (by (with_reducible repeat (first | apply Kd.R_alloc | apply Kd.R_drewN | apply Kd.R_drew)); exact HO_6.out))) (below_size (by repeat (first | (with_reducible first | exact HB.out | apply below_alloc | apply pw_below_drewN | apply below_drew1 | refine below_set ?_ GE101.out) | exact HB.out)))); have n2_ := Aside0.mk (blk_below (g := gb101) (o := .cells #[.int .i64 0, .int .i64 0, .slice none 0 0] 29 (0, 0)) (by (with_reducible repeat (first | refine blk_drewN ?_ _ | refine blk_drew ?_ | refine blk_alloc ?_ _)); exact BK101.out) hb); have n3_ := Aside0.mk (below_step (by repeat (first | (with_reducible first | exact HB.out | apply below_alloc | apply pw_below_drewN | apply below_drew1 | refine below_set ?_ GE101.out) | exact HB.out)) hb); clear HO_6; clear BK101; clear HB; have HO_6 := n0_; have HO115 := n1_; have BK101 := n2_; have HB := n3_; clear n0_ n1_ n2_ n3_; (try clear hb); (try clear hb2); (try clear hk); (try clear hi); (try clear ho0); have hcz24_0 : w23.cell? ⟨gb101, 0, none⟩ = some (.int .i64 0) := (blk_cell BK101.out 0).trans rfl; have hcz24_1 : w23.cell? ⟨gb101, 1, none⟩ = some (.int .i64 0) := (blk_cell BK101.out 1).trans rfl; have hcz24_2 : w23.cell? ⟨gb101, 2, none⟩ = some (.slice none 0 0) := (blk_cell BK101.out 2).trans rfl; have hfz24_0 := blk_frozen BK101.out 0; have hfz24_1 := blk_frozen BK101.out 1; have hfz24_2 := blk_frozen BK101.out 2; obtain ⟨Ao25, co25, eo25⟩ := Kd.R_slice HO115.out; subst eo25))
                  refine bodyPost_ret (results_ct rfl _ _ gb101 29 #[.int .i64 t111, .int .i64 t112, .slice Ao25 t113.length co25] (0, 0) _ rfl (by (with_reducible repeat (first | refine blk_drewN ?_ _ | refine blk_drew ?_ | refine blk_alloc ?_ _)); refine blk_put (cs := #[.int .i64 t111, .int .i64 t112, .slice none 0 0]) ?_ 2 _ rfl; (with_reducible repeat (first | refine blk_drewN ?_ _ | refine blk_drew ?_ | refine blk_alloc ?_ _)); refine blk_put (cs := #[.int .i64 t111, .int .i64 0, .slice none 0 0]) ?_ 1 _ rfl; (with_reducible repeat (first | refine blk_drewN ?_ _ | refine blk_drew ?_ | refine blk_alloc ?_ _)); refine blk_put (cs := #[.int .i64 0, .int .i64 0, .slice none 0 0]) ?_ 0 _ rfl; (with_reducible repeat (first | refine blk_drewN ?_ _ | refine blk_drew ?_ | refine blk_alloc ?_ _)); exact BK101.out) Try.underlying29 rfl (by kernel_rfl)) rfl ?_
                  exact ⟨_, by first | rfl | (simp [errW_none, errW_some] <;> rfl) | (simp [*, errW_none, errW_some] <;> rfl), by (with_reducible repeat (first | apply Kd.R_alloc | apply Kd.R_drewN | apply Kd.R_drew)); exact Kd.R_mono (Kd.R_far (p := ⟨gb101, 2, none⟩) (Kd.R_far (p := ⟨gb101, 1, none⟩) (Kd.R_far (p := ⟨gb101, 0, none⟩) (Kd.R_types HO115.out BK101.out (by decide)) (fun _ hk => hk.2) (.int .i64 t111)) (fun _ hk => hk.2) (.int .i64 t112)) (fun _ hk => hk.2) (.slice Ao25 t113.length co25)) (fun _ hk => trivial), by repeat (first | (with_reducible first | exact HB.out | apply below_alloc | apply pw_below_drewN | apply below_drew1 | refine below_set ?_ GE101.out) | exact HB.out)⟩

end Go.Proofs.Ytfmhcgjmgaefcad.P

namespace Go.Proofs.Ytfmhcgjmgaefcad.P
open Go.RowKit Go.Proofs.YtfmhcgjmgaefcadW.PrintWords Go.Proofs.YtfmhcgjmgaefcadW.PrintLast Go.Proofs.YtfmhcgjmgaefcadW.PrintMore
attribute [local go_sem] max2_int min2_int max_two min_two max_three min_three max_four min_four
set_option linter.unusedVariables false
set_option linter.unusedSimpArgs false

/-! ### impl_within: function 62 -/
def impl_within.f (a0 : Int) (a1 : Int) (a2 : Int) : Option (Bool) := if a1 ≤ a0 then (some (decide (a0 ≤ a2))) else (some false)
set_option maxHeartbeats 8000000 in
set_option maxRecDepth 100000 in
theorem impl_within.calls (a0 : Int) (a1 : Int) (a2 : Int) (r : Bool) (w : World) (h : impl_within.f a0 a1 a2 = some r) :
    Calls Try.prog 62 #[.int .i64 a0, .int .i64 a1, .int .i64 a2] w fun e w' => e = .returned (.bool r) ∧ Drawn0 w w' := by
  have H : (if a1 ≤ a0 then (some (decide (a0 ≤ a2))) else (some false)) = some r := h
  clear h
  by_cases c4 : a1 ≤ a0
  · rw [if_pos c4] at H
    have c4b0 : decide (a1 ≤ a0) = true := decide_eq_true c4
    clear c4
    obtain rfl := Option.some.inj H
    go_enter Try.func62, Try.ntmps62
    go_wp2
    go_ret
    exact ⟨by first | rfl | (simp; done) | (simp [*]; done), by repeat (first | exact Drawn0.refl _ | apply Drawn0.step)⟩
  · rw [if_neg c4] at H
    have c4b0 : decide (a1 ≤ a0) = false := decide_eq_false c4
    clear c4
    obtain rfl := Option.some.inj H
    go_enter Try.func62, Try.ntmps62
    go_wp2
    go_ret
    exact ⟨by first | rfl | (simp; done) | (simp [*]; done), by repeat (first | exact Drawn0.refl _ | apply Drawn0.step)⟩

end Go.Proofs.Ytfmhcgjmgaefcad.P

namespace Go.Proofs.Ytfmhcgjmgaefcad.P
open Go.RowKit Go.Proofs.YtfmhcgjmgaefcadW.PrintWords Go.Proofs.YtfmhcgjmgaefcadW.PrintLast Go.Proofs.YtfmhcgjmgaefcadW.PrintMore
attribute [local go_sem] max2_int min2_int max_two min_two max_three min_three max_four min_four
set_option linter.unusedVariables false
set_option linter.unusedSimpArgs false

/-! ### impl_isRatio: function 86 -/
def impl_isRatio.f (a0 : Int) (a1 : Int) : Option (Bool) := (impl_within.f a0 1 1000).bind fun t101 => (if t101 = true then ((impl_within.f a1 1 1000).bind fun t102 => (some t102)) else (some false))
set_option maxHeartbeats 8000000 in
set_option maxRecDepth 100000 in
theorem impl_isRatio.calls (a0 : Int) (a1 : Int) (r : Bool) (w : World) (h : impl_isRatio.f a0 a1 = some r) :
    Calls Try.prog 86 #[.int .i64 a0, .int .i64 a1] w fun e w' => e = .returned (.bool r) ∧ Drawn0 w w' := by
  have H : ((impl_within.f a0 1 1000).bind fun t101 => (if t101 = true then ((impl_within.f a1 1 1000).bind fun t102 => (some t102)) else (some false))) = some r := h
  clear h
  replace H := Option.bind_eq_some_iff.mp H
  obtain ⟨t101, A30, H⟩ := H
  replace H : (if t101 = true then ((impl_within.f a1 1 1000).bind fun t102 => (some t102)) else (some false)) = some r := H
  have A3 := Aside0.mk A30
  clear A30
  by_cases c4 : t101 = true
  · subst c4
    have H1 : ((impl_within.f a1 1 1000).bind fun t102 => (some t102)) = some r := by rw [if_pos rfl] at H; exact H
    clear H
    have H := H1
    clear H1
    replace H := Option.bind_eq_some_iff.mp H
    obtain ⟨t102, A50, H⟩ := H
    replace H : (some t102) = some r := H
    have A5 := Aside0.mk A50
    clear A50
    obtain rfl := Option.some.inj H
    go_enter Try.func86, Try.ntmps86
    go_wp2_with (first | ((with_reducible refine gate_callee (f := 62) rfl ?_); refine goesL_ (some 6) rfl rfl Try.func62 (by kernel_rfl) rfl #[.int .i64 a0, .int .i64 1, .int .i64 1000] rfl (by (try simp only [List.map_toArray, List.map_cons, List.map_nil]); first | done | rfl | (simp only [List.length_drop, List.length_take]; rfl)) ?_; (with_reducible refine (impl_within.calls a0 1 1000 true _ A3.out).mono ?_); rintro e w' ⟨rfl, ⟨nd, rfl⟩⟩; refine ⟨_, rfl, ?_⟩) | (go_at_call 62; (with_reducible refine (impl_within.calls a1 1 1000 t102 _ A5.out).mono ?_); rintro e w' ⟨rfl, ⟨nd, rfl⟩⟩))
    go_ret
    exact ⟨by first | rfl | (simp; done) | (simp [*]; done), by repeat (first | exact Drawn0.refl _ | apply Drawn0.step)⟩
  · replace c4 := Bool.eq_false_iff.mpr c4
    subst c4
    have H1 : (some false) = some r := by rw [if_neg (show ¬ (false = true) by decide)] at H; exact H
    clear H
    have H := H1
    clear H1
    obtain rfl := Option.some.inj H
    go_enter Try.func86, Try.ntmps86
    go_wp2_with (first | ((with_reducible refine gate_callee (f := 62) rfl ?_); refine goesL_ (some 6) rfl rfl Try.func62 (by kernel_rfl) rfl #[.int .i64 a0, .int .i64 1, .int .i64 1000] rfl (by (try simp only [List.map_toArray, List.map_cons, List.map_nil]); first | done | rfl | (simp only [List.length_drop, List.length_take]; rfl)) ?_; (with_reducible refine (impl_within.calls a0 1 1000 false _ A3.out).mono ?_); rintro e w' ⟨rfl, ⟨nd, rfl⟩⟩; refine ⟨_, rfl, ?_⟩))
    go_ret
    exact ⟨by first | rfl | (simp; done) | (simp [*]; done), by repeat (first | exact Drawn0.refl _ | apply Drawn0.step)⟩

end Go.Proofs.Ytfmhcgjmgaefcad.P

namespace Go.Proofs.Ytfmhcgjmgaefcad.P
open Go.RowKit Go.Proofs.YtfmhcgjmgaefcadW.PrintWords Go.Proofs.YtfmhcgjmgaefcadW.PrintLast Go.Proofs.YtfmhcgjmgaefcadW.PrintMore
attribute [local go_sem] max2_int min2_int max_two min_two max_three min_three max_four min_four
set_option linter.unusedVariables false
set_option linter.unusedSimpArgs false

/-! ### impl_quotients: function 87 -/
def impl_quotients.l0 : Nat → Int → Int → List Int → Option (List Int)
  | 0, _, _, _ => none
  | k + 1, x5, x6, x7 => if x6 > 0 then (if x6 = 0 then (none) else (if x7.length < 17592186044416 then (impl_quotients.l0 k x6 (Int.tmod x5 x6) (x7 ++ [wrap64 (Int.tdiv x5 x6)])) else (none))) else (some x7)
def impl_quotients.f (k : Nat) (a0 : Int) (a1 : Int) : Option (List Int) := impl_quotients.l0 k (mx a0 a1) (mn a0 a1) (([] : List Int))
theorem impl_quotients.mono_l : ∀ k, (∀ y0 y1 y2, LeO (impl_quotients.l0 k y0 y1 y2) (impl_quotients.l0 (k + 1) y0 y1 y2))
  | 0 => fun _ _ _ r h => by simp [impl_quotients.l0] at h
  | k + 1 => by
    have ih0 := impl_quotients.mono_l k
    · intro y0 y1 y2
      unfold impl_quotients.l0
      repeat' first
      | (with_reducible exact ih0 _ _ _)
      | (with_reducible exact LeO.refl _)
      | (with_reducible exact LeO.none _)
      | (with_reducible refine LeO.ite ?_ ?_)
      | (with_reducible refine LeO.bind ?_ (fun _ => ?_))
      | exact ih0 _ _ _
      | exact LeO.none _
      | refine LeO.ite ?_ ?_
      | refine LeO.bind ?_ (fun _ => ?_)
theorem impl_quotients.mono : ∀ a0 a1 k, LeO (impl_quotients.f k a0 a1) (impl_quotients.f (k + 1) a0 a1) := by
  intro a0 a1 k
  have ih0 := impl_quotients.mono_l k
  unfold impl_quotients.f
  repeat' first
      | (with_reducible exact ih0 _ _ _)
      | (with_reducible exact LeO.refl _)
      | (with_reducible exact LeO.none _)
      | (with_reducible refine LeO.ite ?_ ?_)
      | (with_reducible refine LeO.bind ?_ (fun _ => ?_))
      | exact ih0 _ _ _
      | exact LeO.none _
      | refine LeO.ite ?_ ?_
      | refine LeO.bind ?_ (fun _ => ?_)
set_option maxHeartbeats 8000000 in
set_option maxRecDepth 100000 in
theorem impl_quotients.calls (k : Nat) (a0 : Int) (a1 : Int) (r : List Int) (w : World) (h : impl_quotients.f k a0 a1 = some r) :
    Calls Try.prog 87 #[.int .i64 a0, .int .i64 a1] w fun e w' => ∃ v0_ : Value, e = .returned (v0_) ∧ Kd.R (Kd.int .i64) 3 w' w.heap.size (fun _ => True) v0_ r ∧ Below w.heap.size w w' := by
  have HB := Aside0.mk (Below.refl w.heap.size w)
  have H : (impl_quotients.l0 k (mx a0 a1) (mn a0 a1) (([] : List Int))) = some r := h
  clear h
  obtain ⟨ji3, hji3⟩ : ∃ j_ : Int, (mx a0 a1) = j_ := ⟨_, rfl⟩
  replace H : (impl_quotients.l0 k ji3 (mn a0 a1) (([] : List Int))) = some r := by first | (rw [hji3] at H; exact H) | (simp only [hji3] at H ⊢; exact H)
  have hji3_ : (if a0 < a1 then a1 else a0) = ji3 := hji3
  obtain ⟨ji4, hji4⟩ : ∃ j_ : Int, (mn a0 a1) = j_ := ⟨_, rfl⟩
  replace H : (impl_quotients.l0 k ji3 ji4 (([] : List Int))) = some r := by first | (rw [hji4] at H; exact H) | (simp only [hji4] at H ⊢; exact H)
  have hji4_ : (if a1 < a0 then a1 else a0) = ji4 := hji4
  obtain ⟨y101, hy101⟩ : ∃ y_ : List Int, y_ = (([] : List Int)) := ⟨_, rfl⟩
  replace H : (impl_quotients.l0 k ji3 ji4 y101) = some r := by first | (rw [hy101]; with_reducible exact H) | (have H2_ := (Option.bind_some _ _).symm.trans H; rw [hy101]; with_reducible exact H2_) | (have H2_ := (Option.bind_some _ _).symm.trans H; with_reducible exact H2_) | with_reducible exact H | (rw [hy101]; exact H) | exact H
  have Ny101 := Aside0.mk hy101
  clear hy101
  have H' := Aside0.mk H
  clear H
  go_enter Try.func87, Try.ntmps87
  go_wp2_with (first | ((with_reducible refine gate_dst (N := 14) rfl ?_); refine Kd.R_lit (Kd.int .i64) _ 3 ?hg (N := 14) ?hd (xs := ([] : List Int)) (inner := []) (ok := fun _ => True) (okp := fun _ => True) ?hr ?hp (fun _ hk => hk) trivial (Below.refl _ _) (Nat.le_refl _) (by simp) ?_; (case hd => rfl); (case hg => rfl); (case hr => first | (go_simp; done) | (go_simp; rfl)); (case hp => exact (Reps.none _ _)); intro v102 w5 ho6 hb hg_ hnew_; clear hg_ hnew_; (first | rw [← Ny101.out] at ho6 | (simp only [Int.reduceToNat] at ho6; rw [← Ny101.out] at ho6)); have n0_ := Aside0.mk (Kd.R_lower ho6 (below_size (by repeat (first | (with_reducible first | exact HB.out | apply below_alloc | apply pw_below_drewN | apply below_drew1) | exact HB.out)))); have n1_ := Aside0.mk (below_step (by repeat (first | (with_reducible first | exact HB.out | apply below_alloc | apply pw_below_drewN | apply below_drew1) | exact HB.out)) hb); clear HB; have HO103 := n0_; have HB := n1_; clear n0_ n1_; clear hb ho6))
  repeat (go_quiet (first | ((with_reducible refine gate_dst (N := 14) rfl ?_); refine Kd.R_lit (Kd.int .i64) _ 3 ?hg (N := 14) ?hd (xs := ([] : List Int)) (inner := []) (ok := fun _ => True) (okp := fun _ => True) ?hr ?hp (fun _ hk => hk) trivial (Below.refl _ _) (Nat.le_refl _) (by simp) ?_; (case hd => rfl); (case hg => rfl); (case hr => first | (go_simp; done) | (go_simp; rfl)); (case hp => exact (Reps.none _ _)); intro v102 w5 ho6 hb hg_ hnew_; clear hg_ hnew_; (first | rw [← Ny101.out] at ho6 | (simp only [Int.reduceToNat] at ho6; rw [← Ny101.out] at ho6)); have n0_ := Aside0.mk (Kd.R_lower ho6 (below_size (by repeat (first | (with_reducible first | exact HB.out | apply below_alloc | apply pw_below_drewN | apply below_drew1) | exact HB.out)))); have n1_ := Aside0.mk (below_step (by repeat (first | (with_reducible first | exact HB.out | apply below_alloc | apply pw_below_drewN | apply below_drew1) | exact HB.out)) hb); clear HB; have HO103 := n0_; have HB := n1_; clear n0_ n1_; clear hb ho6)); try go_wp2_with (first | ((with_reducible refine gate_dst (N := 14) rfl ?_); refine Kd.R_lit (Kd.int .i64) _ 3 ?hg (N := 14) ?hd (xs := ([] : List Int)) (inner := []) (ok := fun _ => True) (okp := fun _ => True) ?hr ?hp (fun _ hk => hk) trivial (Below.refl _ _) (Nat.le_refl _) (by simp) ?_; (case hd => rfl); (case hg => rfl); (case hr => first | (go_simp; done) | (go_simp; rfl)); (case hp => exact (Reps.none _ _)); intro v102 w5 ho6 hb hg_ hnew_; clear hg_ hnew_; (first | rw [← Ny101.out] at ho6 | (simp only [Int.reduceToNat] at ho6; rw [← Ny101.out] at ho6)); have n0_ := Aside0.mk (Kd.R_lower ho6 (below_size (by repeat (first | (with_reducible first | exact HB.out | apply below_alloc | apply pw_below_drewN | apply below_drew1) | exact HB.out)))); have n1_ := Aside0.mk (below_step (by repeat (first | (with_reducible first | exact HB.out | apply below_alloc | apply pw_below_drewN | apply below_drew1) | exact HB.out)) hb); clear HB; have HO103 := n0_; have HB := n1_; clear n0_ n1_; clear hb ho6)))
  go_loopg [5, 6, 7] k (fun kq v5 v6 v7 w' => ∃ (x5_1 : Int) (x6_1 : Int) (x7_1 : List Int), v5 = .int .i64 x5_1 ∧ v6 = .int .i64 x6_1 ∧ Aside0 (impl_quotients.l0 kq x5_1 x6_1 x7_1 = some r) ∧ Aside0 (kq ≤ k) ∧ Aside0 (Kd.R (Kd.int .i64) 3 w' w.heap.size (fun _ => True) v7 x7_1) ∧ Aside0 (Below w.heap.size w w'))
  case atStart => exact ⟨(ji3), (ji4), (y101), (by first | rfl | (simp; done) | (simp only [← hji3] <;> (first | rfl | simp)) | (simp [*]; done)), (by first | rfl | (simp; done) | (simp only [← hji4] <;> (first | rfl | simp)) | (simp [*]; done)), H', ⟨Nat.le_refl _⟩, ⟨by (with_reducible repeat (first | apply Kd.R_alloc | apply Kd.R_drewN | apply Kd.R_drew)); exact HO103.out⟩, ⟨by repeat (first | (with_reducible first | exact HB.out | apply below_alloc | apply pw_below_drewN | apply below_drew1) | exact HB.out)⟩⟩
  case round =>
    clear H'
    try clear p2
    obtain ⟨x5_1, x6_1, x7_1, rfl, rfl, HA, HK1, HO_7, HB⟩ := hrel
    cases gk with
    | zero => exact absurd HA.out (by simp [impl_quotients.l0])
    | succ k1 =>
      have H := HA.out
      clear HA
      simp only [impl_quotients.l0] at H
      by_cases c7 : x6_1 > 0
      · rw [if_pos c7] at H
        have c7b0 : decide (0 < x6_1) = true := decide_eq_true c7
        clear c7
        by_cases c8 : x6_1 = 0
        · rw [if_pos c8] at H
          exact absurd H (by simp)
        · rw [if_neg c8] at H
          have c8b0 : (x6_1 == 0) = false := beq_eq_false_iff_ne.mpr c8
          have c8b1 : (x6_1 != 0) = true := bne_iff_ne.mpr c8
          by_cases c9 : x7_1.length < 17592186044416
          · rw [if_pos c9] at H
            have LMc9 := Aside0.mk c9
            clear c9
            obtain ⟨y104, hy104⟩ : ∃ y_ : List Int, y_ = (x7_1 ++ [wrap64 (Int.tdiv x5_1 x6_1)]) := ⟨_, rfl⟩
            replace H : (impl_quotients.l0 k1 x6_1 (Int.tmod x5_1 x6_1) y104) = some r := by first | (rw [hy104]; with_reducible exact H) | (have H2_ := (Option.bind_some _ _).symm.trans H; rw [hy104]; with_reducible exact H2_) | (have H2_ := (Option.bind_some _ _).symm.trans H; with_reducible exact H2_) | with_reducible exact H | (rw [hy104]; exact H) | exact H
            have Ny104 := Aside0.mk hy104
            clear hy104
            have H' := Aside0.mk H
            clear H
            go_wp2_with (first | ((with_reducible refine gate_builtin (b := .append) (xs := #[.tmp 17, .tmp 21]) rfl ?_); at_builtin; refine Kd.R_append (Kd.int .i64) (w0 := w) w.heap.size rfl (.tmp 17) (.tmp 21) 25 3 (.int .i64 0) 8 rfl Try.underlying25 info3 rfl (by decide) (by omega) u7 x7_1 (wrap64 (Int.tdiv x5_1 x6_1)) [.int .i64 (wrap64 (Int.tdiv x5_1 x6_1))] (fun _ => True) (fun _ => False) rfl rfl ?aP (fun _ hk => hk.elim) ?aF ?aO ?aB ?aS ?aL ?_; (case aP => exact rfl); (case aB => exact (by repeat (first | (with_reducible first | exact HB.out | apply below_alloc | apply pw_below_drewN | apply below_drew1) | exact HB.out))); (case aF => exact (fun _ _ => trivial)); (case aO => exact (by (with_reducible repeat (first | apply Kd.R_alloc | apply Kd.R_drewN | apply Kd.R_drew)); exact HO_7.out)); (case aS => exact (below_size (by repeat (first | (with_reducible first | exact HB.out | apply below_alloc | apply pw_below_drewN | apply below_drew1) | exact HB.out)))); (case aL => have := LMc9.out; omega); intro v105 w10 ho hb hg hat; rw [← Ny104.out] at ho; have n0_ := Aside0.mk (hb); have n1_ := Aside0.mk (ho); clear HB; clear HO_7; have HB := n0_; have HO106 := n1_; clear n0_ n1_; clear ho hb hg hat))
            repeat (go_quiet (first | ((with_reducible refine gate_builtin (b := .append) (xs := #[.tmp 17, .tmp 21]) rfl ?_); at_builtin; refine Kd.R_append (Kd.int .i64) (w0 := w) w.heap.size rfl (.tmp 17) (.tmp 21) 25 3 (.int .i64 0) 8 rfl Try.underlying25 info3 rfl (by decide) (by omega) u7 x7_1 (wrap64 (Int.tdiv x5_1 x6_1)) [.int .i64 (wrap64 (Int.tdiv x5_1 x6_1))] (fun _ => True) (fun _ => False) rfl rfl ?aP (fun _ hk => hk.elim) ?aF ?aO ?aB ?aS ?aL ?_; (case aP => exact rfl); (case aB => exact (by repeat (first | (with_reducible first | exact HB.out | apply below_alloc | apply pw_below_drewN | apply below_drew1) | exact HB.out))); (case aF => exact (fun _ _ => trivial)); (case aO => exact (by (with_reducible repeat (first | apply Kd.R_alloc | apply Kd.R_drewN | apply Kd.R_drew)); exact HO_7.out)); (case aS => exact (below_size (by repeat (first | (with_reducible first | exact HB.out | apply below_alloc | apply pw_below_drewN | apply below_drew1) | exact HB.out)))); (case aL => have := LMc9.out; omega); intro v105 w10 ho hb hg hat; rw [← Ny104.out] at ho; have n0_ := Aside0.mk (hb); have n1_ := Aside0.mk (ho); clear HB; clear HO_7; have HB := n0_; have HO106 := n1_; clear n0_ n1_; clear ho hb hg hat)); try go_wp2_with (first | ((with_reducible refine gate_builtin (b := .append) (xs := #[.tmp 17, .tmp 21]) rfl ?_); at_builtin; refine Kd.R_append (Kd.int .i64) (w0 := w) w.heap.size rfl (.tmp 17) (.tmp 21) 25 3 (.int .i64 0) 8 rfl Try.underlying25 info3 rfl (by decide) (by omega) u7 x7_1 (wrap64 (Int.tdiv x5_1 x6_1)) [.int .i64 (wrap64 (Int.tdiv x5_1 x6_1))] (fun _ => True) (fun _ => False) rfl rfl ?aP (fun _ hk => hk.elim) ?aF ?aO ?aB ?aS ?aL ?_; (case aP => exact rfl); (case aB => exact (by repeat (first | (with_reducible first | exact HB.out | apply below_alloc | apply pw_below_drewN | apply below_drew1) | exact HB.out))); (case aF => exact (fun _ _ => trivial)); (case aO => exact (by (with_reducible repeat (first | apply Kd.R_alloc | apply Kd.R_drewN | apply Kd.R_drew)); exact HO_7.out)); (case aS => exact (below_size (by repeat (first | (with_reducible first | exact HB.out | apply below_alloc | apply pw_below_drewN | apply below_drew1) | exact HB.out)))); (case aL => have := LMc9.out; omega); intro v105 w10 ho hb hg hat; rw [← Ny104.out] at ho; have n0_ := Aside0.mk (hb); have n1_ := Aside0.mk (ho); clear HB; clear HO_7; have HB := n0_; have HO106 := n1_; clear n0_ n1_; clear ho hb hg hat)))
            go_roundg k1
            case measure => have := HK1.out; omega
            case rel => exact ⟨(x6_1), (Int.tmod x5_1 x6_1), (y104), (by first | rfl | (simp; done) | (simp [*]; done)), (by first | rfl | (simp; done) | (simp [*]; done)), H', ⟨by have := HK1.out; omega⟩, ⟨by (with_reducible repeat (first | apply Kd.R_alloc | apply Kd.R_drewN | apply Kd.R_drew)); exact HO106.out⟩, ⟨by repeat (first | (with_reducible first | exact HB.out | apply below_alloc | apply pw_below_drewN | apply below_drew1) | exact HB.out)⟩⟩
          · rw [if_neg c9] at H
            exact absurd H (by simp)
      · rw [if_neg c7] at H
        have c7b0 : decide (0 < x6_1) = false := decide_eq_false c7
        clear c7
        obtain rfl := Option.some.inj H
        go_wp2
        repeat (go_quiet (fail); try go_wp2)
        go_ret
        exact ⟨_, by first | rfl | (simp [errW_none, errW_some] <;> rfl) | (simp only [← hji3, ← hji4]; first | rfl | (simp [errW_none, errW_some] <;> rfl)) | (simp [*, errW_none, errW_some] <;> rfl), by (with_reducible repeat (first | apply Kd.R_alloc | apply Kd.R_drewN | apply Kd.R_drew)); exact HO_7.out, by repeat (first | (with_reducible first | exact HB.out | apply below_alloc | apply pw_below_drewN | apply below_drew1) | exact HB.out)⟩

end Go.Proofs.Ytfmhcgjmgaefcad.P

namespace Go.Proofs.Ytfmhcgjmgaefcad.P
open Go.RowKit Go.Proofs.YtfmhcgjmgaefcadW.PrintWords Go.Proofs.YtfmhcgjmgaefcadW.PrintLast Go.Proofs.YtfmhcgjmgaefcadW.PrintMore
attribute [local go_sem] max2_int min2_int max_two min_two max_three min_three max_four min_four
set_option linter.unusedVariables false
set_option linter.unusedSimpArgs false

/-! ### impl_QuotientsOf: function 79 -/
def impl_QuotientsOf.f (k : Nat) (a0 : Int) (a1 : Int) : Option (List Int × Bool) := (impl_isRatio.f a0 a1).bind fun t101 => (if t101 = true then ((impl_quotients.f k a0 a1).bind fun t102 => (some (t102, true))) else (some (([] : List Int), false)))
theorem impl_QuotientsOf.mono : ∀ a0 a1 k, LeO (impl_QuotientsOf.f k a0 a1) (impl_QuotientsOf.f (k + 1) a0 a1) := by
  intro a0 a1 k
  unfold impl_QuotientsOf.f
  repeat' first
      | (with_reducible exact impl_quotients.mono _ _ _)
      | (with_reducible exact LeO.refl _)
      | (with_reducible exact LeO.none _)
      | (with_reducible refine LeO.ite ?_ ?_)
      | (with_reducible refine LeO.bind ?_ (fun _ => ?_))
      | exact impl_quotients.mono _ _ _
      | exact LeO.none _
      | refine LeO.ite ?_ ?_
      | refine LeO.bind ?_ (fun _ => ?_)
set_option maxHeartbeats 8000000 in
set_option maxRecDepth 100000 in
theorem impl_QuotientsOf.calls (k : Nat) (a0 : Int) (a1 : Int) (r1 : List Int) (r2 : Bool) (w : World) (h : impl_QuotientsOf.f k a0 a1 = some (r1, r2)) :
    Calls Try.prog 79 #[.int .i64 a0, .int .i64 a1] w fun e w' => ∃ v0_ : Value, e = .returned (.tuple #[v0_, .bool r2]) ∧ Kd.R (Kd.int .i64) 3 w' w.heap.size (fun _ => True) v0_ r1 ∧ Below w.heap.size w w' := by
  have HB := Aside0.mk (Below.refl w.heap.size w)
  have H : ((impl_isRatio.f a0 a1).bind fun t101 => (if t101 = true then ((impl_quotients.f k a0 a1).bind fun t102 => (some (t102, true))) else (some (([] : List Int), false)))) = some (r1, r2) := h
  clear h
  replace H := Option.bind_eq_some_iff.mp H
  obtain ⟨t101, A30, H⟩ := H
  replace H : (if t101 = true then ((impl_quotients.f k a0 a1).bind fun t102 => (some (t102, true))) else (some (([] : List Int), false))) = some (r1, r2) := H
  have A3 := Aside0.mk A30
  clear A30
  by_cases c4 : t101 = true
  · subst c4
    have H1 : ((impl_quotients.f k a0 a1).bind fun t102 => (some (t102, true))) = some (r1, r2) := by rw [if_pos rfl] at H; exact H
    clear H
    have H := H1
    clear H1
    replace H := Option.bind_eq_some_iff.mp H
    obtain ⟨t102, A50, H⟩ := H
    replace H : (some (t102, true)) = some (r1, r2) := H
    have A5 := Aside0.mk A50
    clear A50
    simp only [Option.some.injEq, Prod.mk.injEq] at H
    obtain ⟨rfl, rfl⟩ := H
    go_enter Try.func79, Try.ntmps79
    go_wp2_with (first | ((with_reducible refine gate_callee (f := 86) rfl ?_); refine goesL_ (some 8) rfl rfl Try.func86 (by kernel_rfl) rfl #[.int .i64 a0, .int .i64 a1] rfl (by (try simp only [List.map_toArray, List.map_cons, List.map_nil]); first | done | rfl | (simp only [List.length_drop, List.length_take]; rfl)) ?_; (with_reducible refine (impl_isRatio.calls a0 a1 true _ A3.out).mono ?_); rintro e w' ⟨rfl, ⟨nd, rfl⟩⟩; refine ⟨_, rfl, ?_⟩) | ((with_reducible refine gate_callee (f := 87) rfl ?_); refine goesL_ (some 12) rfl rfl Try.func87 (by kernel_rfl) rfl #[.int .i64 a0, .int .i64 a1] rfl (by (try simp only [List.map_toArray, List.map_cons, List.map_nil]); first | done | rfl | (simp only [List.length_drop, List.length_take]; rfl)) ?_; (with_reducible refine (impl_quotients.calls k a0 a1 t102 _ A5.out).mono ?_); rintro e w6 ⟨v103, rfl, ho0, hb⟩; refine ⟨_, rfl, ?_⟩; have n0_ := Aside0.mk (Kd.R_lower ho0 (below_size (by repeat (first | (with_reducible first | exact HB.out | apply below_alloc | apply pw_below_drewN | apply below_drew1) | exact HB.out)))); have n1_ := Aside0.mk (below_step (by repeat (first | (with_reducible first | exact HB.out | apply below_alloc | apply pw_below_drewN | apply below_drew1) | exact HB.out)) hb); clear HB; have HO104 := n0_; have HB := n1_; clear n0_ n1_; (try clear hb); (try clear hb2); (try clear hk); (try clear hi); (try clear ho0)))
    go_ret2
    exact ⟨_, by first | rfl | (simp [errW_none, errW_some] <;> rfl) | (simp [*, errW_none, errW_some] <;> rfl), by (with_reducible repeat (first | apply Kd.R_alloc | apply Kd.R_drewN | apply Kd.R_drew)); exact HO104.out, by repeat (first | (with_reducible first | exact HB.out | apply below_alloc | apply pw_below_drewN | apply below_drew1) | exact HB.out)⟩
  · replace c4 := Bool.eq_false_iff.mpr c4
    subst c4
    have H1 : (some (([] : List Int), false)) = some (r1, r2) := by rw [if_neg (show ¬ (false = true) by decide)] at H; exact H
    clear H
    have H := H1
    clear H1
    simp only [Option.some.injEq, Prod.mk.injEq] at H
    obtain ⟨rfl, rfl⟩ := H
    go_enter Try.func79, Try.ntmps79
    go_wp2_with (first | ((with_reducible refine gate_callee (f := 86) rfl ?_); refine goesL_ (some 8) rfl rfl Try.func86 (by kernel_rfl) rfl #[.int .i64 a0, .int .i64 a1] rfl (by (try simp only [List.map_toArray, List.map_cons, List.map_nil]); first | done | rfl | (simp only [List.length_drop, List.length_take]; rfl)) ?_; (with_reducible refine (impl_isRatio.calls a0 a1 false _ A3.out).mono ?_); rintro e w' ⟨rfl, ⟨nd, rfl⟩⟩; refine ⟨_, rfl, ?_⟩))
    go_ret2
    exact ⟨_, by first | rfl | (simp [errW_none, errW_some] <;> rfl) | (simp [*, errW_none, errW_some] <;> rfl), by first | exact Kd.R_nil _ _ _ _ _ | exact Kd.N_nil _ _ _ _ _ | exact Kd.V_nil _ _ _ _ _ | exact Kd.Q_nil _ _ _ _ _ | exact Kd.S_nil _ _ _ _ _, by repeat (first | (with_reducible first | exact HB.out | apply below_alloc | apply pw_below_drewN | apply below_drew1) | exact HB.out)⟩

end Go.Proofs.Ytfmhcgjmgaefcad.P

namespace Go.Proofs.Ytfmhcgjmgaefcad.P
open Go.RowKit Go.Proofs.YtfmhcgjmgaefcadW.PrintWords Go.Proofs.YtfmhcgjmgaefcadW.PrintLast Go.Proofs.YtfmhcgjmgaefcadW.PrintMore
attribute [local go_sem] max2_int min2_int max_two min_two max_three min_three max_four min_four
set_option linter.unusedVariables false
set_option linter.unusedSimpArgs false

/-! ### impl_sum: function 80 -/
def impl_sum.l0 : Nat → Int → List Int → Int → Int → Option (Int)
  | 0, _, _, _, _ => none
  | k + 1, x3, x6, x7, x8 => if x8 < x7 then (if 0 ≤ x8 then (if x8 < (x6.length : Int) then (impl_sum.l0 k (wrap64 (x3 + (rd x6 x8))) x6 x7 (wrap64 (x8 + 1))) else (none)) else (none)) else (some x3)
def impl_sum.f (k : Nat) (l0 : List Int) : Option (Int) := impl_sum.l0 k 0 l0 (l0.length : Int) 0
theorem impl_sum.mono_l : ∀ k, (∀ y0 y1 y2 y3, LeO (impl_sum.l0 k y0 y1 y2 y3) (impl_sum.l0 (k + 1) y0 y1 y2 y3))
  | 0 => fun _ _ _ _ r h => by simp [impl_sum.l0] at h
  | k + 1 => by
    have ih0 := impl_sum.mono_l k
    · intro y0 y1 y2 y3
      unfold impl_sum.l0
      repeat' first
      | (with_reducible exact ih0 _ _ _ _)
      | (with_reducible exact LeO.refl _)
      | (with_reducible exact LeO.none _)
      | (with_reducible refine LeO.ite ?_ ?_)
      | (with_reducible refine LeO.bind ?_ (fun _ => ?_))
      | exact ih0 _ _ _ _
      | exact LeO.none _
      | refine LeO.ite ?_ ?_
      | refine LeO.bind ?_ (fun _ => ?_)
theorem impl_sum.mono : ∀ a0 k, LeO (impl_sum.f k a0) (impl_sum.f (k + 1) a0) := by
  intro a0 k
  have ih0 := impl_sum.mono_l k
  unfold impl_sum.f
  repeat' first
      | (with_reducible exact ih0 _ _ _ _)
      | (with_reducible exact LeO.refl _)
      | (with_reducible exact LeO.none _)
      | (with_reducible refine LeO.ite ?_ ?_)
      | (with_reducible refine LeO.bind ?_ (fun _ => ?_))
      | exact ih0 _ _ _ _
      | exact LeO.none _
      | refine LeO.ite ?_ ?_
      | refine LeO.bind ?_ (fun _ => ?_)
set_option maxHeartbeats 8000000 in
set_option maxRecDepth 100000 in
theorem impl_sum.calls (k : Nat) (A0 : Option Addr) (c0 : Nat) (l0 : List Int) (r : Int) (w : World) (hr0 : Kd.C (Kd.int .i64) w A0 l0.length l0) (hc0 : l0.length ≤ c0) (h : impl_sum.f k l0 = some r) :
    Calls Try.prog 80 #[.slice A0 l0.length c0] w fun e w' => e = .returned (.int .i64 r) ∧ Drawn0 w w' := by
  have HR0 := Aside0.mk hr0
  have HC0 := Aside0.mk hc0
  clear hr0 hc0
  have H : (impl_sum.l0 k 0 l0 (l0.length : Int) 0) = some r := h
  clear h
  have H' := Aside0.mk H
  clear H
  go_enter Try.func80, Try.ntmps80
  go_wp2
  go_loopg [3, 8] k (fun kq v3 v8 w' => ∃ (x3_1 : Int) (x8_1 : Int), v3 = .int .i64 x3_1 ∧ v8 = .int .i64 x8_1 ∧ Aside0 (impl_sum.l0 kq x3_1 l0 (l0.length : Int) x8_1 = some r) ∧ Aside0 (kq ≤ k) ∧ Drawn0 w w')
  case atStart => exact ⟨(0), (0), (by first | rfl | (simp; done) | (simp [*]; done)), (by first | rfl | (simp; done) | (simp [*]; done)), H', ⟨Nat.le_refl _⟩, by repeat (first | exact Drawn0.refl _ | apply Drawn0.step)⟩
  case round =>
    clear H'
    obtain ⟨x3_1, x8_1, rfl, rfl, HA, HK1, ⟨m1, rfl⟩⟩ := hrel
    cases gk with
    | zero => exact absurd HA.out (by simp [impl_sum.l0])
    | succ k1 =>
      have H := HA.out
      clear HA
      simp only [impl_sum.l0] at H
      by_cases c2 : x8_1 < (l0.length : Int)
      · rw [if_pos c2] at H
        have c2b0 : decide (x8_1 < (l0.length : Int)) = true := decide_eq_true c2
        clear c2
        by_cases c3 : 0 ≤ x8_1
        · rw [if_pos c3] at H
          have c3b0 : decide (0 ≤ x8_1) = true := decide_eq_true c3
          clear c3
          by_cases c4 : x8_1 < (l0.length : Int)
          · rw [if_pos c4] at H
            have c4b0 : decide (x8_1 < (l0.length : Int)) = true := decide_eq_true c4
            clear c4
            have H' := Aside0.mk H
            clear H
            have p101 : 0 ≤ (x8_1 : Int) := of_decide_eq_true (by first | (with_reducible assumption) | assumption)
            have q101 : x8_1 < (l0.length : Int) := of_decide_eq_true (by first | (with_reducible assumption) | assumption)
            obtain ⟨ad101, e101, hx101_0⟩ := Kd.at_int HR0.out x8_1 p101 q101
            cases e101
            replace p101 := eq_true p101
            replace q101 := eq_true q101
            go_wp2
            go_roundg k1
            case measure => have := HK1.out; omega
            case rel => exact ⟨(wrap64 (x3_1 + (rd l0 x8_1))), (wrap64 (x8_1 + 1)), (by first | rfl | (simp; done) | (simp [*]; done)), (by first | rfl | (simp; done) | (simp [*]; done)), H', ⟨by have := HK1.out; omega⟩, by repeat (first | exact Drawn0.refl _ | apply Drawn0.step)⟩
          · rw [if_neg c4] at H
            exact absurd H (by simp)
        · rw [if_neg c3] at H
          exact absurd H (by simp)
      · rw [if_neg c2] at H
        have c2b0 : decide (x8_1 < (l0.length : Int)) = false := decide_eq_false c2
        clear c2
        obtain rfl := Option.some.inj H
        go_wp2
        go_ret
        exact ⟨by first | rfl | (simp; done) | (simp [*]; done), by repeat (first | exact Drawn0.refl _ | apply Drawn0.step)⟩

end Go.Proofs.Ytfmhcgjmgaefcad.P

namespace Go.Proofs.Ytfmhcgjmgaefcad.P
open Go.RowKit Go.Proofs.YtfmhcgjmgaefcadW.PrintWords Go.Proofs.YtfmhcgjmgaefcadW.PrintLast Go.Proofs.YtfmhcgjmgaefcadW.PrintMore
attribute [local go_sem] max2_int min2_int max_two min_two max_three min_three max_four min_four
set_option linter.unusedVariables false
set_option linter.unusedSimpArgs false

/-! ### impl_CountGreedy: function 50 -/
def impl_CountGreedy.f (k : Nat) (a0 : Int) (a1 : Int) : Option (Int × Bool) := (impl_QuotientsOf.f k a0 a1).bind fun bt101 => ((impl_sum.f k bt101.1).bind fun t105 => (some (t105, bt101.2)))
theorem impl_CountGreedy.mono : ∀ a0 a1 k, LeO (impl_CountGreedy.f k a0 a1) (impl_CountGreedy.f (k + 1) a0 a1) := by
  intro a0 a1 k
  unfold impl_CountGreedy.f
  repeat' first
      | (with_reducible exact impl_QuotientsOf.mono _ _ _)
      | (with_reducible exact impl_sum.mono _ _)
      | (with_reducible exact LeO.refl _)
      | (with_reducible exact LeO.none _)
      | (with_reducible refine LeO.ite ?_ ?_)
      | (with_reducible refine LeO.bind ?_ (fun _ => ?_))
      | exact impl_QuotientsOf.mono _ _ _
      | exact impl_sum.mono _ _
      | exact LeO.none _
      | refine LeO.ite ?_ ?_
      | refine LeO.bind ?_ (fun _ => ?_)
set_option maxHeartbeats 8000000 in
set_option maxRecDepth 100000 in
theorem impl_CountGreedy.calls (k : Nat) (a0 : Int) (a1 : Int) (r1 : Int) (r2 : Bool) (w : World) (h : impl_CountGreedy.f k a0 a1 = some (r1, r2)) :
    Calls Try.prog 50 #[.int .i64 a0, .int .i64 a1] w fun e w' => e = .returned (.tuple #[.int .i64 r1, .bool r2]) ∧ Below w.heap.size w w' := by
  have HB := Aside0.mk (Below.refl w.heap.size w)
  have H : ((impl_QuotientsOf.f k a0 a1).bind fun bt101 => ((impl_sum.f k bt101.1).bind fun t105 => (some (t105, bt101.2)))) = some (r1, r2) := h
  clear h
  replace H := Option.bind_eq_some_iff.mp H
  obtain ⟨⟨t101, t102⟩, A30, H⟩ := H
  replace H : ((impl_sum.f k t101).bind fun t105 => (some (t105, t102))) = some (r1, r2) := H
  have A3 := Aside0.mk A30
  clear A30
  replace H := Option.bind_eq_some_iff.mp H
  obtain ⟨t105, A40, H⟩ := H
  replace H : (some (t105, t102)) = some (r1, r2) := H
  have A4 := Aside0.mk A40
  clear A40
  simp only [Option.some.injEq, Prod.mk.injEq] at H
  obtain ⟨rfl, rfl⟩ := H
  go_enter Try.func50, Try.ntmps50
  go_wp2_with (first | ((with_reducible refine gate_callee (f := 79) rfl ?_); refine goesL_ (some 11) rfl rfl Try.func79 (by kernel_rfl) rfl #[.int .i64 a0, .int .i64 a1] rfl (by (try simp only [List.map_toArray, List.map_cons, List.map_nil]); first | done | rfl | (simp only [List.length_drop, List.length_take]; rfl)) ?_; (with_reducible refine (impl_QuotientsOf.calls k a0 a1 t101 t102 _ A3.out).mono ?_); rintro e w5 ⟨v103, rfl, ho0, hb⟩; refine ⟨_, rfl, ?_⟩; have n0_ := Aside0.mk (Kd.R_lower ho0 (below_size (by repeat (first | (with_reducible first | exact HB.out | apply below_alloc | apply pw_below_drewN | apply below_drew1) | exact HB.out)))); have n1_ := Aside0.mk (below_step (by repeat (first | (with_reducible first | exact HB.out | apply below_alloc | apply pw_below_drewN | apply below_drew1) | exact HB.out)) hb); clear HB; have HO104 := n0_; have HB := n1_; clear n0_ n1_; (try clear hb); (try clear hb2); (try clear hk); (try clear hi); (try clear ho0); obtain ⟨Ao6, co6, eo6⟩ := Kd.R_slice HO104.out; subst eo6) | ((with_reducible refine gate_callee (f := 80) rfl ?_); refine goesL_ (some 15) rfl rfl Try.func80 (by kernel_rfl) rfl #[.slice Ao6 t101.length co6] rfl (by (try simp only [List.map_toArray, List.map_cons, List.map_nil]); first | done | rfl | (simp only [List.length_drop, List.length_take]; rfl)) ?_; (with_reducible refine (impl_sum.calls k _ _ t101 t105 _ ?side1 ?side2 A4.out).mono ?_); (case side1 => repeat (first | exact (Kd.R_reads' HO104.out).2.2 | (with_reducible refine Kd.C_alloc ?_ _) | (with_reducible refine Kd.C_drewN ?_ _) | (with_reducible refine Kd.C_drew ?_))); (case side2 => exact (Kd.R_reads' HO104.out).2.1); rintro e w' ⟨rfl, ⟨nd, rfl⟩⟩; refine ⟨_, rfl, ?_⟩))
  go_ret2
  exact ⟨by first | rfl | (simp [errW_none, errW_some] <;> rfl) | (simp [*, errW_none, errW_some] <;> rfl), by repeat (first | (with_reducible first | exact HB.out | apply below_alloc | apply pw_below_drewN | apply below_drew1) | exact HB.out)⟩

end Go.Proofs.Ytfmhcgjmgaefcad.P

namespace Go.Proofs.Ytfmhcgjmgaefcad.P
open Go.RowKit Go.Proofs.YtfmhcgjmgaefcadW.PrintWords Go.Proofs.YtfmhcgjmgaefcadW.PrintLast Go.Proofs.YtfmhcgjmgaefcadW.PrintMore
attribute [local go_sem] max2_int min2_int max_two min_two max_three min_three max_four min_four
set_option linter.unusedVariables false
set_option linter.unusedSimpArgs false

/-! ### impl_isWide: function 67 -/
def impl_isWide.f (a0 : Int) : Option (Bool) := (impl_within.f a0 1 500).bind fun t101 => (some t101)
set_option maxHeartbeats 8000000 in
set_option maxRecDepth 100000 in
theorem impl_isWide.calls (a0 : Int) (r : Bool) (w : World) (h : impl_isWide.f a0 = some r) :
    Calls Try.prog 67 #[.int .i64 a0] w fun e w' => e = .returned (.bool r) ∧ Drawn0 w w' := by
  have H : ((impl_within.f a0 1 500).bind fun t101 => (some t101)) = some r := h
  clear h
  replace H := Option.bind_eq_some_iff.mp H
  obtain ⟨t101, A20, H⟩ := H
  replace H : (some t101) = some r := H
  have A2 := Aside0.mk A20
  clear A20
  obtain rfl := Option.some.inj H
  go_enter Try.func67, Try.ntmps67
  go_wp2_with (first | ((with_reducible refine gate_callee (f := 62) rfl ?_); refine goesL_ (some 4) rfl rfl Try.func62 (by kernel_rfl) rfl #[.int .i64 a0, .int .i64 1, .int .i64 500] rfl (by (try simp only [List.map_toArray, List.map_cons, List.map_nil]); first | done | rfl | (simp only [List.length_drop, List.length_take]; rfl)) ?_; (with_reducible refine (impl_within.calls a0 1 500 t101 _ A2.out).mono ?_); rintro e w' ⟨rfl, ⟨nd, rfl⟩⟩; refine ⟨_, rfl, ?_⟩))
  go_ret
  exact ⟨by first | rfl | (simp; done) | (simp [*]; done), by repeat (first | exact Drawn0.refl _ | apply Drawn0.step)⟩

end Go.Proofs.Ytfmhcgjmgaefcad.P

namespace Go.Proofs.Ytfmhcgjmgaefcad.P
open Go.RowKit Go.Proofs.YtfmhcgjmgaefcadW.PrintWords Go.Proofs.YtfmhcgjmgaefcadW.PrintLast Go.Proofs.YtfmhcgjmgaefcadW.PrintMore
attribute [local go_sem] max2_int min2_int max_two min_two max_three min_three max_four min_four
set_option linter.unusedVariables false
set_option linter.unusedSimpArgs false

/-! ### impl_comparePlaces: function 68 -/
def impl_comparePlaces.f (a0_0 : Int) (a0_1 : Int) (a0_2 : Int) (a1_0 : Int) (a1_1 : Int) (a1_2 : Int) : Option (Int) := if a0_1 = a1_1 then (some (wrap64 (a0_0 - a1_0))) else (some (wrap64 (a0_1 - a1_1)))
set_option maxHeartbeats 8000000 in
set_option maxRecDepth 100000 in
theorem impl_comparePlaces.calls (a0_0 : Int) (a0_1 : Int) (a0_2 : Int) (a1_0 : Int) (a1_1 : Int) (a1_2 : Int) (r : Int) (w : World) (h : impl_comparePlaces.f a0_0 a0_1 a0_2 a1_0 a1_1 a1_2 = some r) :
    Calls Try.prog 68 #[.agg #[.int .i64 a0_0, .int .i64 a0_1, .int .i64 a0_2], .agg #[.int .i64 a1_0, .int .i64 a1_1, .int .i64 a1_2]] w fun e w' => e = .returned (.int .i64 r) ∧ Below w.heap.size w w' := by
  have hu48 := Try.underlying48
  have HB := Aside0.mk (Below.refl w.heap.size w)
  have H : (if a0_1 = a1_1 then (some (wrap64 (a0_0 - a1_0))) else (some (wrap64 (a0_1 - a1_1)))) = some r := h
  clear h
  by_cases c3 : a0_1 = a1_1
  · rw [if_pos c3] at H
    have c3b0 : (a0_1 == a1_1) = true := beq_iff_eq.mpr c3
    have c3b1 : (a0_1 != a1_1) = false := bne_eq_false_iff_eq.mpr c3
    clear c3
    obtain rfl := Option.some.inj H
    go_enter Try.func68, Try.ntmps68
    go_wp2_with (first | ((with_reducible refine gate_dst (N := 2) rfl ?_); refine box_event ?hg (N := 2) ?hd (cs := #[.int .i64 a0_0, .int .i64 a0_1, .int .i64 a0_2]) (t := 48) ?hr ?_; (case hd => rfl); (case hg => rfl); (case hr => first | (go_simp; done) | (go_simp; rfl)); intro gb101 hg w4 hbox hb; have n0_ := Aside0.mk (below_step (by repeat (first | (with_reducible first | exact HB.out | apply below_alloc | apply pw_below_drewN | apply below_drew1) | exact HB.out)) hb); have n1_ := Aside0.mk (hbox); have n2_ := Aside0.mk ((by rw [hg]; exact (below_size (by repeat (first | (with_reducible first | exact HB.out | apply below_alloc | apply pw_below_drewN | apply below_drew1) | exact HB.out))) : w.heap.size ≤ gb101)); have n3_ := Aside0.mk ((by rw [hg]; exact (below_size (by repeat (first | (with_reducible first | exact HB.out | apply below_alloc | apply pw_below_drewN | apply below_drew1) | exact HB.out))) : w.heap.size ≤ gb101)); clear HB; have HB := n0_; have BK101 := n1_; have GW101 := n2_; have GE101 := n3_; clear n0_ n1_ n2_ n3_; clear hb hbox hg) | ((with_reducible refine gate_dst (N := 3) rfl ?_); refine box_event ?hg (N := 3) ?hd (cs := #[.int .i64 a1_0, .int .i64 a1_1, .int .i64 a1_2]) (t := 48) ?hr ?_; (case hd => rfl); (case hg => rfl); (case hr => first | (go_simp; done) | (go_simp; rfl)); intro gb102 hg w5 hbox hb; have n0_ := Aside0.mk (blk_below (g := gb101) (o := .cells #[.int .i64 a0_0, .int .i64 a0_1, .int .i64 a0_2] 48 (0, 0)) (by (with_reducible repeat (first | refine blk_drewN ?_ _ | refine blk_drew ?_ | refine blk_alloc ?_ _)); exact BK101.out) hb); have n1_ := Aside0.mk (below_step (by repeat (first | (with_reducible first | exact HB.out | apply below_alloc | apply pw_below_drewN | apply below_drew1 | refine below_set ?_ GE101.out) | exact HB.out)) hb); have n2_ := Aside0.mk (hbox); have n3_ := Aside0.mk ((by rw [hg]; exact (below_size (by repeat (first | (with_reducible first | exact HB.out | apply below_alloc | apply pw_below_drewN | apply below_drew1 | refine below_set ?_ GE101.out) | exact HB.out))) : w.heap.size ≤ gb102)); have n4_ := Aside0.mk ((by rw [hg]; exact (below_size (by repeat (first | (with_reducible first | exact HB.out | apply below_alloc | apply pw_below_drewN | apply below_drew1 | refine below_set ?_ GE101.out) | exact HB.out))) : w.heap.size ≤ gb102)); have n5_ := Aside0.mk ((by rw [hg]; exact Nat.ne_of_lt (blk_lt (g := gb101) (o := .cells #[.int .i64 a0_0, .int .i64 a0_1, .int .i64 a0_2] 48 (0, 0)) (by (with_reducible repeat (first | refine blk_drewN ?_ _ | refine blk_drew ?_ | refine blk_alloc ?_ _)); exact BK101.out)) : gb101 ≠ gb102)); have n6_ := Aside0.mk ((by rw [hg]; exact Nat.ne_of_gt (blk_lt (g := gb101) (o := .cells #[.int .i64 a0_0, .int .i64 a0_1, .int .i64 a0_2] 48 (0, 0)) (by (with_reducible repeat (first | refine blk_drewN ?_ _ | refine blk_drew ?_ | refine blk_alloc ?_ _)); exact BK101.out)) : gb102 ≠ gb101)); clear BK101; clear HB; have BK101 := n0_; have HB := n1_; have BK102 := n2_; have GW102 := n3_; have GE102 := n4_; have NB101_102 := n5_; have NB102_101 := n6_; clear n0_ n1_ n2_ n3_ n4_ n5_ n6_; clear hb hbox hg; have hnb6 := NB101_102.out; have hnc6 := NB102_101.out; have hcz7_0 : w5.cell? ⟨gb101, 0, none⟩ = some (.int .i64 a0_0) := (blk_cell BK101.out 0).trans rfl; have hcz7_1 : w5.cell? ⟨gb101, 1, none⟩ = some (.int .i64 a0_1) := (blk_cell BK101.out 1).trans rfl; have hcz7_2 : w5.cell? ⟨gb101, 2, none⟩ = some (.int .i64 a0_2) := (blk_cell BK101.out 2).trans rfl; have hfz7_0 := blk_frozen BK101.out 0; have hfz7_1 := blk_frozen BK101.out 1; have hfz7_2 := blk_frozen BK101.out 2; have hcz8_0 : w5.cell? ⟨gb102, 0, none⟩ = some (.int .i64 a1_0) := (blk_cell BK102.out 0).trans rfl; have hcz8_1 : w5.cell? ⟨gb102, 1, none⟩ = some (.int .i64 a1_1) := (blk_cell BK102.out 1).trans rfl; have hcz8_2 : w5.cell? ⟨gb102, 2, none⟩ = some (.int .i64 a1_2) := (blk_cell BK102.out 2).trans rfl; have hfz8_0 := blk_frozen BK102.out 0; have hfz8_1 := blk_frozen BK102.out 1; have hfz8_2 := blk_frozen BK102.out 2))
    go_ret
    exact ⟨by first | rfl | (simp [errW_none, errW_some] <;> rfl) | (simp [*, errW_none, errW_some] <;> rfl), by repeat (first | (with_reducible first | exact HB.out | apply below_alloc | apply pw_below_drewN | apply below_drew1 | refine below_set ?_ GE101.out | refine below_set ?_ GE102.out) | exact HB.out)⟩
  · rw [if_neg c3] at H
    have c3b0 : (a0_1 == a1_1) = false := beq_eq_false_iff_ne.mpr c3
    have c3b1 : (a0_1 != a1_1) = true := bne_iff_ne.mpr c3
    obtain rfl := Option.some.inj H
    go_enter Try.func68, Try.ntmps68
    go_wp2_with (first | ((with_reducible refine gate_dst (N := 2) rfl ?_); refine box_event ?hg (N := 2) ?hd (cs := #[.int .i64 a0_0, .int .i64 a0_1, .int .i64 a0_2]) (t := 48) ?hr ?_; (case hd => rfl); (case hg => rfl); (case hr => first | (go_simp; done) | (go_simp; rfl)); intro gb101 hg w9 hbox hb; have n0_ := Aside0.mk (below_step (by repeat (first | (with_reducible first | exact HB.out | apply below_alloc | apply pw_below_drewN | apply below_drew1) | exact HB.out)) hb); have n1_ := Aside0.mk (hbox); have n2_ := Aside0.mk ((by rw [hg]; exact (below_size (by repeat (first | (with_reducible first | exact HB.out | apply below_alloc | apply pw_below_drewN | apply below_drew1) | exact HB.out))) : w.heap.size ≤ gb101)); have n3_ := Aside0.mk ((by rw [hg]; exact (below_size (by repeat (first | (with_reducible first | exact HB.out | apply below_alloc | apply pw_below_drewN | apply below_drew1) | exact HB.out))) : w.heap.size ≤ gb101)); clear HB; have HB := n0_; have BK101 := n1_; have GW101 := n2_; have GE101 := n3_; clear n0_ n1_ n2_ n3_; clear hb hbox hg) | ((with_reducible refine gate_dst (N := 3) rfl ?_); refine box_event ?hg (N := 3) ?hd (cs := #[.int .i64 a1_0, .int .i64 a1_1, .int .i64 a1_2]) (t := 48) ?hr ?_; (case hd => rfl); (case hg => rfl); (case hr => first | (go_simp; done) | (go_simp; rfl)); intro gb102 hg w10 hbox hb; have n0_ := Aside0.mk (blk_below (g := gb101) (o := .cells #[.int .i64 a0_0, .int .i64 a0_1, .int .i64 a0_2] 48 (0, 0)) (by (with_reducible repeat (first | refine blk_drewN ?_ _ | refine blk_drew ?_ | refine blk_alloc ?_ _)); exact BK101.out) hb); have n1_ := Aside0.mk (below_step (by repeat (first | (with_reducible first | exact HB.out | apply below_alloc | apply pw_below_drewN | apply below_drew1 | refine below_set ?_ GE101.out) | exact HB.out)) hb); have n2_ := Aside0.mk (hbox); have n3_ := Aside0.mk ((by rw [hg]; exact (below_size (by repeat (first | (with_reducible first | exact HB.out | apply below_alloc | apply pw_below_drewN | apply below_drew1 | refine below_set ?_ GE101.out) | exact HB.out))) : w.heap.size ≤ gb102)); have n4_ := Aside0.mk ((by rw [hg]; exact (below_size (by repeat (first | (with_reducible first | exact HB.out | apply below_alloc | apply pw_below_drewN | apply below_drew1 | refine below_set ?_ GE101.out) | exact HB.out))) : w.heap.size ≤ gb102)); have n5_ := Aside0.mk ((by rw [hg]; exact Nat.ne_of_lt (blk_lt (g := gb101) (o := .cells #[.int .i64 a0_0, .int .i64 a0_1, .int .i64 a0_2] 48 (0, 0)) (by (with_reducible repeat (first | refine blk_drewN ?_ _ | refine blk_drew ?_ | refine blk_alloc ?_ _)); exact BK101.out)) : gb101 ≠ gb102)); have n6_ := Aside0.mk ((by rw [hg]; exact Nat.ne_of_gt (blk_lt (g := gb101) (o := .cells #[.int .i64 a0_0, .int .i64 a0_1, .int .i64 a0_2] 48 (0, 0)) (by (with_reducible repeat (first | refine blk_drewN ?_ _ | refine blk_drew ?_ | refine blk_alloc ?_ _)); exact BK101.out)) : gb102 ≠ gb101)); clear BK101; clear HB; have BK101 := n0_; have HB := n1_; have BK102 := n2_; have GW102 := n3_; have GE102 := n4_; have NB101_102 := n5_; have NB102_101 := n6_; clear n0_ n1_ n2_ n3_ n4_ n5_ n6_; clear hb hbox hg; have hnb11 := NB101_102.out; have hnc11 := NB102_101.out; have hcz12_0 : w10.cell? ⟨gb101, 0, none⟩ = some (.int .i64 a0_0) := (blk_cell BK101.out 0).trans rfl; have hcz12_1 : w10.cell? ⟨gb101, 1, none⟩ = some (.int .i64 a0_1) := (blk_cell BK101.out 1).trans rfl; have hcz12_2 : w10.cell? ⟨gb101, 2, none⟩ = some (.int .i64 a0_2) := (blk_cell BK101.out 2).trans rfl; have hfz12_0 := blk_frozen BK101.out 0; have hfz12_1 := blk_frozen BK101.out 1; have hfz12_2 := blk_frozen BK101.out 2; have hcz13_0 : w10.cell? ⟨gb102, 0, none⟩ = some (.int .i64 a1_0) := (blk_cell BK102.out 0).trans rfl; have hcz13_1 : w10.cell? ⟨gb102, 1, none⟩ = some (.int .i64 a1_1) := (blk_cell BK102.out 1).trans rfl; have hcz13_2 : w10.cell? ⟨gb102, 2, none⟩ = some (.int .i64 a1_2) := (blk_cell BK102.out 2).trans rfl; have hfz13_0 := blk_frozen BK102.out 0; have hfz13_1 := blk_frozen BK102.out 1; have hfz13_2 := blk_frozen BK102.out 2))
    go_ret
    exact ⟨by first | rfl | (simp [errW_none, errW_some] <;> rfl) | (simp [*, errW_none, errW_some] <;> rfl), by repeat (first | (with_reducible first | exact HB.out | apply below_alloc | apply pw_below_drewN | apply below_drew1 | refine below_set ?_ GE101.out | refine below_set ?_ GE102.out) | exact HB.out)⟩

end Go.Proofs.Ytfmhcgjmgaefcad.P

namespace Go.Proofs.Ytfmhcgjmgaefcad.T
/-- the first place at which p holds, from k on; -1 -/
def idxF {α : Type} (p : α → Bool) : List α → Nat → Int
  | [], _ => -1
  | x :: l, i => if p x = true then i else idxF p l (i + 1)
theorem idxF_hit {α : Type} (p : α → Bool) (l : List α) (j : Nat) (x : α) (hx : l[j]? = some x) (hp : p x = true) (hb : ∀ (i : Nat) (y : α), i < j → l[i]? = some y → p y = false) : ∀ k : Nat, idxF p l k = (k + j : Nat) := by
  induction l generalizing j with
  | nil => simp at hx
  | cons z l ih =>
    intro k
    cases j with
    | zero => simp at hx; subst hx; simp [idxF, hp]
    | succ j =>
      have hz := hb 0 z (by omega) rfl
      simp only [idxF, hz]
      rw [if_neg (by simp), ih j (by simpa using hx) (fun i y hi hy => hb (i + 1) y (by omega) (by simpa using hy))]
      omega
theorem idxF_miss {α : Type} (p : α → Bool) (l : List α) (hb : ∀ (i : Nat) (y : α), l[i]? = some y → p y = false) : ∀ k : Nat, idxF p l k = -1 := by
  induction l with
  | nil => intro k; rfl
  | cons z l ih =>
    intro k
    have hz := hb 0 z rfl
    simp only [idxF, hz]
    rw [if_neg (by simp), ih (fun i y hy => hb (i + 1) y (by simpa using hy))]
theorem idxF_nonneg {α : Type} (p : α → Bool) (l : List α) : ∀ k : Nat, 0 ≤ idxF p l k ↔ l.any p = true := by
  induction l with
  | nil => intro k; simp [idxF]
  | cons z l ih =>
    intro k
    have := ih (k + 1)
    simp only [idxF, List.any_cons]
    by_cases h : p z = true
    · rw [if_pos h, h]; simp
    · rw [if_neg h, this, Bool.eq_false_iff.mpr h]; simp
theorem idxF_any {α : Type} (p : α → Bool) (l : List α) (k : Nat) : decide (0 ≤ idxF p l k) = l.any p := by
  by_cases h : l.any p = true
  · rw [h, decide_eq_true ((idxF_nonneg p l k).2 h)]
  · rw [decide_eq_false (fun e => h ((idxF_nonneg p l k).1 e))]; simpa using h
end Go.Proofs.Ytfmhcgjmgaefcad.T

namespace Go.Proofs.Ytfmhcgjmgaefcad.P
open Go.RowKit Go.Proofs.YtfmhcgjmgaefcadW.PrintWords Go.Proofs.YtfmhcgjmgaefcadW.PrintLast Go.Proofs.YtfmhcgjmgaefcadW.PrintMore
attribute [local go_sem] max2_int min2_int max_two min_two max_three min_three max_four min_four
set_option linter.unusedVariables false
set_option linter.unusedSimpArgs false

/-! ### impl_Square_83: function 83 -/
open Go.Proofs.Ytfmhcgjmgaefcad.T in
set_option maxHeartbeats 1000000 in
theorem slices_IndexFunc_sq (l : List S48) (A : Option Addr) (c : Nat) (g : Nat) (lb : Array Value) (p : S48 → Bool) (w : World) (hr : Kd.C k48 w A l.length l) (hlc : l.length ≤ c)
    (eg : ∀ args w, (callFunc g args).run Try.prog w = .ok (.enter g args) w)
    (hp : ∀ W x, Below w.heap.size w W → Calls Try.prog g (#[.agg #[.int .i64 x.f0, .int .i64 x.f1, .int .i64 x.f2]] ++ lb) W fun e w' => e = .returned (.bool (p x)) ∧ Below w.heap.size w w') :
    Calls Try.prog 83 #[.slice A l.length c, .func (.func g) #[] lb] w fun e w' => e = .returned (.int .i64 (idxF p l 0)) ∧ Below w.heap.size w w' := by
  have hlen := hr.2.1
  have HR := Aside0.mk hr
  clear hr
  go_enter Try.func83, Try.ntmps83
  go_wp2
  go_loopg [5, 8] l.length (fun gg v5 v8 wc => ∃ (i : Int), 0 ≤ i ∧ i ≤ (l.length : Int) ∧ (l.length : Int) - i ≤ (gg : Int) ∧ v8 = .int .i64 i ∧ Aside0 (Below w.heap.size w wc) ∧ Aside0 (∀ j y, (j : Nat) < i.toNat → l[j]? = some y → p y = false))
  case atStart => exact ⟨0, by omega, by omega, by omega, rfl, ⟨Below.refl _ _⟩, ⟨fun j y hj => by simp at hj⟩⟩
  case round =>
    obtain ⟨i, h0, h1, hg, rfl, HB, HN⟩ := hrel
    by_cases c4 : i < (l.length : Int)
    · obtain ⟨ad, e1, hx0, hx1, hx2⟩ := at_T48 (Kd.C_below HR.out HB.out) i h0 c4
      cases e1
      have hget : l[i.toNat]? = some (rd_T48 l i) := by
        have : i.toNat < l.length := by omega
        simp [rd_T48, this]
      have HG := Aside0.mk hget
      clear hget
      have HP := Aside0.mk (hp _ (rd_T48 l i) HB.out)
      clear hp
      generalize hxx : rd_T48 l i = x at HG HP hx0 hx1 hx2
      clear hxx
      have c4b : decide (i < (l.length : Int)) = true := decide_eq_true c4
      have h0' := eq_true h0
      cases hb : p x with
      | true =>
        rw [hb] at HP
        go_wp2_with (go_at_fn g; refine HP.out.mono ?_; rintro e w' ⟨rfl, hb'⟩)
        go_ret
        refine ⟨?_, hb'⟩
        rw [idxF_hit p l i.toNat x HG.out hb (fun j y hj hy => HN.out j y hj hy) 0, show ((0 + i.toNat : Nat) : Int) = i by omega]
        rfl
      | false =>
        rw [hb] at HP
        go_wp2_with (go_at_fn g; refine HP.out.mono ?_; rintro e w' ⟨rfl, hb'⟩)
        go_roundg (l.length - (i.toNat + 1))
        case measure => omega
        case rel =>
          refine ⟨i + 1, by omega, by omega, by omega, rfl, ⟨hb'⟩, ⟨fun j y hj hy => ?_⟩⟩
          by_cases e : j = i.toNat
          · subst e
            have := HG.out
            rw [this] at hy; cases hy; exact hb
          · exact HN.out j y (by omega) hy
    · have c4b : decide (i < (l.length : Int)) = false := decide_eq_false c4
      go_wp2
      go_ret
      refine ⟨?_, HB.out⟩
      rw [idxF_miss p l (fun j y hy => HN.out j y (by have := (List.getElem?_eq_some_iff.1 hy).1; omega) hy) 0]
      rfl

end Go.Proofs.Ytfmhcgjmgaefcad.P

namespace Go.Proofs.Ytfmhcgjmgaefcad.P
open Go.RowKit Go.Proofs.YtfmhcgjmgaefcadW.PrintWords Go.Proofs.YtfmhcgjmgaefcadW.PrintLast Go.Proofs.YtfmhcgjmgaefcadW.PrintMore
attribute [local go_sem] max2_int min2_int max_two min_two max_three min_three max_four min_four
set_option linter.unusedVariables false
set_option linter.unusedSimpArgs false

/-! ### impl_Square_69: function 69 -/
open Go.Proofs.Ytfmhcgjmgaefcad.T in
theorem slices_ContainsFunc_sq (l : List S48) (A : Option Addr) (c : Nat) (g : Nat) (lb : Array Value) (p : S48 → Bool) (w : World) (hr : Kd.C k48 w A l.length l) (hlc : l.length ≤ c)
    (eg : ∀ args w, (callFunc g args).run Try.prog w = .ok (.enter g args) w)
    (hp : ∀ W x, Below w.heap.size w W → Calls Try.prog g (#[.agg #[.int .i64 x.f0, .int .i64 x.f1, .int .i64 x.f2]] ++ lb) W fun e w' => e = .returned (.bool (p x)) ∧ Below w.heap.size w w') :
    Calls Try.prog 69 #[.slice A l.length c, .func (.func g) #[] lb] w fun e w' => e = .returned (.bool (l.any p)) ∧ Below w.heap.size w w' := by
  rw [← idxF_any p l 0]
  have HC := Aside0.mk (slices_IndexFunc_sq l A c g lb p w hr hlc eg hp)
  clear hr hp
  go_enter Try.func69, Try.ntmps69
  go_wp2_with (go_at_call 83; refine HC.out.mono ?_; rintro e w' ⟨rfl, hb'⟩)
  go_ret
  exact ⟨rfl, hb'⟩

end Go.Proofs.Ytfmhcgjmgaefcad.P
