import Derived.Test.YtfmhcgjmgaefcacMFnExactFirstFewestx0
import Derived.Test.YtfmhcgjmgaefcacMFnExactFirstFewestx1
import Derived.Test.YtfmhcgjmgaefcacMFnExactFirstFewestx2
import Derived.Test.YtfmhcgjmgaefcacMFnExactFirstFewestx3
import Derived.Test.YtfmhcgjmgaefcacMFnExactFirstFewestx4
namespace Go.Proofs.Ytfmhcgjmgaefcac.Pure
set_option linter.unusedVariables false
set_option linter.unusedSimpArgs false
open Go.RowKit Go.Proofs.Ytfmhcgjmgaefcac.P Go.Proofs.YtfmhcgjmgaefcacW.PrintWords Go.Proofs.YtfmhcgjmgaefcacW.PrintLast Go.Proofs.YtfmhcgjmgaefcacW.PrintMore Go.Proofs.Ytfmhcgjmgaefcac.Aid Go.Proofs.Ytfmhcgjmgaefcac.T
theorem rdq (l : List Sq) (i : Nat) : rd_T60 l (i : Int) = nq l i := by unfold rd_T60 nq; rw [Int.toNat_natCast]; rfl
theorem apart_ovl (a b : Sq) (ha : inBox 500 500 a) (hb : inBox 500 500 b) : ovl a b = false ↔ Apart a b := by
  unfold inBox at ha hb
  unfold ovl Apart
  rw [w64 (by omega) (by omega), w64 (by omega) (by omega), w64 (by omega) (by omega), w64 (by omega) (by omega), Bool.eq_false_iff]
  simp only [ne_eq, Bool.and_eq_true, decide_eq_true_eq]
  constructor <;> intro h h' <;> exact h (by omega)
theorem inBox_mono {W H W' H' : Int} {q : Sq} (h : inBox W H q) (hw : W ≤ W') (hh : H ≤ H') : inBox W' H' q := by unfold inBox at *; omega
theorem lt_cmpP (a b : Sq) (ha : inBox 500 500 a) (hb : inBox 500 500 b) : cmpP a b < 0 ↔ Lt a b := by
  unfold inBox at ha hb
  unfold cmpP Lt
  split
  · rw [w64 (by omega) (by omega)]; omega
  · rw [w64 (by omega) (by omega)]; omega
/-- the program's tests of square i: where all elder ones are in the box -/
theorem okAt_iff (W H : Int) (l : List Sq) (hW : 1 ≤ W ∧ W ≤ 500) (hH : 1 ≤ H ∧ H ≤ 500) (i : Nat) (hi : i < l.length) (hold : ∀ j, j < i → inBox W H (nq l j)) : okAt W H l i = true ↔ OkS W H l i := by
  unfold okAt OkS
  simp only [rdq, Bool.and_eq_true, Bool.not_eq_true']
  have hbox : (ok1 W H (nq l i) = true ∧ ok2 W (nq l i) = true ∧ ok3 H (nq l i) = true) ↔ inBox W H (nq l i) := by
    unfold ok1 ok2 ok3 inBox
    simp only [Bool.and_eq_true, decide_eq_true_eq, mn_min]
    constructor
    · rintro ⟨⟨h1, h2⟩, ⟨h3, h4⟩, h5, h6⟩
      rw [w64 (by omega) (by omega)] at h4 h6
      omega
    · intro h
      rw [w64 (by omega) (by omega), w64 (by omega) (by omega)]
      omega
  have big : ∀ {q : Sq}, inBox W H q → inBox 500 500 q := fun h => inBox_mono h hW.2 hH.2
  constructor
  · rintro ⟨⟨⟨⟨h1, h2⟩, h3⟩, h4⟩, h5⟩
    have hb := hbox.1 ⟨h1, h2, h3⟩
    refine ⟨hb, fun j hj => ⟨?_, fun e => ?_⟩⟩
    · rw [List.any_eq_false] at h5
      have := h5 (nq l j) (by rw [← nq_take l i j hj]; exact nq_mem _ _ (by simp; omega))
      exact (apart_ovl _ _ (big hb) (big (hold j hj))).1 (Bool.eq_false_iff.2 this)
    · unfold ok4 at h4
      subst e
      rw [Bool.or_eq_true, decide_eq_true_eq, decide_eq_true_eq] at h4
      rcases h4 with h4 | h4
      · cases h4
      · rw [show j + 1 - 1 = j by omega, rdq] at h4
        exact (lt_cmpP _ _ (big (hold j hj)) (big hb)).1 h4
  · rintro ⟨hb, hs⟩
    obtain ⟨h1, h2, h3⟩ := hbox.2 hb
    refine ⟨⟨⟨⟨h1, h2⟩, h3⟩, ?_⟩, ?_⟩
    · unfold ok4
      rw [Bool.or_eq_true, decide_eq_true_eq, decide_eq_true_eq]
      rcases Nat.eq_zero_or_pos i with h0 | h0
      · exact .inl h0
      · refine .inr ?_
        rw [rdq]
        exact (lt_cmpP _ _ (big (hold _ (by omega))) (big hb)).2 ((hs (i - 1) (by omega)).2 (by omega))
    · rw [List.any_eq_false]
      intro q hq
      obtain ⟨j, hj, rfl⟩ := List.getElem_of_mem hq
      rw [List.length_take] at hj
      rw [← nq_get, nq_take l i j (by omega)]
      rw [Bool.not_eq_true]
      exact (apart_ovl _ _ (big hb) (big (hold j (by omega)))).2 (hs j (by omega)).1
theorem okAt_all (W H : Int) (l : List Sq) (hW : 1 ≤ W ∧ W ≤ 500) (hH : 1 ≤ H ∧ H ≤ 500) : (∀ i, i < l.length → okAt W H l i = true) ↔ ∀ i, i < l.length → OkS W H l i := by
  constructor
  · intro h i
    induction i using Nat.strongRecOn with
    | _ i ih => exact fun hi => (okAt_iff W H l hW hH i hi (fun j hj => (ih j hj (by omega)).1)).1 (h i hi)
  · intro h i hi
    exact (okAt_iff W H l hW hH i hi (fun j hj => (h j (by omega)).1)).2 (h i hi)
theorem areaW_area (l : List Sq) : ∀ n, n ≤ l.length → l.length ≤ 30 → (∀ i, i < n → 0 ≤ (nq l i).f2 ∧ (nq l i).f2 ≤ 500) → areaW (l.take n) 0 = area (l.take n)
  | 0, _, _, _ => by simp [areaW, area]
  | n + 1, hn, hl, hb => by
    have ih := areaW_area l n (by omega) hl (fun i hi => hb i (by omega))
    have hq := sq_le (hb n (by omega)).1 (hb n (by omega)).2
    have ha := area_bd l 500 n (by omega) (fun i hi => hb i (by omega))
    rw [area_take l n (by omega), List.take_succ_eq_append_getElem (by omega), areaW_snoc, ih, ← nq_get l n (by omega), w64 (e := (nq l n).f2 * (nq l n).f2) (by omega) (by omega), w64 (by omega) (by omega)]
theorem isCutB_good (W H : Int) (l : List Sq) : isCutB W H l = goodB W H l := by
  rw [Bool.eq_iff_iff, goodB_iff, good_iff]
  unfold isCutB
  simp only [Bool.and_eq_true, decide_eq_true_eq, List.all_eq_true, List.mem_range, and_assoc]
  constructor
  · rintro ⟨h1, h2, h3, h4, h5, h6, h7⟩
    have hs := (okAt_all W H l ⟨h1, h2⟩ ⟨h3, h4⟩).1 h6
    refine ⟨h1, h2, h3, h4, h5, hs, ?_⟩
    have hb : ∀ i, i < l.length → 0 ≤ (nq l i).f2 ∧ (nq l i).f2 ≤ 500 := fun i hi => by have := (hs i hi).1; unfold inBox at this; omega
    have ha := areaW_area l l.length (Nat.le_refl _) h5 hb
    rw [List.take_length] at ha
    have hp : 0 ≤ W * H ∧ W * H ≤ 500 * 500 := ⟨Int.mul_nonneg (by omega) (by omega), Int.mul_le_mul h2 h4 (by omega) (by omega)⟩
    rw [ha, w64 (by omega) (by omega)] at h7
    exact h7
  · rintro ⟨h1, h2, h3, h4, h5, hs, h7⟩
    refine ⟨h1, h2, h3, h4, h5, (okAt_all W H l ⟨h1, h2⟩ ⟨h3, h4⟩).2 hs, ?_⟩
    have hb : ∀ i, i < l.length → 0 ≤ (nq l i).f2 ∧ (nq l i).f2 ≤ 500 := fun i hi => by have := (hs i hi).1; unfold inBox at this; omega
    have ha := areaW_area l l.length (Nat.le_refl _) h5 hb
    rw [List.take_length] at ha
    have hp : 0 ≤ W * H ∧ W * H ≤ 500 * 500 := ⟨Int.mul_nonneg (by omega) (by omega), Int.mul_le_mul h2 h4 (by omega) (by omega)⟩
    rw [ha, w64 (by omega) (by omega)]
    exact h7
theorem isCut_f (W H : Int) (l : List Sq) : impl_IsCut.f W H l = some (goodB W H l) := by unfold impl_IsCut.f; rw [isCutB_good]

def PairOk (l : List Sq) (i j : Nat) : Prop := Apart (nq l i) (nq l j) ∧ (j + 1 = i → Lt (nq l j) (nq l i))
theorem cuLess_f (a b : Sq) : spec_cuLess.f a.f0 a.f1 a.f2 b.f0 b.f1 b.f2 = some (decide (a.f1 < b.f1) || (decide (a.f1 = b.f1) && decide (a.f0 < b.f0))) := by
  unfold spec_cuLess.f
  by_cases c1 : a.f1 < b.f1
  · simp [c1]
  · by_cases c2 : a.f1 = b.f1 <;> simp [c1, c2]
theorem lt_less (a b : Sq) : (decide (a.f1 < b.f1) || (decide (a.f1 = b.f1) && decide (a.f0 < b.f0))) = true ↔ Lt a b := by
  unfold Lt; simp
section
variable (W H : Int) (l : List Sq)
theorem good_l1_step (a : Int) (i m : Nat) (hm : m < i) (hi : i < l.length) {r : Bool}
    (h : Ev (fun k => spec_cuGood.j4 k a i m l l.length i (l.take i) i m (ovl (nq l i) (nq l m)) W H l (nq l i).f0 (nq l i).f1 (nq l i).f2 (nq l m).f0 (nq l m).f1 (nq l m).f2) r) :
    Ev (fun k => spec_cuGood.l1 k a i l l.length i (l.take i) i m W H l (nq l i).f0 (nq l i).f1 (nq l i).f2) r := by
  have e : rd_T60 (l.take i) (m : Int) = nq l m := by rw [rdq, nq_take l i m hm]
  refine Ev.step (fun _ => spec_cuGood.l1.eq_2 ..) (ev_pos (by omega) (ev_pos (by omega) (ev_pos (by simp; omega) ?_)))
  simp only [e]
  unfold ovl at h
  by_cases c1 : (nq l i).f0 < wrap64 ((nq l m).f0 + (nq l m).f2)
  · refine ev_pos c1 ?_
    by_cases c2 : (nq l m).f0 < wrap64 ((nq l i).f0 + (nq l i).f2)
    · refine ev_pos c2 ?_
      by_cases c3 : (nq l i).f1 < wrap64 ((nq l m).f1 + (nq l m).f2)
      · refine ev_pos c3 ?_
        simpa [c1, c2, c3] using h
      · refine ev_neg c3 ?_
        simpa [c1, c2, c3] using h
    · refine ev_neg c2 ?_
      simpa [c1, c2] using h
  · refine ev_neg c1 ?_
    simpa [c1] using h
theorem good_pass (hl : l.length ≤ 30) (a : Int) (i : Nat) (hi : i < l.length) (hb : ∀ j, j ≤ i → inBox 500 500 (nq l j)) {r : Bool} (h : Ev (fun k => spec_cuGood.l0 k a l l.length (i + 1 : Nat) W H l) r) :
    ∀ (d m : Nat), m + d = i → (∀ j, m ≤ j → j < i → PairOk l i j) → Ev (fun k => spec_cuGood.l1 k a i l l.length i (l.take i) i m W H l (nq l i).f0 (nq l i).f1 (nq l i).f2) r
  | 0, m, hd, hp => by
    refine Ev.step (fun _ => spec_cuGood.l1.eq_2 ..) (ev_neg (by omega) ?_)
    rw [w64 (by omega) (by omega)]
    exact h
  | d + 1, m, hd, hp => by
    have ih := good_pass hl a i hi hb h d (m + 1) (by omega) (fun j h1 h2 => hp j (by omega) h2)
    obtain ⟨p1, p2⟩ := hp m (Nat.le_refl _) (by omega)
    refine good_l1_step W H l a i m (by omega) hi ?_
    rw [(apart_ovl _ _ (hb i (Nat.le_refl _)) (hb m (by omega))).2 p1]
    refine Ev.step (fun _ => spec_cuGood.j4.eq_2 ..) (ev_neg (by simp) ?_)
    rw [w64 (by omega) (by omega), w64 (by omega) (by omega)]
    by_cases c : m + 1 = i
    · refine ev_pos (by omega) (ev_call (cuLess_f (nq l m) (nq l i)) (ev_pos ((lt_less _ _).2 (p2 c)) ?_))
      exact ih
    · exact ev_neg (by omega) ih
theorem good_fail (hl : l.length ≤ 30) (a : Int) (i : Nat) (hi : i < l.length) (hb : ∀ j, j ≤ i → inBox 500 500 (nq l j)) :
    ∀ (d m : Nat), m + d = i → (∃ j, m ≤ j ∧ j < i ∧ ¬ PairOk l i j) → Ev (fun k => spec_cuGood.l1 k a i l l.length i (l.take i) i m W H l (nq l i).f0 (nq l i).f1 (nq l i).f2) false
  | 0, m, hd, hp => by obtain ⟨j, h1, h2, _⟩ := hp; omega
  | d + 1, m, hd, hp => by
    refine good_l1_step W H l a i m (by omega) hi ?_
    by_cases p1 : Apart (nq l i) (nq l m)
    · rw [(apart_ovl _ _ (hb i (Nat.le_refl _)) (hb m (by omega))).2 p1]
      refine Ev.step (fun _ => spec_cuGood.j4.eq_2 ..) (ev_neg (by simp) ?_)
      rw [w64 (by omega) (by omega), w64 (by omega) (by omega)]
      by_cases c : m + 1 = i
      · by_cases p2 : Lt (nq l m) (nq l i)
        · exfalso
          obtain ⟨j, h1, h2, h3⟩ := hp
          have : j = m := by omega
          subst this
          exact h3 ⟨p1, fun _ => p2⟩
        · refine ev_pos (by omega) (ev_call (cuLess_f (nq l m) (nq l i)) (ev_neg (fun h => p2 ((lt_less _ _).1 h)) (ev_some rfl)))
      · refine ev_neg (by omega) (good_fail hl a i hi hb d (m + 1) (by omega) ?_)
        obtain ⟨j, h1, h2, h3⟩ := hp
        refine ⟨j, ?_, h2, h3⟩
        rcases Nat.lt_or_ge m j with h | h
        · omega
        · have : j = m := by omega
          subst this
          exact absurd ⟨p1, fun h => absurd h c⟩ h3
    · have : ovl (nq l i) (nq l m) = true := by
        rw [← Bool.not_eq_false]
        intro h
        exact p1 ((apart_ovl _ _ (hb i (Nat.le_refl _)) (hb m (by omega))).1 h)
      rw [this]
      exact Ev.step (fun _ => spec_cuGood.j4.eq_2 ..) (ev_pos rfl (ev_some rfl))
/-- one round of the outer loop: its tests of the square itself -/
theorem good_round (a : Int) (i : Nat) (hi : i < l.length) (hW : 1 ≤ W ∧ W ≤ 500) (hH : 1 ≤ H ∧ H ≤ 500) {r : Bool}
    (h : inBox W H (nq l i) → Ev (fun k => spec_cuGood.l1 k (wrap64 (a + wrap64 ((nq l i).f2 * (nq l i).f2))) i l l.length i (l.take i) i (0 : Nat) W H l (nq l i).f0 (nq l i).f1 (nq l i).f2) r) (hf : ¬ inBox W H (nq l i) → r = false) :
    Ev (fun k => spec_cuGood.l0 k a l l.length i W H l) r := by
  refine Ev.step (fun _ => spec_cuGood.l0.eq_2 ..) (ev_pos (by omega) (ev_pos (by omega) (ev_pos (by omega) ?_)))
  simp only [rdq]
  refine ev_call (l1In_f _ _ _) ?_
  by_cases c1 : inR (nq l i).f2 1 500 = true
  · refine ev_pos c1 (ev_call (l1In_f _ _ _) ?_)
    rw [inR_iff] at c1
    rw [w64 (by omega) (by omega)]
    by_cases c2 : inR (nq l i).f0 0 (W - (nq l i).f2) = true
    · refine ev_pos c2 ?_
      rw [w64 (by omega) (by omega)]
      refine ev_call (l1In_f _ _ _) ?_
      rw [inR_iff] at c2
      by_cases c3 : inR (nq l i).f1 0 (H - (nq l i).f2) = true
      · rw [c3]
        rw [inR_iff] at c3
        refine Ev.step (fun _ => spec_cuGood.j2.eq_2 ..) (ev_neg (by simp) (ev_pos (by omega) (ev_pos (by omega) ?_)))
        refine ev_call rfl ?_
        simp only [Int.toNat_natCast]
        have := h (by unfold inBox; omega)
        simpa [Nat.min_eq_left (Nat.le_of_lt hi)] using this
      · have : r = false := hf (fun hb => c3 (inR_iff.2 (by unfold inBox at hb; omega)))
        subst this
        rw [Bool.not_eq_true] at c3
        rw [c3]
        exact Ev.step (fun _ => spec_cuGood.j2.eq_2 ..) (ev_pos rfl (ev_some rfl))
    · have : r = false := hf (fun hb => c2 (inR_iff.2 (by unfold inBox at hb; omega)))
      subst this
      exact ev_neg c2 (Ev.step (fun _ => spec_cuGood.j2.eq_2 ..) (ev_pos rfl (ev_some rfl)))
  · have : r = false := hf (fun hb => c1 (inR_iff.2 (by unfold inBox at hb; omega)))
    subst this
    exact ev_neg c1 (Ev.step (fun _ => spec_cuGood.j2.eq_2 ..) (ev_pos rfl (ev_some rfl)))
theorem good_l0 (hl : l.length ≤ 30) (hW : 1 ≤ W ∧ W ≤ 500) (hH : 1 ≤ H ∧ H ≤ 500) : ∀ (d i : Nat), i + d = l.length → (∀ j, j < i → OkS W H l j) → Ev (fun k => spec_cuGood.l0 k (area (l.take i)) l l.length i W H l) (goodB W H l)
  | 0, i, hd, hs => by
    refine Ev.step (fun _ => spec_cuGood.l0.eq_2 ..) (ev_neg (by omega) (ev_some ?_))
    have hp : 0 ≤ W * H ∧ W * H ≤ 500 * 500 := ⟨Int.mul_nonneg (by omega) (by omega), Int.mul_le_mul hW.2 hH.2 (by omega) (by omega)⟩
    rw [w64 (by omega) (by omega), show i = l.length by omega, List.take_length, Bool.eq_iff_iff, goodB_iff, good_iff, beq_iff_eq]
    exact ⟨fun h => ⟨hW, hH, hl, fun j hj => hs j (by omega), h⟩, fun h => h.2.2.2.2⟩
  | d + 1, i, hd, hs => by
    have hnot : ¬ OkS W H l i → goodB W H l = false := fun h => by
      rw [Bool.eq_false_iff]
      intro hg
      rw [goodB_iff, good_iff] at hg
      exact h (hg.2.2.2.1 i (by omega))
    refine good_round W H l _ i (by omega) hW hH (fun hb => ?_) (fun hb => hnot (fun h => hb h.1))
    have hbb : ∀ j, j ≤ i → inBox 500 500 (nq l j) := fun j hj => by
      rcases Nat.lt_or_ge j i with h | h
      · exact inBox_mono (hs j h).1 hW.2 hH.2
      · rw [show j = i by omega]; exact inBox_mono hb hW.2 hH.2
    have ha := area_bd l 500 i (by omega) (fun j hj => by have := hbb j (by omega); unfold inBox at this; omega)
    have hq := hbb i (Nat.le_refl _)
    unfold inBox at hq
    have hsq := sq_le (a := (nq l i).f2) (m := 500) (by omega) (by omega)
    rw [w64 (e := (nq l i).f2 * (nq l i).f2) (by omega) (by omega), w64 (by omega) (by omega), ← area_take l i (by omega)]
    by_cases c : ∃ j, 0 ≤ j ∧ j < i ∧ ¬ PairOk l i j
    · rw [hnot (fun h => by obtain ⟨j, _, h2, h3⟩ := c; exact h3 (h.2 j h2))]
      exact good_fail W H l hl _ i (by omega) hbb i 0 (by omega) c
    · have hp : ∀ j, j < i → PairOk l i j := fun j hj => Classical.byContradiction fun h => c ⟨j, by omega, hj, h⟩
      refine good_pass W H l hl _ i (by omega) hbb ?_ i 0 (by omega) (fun j _ h => hp j h)
      exact good_l0 hl hW hH d (i + 1) (by omega) (fun j hj => by
        rcases Nat.lt_or_ge j i with h | h
        · exact hs j h
        · rw [show j = i by omega]; exact ⟨hb, hp⟩)
end
theorem cuGood_ev (W H : Int) (l : List Sq) (hlen : l.length ≤ 9223372036854775807) : Ev (fun k => spec_cuGood.f k W H l) (goodB W H l) := by
  have bad : ¬ ((1 ≤ W ∧ W ≤ 500) ∧ (1 ≤ H ∧ H ≤ 500) ∧ (1 ≤ l.length ∧ l.length ≤ 30)) → goodB W H l = false := fun h => by
    rw [Bool.eq_false_iff]
    intro hg
    rw [goodB_iff] at hg
    exact h ⟨hg.w, hg.h, hg.pos, hg.len⟩
  refine ev_call (l1In_f _ _ _) ?_
  by_cases c1 : inR W 1 500 = true
  · refine ev_pos c1 (ev_call (l1In_f _ _ _) ?_)
    by_cases c2 : inR H 1 500 = true
    · refine ev_pos c2 (ev_call (l1In_f _ _ _) ?_)
      rw [inR_iff] at c1 c2
      by_cases c3 : inR (l.length : Int) 1 30 = true
      · rw [c3]
        rw [inR_iff] at c3
        refine Ev.step (fun _ => spec_cuGood.j0.eq_2 ..) (ev_neg (by simp) ?_)
        have := good_l0 W H l (by omega) c1 c2 l.length 0 (by omega) (fun j hj => by omega)
        simpa [area] using this
      · have e := bad (fun h => c3 (inR_iff.2 (by omega)))
        rw [Bool.not_eq_true] at c3
        rw [c3, e]
        exact Ev.step (fun _ => spec_cuGood.j0.eq_2 ..) (ev_pos rfl (ev_some rfl))
    · rw [bad (fun h => c2 (inR_iff.2 h.2.1))]
      exact ev_neg c2 (Ev.step (fun _ => spec_cuGood.j0.eq_2 ..) (ev_pos rfl (ev_some rfl)))
  · rw [bad (fun h => c1 (inR_iff.2 h.1))]
    exact ev_neg c1 (Ev.step (fun _ => spec_cuGood.j0.eq_2 ..) (ev_pos rfl (ev_some rfl)))
end Go.Proofs.Ytfmhcgjmgaefcac.Pure

namespace Go.Proofs.Ytfmhcgjmgaefcac.Pure
set_option linter.unusedVariables false
set_option linter.unusedSimpArgs false
open Go.RowKit Go.Proofs.Ytfmhcgjmgaefcac.P Go.Proofs.YtfmhcgjmgaefcacW.PrintWords Go.Proofs.YtfmhcgjmgaefcacW.PrintLast Go.Proofs.YtfmhcgjmgaefcacW.PrintMore Go.Proofs.Ytfmhcgjmgaefcac.Aid Go.Proofs.Ytfmhcgjmgaefcac.T
theorem rdqL (l : List Sq) (i : Nat) : rd_T63 l (i : Int) = nq l i := by unfold rd_T63 nq; rw [Int.toNat_natCast]; rfl
theorem toSquareS_l (l : List Sq) (hl : l.length ≤ 9223372036854775807) : ∀ (d i : Nat), i + d = l.length → Ev (fun k => laws_toSquareS.l0 k l (l.take i ++ List.replicate d ⟨0, 0, 0⟩) i) l
  | 0, i, hd => Ev.step (fun _ => laws_toSquareS.l0.eq_2 ..) (ev_neg (by omega) (ev_some (by rw [show i = l.length by omega]; simp)))
  | d + 1, i, hd => Ev.step (fun _ => laws_toSquareS.l0.eq_2 ..) (ev_pos (by omega) (ev_pos (by omega) (by
      simp only [rdqL]
      refine ev_call rfl (ev_pos (by simp; omega) ?_)
      rw [w64 (by omega) (by omega)]
      have := toSquareS_l l hl d (i + 1) (by omega)
      rw [show ((i : Int) + 1) = ((i + 1 : Nat) : Int) by omega]
      have e : (l.take i ++ List.replicate (d + 1) (⟨0, 0, 0⟩ : Sq)).set (i : Int).toNat (nq l i) = l.take (i + 1) ++ List.replicate d ⟨0, 0, 0⟩ := by
        have hi : i < l.length := by omega
        simp only [Int.toNat_natCast]
        rw [List.set_append_right _ _ (by simp; omega), List.length_take, show i - min i l.length = 0 by omega, List.replicate_succ, List.set_cons_zero, List.take_succ_eq_append_getElem hi, nq_get l i hi, List.append_assoc]
        rfl
      show Ev (fun n => laws_toSquareS.l0 n l ((l.take i ++ List.replicate (d + 1) (⟨0, 0, 0⟩ : Sq)).set (i : Int).toNat (nq l i)) _) l
      rw [e]
      exact this)))
theorem toSquareS_ev (l : List Sq) (hl : l.length ≤ 1048576) : Ev (fun k => laws_toSquareS.f k l) l := by
  have := toSquareS_l l (by omega) l.length 0 (by omega)
  refine ev_pos (by omega) (ev_pos (by simp; omega) ?_)
  simp only [List.take_zero, List.nil_append] at this
  exact this
theorem toCut_ev (a b : Int) (l : List Sq) (hl : l.length ≤ 1048576) : Ev (fun k => laws_toCut.f k a b l) (a, b, l) := ev_bind (toSquareS_ev l hl) (ev_some rfl)
theorem eqSquareS_refl_l (l : List Sq) (hl : l.length ≤ 9223372036854775807) : ∀ (d i : Nat), i + d = l.length → Ev (fun k => laws_eqSquareS.l0 k l l i) true
  | 0, i, hd => Ev.step (fun _ => laws_eqSquareS.l0.eq_2 ..) (ev_neg (by omega) (ev_some rfl))
  | d + 1, i, hd => Ev.step (fun _ => laws_eqSquareS.l0.eq_2 ..) (ev_pos (by omega) (ev_pos (by omega) (ev_pos (by omega) (by
      refine ev_call (a := true) (by unfold laws_eqSquare.f; simp) (ev_pos rfl ?_)
      rw [w64 (by omega) (by omega)]
      exact eqSquareS_refl_l l hl d (i + 1) (by omega)))))
theorem eqSquareS_refl (l : List Sq) (hl : l.length ≤ 9223372036854775807) : Ev (fun k => laws_eqSquareS.f k l l) true := ev_pos rfl (eqSquareS_refl_l l hl l.length 0 (by omega))
theorem eqCut_refl (a b : Int) (l : List Sq) (hl : l.length ≤ 9223372036854775807) : Ev (fun k => laws_eqCut.f k a b l a b l) true :=
  ev_pos rfl (ev_pos rfl (ev_bind (eqSquareS_refl l hl) (ev_pos rfl (ev_some rfl))))
theorem szCut_f (a b : Int) (l : List Sq) (x : Int) (h0 : 0 ≤ x) (h1 : x ≤ 1048576) (hl : l.length ≤ 9223372036854775807) : laws_szCut.f a b l x = some (if x < l.length then -1 else x - l.length) := by
  unfold laws_szCut.f laws_szSquareS.f
  rw [w64 (by omega) (by omega)]
  by_cases c : x < l.length
  · rw [if_pos (show x - (l.length : Int) < 0 by omega), if_pos c]; rfl
  · rw [if_neg (show ¬ x - (l.length : Int) < 0 by omega), if_neg c]
    simp only [Option.bind_some]
    rw [if_neg (by omega)]
end Go.Proofs.Ytfmhcgjmgaefcac.Pure

namespace Go.Proofs.Ytfmhcgjmgaefcac.Pure
set_option linter.unusedVariables false
set_option linter.unusedSimpArgs false
open Go.RowKit Go.Proofs.Ytfmhcgjmgaefcac.P Go.Proofs.YtfmhcgjmgaefcacW.PrintWords Go.Proofs.YtfmhcgjmgaefcacW.PrintLast Go.Proofs.YtfmhcgjmgaefcacW.PrintMore Go.Proofs.Ytfmhcgjmgaefcac.Aid Go.Proofs.Ytfmhcgjmgaefcac.T
/-- the marks from m on -/
def mkS (m : Int) : Nat → List Sq
  | 0 => []
  | n + 1 => ⟨m, m + 1, m + 2⟩ :: mkS (m + 3) n
theorem mkS_length : ∀ (n : Nat) (m : Int), (mkS m n).length = n
  | 0, m => rfl
  | n + 1, m => by simp only [mkS, List.length_cons, mkS_length n]
theorem set_at (pre : List Sq) (q x : Sq) (rest : List Sq) : (pre ++ q :: rest).set pre.length x = pre ++ x :: rest := by
  rw [List.set_append_right _ _ (Nat.le_refl _), Nat.sub_self, List.set_cons_zero]
theorem nq_at (pre : List Sq) (q : Sq) (rest : List Sq) : nq (pre ++ q :: rest) pre.length = q := by
  unfold nq
  rw [List.getD_eq_getElem?_getD, List.getElem?_append_right (Nat.le_refl _), Nat.sub_self]
  rfl
theorem markE_l : ∀ (rest pre : List Sq) (m : Int), (pre ++ rest).length ≤ 1048576 → 0 ≤ m → m + 3 * (rest.length : Int) ≤ 100000000 → Ev (fun k => laws_markSquareS.l0 k (pre ++ rest) m pre.length) (m + 3 * (rest.length : Int), pre ++ mkS m rest.length)
  | [], pre, m, hl, h0, hm => Ev.step (fun _ => laws_markSquareS.l0.eq_2 ..) (ev_neg (by simp) (ev_some (by simp [mkS])))
  | q :: rest, pre, m, hl, h0, hm => by
    simp only [List.length_append, List.length_cons] at hl hm
    have ih := markE_l rest (pre ++ [⟨m, m + 1, m + 2⟩]) (m + 3) (by simp; omega) (by omega) (by omega)
    refine Ev.step (fun _ => laws_markSquareS.l0.eq_2 ..) (ev_pos (by simp; omega) (ev_pos (by omega) ?_))
    simp only [Option.bind_some, Int.toNat_natCast, rdq, nq_at, set_at]
    rw [w64 (e := m + 1) (by omega) (by omega), w64 (e := m + 1 + 1) (by omega) (by omega), w64 (e := m + 1 + 1 + 1) (by omega) (by omega), w64 (e := (pre.length : Int) + 1) (by omega) (by omega)]
    rw [List.append_assoc] at ih
    simp only [List.singleton_append, List.length_append, List.length_cons, List.length_nil, Nat.zero_add] at ih
    rw [show m + 1 + 1 + 1 = m + 3 by omega, show m + 1 + 1 = m + 2 by omega, show (pre.length : Int) + 1 = ((pre.length + 1 : Nat) : Int) by omega]
    rw [List.append_assoc] at ih
    simp only [List.singleton_append] at ih
    simp only [List.length_cons, mkS]
    rw [show m + 3 * ((rest.length + 1 : Nat) : Int) = m + 3 + 3 * (rest.length : Int) by omega]
    exact ih
theorem markE (a b : Int) (l : List Sq) (m : Int) (hl : l.length ≤ 1048576) (h0 : 0 ≤ m) (hm : m + 3 * (l.length : Int) ≤ 100000000) : Ev (fun k => laws_markCut.f k a b l m) (m + 3 * (l.length : Int), mkS m l.length) := by
  have := markE_l l [] m (by simpa using hl) h0 hm
  simp only [List.nil_append] at this
  exact ev_bind (a := (m + 3 * (l.length : Int), mkS m l.length)) this (ev_some rfl)
theorem heldE_l : ∀ (n : Nat) (pre : List Sq) (m : Int), pre.length + n ≤ 1048576 → 0 ≤ m → m + 3 * (n : Int) ≤ 100000000 → Ev (fun k => laws_heldSquareS.l0 k (pre ++ mkS m n) m pre.length) (m + 3 * (n : Int))
  | 0, pre, m, hl, h0, hm => Ev.step (fun _ => laws_heldSquareS.l0.eq_2 ..) (ev_neg (by simp [mkS]) (ev_some (by simp)))
  | n + 1, pre, m, hl, h0, hm => by
    have ih := heldE_l n (pre ++ [⟨m, m + 1, m + 2⟩]) (m + 3) (by simp; omega) (by omega) (by omega)
    refine Ev.step (fun _ => laws_heldSquareS.l0.eq_2 ..) (ev_pos (by simp [mkS, mkS_length]; omega) (ev_pos (by omega) ?_))
    simp only [mkS, rdq, nq_at]
    rw [w64 (e := m + 1) (by omega) (by omega), w64 (e := m + 1 + 1) (by omega) (by omega), w64 (e := m + 1 + 1 + 1) (by omega) (by omega), w64 (e := (pre.length : Int) + 1) (by omega) (by omega)]
    refine ev_pos (by first | rfl | trivial) (ev_pos (by first | rfl | trivial) (ev_pos (by first | omega | trivial) ?_))
    rw [List.append_assoc] at ih
    simp only [List.singleton_append, List.length_append, List.length_cons, List.length_nil, Nat.zero_add] at ih
    rw [show m + 1 + 1 + 1 = m + 3 by omega, show (pre.length : Int) + 1 = ((pre.length + 1 : Nat) : Int) by omega, show m + 3 * ((n + 1 : Nat) : Int) = m + 3 + 3 * (n : Int) by omega]
    exact ih
theorem heldE (a b : Int) (n : Nat) (m : Int) (hl : n ≤ 1048576) (h0 : 0 ≤ m) (hm : m + 3 * (n : Int) ≤ 100000000) : Ev (fun k => laws_heldCut.f k a b (mkS m n) m) (m + 3 * (n : Int)) := by
  have := heldE_l n [] m (by simpa using hl) h0 hm
  simp only [List.nil_append] at this
  exact ev_bind (a := m + 3 * (n : Int)) this (ev_neg (by omega) (ev_some rfl))
end Go.Proofs.Ytfmhcgjmgaefcac.Pure

namespace Go.Proofs.Ytfmhcgjmgaefcac.Pure
set_option linter.unusedVariables false
set_option linter.unusedSimpArgs false
open Go.RowKit Go.Proofs.Ytfmhcgjmgaefcac.P Go.Proofs.YtfmhcgjmgaefcacW.PrintWords Go.Proofs.YtfmhcgjmgaefcacW.PrintLast Go.Proofs.YtfmhcgjmgaefcacW.PrintMore Go.Proofs.Ytfmhcgjmgaefcac.Aid Go.Proofs.Ytfmhcgjmgaefcac.T
theorem isFew_f (a b : Int) : impl_isFew.f a b = some (inR a 1 13 && inR b 1 13) := by
  unfold impl_isFew.f; simp only [within_f, Option.bind_some]; cases inR a 1 13 <;> simp
theorem few_rng {a b : Int} (h : (inR a 1 13 && inR b 1 13) = true) : (1 ≤ a ∧ a ≤ 13) ∧ 1 ≤ b ∧ b ≤ 13 := by
  rw [Bool.and_eq_true, inR_iff, inR_iff] at h; exact h
theorem fewest_f {a b : Int} (h : (inR a 1 13 && inR b 1 13) = true) : impl_fewest.f a b = some (fewM a.toNat b : Int) := by
  obtain ⟨h1, h2⟩ := few_rng h
  unfold impl_fewest.f; rw [if_pos ⟨h1.1, h1.2, h2.1, h2.2⟩]
theorem feAll_f {a b : Int} (h : (inR a 1 13 && inR b 1 13) = true) : spec_feAll.f a b = some ((tilFew a.toNat b).reverse.map (fun t => (⟨a, b, t⟩ : Ct))) := by
  obtain ⟨h1, h2⟩ := few_rng h
  unfold spec_feAll.f; rw [if_pos ⟨h1.1, h1.2, h2.1, h2.2⟩]
theorem few_head {a b : Int} (h : (inR a 1 13 && inR b 1 13) = true) : 0 < (((tilFew a.toNat b).reverse.map (fun t => (⟨a, b, t⟩ : Ct))).length : Int) ∧ (((rd_T28 ((tilFew a.toNat b).reverse.map (fun t => (⟨a, b, t⟩ : Ct))) 0).f2).length : Int) = (fewM a.toNat b : Int) := by
  obtain ⟨h1, h2⟩ := few_rng h
  have hne := tilFew_ne a.toNat b (by omega) (by omega)
  have hl : 0 < (tilFew a.toNat b).reverse.length := by rw [List.length_reverse]; exact List.length_pos_iff.2 hne
  refine ⟨by rw [List.length_map]; omega, ?_⟩
  have hm := (tilFew_mem (List.mem_reverse.1 (List.getElem_mem (h := hl)))).2
  unfold rd_T28
  rw [show (0 : Int).toNat = 0 from rfl, List.getD_eq_getElem?_getD, List.getElem?_map, List.getElem?_eq_getElem hl]
  simp only [Option.map_some, Option.getD_some]
  rw [hm]
/-- both say the least number of squares -/
def fewV (a b : Int) : Int × Bool := if (inR a 1 13 && inR b 1 13) = true then ((fewM a.toNat b : Int), true) else (0, false)
end Go.Proofs.Ytfmhcgjmgaefcac.Pure

namespace Go.Proofs.Ytfmhcgjmgaefcac.Pure
set_option linter.unusedVariables false
set_option linter.unusedSimpArgs false
open Go.RowKit Go.Proofs.Ytfmhcgjmgaefcac.P Go.Proofs.YtfmhcgjmgaefcacW.PrintWords Go.Proofs.YtfmhcgjmgaefcacW.PrintLast Go.Proofs.YtfmhcgjmgaefcacW.PrintMore Go.Proofs.Ytfmhcgjmgaefcac.Aid Go.Proofs.Ytfmhcgjmgaefcac.T
/-- the order of lists -/
def lexI : List Int → List Int → Bool
  | [], [] => false
  | [], _ :: _ => true
  | _ :: _, [] => false
  | x :: a, y :: b => if x = y then lexI a b else decide (x < y)
theorem drop_rd (l : List Int) (i : Nat) (h : i < l.length) : l.drop i = rd l i :: l.drop (i + 1) := by
  rw [List.drop_eq_getElem_cons h]
  simp [rd, h]
theorem cuBefore_l (a b : List Int) (ha : a.length ≤ 1000000) (hb : b.length ≤ 1000000) : ∀ (d i : Nat), i + d = a.length → i ≤ b.length → Ev (fun k => spec_cuBefore.l0 k a b i) (lexI (a.drop i) (b.drop i))
  | 0, i, hd, hi => by
    refine Ev.step (fun _ => spec_cuBefore.l0.eq_2 ..) (ev_neg (by omega) (Ev.step (fun _ => spec_cuBefore.j1.eq_2 ..) (ev_neg (by simp) (ev_some ?_))))
    rw [List.drop_eq_nil_of_le (show a.length ≤ i by omega)]
    rcases Nat.lt_or_ge i b.length with h | h
    · rw [drop_rd b i h]; simp only [lexI]; exact decide_eq_true (by omega)
    · rw [List.drop_eq_nil_of_le h]; simp only [lexI]; exact decide_eq_false (by omega)
  | d + 1, i, hd, hi => by
    have ew : wrap64 ((i : Int) + 1) = ((i + 1 : Nat) : Int) := by rw [w64 (by omega) (by omega)]; omega
    rcases Nat.lt_or_ge i b.length with h | h
    · refine Ev.step (fun _ => spec_cuBefore.l0.eq_2 ..) (ev_pos (by omega) (Ev.step (fun _ => spec_cuBefore.j1.eq_2 ..) (ev_pos (by simpa using h) (ev_pos (by omega) (ev_pos (by omega) (ev_pos (by omega) ?_))))))
      rw [drop_rd a i (by omega), drop_rd b i h]
      simp only [lexI]
      by_cases c : rd a i = rd b i
      · rw [if_pos c]
        refine ev_pos c ?_
        rw [ew]
        exact cuBefore_l a b ha hb d (i + 1) (by omega) (by omega)
      · rw [if_neg c]
        exact ev_neg c (ev_some rfl)
    · refine Ev.step (fun _ => spec_cuBefore.l0.eq_2 ..) (ev_pos (by omega) (Ev.step (fun _ => spec_cuBefore.j1.eq_2 ..) (ev_neg (by simpa using h) (ev_some ?_))))
      rw [drop_rd a i (by omega), List.drop_eq_nil_of_le h]
      simp only [lexI]
      exact decide_eq_false (by omega)
theorem cuBefore_ev (a b : List Int) (ha : a.length ≤ 1000000) (hb : b.length ≤ 1000000) : Ev (fun k => spec_cuBefore.f k a b) (lexI a b) := by
  have h := cuBefore_l a b ha hb a.length 0 (by omega) (by omega)
  show Ev (fun k => spec_cuBefore.l0 k a b 0) (lexI a b)
  simpa using h
theorem lexI_sq (s q : Sq) (h : s ≠ q) : lexI [s.f0, s.f1, s.f2] [q.f0, q.f1, q.f2] = decide (Bef s q) := by
  simp only [lexI]
  by_cases c0 : s.f0 = q.f0
  · rw [if_pos c0]
    by_cases c1 : s.f1 = q.f1
    · rw [if_pos c1]
      by_cases c2 : s.f2 = q.f2
      · exact absurd (by cases s; cases q; simp_all) h
      · rw [if_neg c2]
        exact decide_eq_decide.2 ⟨fun e => .inr ⟨c0, .inr ⟨c1, e⟩⟩, fun e => by unfold Bef at e; omega⟩
    · rw [if_neg c1]
      exact decide_eq_decide.2 ⟨fun e => .inr ⟨c0, .inl e⟩, fun e => by unfold Bef at e; omega⟩
  · rw [if_neg c0]
    exact decide_eq_decide.2 ⟨fun e => .inl e, fun e => by unfold Bef at e; omega⟩
theorem drop_sq (l : List Sq) (i : Nat) (h : i < l.length) : l.drop i = rd_T60 l i :: l.drop (i + 1) := by
  rw [List.drop_eq_getElem_cons h]
  simp [rd_T60, h]
theorem sq_ne (s q : Sq) : (!(s.f0 == q.f0) || (!(s.f1 == q.f1) || !(s.f2 == q.f2))) = true ↔ s ≠ q := by
  cases s; cases q
  simp
  omega
theorem cuFirst_l (A B : List Sq) (a0 a1 b0 b1 : Int) (ha : A.length ≤ 1000000) (hb : B.length ≤ 1000000) : ∀ (d i : Nat), i + d = A.length → i ≤ B.length → Ev (fun k => spec_cuFirst.l0 k A (A.length : Int) i a0 a1 A b0 b1 B) (lexB (A.drop i) (B.drop i))
  | 0, i, hd, hi => by
    refine Ev.step (fun _ => spec_cuFirst.l0.eq_2 ..) (ev_neg (by omega) (ev_some ?_))
    rw [List.drop_eq_nil_of_le (show A.length ≤ i by omega)]
    rcases Nat.lt_or_ge i B.length with h | h
    · rw [drop_sq B i h]; simp only [lexB]; exact decide_eq_true (by omega)
    · rw [List.drop_eq_nil_of_le h]; simp only [lexB]; exact decide_eq_false (by omega)
  | d + 1, i, hd, hi => by
    have ew : wrap64 ((i : Int) + 1) = ((i + 1 : Nat) : Int) := by rw [w64 (by omega) (by omega)]; omega
    rcases Nat.lt_or_ge i B.length with h | h
    · refine Ev.step (fun _ => spec_cuFirst.l0.eq_2 ..) (ev_pos (by omega) (ev_pos (by omega) (ev_pos (by omega) (ev_neg (by omega) (ev_pos (by omega) ?_)))))
      rw [drop_sq A i (by omega), drop_sq B i h]
      simp only [lexB]
      by_cases c : rd_T60 A i = rd_T60 B i
      · rw [if_pos c]
        refine ev_neg (fun e => (sq_ne _ _).1 e c) ?_
        rw [ew]
        exact cuFirst_l A B a0 a1 b0 b1 ha hb d (i + 1) (by omega) (by omega)
      · rw [if_neg c, ← lexI_sq _ _ c]
        exact ev_pos ((sq_ne _ _).2 c) (ev_bind (cuBefore_ev _ _ (by simp) (by simp)) (ev_some rfl))
    · refine Ev.step (fun _ => spec_cuFirst.l0.eq_2 ..) (ev_pos (by omega) (ev_pos (by omega) (ev_pos (by omega) (ev_pos (by omega) (ev_some ?_)))))
      rw [drop_sq A i (by omega), List.drop_eq_nil_of_le h]
      simp only [lexB]
theorem cuFirst_ev (A B : List Sq) (a0 a1 b0 b1 : Int) (ha : A.length ≤ 1000000) (hb : B.length ≤ 1000000) : Ev (fun k => spec_cuFirst.f k a0 a1 A b0 b1 B) (lexB A B) := by
  have h := cuFirst_l A B a0 a1 b0 b1 ha hb A.length 0 (by omega) (by omega)
  show Ev (fun k => spec_cuFirst.l0 k A (A.length : Int) 0 a0 a1 A b0 b1 B) (lexB A B)
  simpa using h
end Go.Proofs.Ytfmhcgjmgaefcac.Pure

namespace Go.Proofs.Ytfmhcgjmgaefcac.T
/-- the first one of several rows of squares -/
def minL : List (List Sq) → List Sq
  | [] => []
  | a :: l => l.foldl (fun b c => if lexB c b = true then c else b) a
def IsMin (L : List (List Sq)) (b : List Sq) : Prop := b ∈ L ∧ ∀ c ∈ L, lexB c b = false
theorem lexB_ntrans {a b c : List Sq} (h : lexB a b = false) (k : lexB b c = false) : lexB a c = false := by
  cases hc : lexB a c with
  | false => rfl
  | true =>
    by_cases e : b = c
    · subst e; rw [h] at hc; cases hc
    · rcases lexB_total e with h1 | h1
      · rw [k] at h1; cases h1
      · rw [lexB_trans hc h1] at h; cases h
theorem foldMin_spec : ∀ (l : List (List Sq)) (a : List Sq), IsMin (a :: l) (l.foldl (fun b c => if lexB c b = true then c else b) a)
  | [], a => ⟨List.mem_cons_self, fun c hc => by
      rcases List.mem_cons.1 hc with rfl | hc
      · exact lexB_irrefl _
      · cases hc⟩
  | c :: l, a => by
    rw [List.foldl_cons]
    by_cases h : lexB c a = true
    · rw [if_pos h]
      have ih := foldMin_spec l c
      refine ⟨List.mem_cons_of_mem _ ih.1, fun x hx => ?_⟩
      rcases List.mem_cons.1 hx with rfl | hx
      · have h1 := ih.2 c List.mem_cons_self
        exact lexB_ntrans (lexB_asymm h) h1
      · exact ih.2 x hx
    · rw [if_neg h]
      have ih := foldMin_spec l a
      have h' : lexB c a = false := by simpa using h
      refine ⟨?_, fun x hx => ?_⟩
      · rcases List.mem_cons.1 ih.1 with e | e
        · rw [e]; exact List.mem_cons_self
        · exact List.mem_cons_of_mem _ (List.mem_cons_of_mem _ e)
      · rcases List.mem_cons.1 hx with rfl | hx
        · exact ih.2 _ List.mem_cons_self
        · rcases List.mem_cons.1 hx with rfl | hx
          · exact lexB_ntrans h' (ih.2 a List.mem_cons_self)
          · exact ih.2 x (List.mem_cons_of_mem _ hx)
theorem minL_spec : ∀ L : List (List Sq), L ≠ [] → IsMin L (minL L)
  | [], h => absurd rfl h
  | a :: l, _ => foldMin_spec l a
theorem IsMin.unique {L M : List (List Sq)} {a b : List Sq} (h : IsMin L a) (k : IsMin M b) (e : ∀ x, x ∈ L ↔ x ∈ M) : a = b := by
  by_cases c : a = b
  · exact c
  · rcases lexB_total c with h1 | h1
    · rw [k.2 a ((e a).1 h.1)] at h1; cases h1
    · rw [h.2 b ((e b).2 k.1)] at h1; cases h1
theorem minL_congr {L M : List (List Sq)} (h : L ≠ []) (e : ∀ x, x ∈ L ↔ x ∈ M) : minL L = minL M := by
  obtain ⟨x, hx⟩ := List.exists_mem_of_ne_nil L h
  exact (minL_spec L h).unique (minL_spec M (List.ne_nil_of_mem ((e x).1 hx))) e
/-! the half turn -/
def t2 (W H : Int) (l : List Sq) : List Sq := turnL W (turnL H l)
theorem Til.t2 {W H : Int} {l : List Sq} (g : Til W H l) : Til W H (t2 W H l) := g.turn.turn
theorem t2_t2 {W H : Int} {l : List Sq} (g : Til W H l) : t2 W H (t2 W H l) = l := turn4 g
theorem mir_t2 {W H : Int} {l : List Sq} (g : Til W H l) : t2 W H (mirL W l) = mirL W (t2 W H l) := by
  have hp : (mirL W (t2 W H l)).Perm ((turnL H (mirL W l)).map (turnS W)) := by
    refine (mirL_perm _ _).trans ?_
    refine ((turnL_perm _ _).map _).trans ?_
    refine (((turnL_perm _ _).map _).map _).trans ?_
    refine List.Perm.symm ?_
    refine ((turnL_perm _ _).map _).trans ?_
    refine (((mirL_perm _ _).map _).map _).trans ?_
    simp only [List.map_map]
    refine List.Perm.of_eq (List.map_congr_left (fun s _ => ?_))
    simp only [Function.comp, turnS, mirS]
  exact srt_eq hp g.t2.mir.lt
theorem mir_turn {W : Int} {l : List Sq} (g : Til W W l) : turnL W (mirL W l) = mirL W (turnL W (turnL W (turnL W l))) := by
  have g3 := g.turn.turn.turn.mir
  rw [turn3 g] at g3 ⊢
  have hp : (mirL W (backL W l)).Perm ((mirL W l).map (turnS W)) := by
    refine (mirL_perm _ _).trans ?_
    refine ((srt_perm _).map _).trans ?_
    refine List.Perm.symm ?_
    refine ((mirL_perm _ _).map _).trans ?_
    simp only [List.map_map]
    refine List.Perm.of_eq (List.map_congr_left (fun s _ => ?_))
    simp only [Function.comp, turnS, mirS, backS]
  exact srt_eq hp g3.lt
def orb4 (W H : Int) (l : List Sq) : List (List Sq) := [l, mirL W l, t2 W H l, mirL W (t2 W H l)]
def orb8 (W : Int) (l : List Sq) : List (List Sq) :=
  [l, mirL W l, turnL W l, mirL W (turnL W l), turnL W (turnL W l), mirL W (turnL W (turnL W l)), turnL W (turnL W (turnL W l)), mirL W (turnL W (turnL W (turnL W l)))]
theorem orb4_til {W H : Int} {l b : List Sq} (g : Til W H l) (hb : b ∈ orb4 W H l) : Til W H b := by
  simp only [orb4, List.mem_cons, List.not_mem_nil, or_false] at hb
  rcases hb with rfl | rfl | rfl | rfl
  · exact g
  · exact g.mir
  · exact g.t2
  · exact g.t2.mir
theorem orb8_til {W : Int} {l b : List Sq} (g : Til W W l) (hb : b ∈ orb8 W l) : Til W W b := by
  simp only [orb8, List.mem_cons, List.not_mem_nil, or_false] at hb
  rcases hb with rfl | rfl | rfl | rfl | rfl | rfl | rfl | rfl
  · exact g
  · exact g.mir
  · exact g.turn
  · exact g.turn.mir
  · exact g.turn.turn
  · exact g.turn.turn.mir
  · exact g.turn.turn.turn
  · exact g.turn.turn.turn.mir
theorem orb4_sub {W H : Int} {l b : List Sq} (g : Til W H l) (hb : b ∈ orb4 W H l) : ∀ x, x ∈ orb4 W H b ↔ x ∈ orb4 W H l := by
  simp only [orb4, List.mem_cons, List.not_mem_nil, or_false] at hb
  intro x
  rcases hb with rfl | rfl | rfl | rfl
  · rfl
  · have e1 : mirL W (mirL W l) = l := mir2 g
    have e2 := mir_t2 g
    have e3 : mirL W (mirL W (t2 W H l)) = t2 W H l := mir2 g.t2
    simp only [orb4, e1, e2, e3, List.mem_cons, List.not_mem_nil, or_false]
    constructor <;> (rintro (h | h | h | h) <;> simp [h])
  · have e1 := t2_t2 g
    simp only [orb4, e1, List.mem_cons, List.not_mem_nil, or_false]
    constructor <;> (rintro (h | h | h | h) <;> simp [h])
  · have e1 : mirL W (mirL W (t2 W H l)) = t2 W H l := mir2 g.t2
    have e2 : t2 W H (mirL W (t2 W H l)) = mirL W l := by rw [mir_t2 g.t2, t2_t2 g]
    have e3 : mirL W (mirL W l) = l := mir2 g
    simp only [orb4, e1, e2, e3, List.mem_cons, List.not_mem_nil, or_false]
    constructor <;> (rintro (h | h | h | h) <;> simp [h])
theorem orb8_turn {W : Int} {l : List Sq} (g : Til W W l) : ∀ x, x ∈ orb8 W (turnL W l) ↔ x ∈ orb8 W l := by
  intro x
  have e1 := turn4 g
  simp only [orb8, e1, List.mem_cons, List.not_mem_nil, or_false]
  constructor <;> (rintro (h | h | h | h | h | h | h | h) <;> simp [h])
theorem orb8_mir {W : Int} {l : List Sq} (g : Til W W l) : ∀ x, x ∈ orb8 W (mirL W l) ↔ x ∈ orb8 W l := by
  intro x
  have m0 : mirL W (mirL W l) = l := mir2 g
  have r1 := mir_turn g
  have r2 : turnL W (turnL W (mirL W l)) = mirL W (turnL W (turnL W l)) := by
    rw [r1, mir_turn g.turn.turn.turn, turn4 g]
  have r3 : turnL W (turnL W (turnL W (mirL W l))) = mirL W (turnL W l) := by
    rw [r2, mir_turn g.turn.turn, turn4 g]
  have m1 : mirL W (mirL W (turnL W (turnL W (turnL W l)))) = turnL W (turnL W (turnL W l)) := mir2 g.turn.turn.turn
  have m2 : mirL W (mirL W (turnL W (turnL W l))) = turnL W (turnL W l) := mir2 g.turn.turn
  have m3 : mirL W (mirL W (turnL W l)) = turnL W l := mir2 g.turn
  have s : orb8 W (mirL W l) = [mirL W l, l, mirL W (turnL W (turnL W (turnL W l))), turnL W (turnL W (turnL W l)), mirL W (turnL W (turnL W l)), turnL W (turnL W l), mirL W (turnL W l), turnL W l] := by
    unfold orb8; rw [r3, r2, r1, m0, m1, m2, m3]
  rw [s]
  simp only [orb8, List.mem_cons, List.not_mem_nil, or_false]
  constructor <;> (rintro (h | h | h | h | h | h | h | h) <;> simp [h])
theorem orb8_sub {W : Int} {l b : List Sq} (g : Til W W l) (hb : b ∈ orb8 W l) : ∀ x, x ∈ orb8 W b ↔ x ∈ orb8 W l := by
  simp only [orb8, List.mem_cons, List.not_mem_nil, or_false] at hb
  intro x
  have a1 := orb8_turn g x
  have a2 := orb8_turn g.turn x
  have a3 := orb8_turn g.turn.turn x
  rcases hb with rfl | rfl | rfl | rfl | rfl | rfl | rfl | rfl
  · rfl
  · exact orb8_mir g x
  · exact a1
  · exact (orb8_mir g.turn x).trans a1
  · exact a2.trans a1
  · exact (orb8_mir g.turn.turn x).trans (a2.trans a1)
  · exact a3.trans (a2.trans a1)
  · exact (orb8_mir g.turn.turn.turn x).trans (a3.trans (a2.trans a1))
/-- the first turn -/
def first (W H : Int) (l : List Sq) : List Sq := if H < W then minL (orb4 W H l) else if W < H then minL (orb4 H W (turnL H l)) else minL (orb8 W l)
theorem orb4_ne (W H : Int) (l : List Sq) : orb4 W H l ≠ [] := by simp [orb4]
theorem orb8_ne (W : Int) (l : List Sq) : orb8 W l ≠ [] := by simp [orb8]
theorem first_til {W H : Int} {l : List Sq} (g : Til W H l) : Til (max W H) (min W H) (first W H l) := by
  unfold first
  by_cases c1 : H < W
  · rw [if_pos c1, show max W H = W by omega, show min W H = H by omega]
    exact orb4_til g (minL_spec _ (orb4_ne _ _ _)).1
  · rw [if_neg c1]
    by_cases c2 : W < H
    · rw [if_pos c2, show max W H = H by omega, show min W H = W by omega]
      exact orb4_til g.turn (minL_spec _ (orb4_ne _ _ _)).1
    · rw [if_neg c2]
      obtain rfl : W = H := by omega
      rw [show max W W = W by omega, show min W W = W by omega]
      exact orb8_til g (minL_spec _ (orb8_ne _ _)).1
theorem first_idem {W H : Int} {l : List Sq} (g : Til W H l) : first (max W H) (min W H) (first W H l) = first W H l := by
  unfold first
  by_cases c1 : H < W
  · rw [if_pos c1, show max W H = W by omega, show min W H = H by omega, if_pos c1]
    exact minL_congr (orb4_ne _ _ _) (orb4_sub g (minL_spec _ (orb4_ne _ _ _)).1)
  · rw [if_neg c1]
    by_cases c2 : W < H
    · rw [if_pos c2, show max W H = H by omega, show min W H = W by omega, if_pos c2]
      exact minL_congr (orb4_ne _ _ _) (orb4_sub g.turn (minL_spec _ (orb4_ne _ _ _)).1)
    · rw [if_neg c2]
      obtain rfl : W = H := by omega
      rw [show max W W = W by omega, show min W W = W by omega, if_neg c1, if_neg c2]
      exact minL_congr (orb8_ne _ _) (orb8_sub g (minL_spec _ (orb8_ne _ _)).1)
/-- a higher one is as the one turned -/
theorem first_turn {W H : Int} {l : List Sq} (h : W < H) : first W H l = first H W (turnL H l) := by
  unfold first
  rw [if_neg (by omega), if_pos h, if_pos h]
theorem turn_len (H : Int) (l : List Sq) : (turnL H l).length = l.length := by rw [(turnL_perm H l).length_eq, List.length_map]
theorem mir_len (W : Int) (l : List Sq) : (mirL W l).length = l.length := by rw [(mirL_perm W l).length_eq, List.length_map]
theorem orb4_len {W H : Int} {l b : List Sq} (hb : b ∈ orb4 W H l) : b.length = l.length := by
  simp only [orb4, List.mem_cons, List.not_mem_nil, or_false] at hb
  rcases hb with rfl | rfl | rfl | rfl <;> simp [t2, turn_len, mir_len]
theorem orb8_len {W : Int} {l b : List Sq} (hb : b ∈ orb8 W l) : b.length = l.length := by
  simp only [orb8, List.mem_cons, List.not_mem_nil, or_false] at hb
  rcases hb with rfl | rfl | rfl | rfl | rfl | rfl | rfl | rfl <;> simp [turn_len, mir_len]
theorem first_len (W H : Int) (l : List Sq) : (first W H l).length = l.length := by
  unfold first
  split
  · exact orb4_len (minL_spec _ (orb4_ne _ _ _)).1
  · split
    · rw [orb4_len (minL_spec _ (orb4_ne _ _ _)).1, turn_len]
    · exact orb8_len (minL_spec _ (orb8_ne _ _)).1
end Go.Proofs.Ytfmhcgjmgaefcac.T

namespace Go.Proofs.Ytfmhcgjmgaefcac.Pure
set_option linter.unusedVariables false
set_option linter.unusedSimpArgs false
open Go.RowKit Go.Proofs.Ytfmhcgjmgaefcac.P Go.Proofs.YtfmhcgjmgaefcacW.PrintWords Go.Proofs.YtfmhcgjmgaefcacW.PrintLast Go.Proofs.YtfmhcgjmgaefcacW.PrintMore Go.Proofs.Ytfmhcgjmgaefcac.Aid Go.Proofs.Ytfmhcgjmgaefcac.T
theorem firstCuts_f {a b : Int} (h : (inR a 1 13 && inR b 1 13) = true) : impl_fewestCuts.f a b = some ((tilFew a.toNat b).map (fun t => (⟨a, b, t⟩ : Ct))) := by
  obtain ⟨h1, h2⟩ := few_rng h
  unfold impl_fewestCuts.f; rw [if_pos ⟨h1.1, h1.2, h2.1, h2.2⟩]
theorem ff_fold (a b : Int) : ∀ (l : List (List Sq)) (t : List Sq), (∀ s ∈ l, s.length ≤ 1000000) → t.length ≤ 1000000 → Ev (fun k => spec_FirstFewest.l0 k (l.map (fun t => (⟨a, b, t⟩ : Ct))) ⟨a, b, t⟩) ⟨a, b, l.foldl (fun b c => if lexB c b = true then c else b) t⟩
  | [], t, _, _ => ev_some rfl
  | s :: l, t, hl, ht => by
    have h1 := hl s List.mem_cons_self
    have h2 : ∀ x ∈ l, x.length ≤ 1000000 := fun x hx => hl x (List.mem_cons_of_mem _ hx)
    simp only [List.map_cons, spec_FirstFewest.l0, List.foldl_cons]
    refine ev_bind (cuFirst_ev s t a b a b h1 ht) ?_
    by_cases c : lexB s t = true
    · rw [if_pos c, if_pos c]; exact ff_fold a b l s h2 h1
    · rw [if_neg c, if_neg c]; exact ff_fold a b l t h2 ht
theorem firstFewest_both (a b : Int) : ∃ r : Int × Int × List Sq × Bool, r.2.2.1.length ≤ 1000 ∧ Ev (fun k => spec_FirstFewest.f k a b) r ∧ impl_FirstFewest.f a b = some r := by
  by_cases h : (inR a 1 13 && inR b 1 13) = true
  · obtain ⟨h1, h2⟩ := few_rng h
    have hne := tilFew_ne a.toNat b (by omega) (by omega)
    have hlex : (tilFew a.toNat b).Pairwise (fun x y => lexB x y = true) := List.Pairwise.filter _ (til_lex a.toNat b)
    have hlen : ∀ t ∈ tilFew a.toNat b, t.length ≤ 13 := fun t ht => by
      have e := (tilFew_mem ht).2
      have := (few_count a.toNat b (by omega) (by omega) (by omega) (by omega) _ (Nat.le_refl _)).2
      omega
    have hs := feAll_f h
    have hi := firstCuts_f h
    generalize tilFew a.toNat b = L at hne hlex hlen hs hi
    cases hL : L with
    | nil => exact absurd hL hne
    | cons t L1 =>
      subst hL
      have hm : IsMin (t :: L1) t := ⟨List.mem_cons_self, fun c hc => by
        rcases List.mem_cons.1 hc with rfl | hc
        · exact lexB_irrefl _
        · exact lexB_asymm ((List.pairwise_cons.1 hlex).1 c hc)⟩
      obtain ⟨q, R, hR⟩ : ∃ q R, (t :: L1).reverse = q :: R := by
        cases hc : (t :: L1).reverse with
        | nil => simp at hc
        | cons q R => exact ⟨q, R, rfl⟩
      have hq := foldMin_spec R q
      have hmem : ∀ x, x ∈ q :: R ↔ x ∈ t :: L1 := fun x => by rw [← hR, List.mem_reverse]
      have he : (q :: R).foldl (fun b c => if lexB c b = true then c else b) q = t := by
        rw [List.foldl_cons, lexB_irrefl]
        simp only [if_false, Bool.false_eq_true]
        exact hq.unique hm hmem
      refine ⟨(a, b, t, true), Nat.le_trans (hlen t List.mem_cons_self) (by omega), ?_, ?_⟩
      · refine ev_call (feSize_f a b 13) (ev_pos h (ev_call hs (ev_pos (by first | (simp; done) | (simp; omega)) ?_)))
        rw [hR]
        have e0 : rd_T28 ((q :: R).map (fun t => (⟨a, b, t⟩ : Ct))) 0 = ⟨a, b, q⟩ := rfl
        rw [e0]
        refine ev_bind (ff_fold a b (q :: R) q (fun s hs => ?_) ?_) ?_
        · have := hlen s ((hmem s).1 hs); omega
        · have := hlen q ((hmem q).1 List.mem_cons_self); omega
        · rw [he]; exact ev_some rfl
      · unfold impl_FirstFewest.f
        rw [isFew_f, Option.bind_some, if_pos h, hi, Option.bind_some, if_pos (by first | (simp; done) | (simp; omega))]
        rfl
  · refine ⟨(0, 0, [], false), by simp, ev_call (feSize_f a b 13) (ev_neg h (ev_some rfl)), ?_⟩
    unfold impl_FirstFewest.f
    rw [isFew_f, Option.bind_some, if_neg h]
theorem FnExactFirstFewest : laws_FnExactFirstFewest.Pure := by
  intro a b _ _
  obtain ⟨⟨r1, r2, r3, r4⟩, hl, h1, h2⟩ := firstFewest_both a b
  simp only at hl
  refine ev_at (ev_bind h1 (ev_call h2 (ev_bind (eqCut_refl r1 r2 r3 (by omega)) (ev_pos rfl ?_))))
  refine Ev.step (fun _ => laws_FnExactFirstFewest.j0.eq_2 ..) (ev_neg (by simp) ?_)
  refine ev_bind (markE r1 r2 r3 1 (by omega) (by omega) (by omega)) (ev_bind (heldE r1 r2 r3.length 1 (by omega) (by omega) (by omega)) (ev_neg (by omega) (ev_pos rfl ?_)))
  refine ev_call h2 (ev_bind (eqCut_refl r1 r2 r3 (by omega)) (ev_pos rfl ?_))
  refine Ev.step (fun _ => laws_FnExactFirstFewest.j1.eq_2 ..) (ev_neg (by simp) ?_)
  exact ev_bind (heldE r1 r2 r3.length 1 (by omega) (by omega) (by omega)) (ev_neg (by omega) (ev_pos rfl (ev_some rfl)))
end Go.Proofs.Ytfmhcgjmgaefcac.Pure
