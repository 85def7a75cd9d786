import Derived.Test.YtfmhcgjmgaefcadDoorMFnExactSidesOfWordx0
namespace Go.Proofs.YtfmhcgjmgaefcadDoor.Pure
set_option linter.unusedVariables false
set_option linter.unusedSimpArgs false
open Go.RowKit Go.Proofs.YtfmhcgjmgaefcadDoor.P Go.Proofs.YtfmhcgjmgaefcadDoorW.PrintWords Go.Proofs.YtfmhcgjmgaefcadDoorW.PrintLast Go.Proofs.YtfmhcgjmgaefcadDoorW.PrintMore Go.Proofs.YtfmhcgjmgaefcadDoor.Aid Go.Proofs.YtfmhcgjmgaefcadDoor.T
theorem rdG (l : List Sq) (i : Nat) (hi : i < l.length) : rd_T42 l (i : Int) = l[i] := by
  unfold rd_T42
  rw [Int.toNat_natCast, List.getD_eq_getElem?_getD, List.getElem?_eq_getElem hi]
  rfl
theorem raSquares_l (s : ByteArray) (hs : s.size ≤ 1000000) : ∀ (d i : Nat) (w h : Int) (o : List Sq), i + d = s.size → o.length ≤ i + 1 → Ev (fun k => spec_raSquares.l0 k s o w h (i : Int)) (putsL ((bytesOf s).drop i) w h o).2.2
  | 0, i, w, h, o, hd, ho => by
    rw [List.drop_eq_nil_of_le (by rw [bytesOf_length]; omega)]
    exact Ev.step (fun _ => spec_raSquares.l0.eq_2 ..) (ev_neg (by omega) (ev_some rfl))
  | d + 1, i, w, h, o, hd, ho => by
    rw [bytes_drop s i (by omega)]
    refine Ev.step (fun _ => spec_raSquares.l0.eq_2 ..) (ev_pos (by omega) (ev_pos (by omega) ?_))
    rw [w64 (e := (i : Int) + 1) (by omega) (by omega)]
    simp only [putsL]
    by_cases c : bt s (i : Int) = 98
    · rw [if_pos c]
      exact ev_pos c (ev_pos (by omega) (raSquares_l s hs d (i + 1) _ _ _ (by omega) (by simp; omega)))
    · rw [if_neg c]
      exact ev_neg c (ev_pos (by omega) (raSquares_l s hs d (i + 1) _ _ _ (by omega) (by simp; omega)))
theorem puts_pos : ∀ (l : List Int) (w h m : Int) (o : List Sq), 1 ≤ w → w ≤ m → 1 ≤ h → h ≤ m → 2 ^ l.length * m ≤ 2 ^ 40 → (∀ q ∈ o, 1 ≤ q.f2) → ∀ q ∈ (putsL l w h o).2.2, 1 ≤ q.f2
  | [], w, h, m, o, _, _, _, _, _, ho => ho
  | c :: l, w, h, m, o, h1, h2, h3, h4, h5, ho => by
    rw [List.length_cons, Int.pow_succ, Int.mul_assoc] at h5
    have hp : (1 : Int) ≤ 2 ^ l.length := by
      have := Nat.one_le_two_pow (n := l.length)
      have e : ((2 ^ l.length : Nat) : Int) = (2 : Int) ^ l.length := by simp
      omega
    have hm : 2 * m ≤ 2 ^ 40 := by
      have : 1 * (2 * m) ≤ 2 ^ l.length * (2 * m) := Int.mul_le_mul_of_nonneg_right hp (by omega)
      omega
    simp only [putsL]
    split
    · rw [w64 (by omega) (by omega)]
      exact puts_pos l (w + h) h (2 * m) _ (by omega) (by omega) (by omega) (by omega) h5 (fun q hq => by
        rcases List.mem_append.1 hq with hq | hq
        · exact ho q hq
        · rw [List.mem_singleton.1 hq]; exact h3)
    · rw [w64 (by omega) (by omega)]
      exact puts_pos l w (h + w) (2 * m) _ (by omega) (by omega) (by omega) (by omega) h5 (fun q hq => by
        rcases List.mem_append.1 hq with hq | hq
        · exact ho q hq
        · rw [List.mem_singleton.1 hq]; exact h1)
theorem puts_len : ∀ (l : List Int) (w h : Int) (o : List Sq), (putsL l w h o).2.2.length = o.length + l.length
  | [], w, h, o => by simp [putsL]
  | c :: l, w, h, o => by
    simp only [putsL]
    split <;> rw [puts_len l] <;> simp <;> omega
theorem sides_s (t : List Sq) (ht : t.length ≤ 1000) : ∀ (d i : Nat) (acc : List Int), i + d = t.length → acc.length ≤ i → Ev (fun k => spec_SidesOfWord.l0 k acc t t.length i) (if (t.drop i).all (fun q => decide (q.f2 ≤ 1000)) = true then (acc ++ (t.drop i).map (fun q => q.f2), true) else ([], false))
  | 0, i, acc, hd, ha => by
    rw [List.drop_eq_nil_of_le (by omega)]
    exact Ev.step (fun _ => spec_SidesOfWord.l0.eq_2 ..) (ev_neg (by omega) (ev_some (by simp)))
  | d + 1, i, acc, hd, ha => by
    have hi : i < t.length := by omega
    have ih := sides_s t ht d (i + 1) (acc ++ [t[i].f2]) (by omega) (by simp; omega)
    rw [List.drop_eq_getElem_cons hi, List.all_cons, List.map_cons]
    refine Ev.step (fun _ => spec_SidesOfWord.l0.eq_2 ..) (ev_pos (by omega) (ev_pos (by omega) (ev_pos (by omega) ?_)))
    rw [rdG t i hi, w64 (e := (i : Int) + 1) (by omega) (by omega)]
    by_cases c : t[i].f2 > 1000
    · refine ev_pos c (ev_some ?_)
      rw [decide_eq_false (show ¬ t[i].f2 ≤ 1000 by omega), Bool.false_and, if_neg (by simp)]
    · refine ev_neg c (ev_pos (by omega) ?_)
      rw [decide_eq_true (show t[i].f2 ≤ 1000 by omega), Bool.true_and]
      rw [List.append_assoc] at ih
      exact ih
theorem sides_i (t : List Sq) (ht : t.length ≤ 1000) : ∀ (d i : Nat) (acc : List Int), i + d = t.length → acc.length ≤ i → Ev (fun k => impl_sides.l0 k acc t t.length i) (acc ++ (t.drop i).map (fun q => q.f2))
  | 0, i, acc, hd, ha => by
    rw [List.drop_eq_nil_of_le (by omega)]
    exact Ev.step (fun _ => impl_sides.l0.eq_2 ..) (ev_neg (by omega) (ev_some (by simp)))
  | d + 1, i, acc, hd, ha => by
    have hi : i < t.length := by omega
    have ih := sides_i t ht d (i + 1) (acc ++ [t[i].f2]) (by omega) (by simp; omega)
    rw [List.drop_eq_getElem_cons hi, List.map_cons]
    refine Ev.step (fun _ => impl_sides.l0.eq_2 ..) (ev_pos (by omega) (ev_pos (by omega) (ev_pos (by omega) (ev_pos (by omega) ?_))))
    rw [rdG t i hi, w64 (e := (i : Int) + 1) (by omega) (by omega)]
    rw [List.append_assoc] at ih
    exact ih
theorem within_map (t : List Sq) (h : ∀ q ∈ t, 1 ≤ q.f2) : (!((t.map (fun q => q.f2)).any fun x => !(decide (1 ≤ x) && decide (x ≤ 1000)))) = t.all (fun q => decide (q.f2 ≤ 1000)) := by
  induction t with
  | nil => rfl
  | cons q t ih =>
    rw [List.map_cons, List.any_cons, List.all_cons, Bool.not_or, ih (fun p hp => h p (List.mem_cons_of_mem _ hp)), Bool.not_not, decide_eq_true (h q (List.mem_cons_self ..)), Bool.true_and]
theorem sidesOfWord_both (s : ByteArray) (hs : s.size ≤ 1048576) : ∃ r : List Int × Bool, r.1.length ≤ 1000 ∧ Ev (fun k => spec_SidesOfWord.f k s) r ∧ Ev (fun k => impl_SidesOfWord.f k s) r := by
  have hi := isWord_f s
  have hw := raWord_ev s
  cases b : (decide (s.size ≤ 20) && buAll s) with
  | false =>
    rw [b] at hi hw
    exact ⟨([], false), by simp, ev_bind hw (ev_neg (by simp) (ev_some rfl)), ev_call hi (ev_neg (by simp) (ev_some rfl))⟩
  | true =>
    rw [b] at hi hw
    have h20 : s.size ≤ 20 := by
      rw [Bool.and_eq_true, decide_eq_true_eq] at b
      exact b.1
    have hp := puts_f s (by omega)
    have hsq := raSquares_l s (by omega) s.size 0 1 1 [⟨0, 0, 1⟩] (by omega) (by simp)
    rw [List.drop_zero] at hsq
    have hbl := bytesOf_length s
    have hpos := puts_pos (bytesOf s) 1 1 1 [⟨0, 0, 1⟩] (by omega) (by omega) (by omega) (by omega) (by
      rw [Int.mul_one]
      have := Nat.pow_le_pow_right (n := 2) (by omega) (show (bytesOf s).length ≤ 40 by omega)
      have e : ((2 ^ (bytesOf s).length : Nat) : Int) = (2 : Int) ^ (bytesOf s).length := by simp
      omega) (fun q hq => by rw [List.mem_singleton.1 hq]; decide)
    have hlen := puts_len (bytesOf s) 1 1 [⟨0, 0, 1⟩]
    obtain ⟨⟨x, y, o⟩, hxy⟩ : ∃ t, putsL (bytesOf s) 1 1 [⟨0, 0, 1⟩] = t := ⟨_, rfl⟩
    rw [hxy] at hp hsq hpos hlen
    simp only [List.length_cons, List.length_nil] at hsq hpos hlen
    have l1 := sides_s o (by omega) o.length 0 [] (by omega) (by simp)
    have l2 := sides_i o (by omega) o.length 0 [] (by omega) (by simp)
    rw [List.drop_zero, List.nil_append] at l1 l2
    have hwm := within_map o hpos
    refine ⟨_, ?_, ev_bind hw (ev_pos rfl (ev_bind hsq l1)), ev_call hi (ev_pos rfl (ev_call hp (ev_bind l2 (ev_call (a := o.all (fun q => decide (q.f2 ≤ 1000))) (by unfold impl_areWithin.f; rw [hwm]) ?_))))⟩
    · split <;> simp <;> omega
    · by_cases c : o.all (fun q => decide (q.f2 ≤ 1000)) = true
      · rw [if_pos c]; exact ev_some (by rw [if_pos c])
      · rw [if_neg c]; exact ev_some (by rw [if_neg c])
theorem FnExactSidesOfWord : laws_FnExactSidesOfWord.Pure := by
  intro s _
  by_cases c : (s.size : Int) > 1048576
  · exact ev_at (ev_pos c (ev_some rfl))
  · obtain ⟨⟨r, o⟩, hr, h1, h2⟩ := sidesOfWord_both s (by omega)
    simp only at hr
    have eqr := eqIntS_refl r (by omega)
    refine ev_at (ev_neg c (ev_bind h1 (ev_bind h2 (ev_bind eqr (ev_pos rfl ?_)))))
    refine Ev.step (fun _ => laws_FnExactSidesOfWord.j0.eq_2 ..) (ev_neg (by simp) (ev_bind (markIntS_ev r 1 (by omega) (by omega)) (ev_bind (heldIntS_ev r 1 (by omega) (by omega)) (ev_neg (by omega) (ev_pos rfl ?_)))))
    refine ev_bind h2 (ev_bind eqr (ev_pos rfl ?_))
    refine Ev.step (fun _ => laws_FnExactSidesOfWord.j1.eq_2 ..) (ev_neg (by simp) ?_)
    exact ev_bind (heldIntS_ev r 1 (by omega) (by omega)) (ev_neg (by omega) (ev_pos rfl (ev_some rfl)))
end Go.Proofs.YtfmhcgjmgaefcadDoor.Pure
