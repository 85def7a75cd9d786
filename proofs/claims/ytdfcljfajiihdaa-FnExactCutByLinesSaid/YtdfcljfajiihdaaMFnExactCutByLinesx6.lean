import Derived.Test.YtdfcljfajiihdaaMFnExactCutByLineswWords
import Derived.Test.YtdfcljfajiihdaaMFnExactCutByLineswLast
import Derived.Test.YtdfcljfajiihdaaMFnExactCutByLineswTab
import Derived.Test.YtdfcljfajiihdaaMFnExactCutByLineswApart
import Derived.Test.YtdfcljfajiihdaaMFnExactCutByLineswFoot
import Derived.Test.YtdfcljfajiihdaaMFnExactCutByLineswKept
import Derived.Test.YtdfcljfajiihdaaMFnExactCutByLineswShare
import Derived.Test.YtdfcljfajiihdaaMFnExactCutByLineswN
import Derived.Test.YtdfcljfajiihdaaMFnExactCutByLineswFootNe
import Derived.Test.YtdfcljfajiihdaaMFnExactCutByLineswAt
import Derived.Test.YtdfcljfajiihdaaMFnExactCutByLineswRepsOne
import Derived.Test.YtdfcljfajiihdaaMFnExactCutByLineswGuard
import Derived.Test.YtdfcljfajiihdaaMFnExactCutByLineswMore
import Derived.Test.YtdfcljfajiihdaaMFnExactCutByLinesx0
import Derived.Test.YtdfcljfajiihdaaMFnExactCutByLinesx1
import Derived.Test.YtdfcljfajiihdaaMFnExactCutByLinesx2
import Derived.Test.YtdfcljfajiihdaaMFnExactCutByLinesx3
import Derived.Test.YtdfcljfajiihdaaMFnExactCutByLinesx4
import Derived.Test.YtdfcljfajiihdaaMFnExactCutByLinesx5
namespace Go.Proofs.Ytdfcljfajiihdaa.Pure
set_option linter.unusedVariables false
set_option linter.unusedSimpArgs false
open Go.RowKit Go.Proofs.Ytdfcljfajiihdaa.P Go.Proofs.YtdfcljfajiihdaaW.PrintWords Go.Proofs.YtdfcljfajiihdaaW.PrintLast Go.Proofs.YtdfcljfajiihdaaW.PrintMore Go.Proofs.Ytdfcljfajiihdaa.Aid Go.Proofs.Ytdfcljfajiihdaa.T
def mkS (m : Int) : Nat → List Sq
  | 0 => []
  | n + 1 => ⟨m, m + 1, m + 2⟩ :: mkS (m + 3) n
theorem mkS_length : ∀ (n : Nat) (m : Int), (mkS m n).length = n
  | 0, m => rfl
  | n + 1, m => by simp only [mkS, List.length_cons, mkS_length n]
theorem set_at (pre : List Sq) (q x : Sq) (rest : List Sq) : (pre ++ q :: rest).set pre.length x = pre ++ x :: rest := by
  rw [List.set_append_right _ _ (Nat.le_refl _), Nat.sub_self, List.set_cons_zero]
theorem nq_at (pre : List Sq) (q : Sq) (rest : List Sq) : nq (pre ++ q :: rest) pre.length = q := by
  unfold nq
  rw [List.getD_eq_getElem?_getD, List.getElem?_append_right (Nat.le_refl _), Nat.sub_self]
  rfl
theorem markE_l : ∀ (rest pre : List Sq) (m : Int), (pre ++ rest).length ≤ 1048576 → 0 ≤ m → m + 3 * (rest.length : Int) ≤ 1000000000000000 → Ev (fun k => laws_markSquareS.l0 k (pre ++ rest) m pre.length) (m + 3 * (rest.length : Int), pre ++ mkS m rest.length)
  | [], pre, m, hl, h0, hm => Ev.step (fun _ => laws_markSquareS.l0.eq_2 ..) (ev_neg (by simp) (ev_some (by simp [mkS])))
  | q :: rest, pre, m, hl, h0, hm => by
    simp only [List.length_append, List.length_cons] at hl hm
    have ih := markE_l rest (pre ++ [⟨m, m + 1, m + 2⟩]) (m + 3) (by simp; omega) (by omega) (by omega)
    refine Ev.step (fun _ => laws_markSquareS.l0.eq_2 ..) (ev_pos (by simp; omega) (ev_pos (by omega) ?_))
    simp only [Option.bind_some, Int.toNat_natCast, rdq, nq_at, set_at]
    rw [w64 (e := m + 1) (by omega) (by omega), w64 (e := m + 1 + 1) (by omega) (by omega), w64 (e := m + 1 + 1 + 1) (by omega) (by omega), w64 (e := (pre.length : Int) + 1) (by omega) (by omega)]
    rw [List.append_assoc] at ih
    simp only [List.singleton_append, List.length_append, List.length_cons, List.length_nil, Nat.zero_add] at ih
    rw [show m + 1 + 1 + 1 = m + 3 by omega, show m + 1 + 1 = m + 2 by omega, show (pre.length : Int) + 1 = ((pre.length + 1 : Nat) : Int) by omega]
    rw [List.append_assoc] at ih
    simp only [List.singleton_append] at ih
    simp only [List.length_cons, mkS]
    rw [show m + 3 * ((rest.length + 1 : Nat) : Int) = m + 3 + 3 * (rest.length : Int) by omega]
    exact ih
theorem markE (a b : Int) (l : List Sq) (m : Int) (hl : l.length ≤ 1048576) (h0 : 0 ≤ m) (hm : m + 3 * (l.length : Int) ≤ 1000000000000000) : Ev (fun k => laws_markCut.f k a b l m) (m + 3 * (l.length : Int), mkS m l.length) := by
  have := markE_l l [] m (by simpa using hl) h0 hm
  simp only [List.nil_append] at this
  exact ev_bind (a := (m + 3 * (l.length : Int), mkS m l.length)) this (ev_some rfl)
theorem heldE_l : ∀ (n : Nat) (pre : List Sq) (m : Int), pre.length + n ≤ 1048576 → 0 ≤ m → m + 3 * (n : Int) ≤ 1000000000000000 → Ev (fun k => laws_heldSquareS.l0 k (pre ++ mkS m n) m pre.length) (m + 3 * (n : Int))
  | 0, pre, m, hl, h0, hm => Ev.step (fun _ => laws_heldSquareS.l0.eq_2 ..) (ev_neg (by simp [mkS]) (ev_some (by simp)))
  | n + 1, pre, m, hl, h0, hm => by
    have ih := heldE_l n (pre ++ [⟨m, m + 1, m + 2⟩]) (m + 3) (by simp; omega) (by omega) (by omega)
    refine Ev.step (fun _ => laws_heldSquareS.l0.eq_2 ..) (ev_pos (by simp [mkS, mkS_length]; omega) (ev_pos (by omega) ?_))
    simp only [mkS, rdq, nq_at]
    rw [w64 (e := m + 1) (by omega) (by omega), w64 (e := m + 1 + 1) (by omega) (by omega), w64 (e := m + 1 + 1 + 1) (by omega) (by omega), w64 (e := (pre.length : Int) + 1) (by omega) (by omega)]
    refine ev_pos (by first | rfl | trivial) (ev_pos (by first | rfl | trivial) (ev_pos (by first | omega | trivial) ?_))
    rw [List.append_assoc] at ih
    simp only [List.singleton_append, List.length_append, List.length_cons, List.length_nil, Nat.zero_add] at ih
    rw [show m + 1 + 1 + 1 = m + 3 by omega, show (pre.length : Int) + 1 = ((pre.length + 1 : Nat) : Int) by omega, show m + 3 * ((n + 1 : Nat) : Int) = m + 3 + 3 * (n : Int) by omega]
    exact ih
theorem heldE (a b : Int) (n : Nat) (m : Int) (hl : n ≤ 1048576) (h0 : 0 ≤ m) (hm : m + 3 * (n : Int) ≤ 1000000000000000) : Ev (fun k => laws_heldCut.f k a b (mkS m n) m) (m + 3 * (n : Int)) := by
  have := heldE_l n [] m (by simpa using hl) h0 hm
  simp only [List.nil_append] at this
  exact ev_bind (a := m + 3 * (n : Int)) this (ev_neg (by omega) (ev_some rfl))
end Go.Proofs.Ytdfcljfajiihdaa.Pure

namespace Go.Proofs.Ytdfcljfajiihdaa.Pure
set_option linter.unusedVariables false
set_option linter.unusedSimpArgs false
open Go.RowKit Go.Proofs.Ytdfcljfajiihdaa.P Go.Proofs.YtdfcljfajiihdaaW.PrintWords Go.Proofs.YtdfcljfajiihdaaW.PrintLast Go.Proofs.YtdfcljfajiihdaaW.PrintMore Go.Proofs.Ytdfcljfajiihdaa.Aid Go.Proofs.Ytdfcljfajiihdaa.T
theorem cutByLines_both (a b : Int) : ∃ r : Int × Int × List Sq × Bool, r.2.2.1.length ≤ 30 ∧ Ev (fun k => spec_CutByLines.f k a b) r ∧ Ev (fun k => impl_CutByLines.f k a b) r := by
  by_cases c : (inR a 1 60 && inR b 1 60) = true
  · have hb : (1 ≤ a ∧ a ≤ 60) ∧ 1 ≤ b ∧ b ≤ 60 := by
      rw [Bool.and_eq_true, inR_iff, inR_iff] at c; exact c
    obtain ⟨w, rfl⟩ := Int.eq_ofNat_of_zero_le (show 0 ≤ a by omega)
    obtain ⟨h, rfl⟩ := Int.eq_ofNat_of_zero_le (show 0 ≤ b by omega)
    obtain ⟨l, hl, hn, ho⟩ := lined_ev w h (by omega) (by omega) (w + h) w h 0 0 (by omega) (by omega) (by omega) (by omega) (by omega) (by omega) (by omega) (by omega) (by omega)
    have q1 := bl_ge_one w h (by omega) (by omega)
    have q2 := bl_le_sq w h w h (Nat.le_refl _) (Nat.le_refl _) (by omega) (by omega)
    refine ⟨cutV w h l, cutV_len _ _ _, ev_call (feSize_f _ _ _) (ev_pos c (ev_bind (feLines_ev w h (by omega) (by omega)) (ev_bind hl (ev_pos (by omega) (cuMake_ev w h l (by omega)))))), ?_⟩
    refine ev_call (isLined_f _ _) (ev_pos c (ev_bind (byLines_ev w h (by omega) (by omega) (by omega)) (ev_bind hl (ev_call (cutOf_f w h l (by omega) (by omega) ho) (ev_some rfl)))))
  · exact ⟨(0, 0, [], false), by simp, ev_call (feSize_f _ _ _) (ev_neg c (ev_some rfl)), ev_call (isLined_f _ _) (ev_neg c (ev_some rfl))⟩
theorem FnExactCutByLines : laws_FnExactCutByLines.Pure := by
  intro a b _ _
  obtain ⟨⟨r1, r2, r3, r4⟩, hl, h1, h2⟩ := cutByLines_both a b
  simp only at hl
  exact ⟨r1, r2, r3, r4, _, _, ev_at h1, ev_at h2, ev_at (eqCut_refl r1 r2 r3 (by omega)), ev_at (markE r1 r2 r3 1 (by omega) (by omega) (by omega)), ev_at (heldE r1 r2 r3.length 1 (by omega) (by omega) (by omega)), by omega⟩
end Go.Proofs.Ytdfcljfajiihdaa.Pure
