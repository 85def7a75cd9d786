import Derived.Test.YtnfiejagokefcaaMFnExactIsByLineswWords
import Derived.Test.YtnfiejagokefcaaMFnExactIsByLineswLast
import Derived.Test.YtnfiejagokefcaaMFnExactIsByLineswTab
import Derived.Test.YtnfiejagokefcaaMFnExactIsByLineswApart
import Derived.Test.YtnfiejagokefcaaMFnExactIsByLineswFoot
import Derived.Test.YtnfiejagokefcaaMFnExactIsByLineswKept
import Derived.Test.YtnfiejagokefcaaMFnExactIsByLineswShare
import Derived.Test.YtnfiejagokefcaaMFnExactIsByLineswN
import Derived.Test.YtnfiejagokefcaaMFnExactIsByLineswFootNe
import Derived.Test.YtnfiejagokefcaaMFnExactIsByLineswRepsOne
import Derived.Test.YtnfiejagokefcaaMFnExactIsByLineswGuard
import Derived.Test.YtnfiejagokefcaaMFnExactIsByLineswMore
import Derived.Test.YtnfiejagokefcaaMFnExactIsByLinesx0
import Derived.Test.YtnfiejagokefcaaMFnExactIsByLinesx1
import Derived.Test.YtnfiejagokefcaaMFnExactIsByLinesx2
import Derived.Test.YtnfiejagokefcaaMFnExactIsByLinesx3
import Derived.Test.YtnfiejagokefcaaMFnExactIsByLinesx4
import Derived.Test.YtnfiejagokefcaaMFnExactIsByLinesx5
import Derived.Test.YtnfiejagokefcaaMFnExactIsByLinesx6
namespace Go.Proofs.Ytnfiejagokefcaa.Pure
set_option linter.unusedVariables false
set_option linter.unusedSimpArgs false
open Go.RowKit Go.Proofs.Ytnfiejagokefcaa.P Go.Proofs.YtnfiejagokefcaaW.PrintWords Go.Proofs.YtnfiejagokefcaaW.PrintLast Go.Proofs.YtnfiejagokefcaaW.PrintMore Go.Proofs.Ytnfiejagokefcaa.Aid Go.Proofs.Ytnfiejagokefcaa.T
def flipS (q : Sq) : Sq := ⟨q.f1, q.f0, q.f2⟩
theorem jx_l1 (l : List Sq) (hl : l.length ≤ 1000) (out : List Int) (W x a0 a1 : Int) {r : List Int} : ∀ (d i : Nat) (b : Bool), i + d = l.length →
    Ev (fun k => if (b && (l.drop i).all (fun q => pOk x (flipS q))) = true then (if out.length < 17592186044416 then (spec_joLines.l0 k false (out ++ [x]) W (wrap64 (x + 1)) a0 a1 l) else (none)) else (spec_joLines.l0 k false out W (wrap64 (x + 1)) a0 a1 l)) r →
    Ev (fun k => spec_joLines.l1 k false out W x b l l.length i a0 a1 l) r
  | 0, i, b, hd, hr => by
    rw [List.drop_eq_nil_of_le (by omega), List.all_nil, Bool.and_true] at hr
    exact Ev.step (fun _ => spec_joLines.l1.eq_2 ..) (ev_neg (by omega) hr)
  | d + 1, i, b, hd, hr => by
    have hi : i < l.length := by omega
    have e : l.drop i = nq l i :: l.drop (i + 1) := by
      rw [List.drop_eq_getElem_cons hi]
      unfold nq
      rw [List.getD_eq_getElem?_getD, List.getElem?_eq_getElem hi]
      rfl
    rw [e, List.all_cons, ← Bool.and_assoc] at hr
    have ih := jx_l1 l hl out W x a0 a1 d (i + 1) (b && pOk x (flipS (nq l i))) (by omega) hr
    refine Ev.step (fun _ => spec_joLines.l1.eq_2 ..) (ev_pos (by omega) (ev_pos (by omega) (ev_pos (by omega) (ev_neg (by simp) ?_))))
    rw [w64 (e := (i : Int) + 1) (by omega) (by omega), rdq]
    cases b
    · exact ev_neg (by simp) ih
    · refine ev_pos rfl ?_
      by_cases c1 : x ≤ (nq l i).f1
      · refine ev_pos c1 ?_
        have : pOk x (flipS (nq l i)) = true := by unfold pOk flipS; rw [decide_eq_true c1]; rfl
        rw [this] at ih
        exact ih
      · refine ev_neg c1 ?_
        have : pOk x (flipS (nq l i)) = decide (x ≥ wrap64 ((nq l i).f1 + (nq l i).f2)) := by unfold pOk flipS; rw [decide_eq_false c1]; rfl
        rw [this] at ih
        exact ih
theorem jx_l0 (l : List Sq) (hl : l.length ≤ 1000) (W : Nat) (hW : W ≤ 1000) (a0 a1 : Int) : ∀ (d n : Nat), n + 1 + d = W → Ev (fun k => spec_joLines.l0 k false (linesTo (l.map flipS) n) W ((n + 1 : Nat) : Int) a0 a1 l) (linesTo (l.map flipS) (W - 1))
  | 0, n, hd => Ev.step (fun _ => spec_joLines.l0.eq_2 ..) (ev_neg (by omega) (ev_some (by congr 1; omega)))
  | d + 1, n, hd => by
    have ih := jx_l0 l hl W hW a0 a1 d (n + 1) (by omega)
    have hlen := linesTo_len (l.map flipS) n
    refine Ev.step (fun _ => spec_joLines.l0.eq_2 ..) (ev_pos (by omega) (jx_l1 l hl _ _ _ _ _ l.length 0 true (by omega) ?_))
    have ea : l.all (fun q => pOk ((n + 1 : Nat) : Int) (flipS q)) = lineOk (l.map flipS) ((n + 1 : Nat) : Int) := by rw [lineOk_all, List.all_map]; rfl
    rw [List.drop_zero, Bool.true_and, ea, w64 (by omega) (by omega), show ((n + 1 : Nat) : Int) + 1 = ((n + 1 + 1 : Nat) : Int) by omega]
    simp only [linesTo] at ih
    by_cases c : lineOk (l.map flipS) ((n + 1 : Nat) : Int) = true
    · rw [if_pos c] at ih
      exact ev_pos c (ev_pos (by omega) ih)
    · rw [if_neg c, List.append_nil] at ih
      exact ev_neg c ih
theorem joLinesX_ev (l : List Sq) (hl : l.length ≤ 1000) (H : Nat) (hH : 1 ≤ H ∧ H ≤ 1000) (a : Int) : Ev (fun k => spec_joLines.f k a H l false) (linesTo (l.map flipS) (H - 1)) :=
  ev_neg (by simp) (Ev.step (fun _ => spec_joLines.j0.eq_2 ..) (jx_l0 l hl H hH.2 a H (H - 1) 0 (by omega)))
theorem lineOk_perm {A B : List Sq} (h : ∀ q, q ∈ A ↔ q ∈ B) (x : Int) : lineOk A x = lineOk B x := by
  rw [lineOk_all, lineOk_all]
  refine Bool.eq_iff_iff.2 ?_
  simp only [List.all_eq_true]
  exact ⟨fun k q hq => k q ((h q).2 hq), fun k q hq => k q ((h q).1 hq)⟩
theorem linesTo_congr {A B : List Sq} (h : ∀ x, lineOk A x = lineOk B x) : ∀ n, linesTo A n = linesTo B n
  | 0 => rfl
  | n + 1 => by simp only [linesTo, linesTo_congr h n, h]
theorem linesTo_back (W : Int) (l : List Sq) (n : Nat) : linesTo (backL W l) n = linesTo (l.map flipS) n := by
  refine linesTo_congr (fun x => ?_) n
  have hp : (backL W l).Perm (l.map (backS W)) := srt_perm _
  rw [lineOk_perm (fun q => hp.mem_iff) x, lineOk_all, lineOk_all, List.all_map, List.all_map]
  rfl
theorem back_f (a b : Int) (l : List Sq) (g : T.Good a b l) : impl_Cut_back.f a b l = some (b, a, backL a l) := by
  have t1 : ∀ {x y : Int} {m : List Sq}, T.Good x y m → impl_Cut_turned.f x y m = some (y, x, turnL y m) := fun {x y m} h => by
    unfold impl_Cut_turned.f
    rw [if_pos (by rw [isCutB_good]; exact goodB_iff.2 h)]
  unfold impl_Cut_back.f
  rw [t1 g, Option.bind_some]
  simp only
  rw [t1 g.turn, Option.bind_some]
  simp only
  rw [t1 g.turn.turn, Option.bind_some]
  simp only
  rw [turn3 g.til]
end Go.Proofs.Ytnfiejagokefcaa.Pure

namespace Go.Proofs.Ytnfiejagokefcaa.P
open Go.RowKit Go.Proofs.YtnfiejagokefcaaW.PrintWords Go.Proofs.YtnfiejagokefcaaW.PrintLast Go.Proofs.YtnfiejagokefcaaW.PrintMore
attribute [local go_sem] max2_int min2_int max_two min_two max_three min_three max_four min_four
set_option linter.unusedVariables false
set_option linter.unusedSimpArgs false
end Go.Proofs.Ytnfiejagokefcaa.P

namespace Go.Proofs.Ytnfiejagokefcaa.P
open Go.RowKit Go.Proofs.YtnfiejagokefcaaW.PrintWords Go.Proofs.YtnfiejagokefcaaW.PrintLast Go.Proofs.YtnfiejagokefcaaW.PrintMore
attribute [local go_sem] max2_int min2_int max_two min_two max_three min_three max_four min_four
set_option linter.unusedVariables false
set_option linter.unusedSimpArgs false
end Go.Proofs.Ytnfiejagokefcaa.P

namespace Go.Proofs.Ytnfiejagokefcaa.P
open Go.RowKit Go.Proofs.YtnfiejagokefcaaW.PrintWords Go.Proofs.YtnfiejagokefcaaW.PrintLast Go.Proofs.YtnfiejagokefcaaW.PrintMore
attribute [local go_sem] max2_int min2_int max_two min_two max_three min_three max_four min_four
set_option linter.unusedVariables false
set_option linter.unusedSimpArgs false
end Go.Proofs.Ytnfiejagokefcaa.P

namespace Go.Proofs.Ytnfiejagokefcaa.P
open Go.RowKit Go.Proofs.YtnfiejagokefcaaW.PrintWords Go.Proofs.YtnfiejagokefcaaW.PrintLast Go.Proofs.YtnfiejagokefcaaW.PrintMore
attribute [local go_sem] max2_int min2_int max_two min_two max_three min_three max_four min_four
set_option linter.unusedVariables false
set_option linter.unusedSimpArgs false
end Go.Proofs.Ytnfiejagokefcaa.P

namespace Go.Proofs.Ytnfiejagokefcaa.Pure
set_option linter.unusedVariables false
set_option linter.unusedSimpArgs false
open Go.RowKit Go.Proofs.Ytnfiejagokefcaa.P Go.Proofs.YtnfiejagokefcaaW.PrintWords Go.Proofs.YtnfiejagokefcaaW.PrintLast Go.Proofs.YtnfiejagokefcaaW.PrintMore Go.Proofs.Ytnfiejagokefcaa.Aid Go.Proofs.Ytnfiejagokefcaa.T
end Go.Proofs.Ytnfiejagokefcaa.Pure

namespace Go.Proofs.Ytnfiejagokefcaa.Pure
set_option linter.unusedVariables false
set_option linter.unusedSimpArgs false
open Go.RowKit Go.Proofs.Ytnfiejagokefcaa.P Go.Proofs.YtnfiejagokefcaaW.PrintWords Go.Proofs.YtnfiejagokefcaaW.PrintLast Go.Proofs.YtnfiejagokefcaaW.PrintMore Go.Proofs.Ytnfiejagokefcaa.Aid Go.Proofs.Ytnfiejagokefcaa.T
def idxs (p : Sq → Bool) : List Sq → Nat → List Int
  | [], _ => []
  | q :: l, i => if p q = true then (i : Int) :: idxs p l (i + 1) else idxs p l (i + 1)
def insB (x1 x2 x3 x4 : Int) (q : Sq) : Bool := !(decide (q.f0 ≥ x3) || decide (q.f1 ≥ x4) || decide (wrap64 (q.f0 + q.f2) ≤ x1) || decide (wrap64 (q.f1 + q.f2) ≤ x2))
def subS (x y : Int) (q : Sq) : Sq := ⟨wrap64 (q.f0 - x), wrap64 (q.f1 - y), q.f2⟩
theorem drop_nq (l : List Sq) (i : Nat) (hi : i < l.length) : l.drop i = nq l i :: l.drop (i + 1) := by
  rw [List.drop_eq_getElem_cons hi, nq_get l i hi]
theorem within_l (l : List Sq) (hl : l.length ≤ 1000) (x1 x2 x3 x4 : Int) (hin : ∀ q ∈ l, insB x1 x2 x3 x4 q = true → q.f0 ≥ x1 ∧ q.f1 ≥ x2 ∧ wrap64 (q.f0 + q.f2) ≤ x3 ∧ wrap64 (q.f1 + q.f2) ≤ x4) :
    ∀ (d i : Nat) (acc : List Int), i + d = l.length → acc.length ≤ i → Ev (fun k => impl_Cut_within.l0 k x1 x2 x3 x4 acc l l.length i) (acc ++ idxs (insB x1 x2 x3 x4) (l.drop i) i, true)
  | 0, i, acc, hd, ha => by
    rw [List.drop_eq_nil_of_le (by omega)]
    exact Ev.step (fun _ => impl_Cut_within.l0.eq_2 ..) (ev_neg (by omega) (ev_some (by simp [idxs])))
  | d + 1, i, acc, hd, ha => by
    have hi : i < l.length := by omega
    have hm := nq_mem l i hi
    have sk : insB x1 x2 x3 x4 (nq l i) = false → Ev (fun k => impl_Cut_within.j2 k x1 x2 x3 x4 acc i l l.length i true (nq l i).f0 (nq l i).f1 (nq l i).f2) (acc ++ idxs (insB x1 x2 x3 x4) (l.drop i) i, true) := fun hz => by
      refine Ev.step (fun _ => impl_Cut_within.j2.eq_2 ..) (ev_pos rfl ?_)
      rw [w64 (by omega) (by omega), drop_nq l i hi]
      simp only [idxs, hz]
      exact within_l l hl x1 x2 x3 x4 hin d (i + 1) acc (by omega) (by omega)
    refine Ev.step (fun _ => impl_Cut_within.l0.eq_2 ..) (ev_pos (by omega) (ev_pos (by omega) (ev_pos (by omega) ?_)))
    rw [rdq]
    by_cases c1 : (nq l i).f0 ≥ x3
    · exact ev_pos c1 (sk (by unfold insB; rw [decide_eq_true c1]; rfl))
    refine ev_neg c1 ?_
    by_cases c2 : (nq l i).f1 ≥ x4
    · exact ev_pos c2 (sk (by unfold insB; rw [decide_eq_true c2]; simp))
    refine ev_neg c2 ?_
    by_cases c3 : wrap64 ((nq l i).f0 + (nq l i).f2) ≤ x1
    · exact ev_pos c3 (sk (by unfold insB; rw [decide_eq_true c3]; simp))
    refine ev_neg c3 ?_
    by_cases c4 : wrap64 ((nq l i).f1 + (nq l i).f2) ≤ x2
    · rw [decide_eq_true c4]
      exact sk (by unfold insB; rw [decide_eq_true c4]; simp)
    rw [decide_eq_false c4]
    have hz : insB x1 x2 x3 x4 (nq l i) = true := by
      unfold insB
      rw [decide_eq_false c1, decide_eq_false c2, decide_eq_false c3, decide_eq_false c4]
      rfl
    obtain ⟨g1, g2, g3, g4⟩ := hin _ hm hz
    refine Ev.step (fun _ => impl_Cut_within.j2.eq_2 ..) (ev_neg (by simp) (ev_pos g1 (ev_pos g2 (ev_pos g3 (ev_pos g4 (ev_pos (by omega) ?_))))))
    have ih := within_l l hl x1 x2 x3 x4 hin d (i + 1) (acc ++ [(i : Int)]) (by omega) (by simp; omega)
    rw [w64 (by omega) (by omega), drop_nq l i hi]
    simp only [idxs, hz, if_true]
    rw [List.append_assoc] at ih
    exact ih
theorem idxs_bd (p : Sq → Bool) : ∀ (l : List Sq) (i : Nat), ∀ j ∈ idxs p l i, (i : Int) ≤ j ∧ j < (i : Int) + l.length
  | [], i, j, h => by simp [idxs] at h
  | q :: l, i, j, h => by
    simp only [idxs] at h
    simp only [List.length_cons]
    split at h
    · rcases List.mem_cons.1 h with e | h
      · subst e; omega
      · have := idxs_bd p l (i + 1) j h; omega
    · have := idxs_bd p l (i + 1) j h; omega
theorem idxs_len (p : Sq → Bool) : ∀ (l : List Sq) (i : Nat), (idxs p l i).length ≤ l.length
  | [], i => by simp [idxs]
  | q :: l, i => by
    have := idxs_len p l (i + 1)
    simp only [idxs]
    split <;> simp <;> omega
theorem idxs_map (p : Sq → Bool) (l : List Sq) : ∀ (d i : Nat), i + d = l.length → (idxs p (l.drop i) i).map (fun j => nq l j.toNat) = (l.drop i).filter p
  | 0, i, hd => by rw [List.drop_eq_nil_of_le (by omega)]; rfl
  | d + 1, i, hd => by
    have ih := idxs_map p l d (i + 1) (by omega)
    rw [drop_nq l i (by omega), List.filter_cons]
    simp only [idxs]
    by_cases c : p (nq l i) = true
    · rw [if_pos c, if_pos c, List.map_cons, ih, Int.toNat_natCast]
    · rw [if_neg c, if_neg c, ih]
theorem taken_l (l : List Sq) (a b x1 x2 c1 c2 : Int) (is : List Int) (hn : is.length ≤ 1000) (hb : ∀ j ∈ is, 0 ≤ j ∧ j < l.length) : ∀ (d i : Nat) (acc : List Sq), i + d = is.length → acc.length ≤ i →
    Ev (fun k => impl_Cut_taken.l0 k x1 x2 is is.length i a b l c1 c2 acc) (c1, c2, acc ++ ((is.drop i).map (fun j => nq l j.toNat)).map (subS x1 x2))
  | 0, i, acc, hd, ha => by
    rw [List.drop_eq_nil_of_le (by omega)]
    exact Ev.step (fun _ => impl_Cut_taken.l0.eq_2 ..) (ev_neg (by omega) (ev_some (by simp)))
  | d + 1, i, acc, hd, ha => by
    have hi : i < is.length := by omega
    have e1 : rd is (i : Int) = is[i] := by unfold rd; rw [Int.toNat_natCast, List.getD_eq_getElem?_getD, List.getElem?_eq_getElem hi]; rfl
    have hj := hb _ (List.getElem_mem hi)
    have e2 : rd_T61 l is[i] = nq l is[i].toNat := by
      have := rdq l is[i].toNat
      rwa [Int.toNat_of_nonneg hj.1] at this
    have ih := taken_l l a b x1 x2 c1 c2 is hn hb d (i + 1) (acc ++ [subS x1 x2 (nq l is[i].toNat)]) (by omega) (by simp; omega)
    refine Ev.step (fun _ => impl_Cut_taken.l0.eq_2 ..) (ev_pos (by omega) (ev_pos (by omega) (ev_pos (by omega) ?_)))
    rw [e1, e2]
    refine ev_pos hj.1 (ev_pos hj.2 (ev_pos (by omega) ?_))
    rw [w64 (e := (i : Int) + 1) (by omega) (by omega), List.drop_eq_getElem_cons hi, List.map_cons, List.map_cons]
    rw [List.append_assoc] at ih
    exact ih
theorem taken_ev (l : List Sq) (hl : l.length ≤ 1000) (a b x1 x2 x3 x4 : Int) (h13 : x1 < x3) (h24 : x2 < x4) (hin : ∀ q ∈ l, insB x1 x2 x3 x4 q = true → q.f0 ≥ x1 ∧ q.f1 ≥ x2 ∧ wrap64 (q.f0 + q.f2) ≤ x3 ∧ wrap64 (q.f1 + q.f2) ≤ x4) :
    Ev (fun k => impl_Cut_taken.f k a b l x1 x2 x3 x4) (wrap64 (x3 - x1), wrap64 (x4 - x2), (l.filter (insB x1 x2 x3 x4)).map (subS x1 x2)) := by
  have hw := within_l l hl x1 x2 x3 x4 hin l.length 0 [] (by omega) (by simp)
  simp only [List.drop_zero, List.nil_append] at hw
  have hm := idxs_map (insB x1 x2 x3 x4) l l.length 0 (by omega)
  simp only [List.drop_zero] at hm
  have hbd := idxs_bd (insB x1 x2 x3 x4) l 0
  have hlen := idxs_len (insB x1 x2 x3 x4) l 0
  refine ev_bind (a := (idxs (insB x1 x2 x3 x4) l 0, true)) ?_ ?_
  · refine ev_call (a := ([] : List Int)) rfl (ev_neg (by omega) ?_)
    rw [decide_eq_false (show ¬ x2 ≥ x4 by omega)]
    exact Ev.step (fun _ => impl_Cut_within.j0.eq_2 ..) (ev_neg (by simp) hw)
  · have := taken_l l a b x1 x2 (wrap64 (x3 - x1)) (wrap64 (x4 - x2)) (idxs (insB x1 x2 x3 x4) l 0) (by omega) (fun j hj => by have := hbd j hj; omega) (idxs (insB x1 x2 x3 x4) l 0).length 0 [] (by omega) (by simp)
    rw [List.drop_zero, hm, List.nil_append] at this
    exact this
end Go.Proofs.Ytnfiejagokefcaa.Pure

namespace Go.Proofs.Ytnfiejagokefcaa.Pure
set_option linter.unusedVariables false
set_option linter.unusedSimpArgs false
open Go.RowKit Go.Proofs.Ytnfiejagokefcaa.P Go.Proofs.YtnfiejagokefcaaW.PrintWords Go.Proofs.YtnfiejagokefcaaW.PrintLast Go.Proofs.YtnfiejagokefcaaW.PrintMore Go.Proofs.Ytnfiejagokefcaa.Aid Go.Proofs.Ytnfiejagokefcaa.T
def lowD (x : Int) (l : List Sq) : List Sq := l.filter (fun q => !decide (q.f0 ≥ x))
def highD (x : Int) (l : List Sq) : List Sq := (l.filter (fun q => decide (q.f0 ≥ x))).map (fun q => (⟨q.f0 - x, q.f1, q.f2⟩ : Sq))
def lowA (y : Int) (l : List Sq) : List Sq := l.filter (fun q => !decide (q.f1 ≥ y))
def highA (y : Int) (l : List Sq) : List Sq := (l.filter (fun q => decide (q.f1 ≥ y))).map (fun q => (⟨q.f0, q.f1 - y, q.f2⟩ : Sq))
def Free (x : Int) (l : List Sq) : Prop := ∀ q ∈ l, x ≤ q.f0 ∨ x ≥ q.f0 + q.f2
theorem low_good {W H x : Int} {l : List Sq} (g : T.Good W H l) (h1 : 1 ≤ x) (h2 : x < W) (hf : Free x l) : T.Good x H (lowD x l) := by
  have hw := g.w
  have hh := g.h
  have hb : ∀ q ∈ lowD x l, inBox x H q := fun q hq => by
    obtain ⟨hm, hp⟩ := List.mem_filter.1 hq
    have hb := g.box q hm
    have hf := hf q hm
    have hp : ¬ q.f0 ≥ x := by simpa using hp
    unfold inBox at *
    omega
  have ha : (lowD x l).Pairwise Apart := g.apart.sublist List.filter_sublist
  refine ⟨⟨h1, by omega⟩, hh, Nat.le_trans (List.length_filter_le _ _) g.len, hb, ha, g.lt.sublist List.filter_sublist, ?_⟩
  obtain ⟨w, rfl⟩ : ∃ w : Nat, W = w := ⟨W.toNat, by omega⟩
  obtain ⟨h, rfl⟩ : ∃ h : Nat, H = h := ⟨H.toNat, by omega⟩
  obtain ⟨z, rfl⟩ : ∃ z : Nat, x = z := ⟨x.toNat, by omega⟩
  refine area_of_covered z h _ hb ha (fun a b h0 h3 h4 h5 => ?_)
  obtain ⟨q, hq, hc⟩ := covered w h l g.box g.apart g.area a b h0 (by omega) h4 h5
  refine ⟨q, List.mem_filter.2 ⟨hq, ?_⟩, hc⟩
  unfold Sq.has at hc
  have : ¬ q.f0 ≥ (z : Int) := by omega
  simpa using this
theorem high_good {W H x : Int} {l : List Sq} (g : T.Good W H l) (h1 : 1 ≤ x) (h2 : x < W) (hf : Free x l) : T.Good (W - x) H (highD x l) := by
  have hw := g.w
  have hh := g.h
  have hb : ∀ q ∈ highD x l, inBox (W - x) H q := fun q hq => by
    obtain ⟨p, hp, rfl⟩ := List.mem_map.1 hq
    obtain ⟨hm, hp⟩ := List.mem_filter.1 hp
    have hb := g.box p hm
    have hp : p.f0 ≥ x := by simpa using hp
    unfold inBox at *
    simp only
    omega
  have ha : (highD x l).Pairwise Apart := List.pairwise_map.2 ((g.apart.sublist List.filter_sublist).imp (fun {a b} h => by unfold Apart at *; simp only; omega))
  refine ⟨⟨by omega, by omega⟩, hh, by unfold highD; rw [List.length_map]; exact Nat.le_trans (List.length_filter_le _ _) g.len, hb, ha, List.pairwise_map.2 ((g.lt.sublist List.filter_sublist).imp (fun {a b} h => by unfold Lt at *; simp only; omega)), ?_⟩
  obtain ⟨w, rfl⟩ : ∃ w : Nat, W = w := ⟨W.toNat, by omega⟩
  obtain ⟨h, rfl⟩ : ∃ h : Nat, H = h := ⟨H.toNat, by omega⟩
  obtain ⟨z, hz⟩ : ∃ z : Nat, (w : Int) - x = z := ⟨((w : Int) - x).toNat, by omega⟩
  rw [hz] at hb ⊢
  refine area_of_covered z h _ hb ha (fun a b h0 h3 h4 h5 => ?_)
  obtain ⟨q, hq, hc⟩ := covered w h l g.box g.apart g.area (a + x) b (by omega) (by omega) h4 h5
  have hf := hf q hq
  unfold Sq.has at hc
  have hge : q.f0 ≥ x := by omega
  refine ⟨_, List.mem_map.2 ⟨q, List.mem_filter.2 ⟨hq, by simpa using hge⟩, rfl⟩, ?_⟩
  unfold Sq.has
  simp only
  omega
theorem lowA_turn {W H y : Int} {l : List Sq} (g : T.Good W H l) : turnL W (lowD y (backL W l)) = lowA y l := by
  refine srt_eq ?_ (g.lt.sublist List.filter_sublist)
  have hp : (lowD y (backL W l)).Perm ((l.map (backS W)).filter (fun q => !decide (q.f0 ≥ y))) := (srt_perm _).filter _
  refine (List.Perm.symm ((hp.map (turnS W)).trans ?_))
  rw [List.filter_map, List.map_map]
  refine List.Perm.of_eq ?_
  refine (List.map_congr_left (g := id) (fun q hm => ?_)).trans (List.map_id _)
  simp only [Function.comp, turnS, backS, id]
  rw [show W - (W - q.f0 - q.f2) - q.f2 = q.f0 by omega]
theorem highA_turn {W H y : Int} {l : List Sq} (g : T.Good W H l) : turnL W (highD y (backL W l)) = highA y l := by
  refine srt_eq ?_ (List.pairwise_map.2 ((g.lt.sublist List.filter_sublist).imp (fun {a b} h => by unfold Lt at *; simp only; omega)))
  have hp : (highD y (backL W l)).Perm (((l.map (backS W)).filter (fun q => decide (q.f0 ≥ y))).map (fun q => (⟨q.f0 - y, q.f1, q.f2⟩ : Sq))) := ((srt_perm _).filter _).map _
  refine (List.Perm.symm ((hp.map (turnS W)).trans ?_))
  rw [List.filter_map, List.map_map, List.map_map]
  refine List.Perm.of_eq (List.map_congr_left (fun q hm => ?_))
  simp only [Function.comp, turnS, backS]
  rw [show W - (W - q.f0 - q.f2) - q.f2 = q.f0 by omega]
theorem lines_mem (l : List Sq) : ∀ (n : Nat) (x : Int), x ∈ linesTo l n → lineOk l x = true ∧ 1 ≤ x ∧ x ≤ n
  | 0, x, h => by simp [linesTo] at h
  | n + 1, x, h => by
    simp only [linesTo, List.mem_append] at h
    rcases h with h | h
    · have := lines_mem l n x h
      exact ⟨this.1, by omega, by omega⟩
    · split at h
      · rename_i c
        rw [List.mem_singleton] at h
        subst h
        exact ⟨c, by omega, by omega⟩
      · cases h
theorem line_free {W H : Int} {l : List Sq} (g : T.Good W H l) {n : Nat} {x : Int} (h : x ∈ linesTo l n) : Free x l := fun q hq => by
  have hw := g.w
  have hok := (lines_mem l n x h).1
  rw [lineOk_all, List.all_eq_true] at hok
  have hb := g.box q hq
  have hp := hok q hq
  unfold inBox at hb
  unfold pOk at hp
  rw [w64 (by omega) (by omega), Bool.or_eq_true, decide_eq_true_eq, decide_eq_true_eq] at hp
  exact hp
theorem partDown_no (a b : Int) (l : List Sq) (g : T.Good a b l) (h : linesTo l (a.toNat - 1) = []) : Ev (fun k => impl_Cut_partDown.f k a b l) (0, 0, [], 0, 0, [], false) := by
  have hw := g.w
  have hld : impl_Cut_linesDown.f a b l = some [] := by
    unfold impl_Cut_linesDown.f
    rw [if_pos (by omega), h]
  exact ev_call hld (ev_pos rfl (ev_some rfl))
theorem partDown_ev (a b : Int) (l : List Sq) (g : T.Good a b l) (x : Int) (ls : List Int) (h : linesTo l (a.toNat - 1) = x :: ls) : Ev (fun k => impl_Cut_partDown.f k a b l) (x, b, lowD x l, a - x, b, highD x l, true) := by
  have hw := g.w
  have hh := g.h
  have hn : l.length ≤ 1000 := by have := g.len; omega
  have hxm : x ∈ linesTo l (a.toNat - 1) := by rw [h]; exact List.mem_cons_self ..
  have hfr := line_free g hxm
  obtain ⟨-, hx1, hx2⟩ := lines_mem l _ x hxm
  have hld : impl_Cut_linesDown.f a b l = some (x :: ls) := by
    unfold impl_Cut_linesDown.f
    rw [if_pos (by omega), h]
  have hq : ∀ q ∈ l, wrap64 (q.f0 + q.f2) = q.f0 + q.f2 ∧ wrap64 (q.f1 + q.f2) = q.f1 + q.f2 ∧ 1 ≤ q.f2 ∧ 0 ≤ q.f0 ∧ q.f0 + q.f2 ≤ a ∧ 0 ≤ q.f1 ∧ q.f1 + q.f2 ≤ b ∧ (x ≤ q.f0 ∨ x ≥ q.f0 + q.f2) := fun q hq => by
    have hb1 := g.box q hq
    unfold inBox at hb1
    have hp := hfr q hq
    exact ⟨w64 (by omega) (by omega), w64 (by omega) (by omega), hb1.1, hb1.2.1, hb1.2.2.1, hb1.2.2.2.1, hb1.2.2.2.2, hp⟩
  have ht1 := taken_ev l hn a b 0 0 x b (by omega) (by omega) (fun q hm hi => by
    have h := hq q hm
    unfold insB at hi
    simp only [h.1, h.2.1, Bool.not_eq_true', Bool.or_eq_false_iff, decide_eq_false_iff_not] at hi ⊢
    omega)
  have ht2 := taken_ev l hn a b x 0 a b (by omega) (by omega) (fun q hm hi => by
    have h := hq q hm
    unfold insB at hi
    simp only [h.1, h.2.1, Bool.not_eq_true', Bool.or_eq_false_iff, decide_eq_false_iff_not] at hi ⊢
    omega)
  have f1 : (l.filter (insB 0 0 x b)).map (subS 0 0) = lowD x l := by
    have e1 : l.filter (insB 0 0 x b) = lowD x l := List.filter_congr (fun q hm => by
      have h := hq q hm
      unfold insB
      rw [h.1, h.2.1, decide_eq_false (show ¬ q.f1 ≥ b by omega), decide_eq_false (show ¬ q.f0 + q.f2 ≤ 0 by omega), decide_eq_false (show ¬ q.f1 + q.f2 ≤ 0 by omega)]
      simp)
    rw [e1]
    refine (List.map_congr_left (g := id) (fun q hm => ?_)).trans (List.map_id _)
    have h := hq q (List.mem_filter.1 hm).1
    unfold subS
    rw [Int.sub_zero, Int.sub_zero, w64 (by omega) (by omega), w64 (by omega) (by omega)]
    rfl
  have f2 : (l.filter (insB x 0 a b)).map (subS x 0) = highD x l := by
    have e1 : l.filter (insB x 0 a b) = l.filter (fun q => decide (q.f0 ≥ x)) := List.filter_congr (fun q hm => by
      have h := hq q hm
      unfold insB
      rw [h.1, h.2.1, decide_eq_false (show ¬ q.f0 ≥ a by omega), decide_eq_false (show ¬ q.f1 ≥ b by omega), decide_eq_false (show ¬ q.f1 + q.f2 ≤ 0 by omega)]
      by_cases c : q.f0 ≥ x
      · rw [decide_eq_true c, decide_eq_false (show ¬ q.f0 + q.f2 ≤ x by omega)]; rfl
      · rw [decide_eq_false c, decide_eq_true (show q.f0 + q.f2 ≤ x by omega)]; rfl)
    rw [e1]
    refine List.map_congr_left (fun q hm => ?_)
    have h := hq q (List.mem_filter.1 hm).1
    unfold subS
    rw [Int.sub_zero, w64 (e := q.f1) (by omega) (by omega), w64 (e := q.f0 - x) (by omega) (by omega)]
  rw [f1, Int.sub_zero, Int.sub_zero, w64 (e := x) (by omega) (by omega), w64 (e := b) (by omega) (by omega)] at ht1
  rw [f2, Int.sub_zero, w64 (e := b) (by omega) (by omega), w64 (e := a - x) (by omega) (by omega)] at ht2
  exact ev_call hld (ev_neg (by simp only [List.length_cons]; omega) (ev_pos (by simp only [List.length_cons]; omega) (ev_bind ht1 (ev_bind ht2 (ev_some rfl)))))
theorem turned_f (x y : Int) (m : List Sq) (g : T.Good x y m) : impl_Cut_turned.f x y m = some (y, x, turnL y m) := by
  unfold impl_Cut_turned.f
  rw [if_pos (by rw [isCutB_good]; exact goodB_iff.2 g)]
theorem partAcross_no (a b : Int) (l : List Sq) (g : T.Good a b l) (h : linesTo (l.map flipS) (b.toNat - 1) = []) : Ev (fun k => impl_Cut_partAcross.f k a b l) (0, 0, [], 0, 0, [], false) := by
  rw [← linesTo_back a] at h
  exact ev_call (back_f a b l g) (ev_bind (partDown_no b a _ g.back h) (ev_neg (by simp) (ev_some rfl)))
theorem partAcross_ev (a b : Int) (l : List Sq) (g : T.Good a b l) (y : Int) (ls : List Int) (h : linesTo (l.map flipS) (b.toNat - 1) = y :: ls) : Ev (fun k => impl_Cut_partAcross.f k a b l) (a, y, lowA y l, a, b - y, highA y l, true) := by
  have hh := g.h
  rw [← linesTo_back a] at h
  have hxm : y ∈ linesTo (backL a l) (b.toNat - 1) := by rw [h]; exact List.mem_cons_self ..
  have hfr := line_free g.back hxm
  obtain ⟨-, hx1, hx2⟩ := lines_mem _ _ y hxm
  have g1 := low_good g.back hx1 (by omega) hfr
  have g2 := high_good g.back hx1 (by omega) hfr
  refine ev_call (back_f a b l g) (ev_bind (partDown_ev b a _ g.back y ls h) (ev_pos rfl ?_))
  refine ev_call (turned_f _ _ _ g1) (ev_call (turned_f _ _ _ g2) (ev_some ?_))
  rw [lowA_turn g, highA_turn g]
theorem across_good {a b y : Int} {l : List Sq} {n : Nat} (g : T.Good a b l) (h : y ∈ linesTo (l.map flipS) n) (hn : (n : Int) < b) : T.Good a y (lowA y l) ∧ T.Good a (b - y) (highA y l) := by
  rw [← linesTo_back a] at h
  have hfr := line_free g.back h
  obtain ⟨-, hx1, hx2⟩ := lines_mem _ _ y h
  have g1 := (low_good g.back hx1 (by omega) hfr).turn
  have g2 := (high_good g.back hx1 (by omega) hfr).turn
  rw [lowA_turn g] at g1
  rw [highA_turn g] at g2
  exact ⟨g1, g2⟩
theorem down_good {a b x : Int} {l : List Sq} {n : Nat} (g : T.Good a b l) (h : x ∈ linesTo l n) (hn : (n : Int) < a) : T.Good x b (lowD x l) ∧ T.Good (a - x) b (highD x l) := by
  obtain ⟨-, hx1, hx2⟩ := lines_mem _ _ x h
  exact ⟨low_good g hx1 (by omega) (line_free g h), high_good g hx1 (by omega) (line_free g h)⟩
theorem joDown_l (l : List Sq) (hl : l.length ≤ 1000) (x w1 h1 w2 h2 : Int) : ∀ (d i : Nat) (A B : List Sq), i + d = l.length → A.length ≤ i → B.length ≤ i →
    Ev (fun k => spec_joPart.l0 k x true l l.length i w1 h1 A w2 h2 B) (w1, h1, A ++ (l.drop i).filter (fun q => !decide (q.f0 ≥ x)), w2, h2, B ++ ((l.drop i).filter (fun q => decide (q.f0 ≥ x))).map (fun q => (⟨wrap64 (q.f0 - x), q.f1, q.f2⟩ : Sq)))
  | 0, i, A, B, hd, ha, hb => by
    rw [List.drop_eq_nil_of_le (by omega)]
    exact Ev.step (fun _ => spec_joPart.l0.eq_2 ..) (ev_neg (by omega) (ev_some (by simp)))
  | d + 1, i, A, B, hd, ha, hb => by
    have hi : i < l.length := by omega
    refine Ev.step (fun _ => spec_joPart.l0.eq_2 ..) (ev_pos (by omega) (ev_pos (by omega) (ev_pos (by omega) (ev_pos rfl ?_))))
    rw [rdq]
    refine Ev.step (fun _ => spec_joPart.j2.eq_2 ..) ?_
    rw [drop_nq l i hi, List.filter_cons, List.filter_cons, w64 (e := (i : Int) + 1) (by omega) (by omega)]
    by_cases c : (nq l i).f0 ≥ x
    · have ih := joDown_l l hl x w1 h1 w2 h2 d (i + 1) A (B ++ [⟨wrap64 ((nq l i).f0 - x), (nq l i).f1, (nq l i).f2⟩]) (by omega) (by omega) (by simp; omega)
      simp only [decide_eq_true c, Bool.not_true, if_true, List.map_cons, Bool.false_eq_true, if_false]
      rw [List.append_assoc] at ih
      exact ev_pos (by omega) ih
    · have ih := joDown_l l hl x w1 h1 w2 h2 d (i + 1) (A ++ [nq l i]) B (by omega) (by simp; omega) (by omega)
      simp only [decide_eq_false c, Bool.not_false, if_true, Bool.false_eq_true, if_false]
      rw [List.append_assoc] at ih
      exact ev_pos (by omega) ih
theorem joAcross_l (l : List Sq) (hl : l.length ≤ 1000) (x w1 h1 w2 h2 : Int) : ∀ (d i : Nat) (A B : List Sq), i + d = l.length → A.length ≤ i → B.length ≤ i →
    Ev (fun k => spec_joPart.l0 k x false l l.length i w1 h1 A w2 h2 B) (w1, h1, A ++ (l.drop i).filter (fun q => !decide (q.f1 ≥ x)), w2, h2, B ++ ((l.drop i).filter (fun q => decide (q.f1 ≥ x))).map (fun q => (⟨q.f0, wrap64 (q.f1 - x), q.f2⟩ : Sq)))
  | 0, i, A, B, hd, ha, hb => by
    rw [List.drop_eq_nil_of_le (by omega)]
    exact Ev.step (fun _ => spec_joPart.l0.eq_2 ..) (ev_neg (by omega) (ev_some (by simp)))
  | d + 1, i, A, B, hd, ha, hb => by
    have hi : i < l.length := by omega
    refine Ev.step (fun _ => spec_joPart.l0.eq_2 ..) (ev_pos (by omega) (ev_pos (by omega) (ev_pos (by omega) (ev_neg (by simp) ?_))))
    rw [rdq]
    refine Ev.step (fun _ => spec_joPart.j2.eq_2 ..) (ev_neg (by simp) (ev_neg (by simp) ?_))
    rw [drop_nq l i hi, List.filter_cons, List.filter_cons, w64 (e := (i : Int) + 1) (by omega) (by omega)]
    by_cases c : (nq l i).f1 ≥ x
    · have ih := joAcross_l l hl x w1 h1 w2 h2 d (i + 1) A (B ++ [⟨(nq l i).f0, wrap64 ((nq l i).f1 - x), (nq l i).f2⟩]) (by omega) (by omega) (by simp; omega)
      simp only [decide_eq_true c, Bool.not_true, if_true, List.map_cons, Bool.false_eq_true, if_false]
      rw [List.append_assoc] at ih
      exact ev_pos c (ev_pos (by omega) ih)
    · have ih := joAcross_l l hl x w1 h1 w2 h2 d (i + 1) (A ++ [nq l i]) B (by omega) (by simp; omega) (by omega)
      simp only [decide_eq_false c, Bool.not_false, if_true, Bool.false_eq_true, if_false]
      rw [List.append_assoc] at ih
      exact ev_neg c (ev_pos (by omega) ih)
theorem joDown_ev (a b : Int) (l : List Sq) (g : T.Good a b l) (x : Int) (h1 : 1 ≤ x) (h2 : x < a) : Ev (fun k => spec_joPart.f k a b l x true) (x, b, lowD x l, a - x, b, highD x l) := by
  have hw := g.w
  have h := joDown_l l (by have := g.len; omega) x x b (wrap64 (a - x)) b l.length 0 [] [] (by omega) (by simp) (by simp)
  simp only [List.drop_zero, List.nil_append] at h
  have e : (l.filter (fun q => decide (q.f0 ≥ x))).map (fun q => (⟨wrap64 (q.f0 - x), q.f1, q.f2⟩ : Sq)) = highD x l := List.map_congr_left (fun q hm => by
    have hb := g.box q (List.mem_filter.1 hm).1
    unfold inBox at hb
    rw [w64 (by omega) (by omega)])
  rw [e, w64 (e := a - x) (by omega) (by omega)] at h
  refine ev_pos rfl (Ev.step (fun _ => spec_joPart.j0.eq_2 ..) ?_)
  rw [w64 (e := a - x) (by omega) (by omega)]
  exact h
theorem joAcross_ev (a b : Int) (l : List Sq) (g : T.Good a b l) (x : Int) (h1 : 1 ≤ x) (h2 : x < b) : Ev (fun k => spec_joPart.f k a b l x false) (a, x, lowA x l, a, b - x, highA x l) := by
  have hw := g.h
  have h := joAcross_l l (by have := g.len; omega) x a x a (wrap64 (b - x)) l.length 0 [] [] (by omega) (by simp) (by simp)
  simp only [List.drop_zero, List.nil_append] at h
  have e : (l.filter (fun q => decide (q.f1 ≥ x))).map (fun q => (⟨q.f0, wrap64 (q.f1 - x), q.f2⟩ : Sq)) = highA x l := List.map_congr_left (fun q hm => by
    have hb := g.box q (List.mem_filter.1 hm).1
    unfold inBox at hb
    rw [w64 (by omega) (by omega)])
  rw [e, w64 (e := b - x) (by omega) (by omega)] at h
  refine ev_neg (by simp) (Ev.step (fun _ => spec_joPart.j0.eq_2 ..) ?_)
  rw [w64 (e := b - x) (by omega) (by omega)]
  exact h
theorem joLinesD_ev (a b : Int) (l : List Sq) (g : T.Good a b l) : Ev (fun k => spec_joLines.f k a b l true) (linesTo l (a.toNat - 1)) := by
  have hw := g.w
  have h := joLines_ev l (by have := g.len; omega) a.toNat (by omega) b
  rwa [Int.toNat_of_nonneg (by omega)] at h
theorem joLinesA_ev (a b : Int) (l : List Sq) (g : T.Good a b l) : Ev (fun k => spec_joLines.f k a b l false) (linesTo (l.map flipS) (b.toNat - 1)) := by
  have hw := g.h
  have h := joLinesX_ev l (by have := g.len; omega) b.toNat (by omega) a
  rwa [Int.toNat_of_nonneg (by omega)] at h
end Go.Proofs.Ytnfiejagokefcaa.Pure

namespace Go.Proofs.Ytnfiejagokefcaa.Pure
set_option linter.unusedVariables false
set_option linter.unusedSimpArgs false
open Go.RowKit Go.Proofs.Ytnfiejagokefcaa.P Go.Proofs.YtnfiejagokefcaaW.PrintWords Go.Proofs.YtnfiejagokefcaaW.PrintLast Go.Proofs.YtnfiejagokefcaaW.PrintMore Go.Proofs.Ytnfiejagokefcaa.Aid Go.Proofs.Ytnfiejagokefcaa.T
theorem split_len (p : Sq → Bool) : ∀ l : List Sq, (l.filter (fun q => !p q)).length + (l.filter p).length = l.length
  | [] => rfl
  | q :: l => by
    have ih := split_len p l
    rw [List.filter_cons, List.filter_cons]
    cases p q <;> simp <;> omega
theorem down_len (x : Int) (l : List Sq) : (lowD x l).length + (highD x l).length = l.length := by
  unfold lowD highD
  rw [List.length_map]
  exact split_len (fun q => decide (q.f0 ≥ x)) l
theorem across_len (y : Int) (l : List Sq) : (lowA y l).length + (highA y l).length = l.length := by
  unfold lowA highA
  rw [List.length_map]
  exact split_len (fun q => decide (q.f1 ≥ y)) l
def joined (c : UInt8) (r s : ByteArray × Bool) : ByteArray × Bool := if r.2 = true ∧ s.2 = true then (((⟨#[c]⟩ : ByteArray) ++ r.1) ++ s.1, true) else ((⟨#[]⟩ : ByteArray), false)
theorem one_size (c : UInt8) (s : ByteArray) : ((⟨#[c]⟩ : ByteArray) ++ s).size = 1 + s.size := by rw [ByteArray.size_append]; rfl
theorem joined_size (c : UInt8) (r s : ByteArray × Bool) (n m : Nat) (h1 : r.1.size + 1 ≤ 2 * n) (h2 : s.1.size + 1 ≤ 2 * m) : (joined c r s).1.size + 1 ≤ 2 * (n + m) := by
  unfold joined
  split
  · rw [ByteArray.size_append, one_size]; omega
  · show 0 + 1 ≤ _; omega
theorem j1_ev (d : Bool) (r s : ByteArray × Bool) (h1 : r.1.size ≤ 1000) (h2 : s.1.size ≤ 1000) : Ev (fun k => if r.2 = true then spec_joTree.j1 k d r.1 s.1 (!s.2) else spec_joTree.j1 k d r.1 s.1 true) (joined (if d = true then 98 else 117) r s) := by
  obtain ⟨r1, r2⟩ := r
  obtain ⟨s1, s2⟩ := s
  simp only at h1 h2
  have n1 : ∀ c : UInt8, ((⟨#[c]⟩ : ByteArray) ++ r1).size + s1.size ≤ 9223372036854775807 := fun c => by rw [one_size]; omega
  cases r2
  · exact ev_neg (by simp) (Ev.step (fun _ => spec_joTree.j1.eq_2 ..) (ev_pos rfl (ev_some rfl)))
  · refine ev_pos rfl (Ev.step (fun _ => spec_joTree.j1.eq_2 ..) ?_)
    cases s2
    · exact ev_pos rfl (ev_some rfl)
    · cases d
      · exact ev_neg (by simp) (ev_neg (by simp) (ev_pos (by show 1 + r1.size ≤ _; omega) (ev_pos (n1 _) (ev_some rfl))))
      · exact ev_neg (by simp) (ev_pos rfl (ev_pos (by show 1 + r1.size ≤ _; omega) (ev_pos (n1 _) (ev_some rfl))))
theorem j0_ev (c : UInt8) (w1 h1 w2 h2 : Int) (A B : List Sq) (r s : ByteArray × Bool) (e1 : r.1.size ≤ 1000) (e2 : s.1.size ≤ 1000) (k1 : Ev (fun k => impl_Cut_tree.f k w1 h1 A) r) (k2 : Ev (fun k => impl_Cut_tree.f k w2 h2 B) s) : Ev (fun k => impl_Cut_tree.j0 k (⟨#[c]⟩ : ByteArray) true w1 h1 A w2 h2 B) (joined c r s) := by
  refine Ev.step (fun _ => impl_Cut_tree.j0.eq_2 ..) (ev_pos rfl (ev_bind k1 (ev_bind k2 ?_)))
  obtain ⟨r1, r2⟩ := r
  obtain ⟨s1, s2⟩ := s
  simp only at e1 e2 ⊢
  have n0 : (⟨#[c]⟩ : ByteArray).size + r1.size ≤ 9223372036854775807 := by show 1 + _ ≤ _; omega
  have n1 : ((⟨#[c]⟩ : ByteArray) ++ r1).size + s1.size ≤ 9223372036854775807 := by rw [one_size]; omega
  cases r2
  · exact ev_neg (by simp) (ev_some rfl)
  · refine ev_pos rfl ?_
    cases s2
    · exact ev_neg (by simp) (ev_some rfl)
    · exact ev_pos rfl (ev_pos n0 (ev_pos n1 (ev_some rfl)))
theorem tree_both : ∀ (n : Nat) (a b : Int) (l : List Sq), l.length ≤ n → T.Good a b l → ∃ r : ByteArray × Bool, r.1.size + 1 ≤ 2 * l.length ∧ Ev (fun k => spec_joTree.f k a b l) r ∧ Ev (fun k => impl_Cut_tree.f k a b l) r
  | 0, a, b, l, hn, g => by have := g.pos; omega
  | n + 1, a, b, l, hn, g => by
    have hp := g.pos
    have hl := g.len
    have hw := g.w
    have hh := g.h
    by_cases e1 : (l.length : Int) = 1
    · exact ⟨((⟨#[115]⟩ : ByteArray), true), by show 1 + 1 ≤ _; omega, Ev.step (fun _ => spec_joTree.f.eq_2 ..) (ev_pos e1 (ev_some rfl)), Ev.step (fun _ => impl_Cut_tree.f.eq_2 ..) (ev_pos e1 (ev_some rfl))⟩
    have hjd := joLinesD_ev a b l g
    cases ed : linesTo l (a.toNat - 1) with
    | cons x ls =>
      rw [ed] at hjd
      have hm : x ∈ linesTo l (a.toNat - 1) := by rw [ed]; exact List.mem_cons_self ..
      obtain ⟨-, h1, h2⟩ := lines_mem _ _ x hm
      obtain ⟨g1, g2⟩ := down_good g hm (by omega)
      have p1 := g1.pos
      have p2 := g2.pos
      have hs := down_len x l
      obtain ⟨r, z1, s1, i1⟩ := tree_both n x b (lowD x l) (by omega) g1
      obtain ⟨s, z2, s2, i2⟩ := tree_both n (a - x) b (highD x l) (by omega) g2
      refine ⟨joined 98 r s, by rw [← hs]; exact joined_size _ _ _ _ _ z1 z2, ?_, ?_⟩
      · refine Ev.step (fun _ => spec_joTree.f.eq_2 ..) (ev_neg e1 (Ev.step (fun _ => spec_joTree.l0.eq_2 ..) ?_))
        refine ev_pos (by decide) (ev_pos (by decide) (ev_pos (by decide) ?_))
        refine ev_bind hjd (ev_neg (by simp only [List.length_cons]; omega) (ev_pos (by simp only [List.length_cons]; omega) ?_))
        refine ev_bind (joDown_ev a b l g x h1 (by omega)) (ev_bind s1 (ev_bind s2 ?_))
        exact j1_ev true r s (by omega) (by omega)
      · refine Ev.step (fun _ => impl_Cut_tree.f.eq_2 ..) (ev_neg e1 (ev_bind (partDown_ev a b l g x ls ed) (ev_pos rfl ?_)))
        exact j0_ev 98 _ _ _ _ _ _ r s (by omega) (by omega) i1 i2
    | nil =>
      rw [ed] at hjd
      have hja := joLinesA_ev a b l g
      cases ea : linesTo (l.map flipS) (b.toNat - 1) with
      | cons y ls =>
        rw [ea] at hja
        have hm : y ∈ linesTo (l.map flipS) (b.toNat - 1) := by rw [ea]; exact List.mem_cons_self ..
        obtain ⟨-, h1, h2⟩ := lines_mem _ _ y hm
        obtain ⟨g1, g2⟩ := across_good g hm (by omega)
        have p1 := g1.pos
        have p2 := g2.pos
        have hs := across_len y l
        obtain ⟨r, z1, s1, i1⟩ := tree_both n a y (lowA y l) (by omega) g1
        obtain ⟨s, z2, s2, i2⟩ := tree_both n a (b - y) (highA y l) (by omega) g2
        refine ⟨joined 117 r s, by rw [← hs]; exact joined_size _ _ _ _ _ z1 z2, ?_, ?_⟩
        · refine Ev.step (fun _ => spec_joTree.f.eq_2 ..) (ev_neg e1 (Ev.step (fun _ => spec_joTree.l0.eq_2 ..) ?_))
          refine ev_pos (by decide) (ev_pos (by decide) (ev_pos (by decide) ?_))
          refine ev_bind hjd (ev_pos rfl (Ev.step (fun _ => spec_joTree.l0.eq_2 ..) ?_))
          rw [w64 (e := (0 : Int) + 1) (by omega) (by omega)]
          refine ev_pos (by decide) (ev_pos (by decide) (ev_pos (by decide) ?_))
          refine ev_bind hja (ev_neg (by simp only [List.length_cons]; omega) (ev_pos (by simp only [List.length_cons]; omega) ?_))
          refine ev_bind (joAcross_ev a b l g y h1 (by omega)) (ev_bind s1 (ev_bind s2 ?_))
          exact j1_ev false r s (by omega) (by omega)
        · refine Ev.step (fun _ => impl_Cut_tree.f.eq_2 ..) (ev_neg e1 (ev_bind (partDown_no a b l g ed) (ev_neg (by simp) (ev_bind (partAcross_ev a b l g y ls ea) ?_))))
          exact j0_ev 117 _ _ _ _ _ _ r s (by omega) (by omega) i1 i2
      | nil =>
        rw [ea] at hja
        refine ⟨((⟨#[]⟩ : ByteArray), false), by show 0 + 1 ≤ _; omega, ?_, ?_⟩
        · refine Ev.step (fun _ => spec_joTree.f.eq_2 ..) (ev_neg e1 (Ev.step (fun _ => spec_joTree.l0.eq_2 ..) ?_))
          refine ev_pos (by decide) (ev_pos (by decide) (ev_pos (by decide) ?_))
          refine ev_bind hjd (ev_pos rfl (Ev.step (fun _ => spec_joTree.l0.eq_2 ..) ?_))
          rw [w64 (e := (0 : Int) + 1) (by omega) (by omega)]
          refine ev_pos (by decide) (ev_pos (by decide) (ev_pos (by decide) ?_))
          exact ev_bind hja (ev_pos rfl (Ev.step (fun _ => spec_joTree.l0.eq_2 ..) (ev_neg (by rw [w64 (by omega) (by omega)]; decide) (ev_some rfl))))
        · refine Ev.step (fun _ => impl_Cut_tree.f.eq_2 ..) (ev_neg e1 (ev_bind (partDown_no a b l g ed) (ev_neg (by simp) (ev_bind (partAcross_no a b l g ea) ?_))))
          exact Ev.step (fun _ => impl_Cut_tree.j0.eq_2 ..) (ev_neg (by simp) (ev_some rfl))
end Go.Proofs.Ytnfiejagokefcaa.Pure

namespace Go.Proofs.Ytnfiejagokefcaa.Pure
set_option linter.unusedVariables false
set_option linter.unusedSimpArgs false
open Go.RowKit Go.Proofs.Ytnfiejagokefcaa.P Go.Proofs.YtnfiejagokefcaaW.PrintWords Go.Proofs.YtnfiejagokefcaaW.PrintLast Go.Proofs.YtnfiejagokefcaaW.PrintMore Go.Proofs.Ytnfiejagokefcaa.Aid Go.Proofs.Ytnfiejagokefcaa.T
theorem byLinesOf_both (a b : Int) (l : List Sq) (hl : l.length ≤ 9223372036854775807) : ∃ r : Bool × Bool, Ev (fun k => spec_IsByLines.f k a b l) r ∧ Ev (fun k => impl_IsByLines.f k a b l) r := by
  by_cases c : goodB a b l = true
  · have g := goodB_iff.1 c
    obtain ⟨r, -, h1, h2⟩ := tree_both _ a b l (Nat.le_refl _) g
    exact ⟨(r.2, true), ev_bind (cuGood_ev a b l hl) (ev_pos c (ev_bind h1 (ev_some rfl))), ev_call (isCut_f a b l) (ev_pos c (ev_bind h2 (ev_some rfl)))⟩
  · exact ⟨_, ev_bind (cuGood_ev a b l hl) (ev_neg c (ev_some rfl)), ev_call (isCut_f a b l) (ev_neg c (ev_some rfl))⟩
theorem FnExactIsByLines : laws_FnExactIsByLines.Pure := by
  intro a b l _ _ hl _
  unfold maxLen at hl
  obtain ⟨⟨r1, r2⟩, h1, h2⟩ := byLinesOf_both a b l hl
  refine ⟨_, szCut_f a b l 1048576 (by omega) (by omega) hl, ?_⟩
  by_cases c : (1048576 : Int) < l.length
  · rw [if_pos c]; exact .inl (by omega)
  · rw [if_neg c]
    exact .inr ⟨r1, r2, ev_at (toCut_ev a b l (by omega)), ev_at h1, ev_at h2, ev_at (eqCut_refl a b l hl)⟩
end Go.Proofs.Ytnfiejagokefcaa.Pure
