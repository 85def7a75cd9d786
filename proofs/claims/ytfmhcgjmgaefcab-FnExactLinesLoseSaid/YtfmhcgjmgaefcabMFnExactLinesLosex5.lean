import Derived.Test.YtfmhcgjmgaefcabMFnExactLinesLosex0
import Derived.Test.YtfmhcgjmgaefcabMFnExactLinesLosex1
import Derived.Test.YtfmhcgjmgaefcabMFnExactLinesLosex2
import Derived.Test.YtfmhcgjmgaefcabMFnExactLinesLosex3
import Derived.Test.YtfmhcgjmgaefcabMFnExactLinesLosex4
namespace Go.Proofs.Ytfmhcgjmgaefcab.P
open Go.RowKit Go.Proofs.YtfmhcgjmgaefcabW.PrintWords Go.Proofs.YtfmhcgjmgaefcabW.PrintLast Go.Proofs.YtfmhcgjmgaefcabW.PrintMore
attribute [local go_sem] max2_int min2_int max_two min_two max_three min_three max_four min_four
set_option linter.unusedVariables false
set_option linter.unusedSimpArgs false

/-! ### laws_FnExactLinesLose: function 6 -/
def laws_FnExactLinesLose.f (k : Nat) (a0 : Int) (a1 : Int) : Option (Bool) := (spec_LinesLose.f k a0 a1).bind fun bt101 => ((impl_LinesLose.f k a0 a1).bind fun bt103 => (if bt103.1 = bt101.1 then (if (bt103.2 != bt101.2) = true then (some false) else (some true)) else (some false)))
theorem laws_FnExactLinesLose.mono : ∀ a0 a1 k, LeO (laws_FnExactLinesLose.f k a0 a1) (laws_FnExactLinesLose.f (k + 1) a0 a1) := by
  intro a0 a1 k
  unfold laws_FnExactLinesLose.f
  repeat' first
      | (with_reducible exact impl_LinesLose.mono _ _ _)
      | (with_reducible exact spec_LinesLose.mono _ _ _)
      | (with_reducible exact LeO.refl _)
      | (with_reducible exact LeO.none _)
      | (with_reducible refine LeO.ite ?_ ?_)
      | (with_reducible refine LeO.bind ?_ (fun _ => ?_))
      | exact impl_LinesLose.mono _ _ _
      | exact spec_LinesLose.mono _ _ _
      | exact LeO.none _
      | refine LeO.ite ?_ ?_
      | refine LeO.bind ?_ (fun _ => ?_)
set_option maxHeartbeats 8000000 in
set_option maxRecDepth 100000 in
theorem laws_FnExactLinesLose.calls (k : Nat) (a0 : Int) (a1 : Int) (r : Bool) (w : World) (h : laws_FnExactLinesLose.f k a0 a1 = some r) :
    Calls Try.prog 6 #[.int .i64 a0, .int .i64 a1] w fun e w' => e = .returned (.bool r) ∧ Below w.heap.size w w' := by
  have HB := Aside0.mk (Below.refl w.heap.size w)
  have H : ((spec_LinesLose.f k a0 a1).bind fun bt101 => ((impl_LinesLose.f k a0 a1).bind fun bt103 => (if bt103.1 = bt101.1 then (if (bt103.2 != bt101.2) = true then (some false) else (some true)) else (some false)))) = some r := h
  clear h
  replace H := Option.bind_eq_some_iff.mp H
  obtain ⟨⟨t101, t102⟩, A30, H⟩ := H
  replace H : ((impl_LinesLose.f k a0 a1).bind fun bt103 => (if bt103.1 = t101 then (if (bt103.2 != t102) = true then (some false) else (some true)) else (some false))) = some r := H
  have A3 := Aside0.mk A30
  clear A30
  replace H := Option.bind_eq_some_iff.mp H
  obtain ⟨⟨t103, t104⟩, A40, H⟩ := H
  replace H : (if t103 = t101 then (if (t104 != t102) = true then (some false) else (some true)) else (some false)) = some r := H
  have A4 := Aside0.mk A40
  clear A40
  by_cases c5 : t103 = t101
  · rw [if_pos c5] at H
    have c5b0 : (t103 == t101) = true := beq_iff_eq.mpr c5
    have c5b1 : (t103 != t101) = false := bne_eq_false_iff_eq.mpr c5
    clear c5
    by_cases c6 : (t104 != t102) = true
    · rw [if_pos c6] at H
      have c6b0 : (t104 != t102) = true := c6
      (try (have c6b1 : decide (t104 = t102) = false := by simpa using c6))
      (try (have c6b2 : (t104 == t102) = false := by simpa using c6))
      (try (have c6b3 : ¬ (t104 = t102) := by simpa using c6))
      clear c6
      obtain rfl := Option.some.inj H
      go_enter Try.func6, Try.ntmps6
      go_wp2_with (first | ((with_reducible refine gate_callee (f := 22) rfl ?_); refine goesL_ (some 12) rfl rfl Try.func22 (by kernel_rfl) rfl #[.int .i64 a0, .int .i64 a1] rfl (by (try simp only [List.map_toArray, List.map_cons, List.map_nil]); first | done | rfl | (simp only [List.length_drop, List.length_take]; rfl)) ?_; (with_reducible refine (spec_LinesLose.calls k a0 a1 t101 t102 _ A3.out).mono ?_); rintro e w7 ⟨rfl, hb⟩; refine ⟨_, rfl, ?_⟩; have n0_ := Aside0.mk (below_step (by repeat (first | (with_reducible first | exact HB.out | apply below_alloc | apply pw_below_drewN | apply below_drew1) | exact HB.out)) hb); clear HB; have HB := n0_; clear n0_; (try clear hb); (try clear hb2); (try clear hk); (try clear hi)) | ((with_reducible refine gate_callee (f := 23) rfl ?_); refine goesL_ (some 18) rfl rfl Try.func23 (by kernel_rfl) rfl #[.int .i64 a0, .int .i64 a1] rfl (by (try simp only [List.map_toArray, List.map_cons, List.map_nil]); first | done | rfl | (simp only [List.length_drop, List.length_take]; rfl)) ?_; (with_reducible refine (impl_LinesLose.calls k a0 a1 t103 t104 _ A4.out).mono ?_); rintro e w8 ⟨rfl, hb⟩; refine ⟨_, rfl, ?_⟩; have n0_ := Aside0.mk (below_step (by repeat (first | (with_reducible first | exact HB.out | apply below_alloc | apply pw_below_drewN | apply below_drew1) | exact HB.out)) hb); clear HB; have HB := n0_; clear n0_; (try clear hb); (try clear hb2); (try clear hk); (try clear hi)))
      go_ret
      exact ⟨by first | rfl | (simp [errW_none, errW_some] <;> rfl) | (simp [*, errW_none, errW_some] <;> rfl), by repeat (first | (with_reducible first | exact HB.out | apply below_alloc | apply pw_below_drewN | apply below_drew1) | exact HB.out)⟩
    · rw [if_neg c6] at H
      have c6b0 : (t104 != t102) = false := by simpa using c6
      (try (have c6b1 : decide (t104 = t102) = true := by simpa using c6))
      (try (have c6b2 : (t104 == t102) = true := by simpa using c6))
      clear c6
      obtain rfl := Option.some.inj H
      go_enter Try.func6, Try.ntmps6
      go_wp2_with (first | ((with_reducible refine gate_callee (f := 22) rfl ?_); refine goesL_ (some 12) rfl rfl Try.func22 (by kernel_rfl) rfl #[.int .i64 a0, .int .i64 a1] rfl (by (try simp only [List.map_toArray, List.map_cons, List.map_nil]); first | done | rfl | (simp only [List.length_drop, List.length_take]; rfl)) ?_; (with_reducible refine (spec_LinesLose.calls k a0 a1 t101 t102 _ A3.out).mono ?_); rintro e w9 ⟨rfl, hb⟩; refine ⟨_, rfl, ?_⟩; have n0_ := Aside0.mk (below_step (by repeat (first | (with_reducible first | exact HB.out | apply below_alloc | apply pw_below_drewN | apply below_drew1) | exact HB.out)) hb); clear HB; have HB := n0_; clear n0_; (try clear hb); (try clear hb2); (try clear hk); (try clear hi)) | ((with_reducible refine gate_callee (f := 23) rfl ?_); refine goesL_ (some 18) rfl rfl Try.func23 (by kernel_rfl) rfl #[.int .i64 a0, .int .i64 a1] rfl (by (try simp only [List.map_toArray, List.map_cons, List.map_nil]); first | done | rfl | (simp only [List.length_drop, List.length_take]; rfl)) ?_; (with_reducible refine (impl_LinesLose.calls k a0 a1 t103 t104 _ A4.out).mono ?_); rintro e w10 ⟨rfl, hb⟩; refine ⟨_, rfl, ?_⟩; have n0_ := Aside0.mk (below_step (by repeat (first | (with_reducible first | exact HB.out | apply below_alloc | apply pw_below_drewN | apply below_drew1) | exact HB.out)) hb); clear HB; have HB := n0_; clear n0_; (try clear hb); (try clear hb2); (try clear hk); (try clear hi)))
      go_ret
      exact ⟨by first | rfl | (simp [errW_none, errW_some] <;> rfl) | (simp [*, errW_none, errW_some] <;> rfl), by repeat (first | (with_reducible first | exact HB.out | apply below_alloc | apply pw_below_drewN | apply below_drew1) | exact HB.out)⟩
  · rw [if_neg c5] at H
    have c5b0 : (t103 == t101) = false := beq_eq_false_iff_ne.mpr c5
    have c5b1 : (t103 != t101) = true := bne_iff_ne.mpr c5
    obtain rfl := Option.some.inj H
    go_enter Try.func6, Try.ntmps6
    go_wp2_with (first | ((with_reducible refine gate_callee (f := 22) rfl ?_); refine goesL_ (some 12) rfl rfl Try.func22 (by kernel_rfl) rfl #[.int .i64 a0, .int .i64 a1] rfl (by (try simp only [List.map_toArray, List.map_cons, List.map_nil]); first | done | rfl | (simp only [List.length_drop, List.length_take]; rfl)) ?_; (with_reducible refine (spec_LinesLose.calls k a0 a1 t101 t102 _ A3.out).mono ?_); rintro e w11 ⟨rfl, hb⟩; refine ⟨_, rfl, ?_⟩; have n0_ := Aside0.mk (below_step (by repeat (first | (with_reducible first | exact HB.out | apply below_alloc | apply pw_below_drewN | apply below_drew1) | exact HB.out)) hb); clear HB; have HB := n0_; clear n0_; (try clear hb); (try clear hb2); (try clear hk); (try clear hi)) | ((with_reducible refine gate_callee (f := 23) rfl ?_); refine goesL_ (some 18) rfl rfl Try.func23 (by kernel_rfl) rfl #[.int .i64 a0, .int .i64 a1] rfl (by (try simp only [List.map_toArray, List.map_cons, List.map_nil]); first | done | rfl | (simp only [List.length_drop, List.length_take]; rfl)) ?_; (with_reducible refine (impl_LinesLose.calls k a0 a1 t103 t104 _ A4.out).mono ?_); rintro e w12 ⟨rfl, hb⟩; refine ⟨_, rfl, ?_⟩; have n0_ := Aside0.mk (below_step (by repeat (first | (with_reducible first | exact HB.out | apply below_alloc | apply pw_below_drewN | apply below_drew1) | exact HB.out)) hb); clear HB; have HB := n0_; clear n0_; (try clear hb); (try clear hb2); (try clear hk); (try clear hi)))
    go_ret
    exact ⟨by first | rfl | (simp [errW_none, errW_some] <;> rfl) | (simp [*, errW_none, errW_some] <;> rfl), by repeat (first | (with_reducible first | exact HB.out | apply below_alloc | apply pw_below_drewN | apply below_drew1) | exact HB.out)⟩

/-- THE ONE PURE STATEMENT of laws_FnExactLinesLose: yours. -/
def laws_FnExactLinesLose.Pure : Prop := ∀ (a0 : Int) (a1 : Int), (Lit.int .i64 a0).wf = true → (Lit.int .i64 a1).wf = true → ∃ k, laws_FnExactLinesLose.f k a0 a1 = some true
theorem laws_FnExactLinesLose.walk (P : laws_FnExactLinesLose.Pure) (a0 : Int) (a1 : Int) (w : World) (w0 : (Lit.int .i64 a0).wf = true) (w1 : (Lit.int .i64 a1).wf = true) :
    Calls Try.prog 6 #[.int .i64 a0, .int .i64 a1] w fun e w' => e = .returned (.bool true) ∧ Below w.heap.size w w' := by
  obtain ⟨k, h⟩ := P a0 a1 w0 w1
  refine (laws_FnExactLinesLose.calls k a0 a1 true w h).mono ?_
  rintro e w' ⟨rfl, hd⟩
  exact ⟨rfl, hd⟩

end Go.Proofs.Ytfmhcgjmgaefcab.P

namespace Go.Proofs.Ytfmhcgjmgaefcab.P
open Go.RowKit Go.Proofs.YtfmhcgjmgaefcabW.PrintWords Go.Proofs.YtfmhcgjmgaefcabW.PrintLast Go.Proofs.YtfmhcgjmgaefcabW.PrintMore
attribute [local go_sem] max2_int min2_int max_two min_two max_three min_three max_four min_four
set_option linter.unusedVariables false
set_option linter.unusedSimpArgs false

/-! ### spec_raGood: function 71 -/
def spec_raGood.f (a0 : Int) (a1 : Int) : Option (Bool) := (spec_l1In.f a0 1 1000).bind fun t101 => (if t101 = true then ((spec_l1In.f a1 1 1000).bind fun t102 => (some t102)) else (some false))
set_option maxHeartbeats 8000000 in
set_option maxRecDepth 100000 in
theorem spec_raGood.calls (a0 : Int) (a1 : Int) (r : Bool) (w : World) (h : spec_raGood.f a0 a1 = some r) :
    Calls Try.prog 71 #[.int .i64 a0, .int .i64 a1] w fun e w' => e = .returned (.bool r) ∧ Drawn0 w w' := by
  have H : ((spec_l1In.f a0 1 1000).bind fun t101 => (if t101 = true then ((spec_l1In.f a1 1 1000).bind fun t102 => (some t102)) else (some false))) = some r := h
  clear h
  replace H := Option.bind_eq_some_iff.mp H
  obtain ⟨t101, A30, H⟩ := H
  replace H : (if t101 = true then ((spec_l1In.f a1 1 1000).bind fun t102 => (some t102)) else (some false)) = some r := H
  have A3 := Aside0.mk A30
  clear A30
  by_cases c4 : t101 = true
  · subst c4
    have H1 : ((spec_l1In.f a1 1 1000).bind fun t102 => (some t102)) = some r := by rw [if_pos rfl] at H; exact H
    clear H
    have H := H1
    clear H1
    replace H := Option.bind_eq_some_iff.mp H
    obtain ⟨t102, A50, H⟩ := H
    replace H : (some t102) = some r := H
    have A5 := Aside0.mk A50
    clear A50
    obtain rfl := Option.some.inj H
    go_enter Try.func71, Try.ntmps71
    go_wp2_with (first | ((with_reducible refine gate_callee (f := 32) rfl ?_); refine goesL_ (some 6) rfl rfl Try.func32 (by kernel_rfl) rfl #[.int .i64 a0, .int .i64 1, .int .i64 1000] rfl (by (try simp only [List.map_toArray, List.map_cons, List.map_nil]); first | done | rfl | (simp only [List.length_drop, List.length_take]; rfl)) ?_; (with_reducible refine (spec_l1In.calls a0 1 1000 true _ A3.out).mono ?_); rintro e w' ⟨rfl, ⟨nd, rfl⟩⟩; refine ⟨_, rfl, ?_⟩) | (go_at_call 32; (with_reducible refine (spec_l1In.calls a1 1 1000 t102 _ A5.out).mono ?_); rintro e w' ⟨rfl, ⟨nd, rfl⟩⟩))
    go_ret
    exact ⟨by first | rfl | (simp; done) | (simp [*]; done), by repeat (first | exact Drawn0.refl _ | apply Drawn0.step)⟩
  · replace c4 := Bool.eq_false_iff.mpr c4
    subst c4
    have H1 : (some false) = some r := by rw [if_neg (show ¬ (false = true) by decide)] at H; exact H
    clear H
    have H := H1
    clear H1
    obtain rfl := Option.some.inj H
    go_enter Try.func71, Try.ntmps71
    go_wp2_with (first | ((with_reducible refine gate_callee (f := 32) rfl ?_); refine goesL_ (some 6) rfl rfl Try.func32 (by kernel_rfl) rfl #[.int .i64 a0, .int .i64 1, .int .i64 1000] rfl (by (try simp only [List.map_toArray, List.map_cons, List.map_nil]); first | done | rfl | (simp only [List.length_drop, List.length_take]; rfl)) ?_; (with_reducible refine (spec_l1In.calls a0 1 1000 false _ A3.out).mono ?_); rintro e w' ⟨rfl, ⟨nd, rfl⟩⟩; refine ⟨_, rfl, ?_⟩))
    go_ret
    exact ⟨by first | rfl | (simp; done) | (simp [*]; done), by repeat (first | exact Drawn0.refl _ | apply Drawn0.step)⟩

end Go.Proofs.Ytfmhcgjmgaefcab.P

namespace Go.Proofs.Ytfmhcgjmgaefcab.P
open Go.RowKit Go.Proofs.YtfmhcgjmgaefcabW.PrintWords Go.Proofs.YtfmhcgjmgaefcabW.PrintLast Go.Proofs.YtfmhcgjmgaefcabW.PrintMore
attribute [local go_sem] max2_int min2_int max_two min_two max_three min_three max_four min_four
set_option linter.unusedVariables false
set_option linter.unusedSimpArgs false

/-! ### spec_l1Most: function 84 -/
def spec_l1Most.f (a0 : Int) (a1 : Int) : Option (Int) := if a0 > a1 then (some a0) else (some a1)
set_option maxHeartbeats 8000000 in
set_option maxRecDepth 100000 in
theorem spec_l1Most.calls (a0 : Int) (a1 : Int) (r : Int) (w : World) (h : spec_l1Most.f a0 a1 = some r) :
    Calls Try.prog 84 #[.int .i64 a0, .int .i64 a1] w fun e w' => e = .returned (.int .i64 r) ∧ Drawn0 w w' := by
  have H : (if a0 > a1 then (some a0) else (some a1)) = some r := h
  clear h
  by_cases c3 : a0 > a1
  · rw [if_pos c3] at H
    have c3b0 : decide (a1 < a0) = true := decide_eq_true c3
    clear c3
    obtain rfl := Option.some.inj H
    go_enter Try.func84, Try.ntmps84
    go_wp2
    go_ret
    exact ⟨by first | rfl | (simp; done) | (simp [*]; done), by repeat (first | exact Drawn0.refl _ | apply Drawn0.step)⟩
  · rw [if_neg c3] at H
    have c3b0 : decide (a1 < a0) = false := decide_eq_false c3
    clear c3
    obtain rfl := Option.some.inj H
    go_enter Try.func84, Try.ntmps84
    go_wp2
    go_ret
    exact ⟨by first | rfl | (simp; done) | (simp [*]; done), by repeat (first | exact Drawn0.refl _ | apply Drawn0.step)⟩

end Go.Proofs.Ytfmhcgjmgaefcab.P

namespace Go.Proofs.Ytfmhcgjmgaefcab.P
open Go.RowKit Go.Proofs.YtfmhcgjmgaefcabW.PrintWords Go.Proofs.YtfmhcgjmgaefcabW.PrintLast Go.Proofs.YtfmhcgjmgaefcabW.PrintMore
attribute [local go_sem] max2_int min2_int max_two min_two max_three min_three max_four min_four
set_option linter.unusedVariables false
set_option linter.unusedSimpArgs false

/-! ### impl_isRatio: function 85 -/
def impl_isRatio.f (a0 : Int) (a1 : Int) : Option (Bool) := (impl_within.f a0 1 1000).bind fun t101 => (if t101 = true then ((impl_within.f a1 1 1000).bind fun t102 => (some t102)) else (some false))
set_option maxHeartbeats 8000000 in
set_option maxRecDepth 100000 in
theorem impl_isRatio.calls (a0 : Int) (a1 : Int) (r : Bool) (w : World) (h : impl_isRatio.f a0 a1 = some r) :
    Calls Try.prog 85 #[.int .i64 a0, .int .i64 a1] w fun e w' => e = .returned (.bool r) ∧ Drawn0 w w' := by
  have H : ((impl_within.f a0 1 1000).bind fun t101 => (if t101 = true then ((impl_within.f a1 1 1000).bind fun t102 => (some t102)) else (some false))) = some r := h
  clear h
  replace H := Option.bind_eq_some_iff.mp H
  obtain ⟨t101, A30, H⟩ := H
  replace H : (if t101 = true then ((impl_within.f a1 1 1000).bind fun t102 => (some t102)) else (some false)) = some r := H
  have A3 := Aside0.mk A30
  clear A30
  by_cases c4 : t101 = true
  · subst c4
    have H1 : ((impl_within.f a1 1 1000).bind fun t102 => (some t102)) = some r := by rw [if_pos rfl] at H; exact H
    clear H
    have H := H1
    clear H1
    replace H := Option.bind_eq_some_iff.mp H
    obtain ⟨t102, A50, H⟩ := H
    replace H : (some t102) = some r := H
    have A5 := Aside0.mk A50
    clear A50
    obtain rfl := Option.some.inj H
    go_enter Try.func85, Try.ntmps85
    go_wp2_with (first | ((with_reducible refine gate_callee (f := 33) rfl ?_); refine goesL_ (some 6) rfl rfl Try.func33 (by kernel_rfl) rfl #[.int .i64 a0, .int .i64 1, .int .i64 1000] rfl (by (try simp only [List.map_toArray, List.map_cons, List.map_nil]); first | done | rfl | (simp only [List.length_drop, List.length_take]; rfl)) ?_; (with_reducible refine (impl_within.calls a0 1 1000 true _ A3.out).mono ?_); rintro e w' ⟨rfl, ⟨nd, rfl⟩⟩; refine ⟨_, rfl, ?_⟩) | (go_at_call 33; (with_reducible refine (impl_within.calls a1 1 1000 t102 _ A5.out).mono ?_); rintro e w' ⟨rfl, ⟨nd, rfl⟩⟩))
    go_ret
    exact ⟨by first | rfl | (simp; done) | (simp [*]; done), by repeat (first | exact Drawn0.refl _ | apply Drawn0.step)⟩
  · replace c4 := Bool.eq_false_iff.mpr c4
    subst c4
    have H1 : (some false) = some r := by rw [if_neg (show ¬ (false = true) by decide)] at H; exact H
    clear H
    have H := H1
    clear H1
    obtain rfl := Option.some.inj H
    go_enter Try.func85, Try.ntmps85
    go_wp2_with (first | ((with_reducible refine gate_callee (f := 33) rfl ?_); refine goesL_ (some 6) rfl rfl Try.func33 (by kernel_rfl) rfl #[.int .i64 a0, .int .i64 1, .int .i64 1000] rfl (by (try simp only [List.map_toArray, List.map_cons, List.map_nil]); first | done | rfl | (simp only [List.length_drop, List.length_take]; rfl)) ?_; (with_reducible refine (impl_within.calls a0 1 1000 false _ A3.out).mono ?_); rintro e w' ⟨rfl, ⟨nd, rfl⟩⟩; refine ⟨_, rfl, ?_⟩))
    go_ret
    exact ⟨by first | rfl | (simp; done) | (simp [*]; done), by repeat (first | exact Drawn0.refl _ | apply Drawn0.step)⟩

end Go.Proofs.Ytfmhcgjmgaefcab.P

namespace Go.Proofs.Ytfmhcgjmgaefcab.Pure
set_option linter.unusedVariables false
set_option linter.unusedSimpArgs false
open Go.RowKit Go.Proofs.Ytfmhcgjmgaefcab.P Go.Proofs.YtfmhcgjmgaefcabW.PrintWords Go.Proofs.YtfmhcgjmgaefcabW.PrintLast Go.Proofs.Ytfmhcgjmgaefcab.Aid
theorem l1In_f (n lo hi : Int) : spec_l1In.f n lo hi = some (inR n lo hi) := by
  unfold spec_l1In.f inR; by_cases c : lo ≤ n <;> simp [c]
theorem within_f (n lo hi : Int) : impl_within.f n lo hi = some (inR n lo hi) := by
  unfold impl_within.f inR; by_cases c : lo ≤ n <;> simp [c]
theorem l1Most_f (a b : Int) : spec_l1Most.f a b = some (max a b) := by
  unfold spec_l1Most.f; split <;> simp <;> omega
theorem l1Least_f (a b : Int) : spec_l1Least.f a b = some (min a b) := by
  unfold spec_l1Least.f; split <;> simp <;> omega
theorem feSize_f (a b m : Int) : spec_feSize.f a b m = some (inR a 1 m && inR b 1 m) := by
  unfold spec_feSize.f; simp only [l1In_f, Option.bind_some]; cases inR a 1 m <;> simp
theorem isLined_f (a b : Int) : impl_isLined.f a b = some (inR a 1 60 && inR b 1 60) := by
  unfold impl_isLined.f; simp only [within_f, Option.bind_some]; cases inR a 1 60 <;> simp
theorem raGood_f (a b : Int) : spec_raGood.f a b = some (inR a 1 1000 && inR b 1 1000) := by
  unfold spec_raGood.f; simp only [l1In_f, Option.bind_some]; cases inR a 1 1000 <;> simp
theorem isRatio_f (a b : Int) : impl_isRatio.f a b = some (inR a 1 1000 && inR b 1 1000) := by
  unfold impl_isRatio.f; simp only [within_f, Option.bind_some]; cases inR a 1 1000 <;> simp
end Go.Proofs.Ytfmhcgjmgaefcab.Pure

namespace Go.Proofs.Ytfmhcgjmgaefcab.Pure
set_option linter.unusedVariables false
set_option linter.unusedSimpArgs false
open Go.RowKit Go.Proofs.Ytfmhcgjmgaefcab.P Go.Proofs.YtfmhcgjmgaefcabW.PrintWords Go.Proofs.YtfmhcgjmgaefcabW.PrintLast Go.Proofs.YtfmhcgjmgaefcabW.PrintMore Go.Proofs.Ytfmhcgjmgaefcab.Aid Go.Proofs.Ytfmhcgjmgaefcab.T
theorem isFew_f (a b : Int) : impl_isFew.f a b = some (inR a 1 13 && inR b 1 13) := by
  unfold impl_isFew.f; simp only [within_f, Option.bind_some]; cases inR a 1 13 <;> simp
theorem few_rng {a b : Int} (h : (inR a 1 13 && inR b 1 13) = true) : (1 ≤ a ∧ a ≤ 13) ∧ 1 ≤ b ∧ b ≤ 13 := by
  rw [Bool.and_eq_true, inR_iff, inR_iff] at h; exact h
theorem fewest_f {a b : Int} (h : (inR a 1 13 && inR b 1 13) = true) : impl_fewest.f a b = some (fewM a.toNat b : Int) := by
  obtain ⟨h1, h2⟩ := few_rng h
  unfold impl_fewest.f; rw [if_pos ⟨h1.1, h1.2, h2.1, h2.2⟩]
theorem feAll_f {a b : Int} (h : (inR a 1 13 && inR b 1 13) = true) : spec_feAll.f a b = some ((tilFew a.toNat b).reverse.map (fun t => (⟨a, b, t⟩ : Ct))) := by
  obtain ⟨h1, h2⟩ := few_rng h
  unfold spec_feAll.f; rw [if_pos ⟨h1.1, h1.2, h2.1, h2.2⟩]
theorem few_head {a b : Int} (h : (inR a 1 13 && inR b 1 13) = true) : 0 < (((tilFew a.toNat b).reverse.map (fun t => (⟨a, b, t⟩ : Ct))).length : Int) ∧ (((rd_T38 ((tilFew a.toNat b).reverse.map (fun t => (⟨a, b, t⟩ : Ct))) 0).f2).length : Int) = (fewM a.toNat b : Int) := by
  obtain ⟨h1, h2⟩ := few_rng h
  have hne := tilFew_ne a.toNat b (by omega) (by omega)
  have hl : 0 < (tilFew a.toNat b).reverse.length := by rw [List.length_reverse]; exact List.length_pos_iff.2 hne
  refine ⟨by rw [List.length_map]; omega, ?_⟩
  have hm := (tilFew_mem (List.mem_reverse.1 (List.getElem_mem (h := hl)))).2
  unfold rd_T38
  rw [show (0 : Int).toNat = 0 from rfl, List.getD_eq_getElem?_getD, List.getElem?_map, List.getElem?_eq_getElem hl]
  simp only [Option.map_some, Option.getD_some]
  rw [hm]
/-- both say the least number of squares -/
def fewV (a b : Int) : Int × Bool := if (inR a 1 13 && inR b 1 13) = true then ((fewM a.toNat b : Int), true) else (0, false)
theorem implFewest_f (a b : Int) : impl_FewestSquares.f a b = some (fewV a b) := by
  unfold impl_FewestSquares.f fewV
  rw [isFew_f, Option.bind_some]
  by_cases h : (inR a 1 13 && inR b 1 13) = true
  · rw [if_pos h, if_pos h, fewest_f h]; rfl
  · rw [if_neg h, if_neg h]
end Go.Proofs.Ytfmhcgjmgaefcab.Pure

namespace Go.Proofs.Ytfmhcgjmgaefcab.T
/-- the least of b and g k, g (k + 1), .. (n of them) -/
def minUp (g : Nat → Int) (b : Int) (k : Nat) : Nat → Int
  | 0 => b
  | n + 1 => minUp g (min b (g k)) (k + 1) n
theorem minUp_le (g : Nat → Int) : ∀ (n : Nat) (b : Int) (k : Nat), minUp g b k n ≤ b
  | 0, b, k => Int.le_refl _
  | n + 1, b, k => by have := minUp_le g n (min b (g k)) (k + 1); simp only [minUp]; omega
theorem minUp_le_at (g : Nat → Int) : ∀ (n : Nat) (b : Int) (k i : Nat), k ≤ i → i < k + n → minUp g b k n ≤ g i
  | 0, b, k, i, h1, h2 => by omega
  | n + 1, b, k, i, h1, h2 => by
    simp only [minUp]
    by_cases e : i = k
    · subst e; have := minUp_le g n (min b (g i)) (i + 1); omega
    · exact minUp_le_at g n _ (k + 1) i (by omega) (by omega)
theorem minUp_ge (g : Nat → Int) (m : Int) : ∀ (n : Nat) (b : Int) (k : Nat), m ≤ b → (∀ i, k ≤ i → i < k + n → m ≤ g i) → m ≤ minUp g b k n
  | 0, b, k, h, _ => h
  | n + 1, b, k, h, hg => minUp_ge g m n _ (k + 1) (by have := hg k (by omega) (by omega); omega) (fun i h1 h2 => hg i (by omega) (by omega))
theorem minUp_congr {g g' : Nat → Int} : ∀ (n : Nat) (b : Int) (k : Nat), (∀ i, k ≤ i → i < k + n → g i = g' i) → minUp g b k n = minUp g' b k n
  | 0, b, k, _ => rfl
  | n + 1, b, k, h => by
    simp only [minUp]
    rw [h k (by omega) (by omega)]
    exact minUp_congr n _ (k + 1) (fun i h1 h2 => h i (by omega) (by omega))
/-- it is b, or one of them -/
theorem minUp_is (g : Nat → Int) : ∀ (n : Nat) (b : Int) (k : Nat), minUp g b k n = b ∨ ∃ i, k ≤ i ∧ i < k + n ∧ minUp g b k n = g i
  | 0, b, k => .inl rfl
  | n + 1, b, k => by
    simp only [minUp]
    rcases minUp_is g n (min b (g k)) (k + 1) with h | ⟨i, h1, h2, h3⟩
    · rcases Int.le_total b (g k) with e | e
      · exact .inl (by rw [h]; omega)
      · exact .inr ⟨k, by omega, by omega, by rw [h]; omega⟩
    · exact .inr ⟨i, by omega, by omega, h3⟩

/-- how many squares a cut by lines has at least, so many rounds deep -/
def blF : Nat → Nat → Nat → Int
  | 0, _, _ => 0
  | n + 1, w, h => if w = 0 ∨ h = 0 then 0 else
    minUp (fun k => blF n w k + blF n w (h - k)) (minUp (fun k => blF n k h + blF n (w - k) h) (if w = h then 1 else (w : Int) * h) 1 (w / 2)) 1 (h / 2)
theorem blF_more : ∀ (n m w h : Nat), w + h ≤ n → w + h ≤ m → blF n w h = blF m w h
  | 0, 0, _, _, _, _ => rfl
  | 0, m + 1, w, h, hn, _ => by simp only [blF]; rw [if_pos (by omega)]
  | n + 1, 0, w, h, _, hm => by simp only [blF]; rw [if_pos (by omega)]
  | n + 1, m + 1, w, h, hn, hm => by
    simp only [blF]
    split
    · rfl
    · rw [minUp_congr (g' := fun k => blF m k h + blF m (w - k) h) (w / 2) _ 1 (fun i h1 h2 => by rw [blF_more n m i h (by omega) (by omega), blF_more n m (w - i) h (by omega) (by omega)])]
      exact minUp_congr _ _ 1 (fun i h1 h2 => by rw [blF_more n m w i (by omega) (by omega), blF_more n m w (h - i) (by omega) (by omega)])
def bl (w h : Nat) : Int := blF (w + h) w h
theorem bl_eq (w h : Nat) (hw : 0 < w) (hh : 0 < h) : bl w h =
    minUp (fun k => bl w k + bl w (h - k)) (minUp (fun k => bl k h + bl (w - k) h) (if w = h then 1 else (w : Int) * h) 1 (w / 2)) 1 (h / 2) := by
  obtain ⟨n, hn⟩ : ∃ n, w + h = n + 1 := ⟨w + h - 1, by omega⟩
  unfold bl
  rw [hn]
  simp only [blF]
  rw [if_neg (by omega)]
  rw [minUp_congr (g' := fun k => blF (k + h) k h + blF (w - k + h) (w - k) h) (w / 2) _ 1 (fun i h1 h2 => by rw [blF_more n (i + h) i h (by omega) (by omega), blF_more n (w - i + h) (w - i) h (by omega) (by omega)])]
  exact minUp_congr _ _ 1 (fun i h1 h2 => by rw [blF_more n (w + i) w i (by omega) (by omega), blF_more n (w + (h - i)) w (h - i) (by omega) (by omega)])
theorem bl_zero (w h : Nat) (h0 : w = 0 ∨ h = 0) : bl w h = 0 := by
  unfold bl
  cases e : w + h with
  | zero => rfl
  | succ n => simp only [blF]; rw [if_pos h0]
theorem bl_nonneg : ∀ (n w h : Nat), 0 ≤ blF n w h
  | 0, _, _ => by simp [blF]
  | n + 1, w, h => by
    simp only [blF]
    split
    · omega
    · refine minUp_ge _ _ _ _ _ (minUp_ge _ _ _ _ _ ?_ (fun i _ _ => ?_)) (fun i _ _ => ?_)
      · split
        · omega
        · exact Int.mul_nonneg (by omega) (by omega)
      · have := bl_nonneg n i h; have := bl_nonneg n (w - i) h; omega
      · have := bl_nonneg n w i; have := bl_nonneg n w (h - i); omega
theorem bl_pos : ∀ (n w h : Nat), 0 < w → 0 < h → w + h ≤ n → 1 ≤ blF n w h
  | 0, _, _, h1, h2, h3 => by omega
  | n + 1, w, h, h1, h2, h3 => by
    simp only [blF]
    rw [if_neg (by omega)]
    refine minUp_ge _ _ _ _ _ (minUp_ge _ _ _ _ _ ?_ (fun i _ _ => ?_)) (fun i _ _ => ?_)
    · split
      · omega
      · have : (1 : Int) * 1 ≤ w * h := Int.mul_le_mul (by omega) (by omega) (by omega) (by omega)
        omega
    · have := bl_pos n i h (by omega) h2 (by omega); have := bl_nonneg n (w - i) h; omega
    · have := bl_pos n w i h1 (by omega) (by omega); have := bl_nonneg n w (h - i); omega
theorem bl_ge (w h : Nat) : 0 ≤ bl w h := bl_nonneg _ _ _
theorem bl_ge_one (w h : Nat) (hw : 0 < w) (hh : 0 < h) : 1 ≤ bl w h := bl_pos _ _ _ hw hh (Nat.le_refl _)
theorem bl_le (w h : Nat) : bl w h ≤ w * h := by
  by_cases h0 : w = 0 ∨ h = 0
  · rw [bl_zero w h h0]; exact Int.mul_nonneg (by omega) (by omega)
  · rw [bl_eq w h (by omega) (by omega)]
    have h1 := minUp_le (fun k => bl w k + bl w (h - k)) (h / 2) (minUp (fun k => bl k h + bl (w - k) h) (if w = h then 1 else (w : Int) * h) 1 (w / 2)) 1
    have h2 := minUp_le (fun k => bl k h + bl (w - k) h) (w / 2) (if w = h then 1 else (w : Int) * h) 1
    have : (if w = h then 1 else (w : Int) * h) ≤ w * h := by
      split
      · have : (1 : Int) * 1 ≤ w * h := Int.mul_le_mul (by omega) (by omega) (by omega) (by omega)
        omega
      · omega
    omega
theorem bl_symm : ∀ (n w h : Nat), w + h ≤ n → bl w h = bl h w
  | 0, w, h, hn => by rw [bl_zero _ _ (by omega), bl_zero _ _ (by omega)]
  | n + 1, w, h, hn => by
    by_cases h0 : w = 0 ∨ h = 0
    · rw [bl_zero _ _ h0, bl_zero _ _ (by omega)]
    · have key : ∀ w h : Nat, w + h ≤ n + 1 → 0 < w → 0 < h → bl w h ≤ bl h w := by
        intro w h hn hw hh
        rw [bl_eq h w hh hw]
        refine minUp_ge _ _ _ _ _ (minUp_ge _ _ _ _ _ ?_ (fun i h1 h2 => ?_)) (fun i h1 h2 => ?_)
        · rw [bl_eq w h hw hh]
          have h1 := minUp_le (fun k => bl w k + bl w (h - k)) (h / 2) (minUp (fun k => bl k h + bl (w - k) h) (if w = h then 1 else (w : Int) * h) 1 (w / 2)) 1
          have h2 := minUp_le (fun k => bl k h + bl (w - k) h) (w / 2) (if w = h then 1 else (w : Int) * h) 1
          have : (if w = h then 1 else (w : Int) * h) = (if h = w then 1 else (h : Int) * w) := by
            rw [Int.mul_comm]; by_cases e : w = h
            · rw [if_pos e, if_pos e.symm]
            · rw [if_neg e, if_neg (fun k => e k.symm)]
          omega
        · rw [bl_eq w h hw hh, bl_symm n i w (by omega), bl_symm n (h - i) w (by omega)]
          exact minUp_le_at (fun k => bl w k + bl w (h - k)) (h / 2) _ 1 i h1 h2
        · rw [bl_eq w h hw hh, bl_symm n h i (by omega), bl_symm n h (w - i) (by omega)]
          exact Int.le_trans (minUp_le _ _ _ _) (minUp_le_at (fun k => bl k h + bl (w - k) h) (w / 2) _ 1 i h1 h2)
      have h1 := key w h hn (by omega) (by omega)
      have h2 := key h w (by omega) (by omega) (by omega)
      omega

/-- a row of the table, filled up to n -/
def rowN (w H n : Nat) : List Int := (List.range (H + 1)).map fun h => if h < n then bl w h else 0
def tabN (W H w : Nat) (row : List Int) : List (List Int) := (List.range (W + 1)).map fun i => if i < w then rowN i H (H + 1) else if i = w then row else []
theorem rowN_length (w H n : Nat) : (rowN w H n).length = H + 1 := by simp [rowN]
theorem tabN_length (W H w : Nat) (r : List Int) : (tabN W H w r).length = W + 1 := by simp [tabN]
theorem rowN_get (w H n h : Nat) (hh : h ≤ H) : (rowN w H n).getD h 0 = if h < n then bl w h else 0 := by
  simp [rowN, List.getD_eq_getElem?_getD, show h < H + 1 by omega]
theorem rowN_set (w H n : Nat) (hn : n ≤ H) : (rowN w H n).set n (bl w n) = rowN w H (n + 1) := by
  apply List.ext_getElem?
  intro i
  unfold rowN
  rw [List.getElem?_set, List.length_map, List.length_range, List.getElem?_map, List.getElem?_map]
  by_cases hi : i < H + 1
  · rw [List.getElem?_range hi]
    by_cases e : n = i
    · subst e; simp [hi]
    · rw [if_neg e]
      simp only [Option.map_some, Option.some.injEq]
      by_cases c : i < n
      · rw [if_pos c, if_pos (by omega)]
      · rw [if_neg c, if_neg (by omega)]
  · rw [if_neg (by omega), List.getElem?_eq_none (by simp; omega)]; rfl
theorem rowN_zero (w H : Nat) : List.replicate (H + 1) 0 = rowN w H 1 := by
  apply List.ext_getElem?
  intro i
  unfold rowN
  rw [List.getElem?_replicate, List.getElem?_map]
  by_cases hi : i < H + 1
  · rw [if_pos hi, List.getElem?_range hi]
    simp only [Option.map_some, Option.some.injEq]
    split
    · rw [bl_zero w i (by omega)]
    · rfl
  · rw [if_neg hi, List.getElem?_eq_none (by simp; omega)]; rfl
theorem rowN_null (H n : Nat) : rowN 0 H n = rowN 0 H (H + 1) := by
  unfold rowN
  apply List.map_congr_left
  intro h _
  rw [bl_zero 0 h (.inl rfl)]; simp
theorem tabN_get (W H w i : Nat) (r : List Int) (hi : i ≤ W) : (tabN W H w r).getD i [] = if i < w then rowN i H (H + 1) else if i = w then r else [] := by
  simp [tabN, List.getD_eq_getElem?_getD, show i < W + 1 by omega]
theorem tabN_set (W H w : Nat) (r r' : List Int) (hw : w ≤ W) : (tabN W H w r).set w r' = tabN W H w r' := by
  apply List.ext_getElem?
  intro i
  unfold tabN
  rw [List.getElem?_set, List.length_map, List.length_range, List.getElem?_map, List.getElem?_map]
  by_cases hi : i < W + 1
  · rw [List.getElem?_range hi]
    by_cases e : w = i
    · subst e; simp [hi]
    · rw [if_neg e]
      simp only [Option.map_some, Option.some.injEq]
      rw [if_neg (show ¬ i = w from fun k => e k.symm), if_neg (show ¬ i = w from fun k => e k.symm)]
  · rw [if_neg (by omega), List.getElem?_eq_none (by simp; omega)]; rfl
theorem tabN_next (W H w : Nat) : tabN W H w (rowN w H (H + 1)) = tabN W H (w + 1) [] := by
  unfold tabN
  apply List.map_congr_left
  intro i _
  by_cases h1 : i < w
  · rw [if_pos h1, if_pos (by omega)]
  · rw [if_neg h1]
    by_cases h2 : i = w
    · subst h2; rw [if_pos rfl, if_pos (by omega)]
    · rw [if_neg h2, if_neg (by omega)]; split <;> rfl
theorem tabN_start (W H : Nat) : List.replicate (W + 1) [] = tabN W H 0 [] := by
  apply List.ext_getElem?
  intro i
  unfold tabN
  rw [List.getElem?_replicate, List.getElem?_map]
  by_cases hi : i < W + 1
  · rw [if_pos hi, List.getElem?_range hi]; simp
  · rw [if_neg hi, List.getElem?_eq_none (by simp; omega)]; rfl
end Go.Proofs.Ytfmhcgjmgaefcab.T

namespace Go.Proofs.Ytfmhcgjmgaefcab.Pure
set_option linter.unusedVariables false
set_option linter.unusedSimpArgs false
open Go.RowKit Go.Proofs.Ytfmhcgjmgaefcab.P Go.Proofs.YtfmhcgjmgaefcabW.PrintWords Go.Proofs.YtfmhcgjmgaefcabW.PrintLast Go.Proofs.YtfmhcgjmgaefcabW.PrintMore Go.Proofs.Ytfmhcgjmgaefcab.Aid Go.Proofs.Ytfmhcgjmgaefcab.T

theorem bl_le_sq (W H i j : Nat) (hi : i ≤ W) (hj : j ≤ H) (hW : W ≤ 60) (hH : H ≤ 60) : bl i j ≤ 3600 := by
  have h1 := bl_le i j
  have h2 : ((i : Int) * j) ≤ 60 * 60 := Int.mul_le_mul (by omega) (by omega) (by omega) (by omega)
  omega
theorem tab_rd (W H w : Nat) (i : Nat) (hi : i < w) (hw : w ≤ W) (r : List Int) : rd_L5 (tabN W H w r) (i : Int) = rowN i H (H + 1) := by
  have := tabN_get W H w i r (by omega)
  rw [if_pos hi] at this
  exact this
theorem tab_rd_now (W H w : Nat) (hw : w ≤ W) (r : List Int) : rd_L5 (tabN W H w r) (w : Int) = r := by
  have := tabN_get W H w w r hw
  rw [if_neg (by omega), if_pos rfl] at this
  exact this
theorem row_rd (w H n h : Nat) (hh : h ≤ H) : rd (rowN w H n) (h : Int) = if h < n then bl w h else 0 := rowN_get w H n h hh

theorem half_w (n : Nat) (hn : n ≤ 60) : wrap64 (Int.tdiv (n : Int) 2) = ((n / 2 : Nat) : Int) := by
  rw [Int.tdiv_eq_ediv_of_nonneg (by omega), w64 (by omega) (by omega)]; omega

theorem sub_w (n m : Nat) (hm : m ≤ n) (hn : n ≤ 60) : wrap64 ((n : Int) - m) = ((n - m : Nat) : Int) := by
  rw [w64 (by omega) (by omega)]; omega
theorem inc_w (n : Nat) (hn : n ≤ 1000) : wrap64 ((n : Int) + 1) = ((n + 1 : Nat) : Int) := by
  rw [w64 (by omega) (by omega)]; omega

section
variable (W H : Nat) (hW : W ≤ 60) (hH : H ≤ 60)
include hW hH

-- the reference's loops
theorem fe_l3 (w h : Nat) (hw : w ≤ W) (hh : h ≤ H) (hw1 : 1 ≤ w) (hh1 : 1 ≤ h) (X : List (List Int)) :
    Ev (fun k => spec_feLines.l1 k H (tabN W H w (rowN w H (h + 1))) w (h + 1 : Nat) (W + 1 : Nat) w) X →
    ∀ (d a : Nat) (b : Int), 1 ≤ a → a + d = h / 2 + 1 → -10000 ≤ b → b ≤ 10000 → minUp (fun k => bl w k + bl w (h - k)) b a d = bl w h → Ev (fun k => spec_feLines.l3 k H (tabN W H w (rowN w H h)) w h b a (W + 1 : Nat) w) X
  | hX, 0, a, b, h1, h2, _, _, hb => by
    have hbl : b = bl w h := hb
    refine Ev.step (fun _ => spec_feLines.l3.eq_2 ..) (ev_neg (by rw [w64 (by omega) (by omega)]; omega) (ev_pos (by omega) (ev_pos (by rw [tabN_length]; omega) (ev_pos (by omega) (ev_pos (by rw [tab_rd_now W H w hw, rowN_length]; omega) ?_)))))
    rw [w64 (by omega) (by omega), tab_rd_now W H w hw, hbl, Int.toNat_natCast, Int.toNat_natCast, rowN_set w H h hh, tabN_set W H w _ _ hw]
    exact hX
  | hX, d + 1, a, b, h1, h2, hb1, hb2, hb => by
    have l1 := bl_le_sq W H w a hw (by omega) hW hH
    have l2 := bl_le_sq W H w (h - a) hw (by omega) hW hH
    have g1 := bl_ge w a
    have g2 := bl_ge w (h - a)
    have e := Aside0.mk (sub_w h a (by omega) (by omega))
    refine Ev.step (fun _ => spec_feLines.l3.eq_2 ..) (ev_pos (by rw [w64 (by omega) (by omega)]; omega) (ev_pos (by omega) (ev_pos (by rw [tabN_length]; omega) (ev_pos (by omega) (ev_pos (by rw [tab_rd_now W H w hw, rowN_length]; omega) (ev_pos (by rw [e.out]; omega) (ev_pos (by rw [e.out, tab_rd_now W H w hw, rowN_length]; omega) ?_)))))))
    rw [e.out, tab_rd_now W H w hw, row_rd w H h a (by omega), row_rd w H h (h - a) (by omega), if_pos (by omega), if_pos (by omega), w64 (e := (a : Int) + 1) (by omega) (by omega), w64 (by omega) (by omega)]
    refine ev_call (l1Least_f _ _) ?_
    exact fe_l3 w h hw hh hw1 hh1 X hX d (a + 1) _ (by omega) (by omega) (by omega) (by omega) hb

theorem fe_l2 (w h : Nat) (hw : w ≤ W) (hh : h ≤ H) (hw1 : 1 ≤ w) (hh1 : 1 ≤ h) (X : List (List Int))
    (hX : Ev (fun k => spec_feLines.l1 k H (tabN W H w (rowN w H (h + 1))) w (h + 1 : Nat) (W + 1 : Nat) w) X) :
    ∀ (d a : Nat) (b : Int), 1 ≤ a → a + d = w / 2 + 1 → -10000 ≤ b → b ≤ 10000 → minUp (fun k => bl w k + bl w (h - k)) (minUp (fun k => bl k h + bl (w - k) h) b a d) 1 (h / 2) = bl w h → Ev (fun k => spec_feLines.l2 k H (tabN W H w (rowN w H h)) w h b a (W + 1 : Nat) w) X
  | 0, a, b, h1, h2, hb1, hb2, hb => by
    refine Ev.step (fun _ => spec_feLines.l2.eq_2 ..) (ev_neg (by rw [w64 (by omega) (by omega)]; omega) ?_)
    exact fe_l3 W H hW hH w h hw hh hw1 hh1 X hX (h / 2) 1 b (by omega) (by omega) hb1 hb2 hb
  | d + 1, a, b, h1, h2, hb1, hb2, hb => by
    have l1 := bl_le_sq W H a h (by omega) hh hW hH
    have l2 := bl_le_sq W H (w - a) h (by omega) hh hW hH
    have g1 := bl_ge a h
    have g2 := bl_ge (w - a) h
    have e := Aside0.mk (sub_w w a (by omega) (by omega))
    refine Ev.step (fun _ => spec_feLines.l2.eq_2 ..) (ev_pos (by rw [w64 (by omega) (by omega)]; omega) (ev_pos (by omega) (ev_pos (by rw [tabN_length]; omega) (ev_pos (by omega) (ev_pos (by rw [tab_rd W H w a (by omega) hw, rowN_length]; omega) (ev_pos (by rw [e.out]; omega) (ev_pos (by rw [e.out, tabN_length]; omega) (ev_pos (by rw [e.out, tab_rd W H w (w - a) (by omega) hw, rowN_length]; omega) ?_))))))))
    rw [e.out, tab_rd W H w a (by omega) hw, tab_rd W H w (w - a) (by omega) hw, row_rd a H _ h hh, row_rd (w - a) H _ h hh, if_pos (by omega), if_pos (by omega), w64 (e := (a : Int) + 1) (by omega) (by omega), w64 (by omega) (by omega)]
    refine ev_call (l1Least_f _ _) ?_
    exact fe_l2 w h hw hh hw1 hh1 X hX d (a + 1) _ (by omega) (by omega) (by omega) (by omega) hb

theorem fe_l1 (w : Nat) (hw : w ≤ W) (hw1 : 1 ≤ w) (X : List (List Int)) (hX : Ev (fun k => spec_feLines.l0 k H (tabN W H w (rowN w H (H + 1))) (W + 1 : Nat) (w + 1 : Nat)) X) :
    ∀ (d h : Nat), 1 ≤ h → h + d = H + 1 → Ev (fun k => spec_feLines.l1 k H (tabN W H w (rowN w H h)) w h (W + 1 : Nat) w) X
  | 0, h, h1, h2 => by
    obtain rfl : h = H + 1 := by omega
    refine Ev.step (fun _ => spec_feLines.l1.eq_2 ..) (ev_pos (by omega) (Ev.step (fun _ => spec_feLines.j2.eq_2 ..) (ev_neg (by simp; omega) ?_)))
    rw [w64 (by omega) (by omega)]
    exact hX
  | d + 1, h, h1, h2 => by
    have ih := fe_l1 w hw hw1 X hX d (h + 1) (by omega) (by omega)
    refine Ev.step (fun _ => spec_feLines.l1.eq_2 ..) (ev_pos (by omega) (Ev.step (fun _ => spec_feLines.j2.eq_2 ..) (ev_pos (by simp; omega) ?_)))
    have hb := bl_eq w h (by omega) (by omega)
    by_cases e : w = h
    · refine ev_pos (by omega) (Ev.step (fun _ => spec_feLines.j3.eq_2 ..) ?_)
      exact fe_l2 W H hW hH w h hw (by omega) hw1 h1 X ih (w / 2) 1 1 (by omega) (by omega) (by omega) (by omega) (by rw [hb, if_pos e])
    · have hm : ((w : Int) * h) ≤ 60 * 60 := Int.mul_le_mul (by omega) (by omega) (by omega) (by omega)
      have hm0 : 0 ≤ ((w : Int) * h) := Int.mul_nonneg (by omega) (by omega)
      refine ev_neg (by omega) (Ev.step (fun _ => spec_feLines.j3.eq_2 ..) ?_)
      rw [w64 (e := (w : Int) * h) (by omega) (by omega)]
      exact fe_l2 W H hW hH w h hw (by omega) hw1 h1 X ih (w / 2) 1 _ (by omega) (by omega) (by omega) (by omega) (by rw [hb, if_neg e])

theorem fe_l0 : ∀ (d w : Nat), w + d = W + 1 → Ev (fun k => spec_feLines.l0 k H (tabN W H w []) (W + 1 : Nat) w) (tabN W H (W + 1) [])
  | 0, w, hd => by
    obtain rfl : w = W + 1 := by omega
    exact Ev.step (fun _ => spec_feLines.l0.eq_2 ..) (ev_neg (by omega) (ev_some rfl))
  | d + 1, w, hd => by
    have ih := fe_l0 d (w + 1) (by omega)
    rw [← tabN_next] at ih
    have e := Aside0.mk (inc_w H (by omega))
    refine Ev.step (fun _ => spec_feLines.l0.eq_2 ..) (ev_pos (by omega) (ev_pos (by rw [e.out]; omega) (ev_pos (by rw [e.out]; omega) (ev_pos (by omega) (ev_pos (by rw [tabN_length]; omega) ?_)))))
    rw [e.out, Int.toNat_natCast, Int.toNat_natCast, tabN_set W H w _ _ (by omega), rowN_zero w H]
    by_cases h0 : w = 0
    · subst h0
      refine Ev.step (fun _ => spec_feLines.l1.eq_2 ..) (ev_neg (by simp) (Ev.step (fun _ => spec_feLines.j2.eq_2 ..) (ev_neg (by simp) ?_)))
      rw [rowN_null H 1, w64 (by omega) (by omega)]
      exact ih
    · exact fe_l1 W H hW hH w (by omega) (by omega) _ ih H 1 (by omega) (by omega)

theorem feLines_ev : Ev (fun k => spec_feLines.f k W H) (tabN W H (W + 1) []) := by
  have e := Aside0.mk (inc_w W (by omega))
  refine ev_pos (by rw [e.out]; omega) (ev_pos (by rw [e.out]; omega) (ev_call rfl ?_))
  rw [e.out, Int.toNat_natCast, tabN_start W H, tabN_length]
  exact fe_l0 W H hW hH (W + 1) 0 (by omega)

-- the program's loops
theorem by_l3 (w h : Nat) (hw : w ≤ W) (hh : h ≤ H) (hw1 : 1 ≤ w) (hh1 : 1 ≤ h) (X : List (List Int)) :
    Ev (fun k => impl_byLines.l1 k H (tabN W H w (rowN w H (h + 1))) w (h + 1 : Nat) (W + 1 : Nat) w) X →
    ∀ (d a : Nat) (b : Int), 1 ≤ a → a + d = h / 2 + 1 → -10000 ≤ b → b ≤ 10000 → minUp (fun k => bl w k + bl w (h - k)) b a d = bl w h → Ev (fun k => impl_byLines.l3 k H (tabN W H w (rowN w H h)) w h b a (W + 1 : Nat) w) X
  | hX, 0, a, b, h1, h2, _, _, hb => by
    have hbl : b = bl w h := hb
    have t := Aside0.mk (half_w h (by omega))
    refine Ev.step (fun _ => impl_byLines.l3.eq_2 ..) ?_
    rw [t.out]
    refine (ev_neg (by omega) (ev_pos (by omega) (ev_pos (by rw [tabN_length]; omega) (ev_pos (by omega) (ev_pos (by rw [tab_rd_now W H w hw, rowN_length]; omega) ?_)))))
    rw [w64 (by omega) (by omega), tab_rd_now W H w hw, hbl, Int.toNat_natCast, Int.toNat_natCast, rowN_set w H h hh, tabN_set W H w _ _ hw]
    exact hX
  | hX, d + 1, a, b, h1, h2, hb1, hb2, hb => by
    have l1 := bl_le_sq W H w a hw (by omega) hW hH
    have l2 := bl_le_sq W H w (h - a) hw (by omega) hW hH
    have g1 := bl_ge w a
    have g2 := bl_ge w (h - a)
    have t := Aside0.mk (half_w h (by omega))
    have e := Aside0.mk (sub_w h a (by omega) (by omega))
    refine Ev.step (fun _ => impl_byLines.l3.eq_2 ..) ?_
    rw [t.out]
    refine (ev_pos (by omega) (ev_pos (by omega) (ev_pos (by rw [tabN_length]; omega) (ev_pos (by omega) (ev_pos (by rw [tab_rd_now W H w hw, rowN_length]; omega) (ev_pos (by rw [e.out]; omega) (ev_pos (by rw [e.out, tab_rd_now W H w hw, rowN_length]; omega) ?_)))))))
    rw [e.out, tab_rd_now W H w hw, row_rd w H h a (by omega), row_rd w H h (h - a) (by omega), if_pos (by omega), if_pos (by omega), w64 (e := (a : Int) + 1) (by omega) (by omega), w64 (by omega) (by omega), mn_min]
    exact by_l3 w h hw hh hw1 hh1 X hX d (a + 1) _ (by omega) (by omega) (by omega) (by omega) hb

theorem by_l2 (w h : Nat) (hw : w ≤ W) (hh : h ≤ H) (hw1 : 1 ≤ w) (hh1 : 1 ≤ h) (X : List (List Int))
    (hX : Ev (fun k => impl_byLines.l1 k H (tabN W H w (rowN w H (h + 1))) w (h + 1 : Nat) (W + 1 : Nat) w) X) :
    ∀ (d a : Nat) (b : Int), 1 ≤ a → a + d = w / 2 + 1 → -10000 ≤ b → b ≤ 10000 → minUp (fun k => bl w k + bl w (h - k)) (minUp (fun k => bl k h + bl (w - k) h) b a d) 1 (h / 2) = bl w h → Ev (fun k => impl_byLines.l2 k H (tabN W H w (rowN w H h)) w h b a (W + 1 : Nat) w) X
  | 0, a, b, h1, h2, hb1, hb2, hb => by
    have t := Aside0.mk (half_w w (by omega))
    refine Ev.step (fun _ => impl_byLines.l2.eq_2 ..) ?_
    rw [t.out]
    refine (ev_neg (by omega) ?_)
    exact by_l3 W H hW hH w h hw hh hw1 hh1 X hX (h / 2) 1 b (by omega) (by omega) hb1 hb2 hb
  | d + 1, a, b, h1, h2, hb1, hb2, hb => by
    have l1 := bl_le_sq W H a h (by omega) hh hW hH
    have l2 := bl_le_sq W H (w - a) h (by omega) hh hW hH
    have g1 := bl_ge a h
    have g2 := bl_ge (w - a) h
    have t := Aside0.mk (half_w w (by omega))
    have e := Aside0.mk (sub_w w a (by omega) (by omega))
    refine Ev.step (fun _ => impl_byLines.l2.eq_2 ..) ?_
    rw [t.out]
    refine (ev_pos (by omega) (ev_pos (by omega) (ev_pos (by rw [tabN_length]; omega) (ev_pos (by omega) (ev_pos (by rw [tab_rd W H w a (by omega) hw, rowN_length]; omega) (ev_pos (by rw [e.out]; omega) (ev_pos (by rw [e.out, tabN_length]; omega) (ev_pos (by rw [e.out, tab_rd W H w (w - a) (by omega) hw, rowN_length]; omega) ?_))))))))
    rw [e.out, tab_rd W H w a (by omega) hw, tab_rd W H w (w - a) (by omega) hw, row_rd a H _ h hh, row_rd (w - a) H _ h hh, if_pos (by omega), if_pos (by omega), w64 (e := (a : Int) + 1) (by omega) (by omega), w64 (by omega) (by omega), mn_min]
    exact by_l2 w h hw hh hw1 hh1 X hX d (a + 1) _ (by omega) (by omega) (by omega) (by omega) hb

theorem by_l1 (w : Nat) (hw : w ≤ W) (hw1 : 1 ≤ w) (X : List (List Int)) (hX : Ev (fun k => impl_byLines.l0 k H (tabN W H w (rowN w H (H + 1))) (W + 1 : Nat) (w + 1 : Nat)) X) :
    ∀ (d h : Nat), 1 ≤ h → h + d = H + 1 → Ev (fun k => impl_byLines.l1 k H (tabN W H w (rowN w H h)) w h (W + 1 : Nat) w) X
  | 0, h, h1, h2 => by
    obtain rfl : h = H + 1 := by omega
    refine Ev.step (fun _ => impl_byLines.l1.eq_2 ..) (ev_neg (by omega) (Ev.step (fun _ => impl_byLines.j2.eq_2 ..) (ev_neg (by simp) ?_)))
    rw [w64 (by omega) (by omega)]
    exact hX
  | d + 1, h, h1, h2 => by
    have ih := by_l1 w hw hw1 X hX d (h + 1) (by omega) (by omega)
    refine Ev.step (fun _ => impl_byLines.l1.eq_2 ..) (ev_pos (by omega) (Ev.step (fun _ => impl_byLines.j2.eq_2 ..) (ev_pos (by simp; omega) ?_)))
    have hb := bl_eq w h (by omega) (by omega)
    by_cases e : w = h
    · refine ev_pos (by omega) (Ev.step (fun _ => impl_byLines.j3.eq_2 ..) ?_)
      exact by_l2 W H hW hH w h hw (by omega) hw1 h1 X ih (w / 2) 1 1 (by omega) (by omega) (by omega) (by omega) (by rw [hb, if_pos e])
    · have hm : ((w : Int) * h) ≤ 60 * 60 := Int.mul_le_mul (by omega) (by omega) (by omega) (by omega)
      have hm0 : 0 ≤ ((w : Int) * h) := Int.mul_nonneg (by omega) (by omega)
      refine ev_neg (by omega) (Ev.step (fun _ => impl_byLines.j3.eq_2 ..) ?_)
      rw [w64 (e := (w : Int) * h) (by omega) (by omega)]
      exact by_l2 W H hW hH w h hw (by omega) hw1 h1 X ih (w / 2) 1 _ (by omega) (by omega) (by omega) (by omega) (by rw [hb, if_neg e])

theorem by_l0 (hH1 : 1 ≤ H) : ∀ (d w : Nat), w + d = W + 1 → Ev (fun k => impl_byLines.l0 k H (tabN W H w []) (W + 1 : Nat) w) (tabN W H (W + 1) [])
  | 0, w, hd => by
    obtain rfl : w = W + 1 := by omega
    exact Ev.step (fun _ => impl_byLines.l0.eq_2 ..) (ev_neg (by omega) (ev_some rfl))
  | d + 1, w, hd => by
    have ih := by_l0 hH1 d (w + 1) (by omega)
    rw [← tabN_next] at ih
    have e := Aside0.mk (inc_w H (by omega))
    refine Ev.step (fun _ => impl_byLines.l0.eq_2 ..) (ev_pos (by omega) (ev_pos (by rw [e.out]; omega) (ev_pos (by rw [e.out]; omega) (ev_pos (by omega) (ev_pos (by rw [tabN_length]; omega) ?_)))))
    rw [e.out, Int.toNat_natCast, Int.toNat_natCast, tabN_set W H w _ _ (by omega), rowN_zero w H]
    by_cases h0 : w = 0
    · subst h0
      refine Ev.step (fun _ => impl_byLines.l1.eq_2 ..) (ev_pos (by omega) (Ev.step (fun _ => impl_byLines.j2.eq_2 ..) (ev_neg (by simp) ?_)))
      rw [rowN_null H 1, w64 (by omega) (by omega)]
      exact ih
    · exact by_l1 W H hW hH w (by omega) (by omega) _ ih H 1 (by omega) (by omega)

theorem byLines_ev (hH1 : 1 ≤ H) : Ev (fun k => impl_byLines.f k W H) (tabN W H (W + 1) []) := by
  have e := Aside0.mk (inc_w W (by omega))
  refine ev_pos (by rw [e.out]; omega) (ev_pos (by rw [e.out]; omega) (ev_call rfl ?_))
  rw [e.out, Int.toNat_natCast, tabN_start W H, tabN_length]
  exact by_l0 W H hW hH hH1 (W + 1) 0 (by omega)
end

theorem tab_end (W H : Nat) (i : Nat) (hi : i ≤ W) : rd_L5 (tabN W H (W + 1) []) (i : Int) = rowN i H (H + 1) := by
  have := tabN_get W H (W + 1) i [] hi
  rw [if_pos (by omega)] at this
  exact this
end Go.Proofs.Ytfmhcgjmgaefcab.Pure

namespace Go.Proofs.Ytfmhcgjmgaefcab.Pure
set_option linter.unusedVariables false
set_option linter.unusedSimpArgs false
open Go.RowKit Go.Proofs.Ytfmhcgjmgaefcab.P Go.Proofs.YtfmhcgjmgaefcabW.PrintWords Go.Proofs.YtfmhcgjmgaefcabW.PrintLast Go.Proofs.YtfmhcgjmgaefcabW.PrintMore Go.Proofs.Ytfmhcgjmgaefcab.Aid Go.Proofs.Ytfmhcgjmgaefcab.T
theorem linesLose_both (a b : Int) : ∃ r : Int × Bool, Ev (fun k => spec_LinesLose.f k a b) r ∧ Ev (fun k => impl_LinesLose.f k a b) r := by
  by_cases h : (inR a 1 13 && inR b 1 13) = true
  · obtain ⟨ha, hb⟩ := few_rng h
    have c : (inR a 1 60 && inR b 1 60) = true := by rw [Bool.and_eq_true, inR_iff, inR_iff]; omega
    have hH := feAll_f h
    have hh := few_head h
    have hf := implFewest_f a b
    unfold fewV at hf
    rw [if_pos h] at hf
    generalize (tilFew a.toNat b).reverse.map (fun t => (⟨a, b, t⟩ : Ct)) = L at hH hh
    generalize ((fewM a.toNat b : Nat) : Int) = m at hh hf
    obtain ⟨w, rfl⟩ := Int.eq_ofNat_of_zero_le (show 0 ≤ a by omega)
    obtain ⟨v, rfl⟩ := Int.eq_ofNat_of_zero_le (show 0 ≤ b by omega)
    have h1 := feLines_ev w v (by omega) (by omega)
    have h2 := byLines_ev w v (by omega) (by omega) (by omega)
    have e := tab_end w v w (Nat.le_refl _)
    have er := row_rd w v (v + 1) v (Nat.le_refl _)
    rw [if_pos (by omega)] at er
    refine ⟨(wrap64 ((bl w v : Int) - m), true), ev_call (feSize_f _ _ _) (ev_pos h (ev_bind h1 (ev_pos ⟨by omega, by rw [tabN_length]; omega, by omega, by rw [e, rowN_length]; omega⟩ (ev_call hH (ev_pos hh.1 (ev_some ?_)))))), ev_call hf (ev_pos rfl (ev_bind (a := ((bl w v : Int), true)) ?_ (ev_some rfl)))⟩
    · rw [e, er, hh.2]
    · refine ev_call (isLined_f _ _) (ev_pos c (ev_bind h2 (ev_pos (by omega) (ev_pos (by rw [tabN_length]; omega) (ev_pos (by omega) (ev_pos (by rw [e, rowN_length]; omega) (ev_some ?_)))))))
      rw [e, er]
  · have hf := implFewest_f a b
    unfold fewV at hf
    rw [if_neg h] at hf
    exact ⟨(0, false), ev_call (feSize_f _ _ _) (ev_neg h (ev_some rfl)), ev_call hf (ev_neg (by simp) (ev_some rfl))⟩
theorem FnExactLinesLose : laws_FnExactLinesLose.Pure := by
  intro a b _ _
  obtain ⟨r, h1, h2⟩ := linesLose_both a b
  exact ev_at (ev_bind h1 (ev_bind h2 (ev_pos rfl (ev_neg (by simp) (ev_some rfl)))))
end Go.Proofs.Ytfmhcgjmgaefcab.Pure
