import Derived.Test.YtnfiejagokefcaaMFnExactIsByLineswWords
import Derived.Test.YtnfiejagokefcaaMFnExactIsByLineswLast
import Derived.Test.YtnfiejagokefcaaMFnExactIsByLineswTab
import Derived.Test.YtnfiejagokefcaaMFnExactIsByLineswApart
import Derived.Test.YtnfiejagokefcaaMFnExactIsByLineswFoot
import Derived.Test.YtnfiejagokefcaaMFnExactIsByLineswKept
import Derived.Test.YtnfiejagokefcaaMFnExactIsByLineswShare
import Derived.Test.YtnfiejagokefcaaMFnExactIsByLineswN
import Derived.Test.YtnfiejagokefcaaMFnExactIsByLineswFootNe
import Derived.Test.YtnfiejagokefcaaMFnExactIsByLineswRepsOne
import Derived.Test.YtnfiejagokefcaaMFnExactIsByLineswGuard
import Derived.Test.YtnfiejagokefcaaMFnExactIsByLineswMore
import Derived.Test.YtnfiejagokefcaaMFnExactIsByLinesx0
import Derived.Test.YtnfiejagokefcaaMFnExactIsByLinesx1
import Derived.Test.YtnfiejagokefcaaMFnExactIsByLinesx2
import Derived.Test.YtnfiejagokefcaaMFnExactIsByLinesx3
import Derived.Test.YtnfiejagokefcaaMFnExactIsByLinesx4
import Derived.Test.YtnfiejagokefcaaMFnExactIsByLinesx5
import Derived.Test.YtnfiejagokefcaaMFnExactIsByLinesx6
import Derived.Test.YtnfiejagokefcaaMFnExactIsByLinesx7
import Derived.Test.YtnfiejagokefcaaRows
import Derived.WalkKit
import Derived.ProofKit
import Derived.OpenShut
import Derived.ShutString
import Derived.ChangeOld
import Derived.Below
import Derived.SizedLaws
import Derived.ChangeSlices
namespace Go.Proofs.Ytnfiejagokefcaa.fnExactIsByLines
open Go.ChangeShapes Go.WideShapes Go.ChangeAt Go.RowKit Go.Proofs.Ytnfiejagokefcaa
open Go.ChangeMaps (open_string shut_string)
set_option linter.unusedVariables false
theorem own : ownKnob Try.prog.godebug = none := by kernel_rfl
theorem laidOut : laidOutB Try.prog = true := by kernel_rfl
set_option maxRecDepth 100000 in
theorem lifted (os : Os) (started : os.Started) (H : Type) (enc : TypeId × Value → H) :
    ReturnsInHanded {} Try.checked os 6 .any (Rows.fnExactIsByLinesSpec.pre6 enc Try.prog Try.f6 Rows.fnExactIsByLinesRow.domain false) (Rows.fnExactIsByLinesSpec.post enc Try.prog Try.f6 false true false false) := by
  refine returnsInHanded_of_change_sized (C := Try.checked) own started (by kernel_rfl) Try.func6
    (ChangeSpec.witness6 (enc := enc) (C := Try.checked) false ⟨#[], #[.agg #[.int .i64 0, .int .i64 0, .slice none 0 0]], []⟩ 8 (by kernel_rfl) (by kernel_rfl) (by kernel_rfl) (by kernel_rfl)) ?_
  intro W base args ds gs before hval0 hW hcnd hsz0 _
  have hsz : (DataW.weightsEach Try.prog (Try.f6.params.toList ++ Rows.fnExactIsByLinesSpec.plain.varTypes Try.prog) (ds ++ gs)).all (· ≤ reachBytes) = true := hsz0
  have hval : ∀ (j : Nat) t v, Try.f6.params[j]? = some t → args[j]? = some v → Value.okWide Try.prog W .any base t v := hval0
  have hW' := hW
  obtain ⟨p, q, hA0, hV, rfl, hfz, hnd⟩ := hW
  have hA : DataW.TrodAll enc Try.prog W 0 (fun _ => true) true Try.f6.params.toList args.toList ds p := hA0
  rw [Try.params6] at hA hval hsz
  obtain ⟨v0, vs0, d0, ds0, p0, q0, hargs, rfl, rfl, h0, r0⟩ := trodAll_cons hA
  obtain ⟨rfl, rfl, rfl⟩ := trodAll_nil r0
  obtain rfl : args = #[v0] := by cases args; simp_all
  obtain ⟨rfl, rfl⟩ := trodVars_none hV
  have k0 := h0
  have lt0 : ∀ x ∈ p0, x.block < W.heap.size := by obtain ⟨m, hm⟩ := k0; exact DataW.trod_lt m _ _ _ hm
  obtain ⟨a0_0, a0_1, A0_2, c0_2, l0_2, rfl, u0_0, u0_1, hc0_2, hm0_2, hr0_2, u0_3⟩ := RowAid.open_cut Try.underlying24 (by kernel_rfl) (by kernel_rfl) rfl rfl rfl Try.underlying22 Try.underlying64 Try.underlying3 ⟨rfl, rfl⟩ ⟨rfl, rfl⟩ ⟨rfl, rfl⟩ (by kernel_rfl) (by kernel_rfl) (hval 0 24 v0 rfl rfl) h0
  have u0_2 : l0_2.length ≤ maxLen := Nat.le_trans hc0_2 hm0_2
  clear hA0 hval0 hsz0 hsz
  refine (P.laws_FnExactIsByLines.walk Pure.FnExactIsByLines (a0_0 := a0_0) (a0_1 := a0_1) (A0_2 := A0_2) (c0_2 := c0_2) (l0_2 := l0_2) (w := W) (u0_0 := u0_0) (u0_1 := u0_1) (u0_2 := u0_2) (u0_3 := u0_3) (hr0_2 := hr0_2) (hc0_2 := hc0_2)).mono fun e W' ⟨he, bel⟩ => ?_
  subst he
  exact ⟨_, rfl, _, _, _, [], _, [], hW', trodAll_mk1 (shut_bool Try.underlying4 _), (trodAll_cons_mk (Below.trod laidOut (by kernel_rfl) (of_decide_eq_true (by kernel_rfl)) k0 bel lt0) trodAll_mk0), rfl, bel.frame _, fun h => by cases h⟩
theorem over : Rows.fnExactIsByLinesRow.holds Try.pinned (OpenSpec.ofChange Rows.fnExactIsByLinesSpec) :=
  OpenClaim.holds_of_wide 6 Try.f6 rfl rfl rfl rfl rfl rfl rfl ⟨rfl, rfl, rfl, rfl, rfl⟩ rfl rfl rfl rfl rfl (by kernel_rfl) Try.func6 (by kernel_rfl)
    (of_decide_eq_true (by kernel_rfl)) (by unfold Func.isWrapper; first | (rw [if_pos (by decide +kernel)]; kernel_rfl) | (rw [if_neg (by decide +kernel)]; exact ⟨rfl, rfl⟩))
    (fun os started H enc _ => lifted os started H enc)
theorem proved : Rows.FnExactIsByLinesSaid := over
end Go.Proofs.Ytnfiejagokefcaa.fnExactIsByLines
namespace Go.Proofs.Ytnfiejagokefcaa
/-- The row, under a short name, for the claim. -/
theorem fnExactIsByLines_holds : Rows.FnExactIsByLinesSaid := fnExactIsByLines.proved
end Go.Proofs.Ytnfiejagokefcaa
