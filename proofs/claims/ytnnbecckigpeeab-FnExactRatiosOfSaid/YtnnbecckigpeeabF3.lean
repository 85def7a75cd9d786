import Derived.Test.YtnnbecckigpeeabK
import Derived.Test.YtnnbecckigpeeabF4
import Derived.Test.YtnnbecckigpeeabF5
import Derived.Test.YtnnbecckigpeeabF6
import Derived.Test.YtnnbecckigpeeabF7
import Derived.Test.YtnnbecckigpeeabF8
namespace Go.Proofs.Ytnnbecckigpeeab.P
open Go.RowKit Go.Proofs.YtnnbecckigpeeabW.PrintWords Go.Proofs.YtnnbecckigpeeabW.PrintLast Go.Proofs.YtnnbecckigpeeabW.PrintMore
attribute [local go_sem] max2_int min2_int max_two min_two max_three min_three max_four min_four
set_option linter.unusedVariables false
set_option linter.unusedSimpArgs false

/-! ### laws_FnExactRatiosOf: function 3 -/
def laws_FnExactRatiosOf.Pure : Prop := ∀ (a0 : Int), (Lit.int .i64 a0).wf = true → ∃ k l o l' m, spec_RatiosOf.f k a0 = some (l, o) ∧ impl_RatiosOf.f k a0 = some (l, o) ∧ laws_eqIntSS.f k l l = some true ∧ laws_markIntSS.f k l 1 = some (m, l') ∧ laws_heldIntSS.f k l' 1 = some m ∧ 0 ≤ m
set_option maxHeartbeats 4000000 in
theorem laws_FnExactRatiosOf.walk (P : laws_FnExactRatiosOf.Pure) (a0 : Int) (w : World) (w0 : (Lit.int .i64 a0).wf = true) :
    Calls Try.prog 3 #[.int .i64 a0] w fun e w' => e = .returned (.bool true) ∧ Below w.heap.size w w' := by
  obtain ⟨k, l, o, l', m, g1, g2, g3, g4, g5, g6⟩ := P a0 w0
  have G1 := Aside0.mk g1
  have G2 := Aside0.mk g2
  have G3 := Aside0.mk g3
  have G4 := Aside0.mk g4
  have G5 := Aside0.mk g5
  have G6 := decide_eq_false (show ¬ m < 0 by omega)
  have HB := Aside0.mk (Below.refl w.heap.size w)
  clear g1 g2 g3 g4 g5 g6 P w0
  go_enter Try.func3, Try.ntmps3
  go_wp2_with fail
  refine (spec_RatiosOf.calls k a0 l o _ G1.out).mono ?_
  rintro e w1 ⟨v1, rfl, ho, hb⟩
  have HB1 := Aside0.mk hb
  have HO1 := Aside0.mk (Kd.S_mono (ok' := fun k_ => k_ < w1.heap.size) (Kd.S_bound ho) (fun _ hk => hk.2.2.1))
  clear hb ho HB
  go_wp2_with fail
  refine (impl_RatiosOf.calls k a0 l o _ G2.out).mono ?_
  rintro e w2 ⟨v2, rfl, ho, hb⟩
  have HB2 := Aside0.mk (below_step HB1.out hb)
  have HO1' := Aside0.mk (Kd.S_below HO1.out hb)
  have HO2 := Aside0.mk (Kd.S_lower (Kd.S_mono (ok' := fun k_ => w1.heap.size ≤ k_) (Kd.S_bound ho) (fun _ hk => hk.2.1)) (below_size HB1.out))
  clear hb ho HO1 HB1
  generalize w1.heap.size = N at HO1' HO2
  obtain ⟨A1, c1, rfl⟩ := Kd.S_slice HO1'.out
  obtain ⟨A2, c2, rfl⟩ := Kd.S_slice HO2.out
  have CR1 := Aside0.mk (Kd.S_reads' HO1'.out)
  have CR2 := Aside0.mk (Kd.S_reads' HO2.out)
  go_wp2_with fail
  refine (laws_eqIntSS.calls k _ _ l _ _ l true _ CR2.out.2.2 CR2.out.2.1 CR1.out.2.2 CR1.out.2.1 G3.out).mono ?_
  rintro e w3 ⟨rfl, hd⟩
  have HB3 := Aside0.mk (below_step HB2.out hd.below)
  have HO2' := Aside0.mk (Kd.S_below HO2.out hd.below)
  have HO1 := Aside0.mk (Kd.S_below HO1'.out hd.below)
  clear hd CR1 CR2 HO2 HO1' HB2
  go_wp2_with fail
  refine (laws_markIntSS.calls k _ _ l 1 m l' w _ HB3.out HO2'.out G4.out).mono ?_
  rintro e w4 ⟨rfl, ho, hb, hk⟩
  have HB4 := Aside0.mk hb
  have HO4 := Aside0.mk ho
  have HO1' := Aside0.mk (Kd.S_kept HO1.out hk (fun _ hn hs => Nat.lt_irrefl _ (Nat.lt_of_lt_of_le hn hs)))
  clear hb ho hk HB3 HO2' HO1
  have HLN : Aside0 (l.length = l'.length) := ⟨(Kd.S_reads' HO4.out).1⟩
  have HELD : Aside0 (∀ W ok, Kd.S (Kd.slice 3 (Kd.int .i64)) 32 W w.heap.size ok (.slice A2 l.length c2) l' → Calls Try.prog 8 #[.slice A2 l.length c2, .int .i64 1] W fun e w' => e = .returned (.int .i64 m) ∧ Drawn0 W w') := ⟨fun W ok h => by
    have hr := Kd.S_reads' h
    have hc := laws_heldIntSS.calls k A2 c2 l' 1 m W hr.2.2 (by rw [← HLN.out]; exact hr.2.1) G5.out
    rwa [← HLN.out] at hc⟩
  go_wp2_with fail
  refine (HELD.out _ _ HO4.out).mono ?_
  rintro e w5 ⟨rfl, hd⟩
  have HB5 := Aside0.mk (below_step HB4.out hd.below)
  have HO5 := Aside0.mk (Kd.S_below HO4.out hd.below)
  have HO1 := Aside0.mk (Kd.S_below HO1'.out hd.below)
  clear hd HB4 HO4 HO1'
  go_wp2_with fail
  refine (impl_RatiosOf.calls k a0 l o _ G2.out).mono ?_
  rintro e w6 ⟨v3, rfl, ho, hb⟩
  have HB6 := Aside0.mk (below_step HB5.out hb)
  have HO6 := Aside0.mk (Kd.S_below HO5.out hb)
  have HO1' := Aside0.mk (Kd.S_below HO1.out hb)
  have HO3 := Aside0.mk ho
  clear hb ho HB5 HO5 HO1
  obtain ⟨A3, c3, rfl⟩ := Kd.S_slice HO3.out
  have CR1 := Aside0.mk (Kd.S_reads' HO1'.out)
  have CR2 := Aside0.mk (Kd.S_reads' HO3.out)
  go_wp2_with fail
  refine (laws_eqIntSS.calls k _ _ l _ _ l true _ CR2.out.2.2 CR2.out.2.1 CR1.out.2.2 CR1.out.2.1 G3.out).mono ?_
  rintro e w7 ⟨rfl, hd⟩
  have HB7 := Aside0.mk (below_step HB6.out hd.below)
  have HO7 := Aside0.mk (Kd.S_below HO6.out hd.below)
  clear hd CR1 CR2 HO3 HO1' HB6 HO6
  go_wp2_with fail
  refine (HELD.out _ _ HO7.out).mono ?_
  rintro e w8 ⟨rfl, hd⟩
  have HB8 := Aside0.mk (below_step HB7.out hd.below)
  clear hd HB7 HO7
  go_wp2
  go_ret
  exact ⟨rfl, HB8.out⟩

end Go.Proofs.Ytnnbecckigpeeab.P
