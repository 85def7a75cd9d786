import Derived.Test.YtdfcljfajiihdaaMFnExactCutByLineswWords
import Derived.Test.YtdfcljfajiihdaaMFnExactCutByLineswLast
import Derived.Test.YtdfcljfajiihdaaMFnExactCutByLineswTab
import Derived.Test.YtdfcljfajiihdaaMFnExactCutByLineswApart
import Derived.Test.YtdfcljfajiihdaaMFnExactCutByLineswFoot
import Derived.Test.YtdfcljfajiihdaaMFnExactCutByLineswKept
import Derived.Test.YtdfcljfajiihdaaMFnExactCutByLineswShare
import Derived.Test.YtdfcljfajiihdaaMFnExactCutByLineswN
import Derived.Test.YtdfcljfajiihdaaMFnExactCutByLineswFootNe
import Derived.Test.YtdfcljfajiihdaaMFnExactCutByLineswAt
import Derived.Test.YtdfcljfajiihdaaMFnExactCutByLineswRepsOne
import Derived.Test.YtdfcljfajiihdaaMFnExactCutByLineswGuard
import Derived.Test.YtdfcljfajiihdaaMFnExactCutByLineswMore
import Derived.Test.YtdfcljfajiihdaaMFnExactCutByLinesx0
import Derived.Test.YtdfcljfajiihdaaMFnExactCutByLinesx1
import Derived.Test.YtdfcljfajiihdaaMFnExactCutByLinesx2
import Derived.Shelf.Abstract
namespace Go.Proofs.Ytdfcljfajiihdaa.P
open Go.RowKit Go.Proofs.YtdfcljfajiihdaaW.PrintWords Go.Proofs.YtdfcljfajiihdaaW.PrintLast Go.Proofs.YtdfcljfajiihdaaW.PrintMore
attribute [local go_sem] max2_int min2_int max_two min_two max_three min_three max_four min_four
set_option linter.unusedVariables false
set_option linter.unusedSimpArgs false
mutual
def impl_lined.l0 : Nat → List (List Int) → Int → Int → Int → Int → Int → Option ((List (S56)))
  | 0, _, _, _, _, _, _ => none
  | k + 1, x0, x1, x2, x3, x4, x11 => if x11 ≤ (wrap64 (Int.tdiv x3 2)) then (if 0 ≤ x11 then (if x11 < (x0.length : Int) then (if 0 ≤ x4 then (if x4 < ((rd_L1 x0 x11).length : Int) then (if 0 ≤ (wrap64 (x3 - x11)) then (if (wrap64 (x3 - x11)) < (x0.length : Int) then (if x4 < ((rd_L1 x0 (wrap64 (x3 - x11))).length : Int) then (if 0 ≤ x3 then (if x3 < (x0.length : Int) then (if x4 < ((rd_L1 x0 x3).length : Int) then (if (wrap64 ((rd (rd_L1 x0 x11) x4) + (rd (rd_L1 x0 (wrap64 (x3 - x11))) x4))) = (rd (rd_L1 x0 x3) x4) then ((impl_lined.f k x0 x1 x2 x11 x4).bind fun t110 => ((impl_lined.f k x0 (wrap64 (x1 + x11)) x2 (wrap64 (x3 - x11)) x4).bind fun t113 => (if t110.length + t113.length < 5864062014805 then (some (t110 ++ t113)) else (none)))) else (impl_lined.l0 k x0 x1 x2 x3 x4 (wrap64 (x11 + 1)))) else (none)) else (none)) else (none)) else (none)) else (none)) else (none)) else (none)) else (none)) else (none)) else (none)) else (impl_lined.l1 k x0 x1 x2 x3 x4 1)
def impl_lined.l1 : Nat → List (List Int) → Int → Int → Int → Int → Int → Option ((List (S56)))
  | 0, _, _, _, _, _, _ => none
  | k + 1, x0, x1, x2, x3, x4, x12 => if x12 ≤ (wrap64 (Int.tdiv x4 2)) then (if 0 ≤ x3 then (if x3 < (x0.length : Int) then (if 0 ≤ x12 then (if x12 < ((rd_L1 x0 x3).length : Int) then (if 0 ≤ (wrap64 (x4 - x12)) then (if (wrap64 (x4 - x12)) < ((rd_L1 x0 x3).length : Int) then (if 0 ≤ x4 then (if x4 < ((rd_L1 x0 x3).length : Int) then (if (wrap64 ((rd (rd_L1 x0 x3) x12) + (rd (rd_L1 x0 x3) (wrap64 (x4 - x12))))) = (rd (rd_L1 x0 x3) x4) then ((impl_lined.f k x0 x1 x2 x3 x12).bind fun t125 => ((impl_lined.f k x0 x1 (wrap64 (x2 + x12)) x3 (wrap64 (x4 - x12))).bind fun t128 => (if t125.length + t128.length < 5864062014805 then (some (t125 ++ t128)) else (none)))) else (impl_lined.l1 k x0 x1 x2 x3 x4 (wrap64 (x12 + 1)))) else (none)) else (none)) else (none)) else (none)) else (none)) else (none)) else (none)) else (none)) else (some ([] : List (S56)))
def impl_lined.f : Nat → List (List Int) → Int → Int → Int → Int → Option ((List (S56)))
  | 0, _, _, _, _, _ => none
  | k + 1, l0, a1, a2, a3, a4 => if a3 = a4 then (some (([(⟨a1, a2, a3⟩ : S56)] : List (S56)))) else (impl_lined.l0 k l0 a1 a2 a3 a4 1)
end
set_option maxHeartbeats 8000000 in
set_option maxRecDepth 100000 in
theorem impl_lined.calls (k : Nat) : ∀ (A0 : Option Addr) (c0 : Nat) (l0 : List (List Int)) (a1 : Int) (a2 : Int) (a3 : Int) (a4 : Int) (r : List (S56)) (w : World) (hr0 : Kd.C (Kd.slice 3 (Kd.int .i64)) w A0 l0.length l0) (hc0 : l0.length ≤ c0) (h : impl_lined.f k l0 a1 a2 a3 a4 = some r),
    Calls Try.prog 69 #[.slice A0 l0.length c0, .int .i64 a1, .int .i64 a2, .int .i64 a3, .int .i64 a4] w fun e w' => ∃ v0_ : Value, e = .returned (v0_) ∧ Kd.R k56 56 w' w.heap.size (fun _ => True) v0_ r ∧ Below w.heap.size w w' := by
  induction k using Nat.strongRecOn with
  | _ k ih =>
  intro A0 c0 l0 a1 a2 a3 a4 r w hr0 hc0 h
  cases k with
  | zero => exact absurd h (by simp [impl_lined.f])
  | succ k =>
  simp only [impl_lined.f] at h
  have hu56 := Try.underlying56
  have HR0 := Aside0.mk hr0
  have HC0 := Aside0.mk hc0
  clear hr0 hc0
  have HB := Aside0.mk (Below.refl w.heap.size w)
  have H : (if a3 = a4 then (some (([(⟨a1, a2, a3⟩ : S56)] : List (S56)))) else (impl_lined.l0 k l0 a1 a2 a3 a4 1)) = some r := h
  clear h
  by_cases c6 : a3 = a4
  · rw [if_pos c6] at H
    have c6b0 : (a3 == a4) = true := beq_iff_eq.mpr c6
    have c6b1 : (a3 != a4) = false := bne_eq_false_iff_eq.mpr c6
    clear c6
    obtain ⟨y101, hy101⟩ : ∃ y_ : List (S56), y_ = (([(⟨a1, a2, a3⟩ : S56)] : List (S56))) := ⟨_, rfl⟩
    replace H : (some y101) = some r := by first | (rw [hy101]; with_reducible exact H) | (have H2_ := (Option.bind_some _ _).symm.trans H; rw [hy101]; with_reducible exact H2_) | (have H2_ := (Option.bind_some _ _).symm.trans H; with_reducible exact H2_) | with_reducible exact H | (rw [hy101]; exact H) | exact H
    have Ny101 := Aside0.mk hy101
    clear hy101
    obtain rfl := Option.some.inj H
    go_enter Try.func69, Try.ntmps69
    go_wp2_with (first | ((with_reducible refine gate_dst (N := 20) rfl ?_); refine Kd.R_lit k56 _ 56 ?hg (N := 20) ?hd (xs := ([(⟨a1, a2, a3⟩ : S56)] : List (S56))) (inner := [.int .i64 a1, .int .i64 a2, .int .i64 a3]) (ok := fun _ => True) (okp := fun _ => True) ?hr ?hp (fun _ hk => hk) trivial (Below.refl _ _) (Nat.le_refl _) (by simp) ?_; (case hd => rfl); (case hg => rfl); (case hr => first | (go_simp; done) | (go_simp; rfl)); (case hp => exact (Reps.c3 (show Kd.M k56 _ _ _ (⟨a1, a2, a3⟩ : S56) [.int .i64 a1, .int .i64 a2, .int .i64 a3] from (k56_mkM _ _ _ (⟨a1, a2, a3⟩ : S56) )) (Reps.none _ _))); intro v102 w7 ho8 hb hg_ hnew_; clear hg_ hnew_; (first | rw [← Ny101.out] at ho8 | (simp only [Int.reduceToNat] at ho8; rw [← Ny101.out] at ho8)); have n0_ := Aside0.mk (Kd.R_lower ho8 (below_size (by repeat (first | (with_reducible first | exact HB.out | apply below_alloc | apply pw_below_drewN | apply below_drew1) | exact HB.out)))); have n1_ := Aside0.mk (below_step (by repeat (first | (with_reducible first | exact HB.out | apply below_alloc | apply pw_below_drewN | apply below_drew1) | exact HB.out)) hb); clear HB; have HO103 := n0_; have HB := n1_; clear n0_ n1_; clear hb ho8))
    repeat (go_quiet (first | ((with_reducible refine gate_dst (N := 20) rfl ?_); refine Kd.R_lit k56 _ 56 ?hg (N := 20) ?hd (xs := ([(⟨a1, a2, a3⟩ : S56)] : List (S56))) (inner := [.int .i64 a1, .int .i64 a2, .int .i64 a3]) (ok := fun _ => True) (okp := fun _ => True) ?hr ?hp (fun _ hk => hk) trivial (Below.refl _ _) (Nat.le_refl _) (by simp) ?_; (case hd => rfl); (case hg => rfl); (case hr => first | (go_simp; done) | (go_simp; rfl)); (case hp => exact (Reps.c3 (show Kd.M k56 _ _ _ (⟨a1, a2, a3⟩ : S56) [.int .i64 a1, .int .i64 a2, .int .i64 a3] from (k56_mkM _ _ _ (⟨a1, a2, a3⟩ : S56) )) (Reps.none _ _))); intro v102 w7 ho8 hb hg_ hnew_; clear hg_ hnew_; (first | rw [← Ny101.out] at ho8 | (simp only [Int.reduceToNat] at ho8; rw [← Ny101.out] at ho8)); have n0_ := Aside0.mk (Kd.R_lower ho8 (below_size (by repeat (first | (with_reducible first | exact HB.out | apply below_alloc | apply pw_below_drewN | apply below_drew1) | exact HB.out)))); have n1_ := Aside0.mk (below_step (by repeat (first | (with_reducible first | exact HB.out | apply below_alloc | apply pw_below_drewN | apply below_drew1) | exact HB.out)) hb); clear HB; have HO103 := n0_; have HB := n1_; clear n0_ n1_; clear hb ho8)); try go_wp2_with (first | ((with_reducible refine gate_dst (N := 20) rfl ?_); refine Kd.R_lit k56 _ 56 ?hg (N := 20) ?hd (xs := ([(⟨a1, a2, a3⟩ : S56)] : List (S56))) (inner := [.int .i64 a1, .int .i64 a2, .int .i64 a3]) (ok := fun _ => True) (okp := fun _ => True) ?hr ?hp (fun _ hk => hk) trivial (Below.refl _ _) (Nat.le_refl _) (by simp) ?_; (case hd => rfl); (case hg => rfl); (case hr => first | (go_simp; done) | (go_simp; rfl)); (case hp => exact (Reps.c3 (show Kd.M k56 _ _ _ (⟨a1, a2, a3⟩ : S56) [.int .i64 a1, .int .i64 a2, .int .i64 a3] from (k56_mkM _ _ _ (⟨a1, a2, a3⟩ : S56) )) (Reps.none _ _))); intro v102 w7 ho8 hb hg_ hnew_; clear hg_ hnew_; (first | rw [← Ny101.out] at ho8 | (simp only [Int.reduceToNat] at ho8; rw [← Ny101.out] at ho8)); have n0_ := Aside0.mk (Kd.R_lower ho8 (below_size (by repeat (first | (with_reducible first | exact HB.out | apply below_alloc | apply pw_below_drewN | apply below_drew1) | exact HB.out)))); have n1_ := Aside0.mk (below_step (by repeat (first | (with_reducible first | exact HB.out | apply below_alloc | apply pw_below_drewN | apply below_drew1) | exact HB.out)) hb); clear HB; have HO103 := n0_; have HB := n1_; clear n0_ n1_; clear hb ho8)))
    go_ret
    exact ⟨_, by first | rfl | (simp [errW_none, errW_some] <;> rfl) | (simp [*, errW_none, errW_some] <;> rfl), by (with_reducible repeat (first | apply Kd.R_alloc | apply Kd.R_drewN | apply Kd.R_drew)); exact HO103.out, by repeat (first | (with_reducible first | exact HB.out | apply below_alloc | apply pw_below_drewN | apply below_drew1) | exact HB.out)⟩
  · rw [if_neg c6] at H
    have c6b0 : (a3 == a4) = false := beq_eq_false_iff_ne.mpr c6
    have c6b1 : (a3 != a4) = true := bne_iff_ne.mpr c6
    have H' := Aside0.mk H
    clear H
    go_enter Try.func69, Try.ntmps69
    go_wp2
    repeat (go_quiet (fail); try go_wp2)
    go_loopg [11] k (fun kq v11 w' => ∃ (x11_1 : Int), v11 = .int .i64 x11_1 ∧ Aside0 (impl_lined.l0 kq l0 a1 a2 a3 a4 x11_1 = some r) ∧ Aside0 (kq ≤ k) ∧ Aside0 (Below w.heap.size w w'))
    case atStart => exact ⟨(1), (by first | rfl | (simp; done) | (simp [*]; done)), H', ⟨Nat.le_refl _⟩, ⟨by repeat (first | (with_reducible first | exact HB.out | apply below_alloc | apply pw_below_drewN | apply below_drew1) | exact HB.out)⟩⟩
    case round =>
      clear H'
      try clear p2
      try clear c3
      try clear c6
      try clear c6b0
      try clear c6b1
      obtain ⟨x11_1, rfl, HA, HK1, HB⟩ := hrel
      cases gk with
      | zero => exact absurd HA.out (by simp [impl_lined.l0])
      | succ k1 =>
        have H := HA.out
        clear HA
        simp only [impl_lined.l0] at H
        by_cases c9 : x11_1 ≤ (wrap64 (Int.tdiv a3 2))
        · rw [if_pos c9] at H
          have c9b0 : decide (x11_1 ≤ (wrap64 (Int.tdiv a3 2))) = true := decide_eq_true c9
          clear c9
          by_cases c10 : 0 ≤ x11_1
          · rw [if_pos c10] at H
            have c10b0 : decide (0 ≤ x11_1) = true := decide_eq_true c10
            clear c10
            by_cases c11 : x11_1 < (l0.length : Int)
            · rw [if_pos c11] at H
              have c11b0 : decide (x11_1 < (l0.length : Int)) = true := decide_eq_true c11
              clear c11
              by_cases c12 : 0 ≤ a4
              · rw [if_pos c12] at H
                have c12b0 : decide (0 ≤ a4) = true := decide_eq_true c12
                clear c12
                by_cases c13 : a4 < ((rd_L1 l0 x11_1).length : Int)
                · rw [if_pos c13] at H
                  have c13b0 : decide (a4 < ((rd_L1 l0 x11_1).length : Int)) = true := decide_eq_true c13
                  clear c13
                  obtain ⟨ji14, hji14⟩ : ∃ j_ : Int, (wrap64 (a3 - x11_1)) = j_ := ⟨_, rfl⟩
                  replace H : (if 0 ≤ (ji14) then (if (ji14) < (l0.length : Int) then (if a4 < ((rd_L1 l0 (ji14)).length : Int) then (if 0 ≤ a3 then (if a3 < (l0.length : Int) then (if a4 < ((rd_L1 l0 a3).length : Int) then (if (wrap64 ((rd (rd_L1 l0 x11_1) a4) + (rd (rd_L1 l0 (ji14)) a4))) = (rd (rd_L1 l0 a3) a4) then ((impl_lined.f k1 l0 a1 a2 x11_1 a4).bind fun t110 => ((impl_lined.f k1 l0 (wrap64 (a1 + x11_1)) a2 (ji14) a4).bind fun t113 => (if t110.length + t113.length < 5864062014805 then (some (t110 ++ t113)) else (none)))) else (impl_lined.l0 k1 l0 a1 a2 a3 a4 (wrap64 (x11_1 + 1)))) else (none)) else (none)) else (none)) else (none)) else (none)) else (none)) = some r := by first | (rw [hji14] at H; exact H) | (simp only [hji14] at H ⊢; exact H)
                  have hji14w : (IntKind.i64.wrap (a3 - x11_1)) = ji14 := (i64_w _).trans hji14
                  by_cases c15 : 0 ≤ (ji14)
                  · rw [if_pos c15] at H
                    have c15b0 : decide (0 ≤ (ji14)) = true := decide_eq_true c15
                    clear c15
                    by_cases c16 : (ji14) < (l0.length : Int)
                    · rw [if_pos c16] at H
                      have c16b0 : decide ((ji14) < (l0.length : Int)) = true := decide_eq_true c16
                      clear c16
                      by_cases c17 : a4 < ((rd_L1 l0 (ji14)).length : Int)
                      · rw [if_pos c17] at H
                        have c17b0 : decide (a4 < ((rd_L1 l0 (ji14)).length : Int)) = true := decide_eq_true c17
                        clear c17
                        by_cases c18 : 0 ≤ a3
                        · rw [if_pos c18] at H
                          have c18b0 : decide (0 ≤ a3) = true := decide_eq_true c18
                          clear c18
                          by_cases c19 : a3 < (l0.length : Int)
                          · rw [if_pos c19] at H
                            have c19b0 : decide (a3 < (l0.length : Int)) = true := decide_eq_true c19
                            clear c19
                            by_cases c20 : a4 < ((rd_L1 l0 a3).length : Int)
                            · rw [if_pos c20] at H
                              have c20b0 : decide (a4 < ((rd_L1 l0 a3).length : Int)) = true := decide_eq_true c20
                              clear c20
                              by_cases c21 : (wrap64 ((rd (rd_L1 l0 x11_1) a4) + (rd (rd_L1 l0 (ji14)) a4))) = (rd (rd_L1 l0 a3) a4)
                              · rw [if_pos c21] at H
                                have c21b0 : ((wrap64 ((rd (rd_L1 l0 x11_1) a4) + (rd (rd_L1 l0 (ji14)) a4))) == (rd (rd_L1 l0 a3) a4)) = true := beq_iff_eq.mpr c21
                                have c21b1 : ((wrap64 ((rd (rd_L1 l0 x11_1) a4) + (rd (rd_L1 l0 (ji14)) a4))) != (rd (rd_L1 l0 a3) a4)) = false := bne_eq_false_iff_eq.mpr c21
                                clear c21
                                replace H := Option.bind_eq_some_iff.mp H
                                obtain ⟨t110, A220, H⟩ := H
                                replace H : ((impl_lined.f k1 l0 (wrap64 (a1 + x11_1)) a2 (ji14) a4).bind fun t113 => (if t110.length + t113.length < 5864062014805 then (some (t110 ++ t113)) else (none))) = some r := H
                                have A22 := Aside0.mk A220
                                clear A220
                                replace H := Option.bind_eq_some_iff.mp H
                                obtain ⟨t113, A230, H⟩ := H
                                replace H : (if t110.length + t113.length < 5864062014805 then (some (t110 ++ t113)) else (none)) = some r := H
                                have A23 := Aside0.mk A230
                                clear A230
                                by_cases c24 : t110.length + t113.length < 5864062014805
                                · rw [if_pos c24] at H
                                  have LMc24 := Aside0.mk c24
                                  clear c24
                                  obtain ⟨y116, hy116⟩ : ∃ y_ : List (S56), y_ = (t110 ++ t113) := ⟨_, rfl⟩
                                  replace H : (some y116) = some r := by first | (rw [hy116]; with_reducible exact H) | (have H2_ := (Option.bind_some _ _).symm.trans H; rw [hy116]; with_reducible exact H2_) | (have H2_ := (Option.bind_some _ _).symm.trans H; with_reducible exact H2_) | with_reducible exact H | (rw [hy116]; exact H) | exact H
                                  have Ny116 := Aside0.mk hy116
                                  clear hy116
                                  obtain rfl := Option.some.inj H
                                  have p104 : 0 ≤ (x11_1 : Int) := of_decide_eq_true (by first | (with_reducible assumption) | assumption)
                                  have q104 : x11_1 < (l0.length : Int) := of_decide_eq_true (by first | (with_reducible assumption) | assumption)
                                  obtain ⟨ad104, A104_0, c104_0, e104, hx104_0, hl104_0, hi104_0⟩ := at_L1 HR0.out x11_1 p104 q104
                                  cases e104
                                  replace hx104_0 := (HB.out.cell (World.block_lt_of_cell? w _ hx104_0)).trans hx104_0
                                  have HR104_0 := Aside0.mk hi104_0
                                  have HC104_0 := Aside0.mk hl104_0
                                  clear hi104_0 hl104_0
                                  replace p104 := eq_true p104
                                  replace q104 := eq_true q104
                                  have p105 : 0 ≤ (a4 : Int) := of_decide_eq_true (by first | (with_reducible assumption) | assumption)
                                  have q105 : a4 < ((rd_L1 l0 x11_1).length : Int) := of_decide_eq_true (by first | (with_reducible assumption) | assumption)
                                  obtain ⟨ad105, e105, hx105_0⟩ := Kd.at_int HR104_0.out a4 p105 q105
                                  cases e105
                                  replace hx105_0 := (HB.out.cell (World.block_lt_of_cell? w _ hx105_0)).trans hx105_0
                                  replace p105 := eq_true p105
                                  replace q105 := eq_true q105
                                  have p106 : 0 ≤ ((ji14) : Int) := of_decide_eq_true (by first | (with_reducible assumption) | assumption)
                                  have q106 : (ji14) < (l0.length : Int) := of_decide_eq_true (by first | (with_reducible assumption) | assumption)
                                  obtain ⟨ad106, A106_0, c106_0, e106, hx106_0, hl106_0, hi106_0⟩ := at_L1 HR0.out (ji14) p106 q106
                                  obtain rfl : ad104 = ad106 := (by injection e106)
                                  replace hx106_0 := (HB.out.cell (World.block_lt_of_cell? w _ hx106_0)).trans hx106_0
                                  have HR106_0 := Aside0.mk hi106_0
                                  have HC106_0 := Aside0.mk hl106_0
                                  clear hi106_0 hl106_0
                                  replace p106 := eq_true p106
                                  replace q106 := eq_true q106
                                  have p107 : 0 ≤ (a4 : Int) := of_decide_eq_true (by first | (with_reducible assumption) | assumption)
                                  have q107 : a4 < ((rd_L1 l0 (ji14)).length : Int) := of_decide_eq_true (by first | (with_reducible assumption) | assumption)
                                  obtain ⟨ad107, e107, hx107_0⟩ := Kd.at_int HR106_0.out a4 p107 q107
                                  cases e107
                                  replace hx107_0 := (HB.out.cell (World.block_lt_of_cell? w _ hx107_0)).trans hx107_0
                                  replace p107 := eq_true p107
                                  replace q107 := eq_true q107
                                  have p108 : 0 ≤ (a3 : Int) := of_decide_eq_true (by first | (with_reducible assumption) | assumption)
                                  have q108 : a3 < (l0.length : Int) := of_decide_eq_true (by first | (with_reducible assumption) | assumption)
                                  obtain ⟨ad108, A108_0, c108_0, e108, hx108_0, hl108_0, hi108_0⟩ := at_L1 HR0.out a3 p108 q108
                                  obtain rfl : ad104 = ad108 := (by injection e108)
                                  replace hx108_0 := (HB.out.cell (World.block_lt_of_cell? w _ hx108_0)).trans hx108_0
                                  have HR108_0 := Aside0.mk hi108_0
                                  have HC108_0 := Aside0.mk hl108_0
                                  clear hi108_0 hl108_0
                                  replace p108 := eq_true p108
                                  replace q108 := eq_true q108
                                  have p109 : 0 ≤ (a4 : Int) := of_decide_eq_true (by first | (with_reducible assumption) | assumption)
                                  have q109 : a4 < ((rd_L1 l0 a3).length : Int) := of_decide_eq_true (by first | (with_reducible assumption) | assumption)
                                  obtain ⟨ad109, e109, hx109_0⟩ := Kd.at_int HR108_0.out a4 p109 q109
                                  cases e109
                                  replace hx109_0 := (HB.out.cell (World.block_lt_of_cell? w _ hx109_0)).trans hx109_0
                                  replace p109 := eq_true p109
                                  replace q109 := eq_true q109
                                  go_wp2_with (first | (go_at_call 69; (with_reducible refine (ih k1 (by have := HK1.out; omega) _ _ l0 a1 a2 x11_1 a4 t110 _ ?side1 ?side2 A22.out).mono ?_); (case side1 => repeat (first | exact (Kd.C_below HR0.out HB.out) | (with_reducible refine Kd.C_alloc ?_ _) | (with_reducible refine Kd.C_drewN ?_ _) | (with_reducible refine Kd.C_drew ?_))); (case side2 => exact HC0.out); rintro e w25 ⟨v111, rfl, ho0, hb⟩; have n0_ := Aside0.mk (Kd.R_lower ho0 (below_size (by repeat (first | (with_reducible first | exact HB.out | apply below_alloc | apply pw_below_drewN | apply below_drew1) | exact HB.out)))); have n1_ := Aside0.mk (below_step (by repeat (first | (with_reducible first | exact HB.out | apply below_alloc | apply pw_below_drewN | apply below_drew1) | exact HB.out)) hb); clear HB; have HO112 := n0_; have HB := n1_; clear n0_ n1_; (try clear hb); (try clear hb2); (try clear hk); (try clear hi); (try clear ho0)) | (go_at_call 69; (with_reducible refine (ih k1 (by have := HK1.out; omega) _ _ l0 (wrap64 (a1 + x11_1)) a2 ji14 a4 t113 _ ?side1 ?side2 A23.out).mono ?_); (case side1 => repeat (first | exact (Kd.C_below HR0.out HB.out) | (with_reducible refine Kd.C_alloc ?_ _) | (with_reducible refine Kd.C_drewN ?_ _) | (with_reducible refine Kd.C_drew ?_))); (case side2 => exact HC0.out); rintro e w26 ⟨v114, rfl, ho0, hb⟩; have n0_ := Aside0.mk (Kd.R_elder' (by (with_reducible repeat (first | apply Kd.R_alloc | apply Kd.R_drewN | apply Kd.R_drew)); exact HO112.out) (Kd.R_base ho0) hb); have n1_ := Aside0.mk (Kd.R_lower (Kd.R_new' ho0 (Kd.R_lt (by (with_reducible repeat (first | apply Kd.R_alloc | apply Kd.R_drewN | apply Kd.R_drew)); exact HO112.out))) (below_size (by repeat (first | (with_reducible first | exact HB.out | apply below_alloc | apply pw_below_drewN | apply below_drew1) | exact HB.out)))); have n2_ := Aside0.mk (below_step (by repeat (first | (with_reducible first | exact HB.out | apply below_alloc | apply pw_below_drewN | apply below_drew1) | exact HB.out)) hb); clear HO112; clear HB; have HO112 := n0_; have HO115 := n1_; have HB := n2_; clear n0_ n1_ n2_; (try clear hb); (try clear hb2); (try clear hk); (try clear hi); (try clear ho0); obtain ⟨Ao28, co28, eo28⟩ := Kd.R_slice HO115.out; subst eo28) | ((with_reducible refine gate_builtin (b := .append) (xs := #[.tmp 57, .tmp 67]) rfl ?_); at_builtin; refine Kd.R_append_rows k56 (w0 := w) w.heap.size rfl (.tmp 57) (.tmp 67) 35 56 (.agg #[(.int .i64 0), (.int .i64 0), (.int .i64 0)]) 24 rfl Try.underlying35 info56 rfl (by decide) (by omega) v111 t110 t113 _ _ _ (fun k_ => some k_ ≠ (.slice Ao28 t113.length co28 : Value).ownBlock) (fun _ => False) rfl rfl ?aO ?aR (fun _ _ h => h) (fun _ h => h.elim) ?aF ?aB ?aS ?aL ?_; (case aR => repeat (first | exact (Kd.R_reads' HO115.out).2.2 | (with_reducible refine Kd.C_alloc ?_ _) | (with_reducible refine Kd.C_drewN ?_ _) | (with_reducible refine Kd.C_drew ?_))); (case aB => exact (by repeat (first | (with_reducible first | exact HB.out | apply below_alloc | apply pw_below_drewN | apply below_drew1) | exact HB.out))); (case aF => exact (fun k_ hk => Kd.fresh' (Kd.R_lt (by (with_reducible repeat (first | apply Kd.R_alloc | apply Kd.R_drewN | apply Kd.R_drew)); exact HO115.out)) k_ hk)); (case aO => exact (by (with_reducible repeat (first | apply Kd.R_alloc | apply Kd.R_drewN | apply Kd.R_drew)); exact Kd.R_mono HO112.out (fun _ hk => hk.2))); (case aS => exact (below_size (by repeat (first | (with_reducible first | exact HB.out | apply below_alloc | apply pw_below_drewN | apply below_drew1) | exact HB.out)))); (case aL => have := LMc24.out; omega); intro v117 w27 ho hb hg hat; rw [← Ny116.out] at ho; have n0_ := Aside0.mk (Kd.R_after (ok := (fun _ => True)) (by (with_reducible repeat (first | apply Kd.R_alloc | apply Kd.R_drewN | apply Kd.R_drew)); exact HO115.out) hg hat); have n1_ := Aside0.mk (hb); have n2_ := Aside0.mk (ho); clear HO115; clear HB; clear HO112; have HO115 := n0_; have HB := n1_; have HO118 := n2_; clear n0_ n1_ n2_; clear ho hb hg hat))
                                  repeat (go_quiet (first | (go_at_call 69; (with_reducible refine (ih k1 (by have := HK1.out; omega) _ _ l0 a1 a2 x11_1 a4 t110 _ ?side1 ?side2 A22.out).mono ?_); (case side1 => repeat (first | exact (Kd.C_below HR0.out HB.out) | (with_reducible refine Kd.C_alloc ?_ _) | (with_reducible refine Kd.C_drewN ?_ _) | (with_reducible refine Kd.C_drew ?_))); (case side2 => exact HC0.out); rintro e w25 ⟨v111, rfl, ho0, hb⟩; have n0_ := Aside0.mk (Kd.R_lower ho0 (below_size (by repeat (first | (with_reducible first | exact HB.out | apply below_alloc | apply pw_below_drewN | apply below_drew1) | exact HB.out)))); have n1_ := Aside0.mk (below_step (by repeat (first | (with_reducible first | exact HB.out | apply below_alloc | apply pw_below_drewN | apply below_drew1) | exact HB.out)) hb); clear HB; have HO112 := n0_; have HB := n1_; clear n0_ n1_; (try clear hb); (try clear hb2); (try clear hk); (try clear hi); (try clear ho0)) | (go_at_call 69; (with_reducible refine (ih k1 (by have := HK1.out; omega) _ _ l0 (wrap64 (a1 + x11_1)) a2 ji14 a4 t113 _ ?side1 ?side2 A23.out).mono ?_); (case side1 => repeat (first | exact (Kd.C_below HR0.out HB.out) | (with_reducible refine Kd.C_alloc ?_ _) | (with_reducible refine Kd.C_drewN ?_ _) | (with_reducible refine Kd.C_drew ?_))); (case side2 => exact HC0.out); rintro e w26 ⟨v114, rfl, ho0, hb⟩; have n0_ := Aside0.mk (Kd.R_elder' (by (with_reducible repeat (first | apply Kd.R_alloc | apply Kd.R_drewN | apply Kd.R_drew)); exact HO112.out) (Kd.R_base ho0) hb); have n1_ := Aside0.mk (Kd.R_lower (Kd.R_new' ho0 (Kd.R_lt (by (with_reducible repeat (first | apply Kd.R_alloc | apply Kd.R_drewN | apply Kd.R_drew)); exact HO112.out))) (below_size (by repeat (first | (with_reducible first | exact HB.out | apply below_alloc | apply pw_below_drewN | apply below_drew1) | exact HB.out)))); have n2_ := Aside0.mk (below_step (by repeat (first | (with_reducible first | exact HB.out | apply below_alloc | apply pw_below_drewN | apply below_drew1) | exact HB.out)) hb); clear HO112; clear HB; have HO112 := n0_; have HO115 := n1_; have HB := n2_; clear n0_ n1_ n2_; (try clear hb); (try clear hb2); (try clear hk); (try clear hi); (try clear ho0); obtain ⟨Ao28, co28, eo28⟩ := Kd.R_slice HO115.out; subst eo28) | ((with_reducible refine gate_builtin (b := .append) (xs := #[.tmp 57, .tmp 67]) rfl ?_); at_builtin; refine Kd.R_append_rows k56 (w0 := w) w.heap.size rfl (.tmp 57) (.tmp 67) 35 56 (.agg #[(.int .i64 0), (.int .i64 0), (.int .i64 0)]) 24 rfl Try.underlying35 info56 rfl (by decide) (by omega) v111 t110 t113 _ _ _ (fun k_ => some k_ ≠ (.slice Ao28 t113.length co28 : Value).ownBlock) (fun _ => False) rfl rfl ?aO ?aR (fun _ _ h => h) (fun _ h => h.elim) ?aF ?aB ?aS ?aL ?_; (case aR => repeat (first | exact (Kd.R_reads' HO115.out).2.2 | (with_reducible refine Kd.C_alloc ?_ _) | (with_reducible refine Kd.C_drewN ?_ _) | (with_reducible refine Kd.C_drew ?_))); (case aB => exact (by repeat (first | (with_reducible first | exact HB.out | apply below_alloc | apply pw_below_drewN | apply below_drew1) | exact HB.out))); (case aF => exact (fun k_ hk => Kd.fresh' (Kd.R_lt (by (with_reducible repeat (first | apply Kd.R_alloc | apply Kd.R_drewN | apply Kd.R_drew)); exact HO115.out)) k_ hk)); (case aO => exact (by (with_reducible repeat (first | apply Kd.R_alloc | apply Kd.R_drewN | apply Kd.R_drew)); exact Kd.R_mono HO112.out (fun _ hk => hk.2))); (case aS => exact (below_size (by repeat (first | (with_reducible first | exact HB.out | apply below_alloc | apply pw_below_drewN | apply below_drew1) | exact HB.out)))); (case aL => have := LMc24.out; omega); intro v117 w27 ho hb hg hat; rw [← Ny116.out] at ho; have n0_ := Aside0.mk (Kd.R_after (ok := (fun _ => True)) (by (with_reducible repeat (first | apply Kd.R_alloc | apply Kd.R_drewN | apply Kd.R_drew)); exact HO115.out) hg hat); have n1_ := Aside0.mk (hb); have n2_ := Aside0.mk (ho); clear HO115; clear HB; clear HO112; have HO115 := n0_; have HB := n1_; have HO118 := n2_; clear n0_ n1_ n2_; clear ho hb hg hat)); try go_wp2_with (first | (go_at_call 69; (with_reducible refine (ih k1 (by have := HK1.out; omega) _ _ l0 a1 a2 x11_1 a4 t110 _ ?side1 ?side2 A22.out).mono ?_); (case side1 => repeat (first | exact (Kd.C_below HR0.out HB.out) | (with_reducible refine Kd.C_alloc ?_ _) | (with_reducible refine Kd.C_drewN ?_ _) | (with_reducible refine Kd.C_drew ?_))); (case side2 => exact HC0.out); rintro e w25 ⟨v111, rfl, ho0, hb⟩; have n0_ := Aside0.mk (Kd.R_lower ho0 (below_size (by repeat (first | (with_reducible first | exact HB.out | apply below_alloc | apply pw_below_drewN | apply below_drew1) | exact HB.out)))); have n1_ := Aside0.mk (below_step (by repeat (first | (with_reducible first | exact HB.out | apply below_alloc | apply pw_below_drewN | apply below_drew1) | exact HB.out)) hb); clear HB; have HO112 := n0_; have HB := n1_; clear n0_ n1_; (try clear hb); (try clear hb2); (try clear hk); (try clear hi); (try clear ho0)) | (go_at_call 69; (with_reducible refine (ih k1 (by have := HK1.out; omega) _ _ l0 (wrap64 (a1 + x11_1)) a2 ji14 a4 t113 _ ?side1 ?side2 A23.out).mono ?_); (case side1 => repeat (first | exact (Kd.C_below HR0.out HB.out) | (with_reducible refine Kd.C_alloc ?_ _) | (with_reducible refine Kd.C_drewN ?_ _) | (with_reducible refine Kd.C_drew ?_))); (case side2 => exact HC0.out); rintro e w26 ⟨v114, rfl, ho0, hb⟩; have n0_ := Aside0.mk (Kd.R_elder' (by (with_reducible repeat (first | apply Kd.R_alloc | apply Kd.R_drewN | apply Kd.R_drew)); exact HO112.out) (Kd.R_base ho0) hb); have n1_ := Aside0.mk (Kd.R_lower (Kd.R_new' ho0 (Kd.R_lt (by (with_reducible repeat (first | apply Kd.R_alloc | apply Kd.R_drewN | apply Kd.R_drew)); exact HO112.out))) (below_size (by repeat (first | (with_reducible first | exact HB.out | apply below_alloc | apply pw_below_drewN | apply below_drew1) | exact HB.out)))); have n2_ := Aside0.mk (below_step (by repeat (first | (with_reducible first | exact HB.out | apply below_alloc | apply pw_below_drewN | apply below_drew1) | exact HB.out)) hb); clear HO112; clear HB; have HO112 := n0_; have HO115 := n1_; have HB := n2_; clear n0_ n1_ n2_; (try clear hb); (try clear hb2); (try clear hk); (try clear hi); (try clear ho0); obtain ⟨Ao28, co28, eo28⟩ := Kd.R_slice HO115.out; subst eo28) | ((with_reducible refine gate_builtin (b := .append) (xs := #[.tmp 57, .tmp 67]) rfl ?_); at_builtin; refine Kd.R_append_rows k56 (w0 := w) w.heap.size rfl (.tmp 57) (.tmp 67) 35 56 (.agg #[(.int .i64 0), (.int .i64 0), (.int .i64 0)]) 24 rfl Try.underlying35 info56 rfl (by decide) (by omega) v111 t110 t113 _ _ _ (fun k_ => some k_ ≠ (.slice Ao28 t113.length co28 : Value).ownBlock) (fun _ => False) rfl rfl ?aO ?aR (fun _ _ h => h) (fun _ h => h.elim) ?aF ?aB ?aS ?aL ?_; (case aR => repeat (first | exact (Kd.R_reads' HO115.out).2.2 | (with_reducible refine Kd.C_alloc ?_ _) | (with_reducible refine Kd.C_drewN ?_ _) | (with_reducible refine Kd.C_drew ?_))); (case aB => exact (by repeat (first | (with_reducible first | exact HB.out | apply below_alloc | apply pw_below_drewN | apply below_drew1) | exact HB.out))); (case aF => exact (fun k_ hk => Kd.fresh' (Kd.R_lt (by (with_reducible repeat (first | apply Kd.R_alloc | apply Kd.R_drewN | apply Kd.R_drew)); exact HO115.out)) k_ hk)); (case aO => exact (by (with_reducible repeat (first | apply Kd.R_alloc | apply Kd.R_drewN | apply Kd.R_drew)); exact Kd.R_mono HO112.out (fun _ hk => hk.2))); (case aS => exact (below_size (by repeat (first | (with_reducible first | exact HB.out | apply below_alloc | apply pw_below_drewN | apply below_drew1) | exact HB.out)))); (case aL => have := LMc24.out; omega); intro v117 w27 ho hb hg hat; rw [← Ny116.out] at ho; have n0_ := Aside0.mk (Kd.R_after (ok := (fun _ => True)) (by (with_reducible repeat (first | apply Kd.R_alloc | apply Kd.R_drewN | apply Kd.R_drew)); exact HO115.out) hg hat); have n1_ := Aside0.mk (hb); have n2_ := Aside0.mk (ho); clear HO115; clear HB; clear HO112; have HO115 := n0_; have HB := n1_; have HO118 := n2_; clear n0_ n1_ n2_; clear ho hb hg hat)))
                                  go_ret
                                  exact ⟨_, by first | rfl | (simp [errW_none, errW_some] <;> rfl) | (simp only [← hji14]; first | rfl | (simp [errW_none, errW_some] <;> rfl)) | (simp [*, errW_none, errW_some] <;> rfl), by (with_reducible repeat (first | apply Kd.R_alloc | apply Kd.R_drewN | apply Kd.R_drew)); exact Kd.R_mono HO118.out (fun _ hk => trivial), by repeat (first | (with_reducible first | exact HB.out | apply below_alloc | apply pw_below_drewN | apply below_drew1) | exact HB.out)⟩
                                · rw [if_neg c24] at H
                                  exact absurd H (by simp)
                              · rw [if_neg c21] at H
                                have c21b0 : ((wrap64 ((rd (rd_L1 l0 x11_1) a4) + (rd (rd_L1 l0 (ji14)) a4))) == (rd (rd_L1 l0 a3) a4)) = false := beq_eq_false_iff_ne.mpr c21
                                have c21b1 : ((wrap64 ((rd (rd_L1 l0 x11_1) a4) + (rd (rd_L1 l0 (ji14)) a4))) != (rd (rd_L1 l0 a3) a4)) = true := bne_iff_ne.mpr c21
                                have H' := Aside0.mk H
                                clear H
                                have p104 : 0 ≤ (x11_1 : Int) := of_decide_eq_true (by first | (with_reducible assumption) | assumption)
                                have q104 : x11_1 < (l0.length : Int) := of_decide_eq_true (by first | (with_reducible assumption) | assumption)
                                obtain ⟨ad104, A104_0, c104_0, e104, hx104_0, hl104_0, hi104_0⟩ := at_L1 HR0.out x11_1 p104 q104
                                cases e104
                                replace hx104_0 := (HB.out.cell (World.block_lt_of_cell? w _ hx104_0)).trans hx104_0
                                have HR104_0 := Aside0.mk hi104_0
                                have HC104_0 := Aside0.mk hl104_0
                                clear hi104_0 hl104_0
                                replace p104 := eq_true p104
                                replace q104 := eq_true q104
                                have p105 : 0 ≤ (a4 : Int) := of_decide_eq_true (by first | (with_reducible assumption) | assumption)
                                have q105 : a4 < ((rd_L1 l0 x11_1).length : Int) := of_decide_eq_true (by first | (with_reducible assumption) | assumption)
                                obtain ⟨ad105, e105, hx105_0⟩ := Kd.at_int HR104_0.out a4 p105 q105
                                cases e105
                                replace hx105_0 := (HB.out.cell (World.block_lt_of_cell? w _ hx105_0)).trans hx105_0
                                replace p105 := eq_true p105
                                replace q105 := eq_true q105
                                have p106 : 0 ≤ ((ji14) : Int) := of_decide_eq_true (by first | (with_reducible assumption) | assumption)
                                have q106 : (ji14) < (l0.length : Int) := of_decide_eq_true (by first | (with_reducible assumption) | assumption)
                                obtain ⟨ad106, A106_0, c106_0, e106, hx106_0, hl106_0, hi106_0⟩ := at_L1 HR0.out (ji14) p106 q106
                                obtain rfl : ad104 = ad106 := (by injection e106)
                                replace hx106_0 := (HB.out.cell (World.block_lt_of_cell? w _ hx106_0)).trans hx106_0
                                have HR106_0 := Aside0.mk hi106_0
                                have HC106_0 := Aside0.mk hl106_0
                                clear hi106_0 hl106_0
                                replace p106 := eq_true p106
                                replace q106 := eq_true q106
                                have p107 : 0 ≤ (a4 : Int) := of_decide_eq_true (by first | (with_reducible assumption) | assumption)
                                have q107 : a4 < ((rd_L1 l0 (ji14)).length : Int) := of_decide_eq_true (by first | (with_reducible assumption) | assumption)
                                obtain ⟨ad107, e107, hx107_0⟩ := Kd.at_int HR106_0.out a4 p107 q107
                                cases e107
                                replace hx107_0 := (HB.out.cell (World.block_lt_of_cell? w _ hx107_0)).trans hx107_0
                                replace p107 := eq_true p107
                                replace q107 := eq_true q107
                                have p108 : 0 ≤ (a3 : Int) := of_decide_eq_true (by first | (with_reducible assumption) | assumption)
                                have q108 : a3 < (l0.length : Int) := of_decide_eq_true (by first | (with_reducible assumption) | assumption)
                                obtain ⟨ad108, A108_0, c108_0, e108, hx108_0, hl108_0, hi108_0⟩ := at_L1 HR0.out a3 p108 q108
                                obtain rfl : ad104 = ad108 := (by injection e108)
                                replace hx108_0 := (HB.out.cell (World.block_lt_of_cell? w _ hx108_0)).trans hx108_0
                                have HR108_0 := Aside0.mk hi108_0
                                have HC108_0 := Aside0.mk hl108_0
                                clear hi108_0 hl108_0
                                replace p108 := eq_true p108
                                replace q108 := eq_true q108
                                have p109 : 0 ≤ (a4 : Int) := of_decide_eq_true (by first | (with_reducible assumption) | assumption)
                                have q109 : a4 < ((rd_L1 l0 a3).length : Int) := of_decide_eq_true (by first | (with_reducible assumption) | assumption)
                                obtain ⟨ad109, e109, hx109_0⟩ := Kd.at_int HR108_0.out a4 p109 q109
                                cases e109
                                replace hx109_0 := (HB.out.cell (World.block_lt_of_cell? w _ hx109_0)).trans hx109_0
                                replace p109 := eq_true p109
                                replace q109 := eq_true q109
                                go_wp2
                                repeat (go_quiet (fail); try go_wp2)
                                go_roundg k1
                                case measure => have := HK1.out; omega
                                case rel => exact ⟨(wrap64 (x11_1 + 1)), (by first | rfl | (simp; done) | (simp [*]; done)), H', ⟨by have := HK1.out; omega⟩, ⟨by repeat (first | (with_reducible first | exact HB.out | apply below_alloc | apply pw_below_drewN | apply below_drew1) | exact HB.out)⟩⟩
                            · rw [if_neg c20] at H
                              exact absurd H (by simp)
                          · rw [if_neg c19] at H
                            exact absurd H (by simp)
                        · rw [if_neg c18] at H
                          exact absurd H (by simp)
                      · rw [if_neg c17] at H
                        exact absurd H (by simp)
                    · rw [if_neg c16] at H
                      exact absurd H (by simp)
                  · rw [if_neg c15] at H
                    exact absurd H (by simp)
                · rw [if_neg c13] at H
                  exact absurd H (by simp)
              · rw [if_neg c12] at H
                exact absurd H (by simp)
            · rw [if_neg c11] at H
              exact absurd H (by simp)
          · rw [if_neg c10] at H
            exact absurd H (by simp)
        · rw [if_neg c9] at H
          have c9b0 : decide (x11_1 ≤ (wrap64 (Int.tdiv a3 2))) = false := decide_eq_false c9
          clear c9
          have H' := Aside0.mk H
          clear H
          go_wp2
          repeat (go_quiet (fail); try go_wp2)
          go_loopg [12] k1 (fun kq v12 w' => ∃ (x12_2 : Int), v12 = .int .i64 x12_2 ∧ Aside0 (impl_lined.l1 kq l0 a1 a2 a3 a4 x12_2 = some r) ∧ Aside0 (kq ≤ k1) ∧ Aside0 (Below w.heap.size w w'))
          case atStart => exact ⟨(1), (by first | rfl | (simp; done) | (simp [*]; done)), H', ⟨Nat.le_refl _⟩, ⟨by repeat (first | (with_reducible first | exact HB.out | apply below_alloc | apply pw_below_drewN | apply below_drew1) | exact HB.out)⟩⟩
          case round =>
            clear H'
            try clear c1
            try clear p1
            try clear q1
            try clear hx1
            try clear c2
            try clear p2
            try clear c3
            try clear c6
            try clear c6b0
            try clear c6b1
            try clear p6
            try clear c9
            try clear c9b0
            try clear c10
            try clear c10b0
            try clear p10
            try clear q10
            try clear hx10
            try clear c11
            try clear c11b0
            try clear c12
            try clear c12b0
            try clear c13
            try clear c13b0
            try clear c15
            try clear c15b0
            try clear c16
            try clear c16b0
            try clear c17
            try clear c17b0
            try clear c18
            try clear c18b0
            try clear c19
            try clear c19b0
            try clear c20
            try clear c20b0
            try clear c21
            try clear c21b0
            try clear c21b1
            try clear c24
            try clear hx104_0
            try clear hx105_0
            try clear hx106_0
            try clear hx107_0
            try clear hx108_0
            try clear hx109_0
            try clear p104
            try clear p105
            try clear p106
            try clear p107
            try clear p108
            try clear p109
            try clear p2
            try clear q104
            try clear q105
            try clear q106
            try clear q107
            try clear q108
            try clear q109
            obtain ⟨x12_2, rfl, HA, HK2, HB⟩ := hrel
            cases gk with
            | zero => exact absurd HA.out (by simp [impl_lined.l1])
            | succ k2 =>
              have H := HA.out
              clear HA
              simp only [impl_lined.l1] at H
              by_cases c29 : x12_2 ≤ (wrap64 (Int.tdiv a4 2))
              · rw [if_pos c29] at H
                have c29b0 : decide (x12_2 ≤ (wrap64 (Int.tdiv a4 2))) = true := decide_eq_true c29
                clear c29
                by_cases c30 : 0 ≤ a3
                · rw [if_pos c30] at H
                  have c30b0 : decide (0 ≤ a3) = true := decide_eq_true c30
                  clear c30
                  by_cases c31 : a3 < (l0.length : Int)
                  · rw [if_pos c31] at H
                    have c31b0 : decide (a3 < (l0.length : Int)) = true := decide_eq_true c31
                    clear c31
                    by_cases c32 : 0 ≤ x12_2
                    · rw [if_pos c32] at H
                      have c32b0 : decide (0 ≤ x12_2) = true := decide_eq_true c32
                      clear c32
                      by_cases c33 : x12_2 < ((rd_L1 l0 a3).length : Int)
                      · rw [if_pos c33] at H
                        have c33b0 : decide (x12_2 < ((rd_L1 l0 a3).length : Int)) = true := decide_eq_true c33
                        clear c33
                        obtain ⟨ji34, hji34⟩ : ∃ j_ : Int, (wrap64 (a4 - x12_2)) = j_ := ⟨_, rfl⟩
                        replace H : (if 0 ≤ (ji34) then (if (ji34) < ((rd_L1 l0 a3).length : Int) then (if 0 ≤ a4 then (if a4 < ((rd_L1 l0 a3).length : Int) then (if (wrap64 ((rd (rd_L1 l0 a3) x12_2) + (rd (rd_L1 l0 a3) (ji34)))) = (rd (rd_L1 l0 a3) a4) then ((impl_lined.f k2 l0 a1 a2 a3 x12_2).bind fun t125 => ((impl_lined.f k2 l0 a1 (wrap64 (a2 + x12_2)) a3 (ji34)).bind fun t128 => (if t125.length + t128.length < 5864062014805 then (some (t125 ++ t128)) else (none)))) else (impl_lined.l1 k2 l0 a1 a2 a3 a4 (wrap64 (x12_2 + 1)))) else (none)) else (none)) else (none)) else (none)) = some r := by first | (rw [hji34] at H; exact H) | (simp only [hji34] at H ⊢; exact H)
                        have hji34w : (IntKind.i64.wrap (a4 - x12_2)) = ji34 := (i64_w _).trans hji34
                        by_cases c35 : 0 ≤ (ji34)
                        · rw [if_pos c35] at H
                          have c35b0 : decide (0 ≤ (ji34)) = true := decide_eq_true c35
                          clear c35
                          by_cases c36 : (ji34) < ((rd_L1 l0 a3).length : Int)
                          · rw [if_pos c36] at H
                            have c36b0 : decide ((ji34) < ((rd_L1 l0 a3).length : Int)) = true := decide_eq_true c36
                            clear c36
                            by_cases c37 : 0 ≤ a4
                            · rw [if_pos c37] at H
                              have c37b0 : decide (0 ≤ a4) = true := decide_eq_true c37
                              clear c37
                              by_cases c38 : a4 < ((rd_L1 l0 a3).length : Int)
                              · rw [if_pos c38] at H
                                have c38b0 : decide (a4 < ((rd_L1 l0 a3).length : Int)) = true := decide_eq_true c38
                                clear c38
                                by_cases c39 : (wrap64 ((rd (rd_L1 l0 a3) x12_2) + (rd (rd_L1 l0 a3) (ji34)))) = (rd (rd_L1 l0 a3) a4)
                                · rw [if_pos c39] at H
                                  have c39b0 : ((wrap64 ((rd (rd_L1 l0 a3) x12_2) + (rd (rd_L1 l0 a3) (ji34)))) == (rd (rd_L1 l0 a3) a4)) = true := beq_iff_eq.mpr c39
                                  have c39b1 : ((wrap64 ((rd (rd_L1 l0 a3) x12_2) + (rd (rd_L1 l0 a3) (ji34)))) != (rd (rd_L1 l0 a3) a4)) = false := bne_eq_false_iff_eq.mpr c39
                                  clear c39
                                  replace H := Option.bind_eq_some_iff.mp H
                                  obtain ⟨t125, A400, H⟩ := H
                                  replace H : ((impl_lined.f k2 l0 a1 (wrap64 (a2 + x12_2)) a3 (ji34)).bind fun t128 => (if t125.length + t128.length < 5864062014805 then (some (t125 ++ t128)) else (none))) = some r := H
                                  have A40 := Aside0.mk A400
                                  clear A400
                                  replace H := Option.bind_eq_some_iff.mp H
                                  obtain ⟨t128, A410, H⟩ := H
                                  replace H : (if t125.length + t128.length < 5864062014805 then (some (t125 ++ t128)) else (none)) = some r := H
                                  have A41 := Aside0.mk A410
                                  clear A410
                                  by_cases c42 : t125.length + t128.length < 5864062014805
                                  · rw [if_pos c42] at H
                                    have LMc42 := Aside0.mk c42
                                    clear c42
                                    obtain ⟨y131, hy131⟩ : ∃ y_ : List (S56), y_ = (t125 ++ t128) := ⟨_, rfl⟩
                                    replace H : (some y131) = some r := by first | (rw [hy131]; with_reducible exact H) | (have H2_ := (Option.bind_some _ _).symm.trans H; rw [hy131]; with_reducible exact H2_) | (have H2_ := (Option.bind_some _ _).symm.trans H; with_reducible exact H2_) | with_reducible exact H | (rw [hy131]; exact H) | exact H
                                    have Ny131 := Aside0.mk hy131
                                    clear hy131
                                    obtain rfl := Option.some.inj H
                                    have p119 : 0 ≤ (a3 : Int) := of_decide_eq_true (by first | (with_reducible assumption) | assumption)
                                    have q119 : a3 < (l0.length : Int) := of_decide_eq_true (by first | (with_reducible assumption) | assumption)
                                    obtain ⟨ad119, A119_0, c119_0, e119, hx119_0, hl119_0, hi119_0⟩ := at_L1 HR0.out a3 p119 q119
                                    cases e119
                                    replace hx119_0 := (HB.out.cell (World.block_lt_of_cell? w _ hx119_0)).trans hx119_0
                                    have HR119_0 := Aside0.mk hi119_0
                                    have HC119_0 := Aside0.mk hl119_0
                                    clear hi119_0 hl119_0
                                    replace p119 := eq_true p119
                                    replace q119 := eq_true q119
                                    have p120 : 0 ≤ (x12_2 : Int) := of_decide_eq_true (by first | (with_reducible assumption) | assumption)
                                    have q120 : x12_2 < ((rd_L1 l0 a3).length : Int) := of_decide_eq_true (by first | (with_reducible assumption) | assumption)
                                    obtain ⟨ad120, e120, hx120_0⟩ := Kd.at_int HR119_0.out x12_2 p120 q120
                                    cases e120
                                    replace hx120_0 := (HB.out.cell (World.block_lt_of_cell? w _ hx120_0)).trans hx120_0
                                    replace p120 := eq_true p120
                                    replace q120 := eq_true q120
                                    have p121 : 0 ≤ (a3 : Int) := of_decide_eq_true (by first | (with_reducible assumption) | assumption)
                                    have q121 : a3 < (l0.length : Int) := of_decide_eq_true (by first | (with_reducible assumption) | assumption)
                                    obtain ⟨ad121, A121_0, c121_0, e121, hx121_0, hl121_0, hi121_0⟩ := at_L1 HR0.out a3 p121 q121
                                    obtain rfl : ad119 = ad121 := (by injection e121)
                                    replace hx121_0 := (HB.out.cell (World.block_lt_of_cell? w _ hx121_0)).trans hx121_0
                                    have HR121_0 := Aside0.mk hi121_0
                                    have HC121_0 := Aside0.mk hl121_0
                                    clear hi121_0 hl121_0
                                    replace p121 := eq_true p121
                                    replace q121 := eq_true q121
                                    have ea_ := Option.some.inj (hx119_0.symm.trans hx121_0)
                                    injection ea_ with ea_ en_ ec_
                                    subst ea_
                                    subst ec_
                                    clear en_
                                    have p122 : 0 ≤ ((ji34) : Int) := of_decide_eq_true (by first | (with_reducible assumption) | assumption)
                                    have q122 : (ji34) < ((rd_L1 l0 a3).length : Int) := of_decide_eq_true (by first | (with_reducible assumption) | assumption)
                                    obtain ⟨ad122, e122, hx122_0⟩ := Kd.at_int HR121_0.out (ji34) p122 q122
                                    cases e122
                                    replace hx122_0 := (HB.out.cell (World.block_lt_of_cell? w _ hx122_0)).trans hx122_0
                                    replace p122 := eq_true p122
                                    replace q122 := eq_true q122
                                    have p123 : 0 ≤ (a3 : Int) := of_decide_eq_true (by first | (with_reducible assumption) | assumption)
                                    have q123 : a3 < (l0.length : Int) := of_decide_eq_true (by first | (with_reducible assumption) | assumption)
                                    obtain ⟨ad123, A123_0, c123_0, e123, hx123_0, hl123_0, hi123_0⟩ := at_L1 HR0.out a3 p123 q123
                                    obtain rfl : ad119 = ad123 := (by injection e123)
                                    replace hx123_0 := (HB.out.cell (World.block_lt_of_cell? w _ hx123_0)).trans hx123_0
                                    have HR123_0 := Aside0.mk hi123_0
                                    have HC123_0 := Aside0.mk hl123_0
                                    clear hi123_0 hl123_0
                                    replace p123 := eq_true p123
                                    replace q123 := eq_true q123
                                    have ea_ := Option.some.inj (hx119_0.symm.trans hx123_0)
                                    injection ea_ with ea_ en_ ec_
                                    subst ea_
                                    subst ec_
                                    clear en_
                                    have p124 : 0 ≤ (a4 : Int) := of_decide_eq_true (by first | (with_reducible assumption) | assumption)
                                    have q124 : a4 < ((rd_L1 l0 a3).length : Int) := of_decide_eq_true (by first | (with_reducible assumption) | assumption)
                                    obtain ⟨ad124, e124, hx124_0⟩ := Kd.at_int HR123_0.out a4 p124 q124
                                    cases e124
                                    replace hx124_0 := (HB.out.cell (World.block_lt_of_cell? w _ hx124_0)).trans hx124_0
                                    replace p124 := eq_true p124
                                    replace q124 := eq_true q124
                                    go_wp2_with (first | (go_at_call 69; (with_reducible refine (ih k2 (by have := HK1.out; have := HK2.out; omega) _ _ l0 a1 a2 a3 x12_2 t125 _ ?side1 ?side2 A40.out).mono ?_); (case side1 => repeat (first | exact (Kd.C_below HR0.out HB.out) | (with_reducible refine Kd.C_alloc ?_ _) | (with_reducible refine Kd.C_drewN ?_ _) | (with_reducible refine Kd.C_drew ?_))); (case side2 => exact HC0.out); rintro e w43 ⟨v126, rfl, ho0, hb⟩; have n0_ := Aside0.mk (Kd.R_lower ho0 (below_size (by repeat (first | (with_reducible first | exact HB.out | apply below_alloc | apply pw_below_drewN | apply below_drew1) | exact HB.out)))); have n1_ := Aside0.mk (below_step (by repeat (first | (with_reducible first | exact HB.out | apply below_alloc | apply pw_below_drewN | apply below_drew1) | exact HB.out)) hb); clear HB; have HO127 := n0_; have HB := n1_; clear n0_ n1_; (try clear hb); (try clear hb2); (try clear hk); (try clear hi); (try clear ho0)) | (go_at_call 69; (with_reducible refine (ih k2 (by have := HK1.out; have := HK2.out; omega) _ _ l0 a1 (wrap64 (a2 + x12_2)) a3 ji34 t128 _ ?side1 ?side2 A41.out).mono ?_); (case side1 => repeat (first | exact (Kd.C_below HR0.out HB.out) | (with_reducible refine Kd.C_alloc ?_ _) | (with_reducible refine Kd.C_drewN ?_ _) | (with_reducible refine Kd.C_drew ?_))); (case side2 => exact HC0.out); rintro e w44 ⟨v129, rfl, ho0, hb⟩; have n0_ := Aside0.mk (Kd.R_elder' (by (with_reducible repeat (first | apply Kd.R_alloc | apply Kd.R_drewN | apply Kd.R_drew)); exact HO127.out) (Kd.R_base ho0) hb); have n1_ := Aside0.mk (Kd.R_lower (Kd.R_new' ho0 (Kd.R_lt (by (with_reducible repeat (first | apply Kd.R_alloc | apply Kd.R_drewN | apply Kd.R_drew)); exact HO127.out))) (below_size (by repeat (first | (with_reducible first | exact HB.out | apply below_alloc | apply pw_below_drewN | apply below_drew1) | exact HB.out)))); have n2_ := Aside0.mk (below_step (by repeat (first | (with_reducible first | exact HB.out | apply below_alloc | apply pw_below_drewN | apply below_drew1) | exact HB.out)) hb); clear HO127; clear HB; have HO127 := n0_; have HO130 := n1_; have HB := n2_; clear n0_ n1_ n2_; (try clear hb); (try clear hb2); (try clear hk); (try clear hi); (try clear ho0); obtain ⟨Ao46, co46, eo46⟩ := Kd.R_slice HO130.out; subst eo46) | ((with_reducible refine gate_builtin (b := .append) (xs := #[.tmp 105, .tmp 115]) rfl ?_); at_builtin; refine Kd.R_append_rows k56 (w0 := w) w.heap.size rfl (.tmp 105) (.tmp 115) 35 56 (.agg #[(.int .i64 0), (.int .i64 0), (.int .i64 0)]) 24 rfl Try.underlying35 info56 rfl (by decide) (by omega) v126 t125 t128 _ _ _ (fun k_ => some k_ ≠ (.slice Ao46 t128.length co46 : Value).ownBlock) (fun _ => False) rfl rfl ?aO ?aR (fun _ _ h => h) (fun _ h => h.elim) ?aF ?aB ?aS ?aL ?_; (case aR => repeat (first | exact (Kd.R_reads' HO130.out).2.2 | (with_reducible refine Kd.C_alloc ?_ _) | (with_reducible refine Kd.C_drewN ?_ _) | (with_reducible refine Kd.C_drew ?_))); (case aB => exact (by repeat (first | (with_reducible first | exact HB.out | apply below_alloc | apply pw_below_drewN | apply below_drew1) | exact HB.out))); (case aF => exact (fun k_ hk => Kd.fresh' (Kd.R_lt (by (with_reducible repeat (first | apply Kd.R_alloc | apply Kd.R_drewN | apply Kd.R_drew)); exact HO130.out)) k_ hk)); (case aO => exact (by (with_reducible repeat (first | apply Kd.R_alloc | apply Kd.R_drewN | apply Kd.R_drew)); exact Kd.R_mono HO127.out (fun _ hk => hk.2))); (case aS => exact (below_size (by repeat (first | (with_reducible first | exact HB.out | apply below_alloc | apply pw_below_drewN | apply below_drew1) | exact HB.out)))); (case aL => have := LMc42.out; omega); intro v132 w45 ho hb hg hat; rw [← Ny131.out] at ho; have n0_ := Aside0.mk (Kd.R_after (ok := (fun _ => True)) (by (with_reducible repeat (first | apply Kd.R_alloc | apply Kd.R_drewN | apply Kd.R_drew)); exact HO130.out) hg hat); have n1_ := Aside0.mk (hb); have n2_ := Aside0.mk (ho); clear HO130; clear HB; clear HO127; have HO130 := n0_; have HB := n1_; have HO133 := n2_; clear n0_ n1_ n2_; clear ho hb hg hat))
                                    repeat (go_quiet (first | (go_at_call 69; (with_reducible refine (ih k2 (by have := HK1.out; have := HK2.out; omega) _ _ l0 a1 a2 a3 x12_2 t125 _ ?side1 ?side2 A40.out).mono ?_); (case side1 => repeat (first | exact (Kd.C_below HR0.out HB.out) | (with_reducible refine Kd.C_alloc ?_ _) | (with_reducible refine Kd.C_drewN ?_ _) | (with_reducible refine Kd.C_drew ?_))); (case side2 => exact HC0.out); rintro e w43 ⟨v126, rfl, ho0, hb⟩; have n0_ := Aside0.mk (Kd.R_lower ho0 (below_size (by repeat (first | (with_reducible first | exact HB.out | apply below_alloc | apply pw_below_drewN | apply below_drew1) | exact HB.out)))); have n1_ := Aside0.mk (below_step (by repeat (first | (with_reducible first | exact HB.out | apply below_alloc | apply pw_below_drewN | apply below_drew1) | exact HB.out)) hb); clear HB; have HO127 := n0_; have HB := n1_; clear n0_ n1_; (try clear hb); (try clear hb2); (try clear hk); (try clear hi); (try clear ho0)) | (go_at_call 69; (with_reducible refine (ih k2 (by have := HK1.out; have := HK2.out; omega) _ _ l0 a1 (wrap64 (a2 + x12_2)) a3 ji34 t128 _ ?side1 ?side2 A41.out).mono ?_); (case side1 => repeat (first | exact (Kd.C_below HR0.out HB.out) | (with_reducible refine Kd.C_alloc ?_ _) | (with_reducible refine Kd.C_drewN ?_ _) | (with_reducible refine Kd.C_drew ?_))); (case side2 => exact HC0.out); rintro e w44 ⟨v129, rfl, ho0, hb⟩; have n0_ := Aside0.mk (Kd.R_elder' (by (with_reducible repeat (first | apply Kd.R_alloc | apply Kd.R_drewN | apply Kd.R_drew)); exact HO127.out) (Kd.R_base ho0) hb); have n1_ := Aside0.mk (Kd.R_lower (Kd.R_new' ho0 (Kd.R_lt (by (with_reducible repeat (first | apply Kd.R_alloc | apply Kd.R_drewN | apply Kd.R_drew)); exact HO127.out))) (below_size (by repeat (first | (with_reducible first | exact HB.out | apply below_alloc | apply pw_below_drewN | apply below_drew1) | exact HB.out)))); have n2_ := Aside0.mk (below_step (by repeat (first | (with_reducible first | exact HB.out | apply below_alloc | apply pw_below_drewN | apply below_drew1) | exact HB.out)) hb); clear HO127; clear HB; have HO127 := n0_; have HO130 := n1_; have HB := n2_; clear n0_ n1_ n2_; (try clear hb); (try clear hb2); (try clear hk); (try clear hi); (try clear ho0); obtain ⟨Ao46, co46, eo46⟩ := Kd.R_slice HO130.out; subst eo46) | ((with_reducible refine gate_builtin (b := .append) (xs := #[.tmp 105, .tmp 115]) rfl ?_); at_builtin; refine Kd.R_append_rows k56 (w0 := w) w.heap.size rfl (.tmp 105) (.tmp 115) 35 56 (.agg #[(.int .i64 0), (.int .i64 0), (.int .i64 0)]) 24 rfl Try.underlying35 info56 rfl (by decide) (by omega) v126 t125 t128 _ _ _ (fun k_ => some k_ ≠ (.slice Ao46 t128.length co46 : Value).ownBlock) (fun _ => False) rfl rfl ?aO ?aR (fun _ _ h => h) (fun _ h => h.elim) ?aF ?aB ?aS ?aL ?_; (case aR => repeat (first | exact (Kd.R_reads' HO130.out).2.2 | (with_reducible refine Kd.C_alloc ?_ _) | (with_reducible refine Kd.C_drewN ?_ _) | (with_reducible refine Kd.C_drew ?_))); (case aB => exact (by repeat (first | (with_reducible first | exact HB.out | apply below_alloc | apply pw_below_drewN | apply below_drew1) | exact HB.out))); (case aF => exact (fun k_ hk => Kd.fresh' (Kd.R_lt (by (with_reducible repeat (first | apply Kd.R_alloc | apply Kd.R_drewN | apply Kd.R_drew)); exact HO130.out)) k_ hk)); (case aO => exact (by (with_reducible repeat (first | apply Kd.R_alloc | apply Kd.R_drewN | apply Kd.R_drew)); exact Kd.R_mono HO127.out (fun _ hk => hk.2))); (case aS => exact (below_size (by repeat (first | (with_reducible first | exact HB.out | apply below_alloc | apply pw_below_drewN | apply below_drew1) | exact HB.out)))); (case aL => have := LMc42.out; omega); intro v132 w45 ho hb hg hat; rw [← Ny131.out] at ho; have n0_ := Aside0.mk (Kd.R_after (ok := (fun _ => True)) (by (with_reducible repeat (first | apply Kd.R_alloc | apply Kd.R_drewN | apply Kd.R_drew)); exact HO130.out) hg hat); have n1_ := Aside0.mk (hb); have n2_ := Aside0.mk (ho); clear HO130; clear HB; clear HO127; have HO130 := n0_; have HB := n1_; have HO133 := n2_; clear n0_ n1_ n2_; clear ho hb hg hat)); try go_wp2_with (first | (go_at_call 69; (with_reducible refine (ih k2 (by have := HK1.out; have := HK2.out; omega) _ _ l0 a1 a2 a3 x12_2 t125 _ ?side1 ?side2 A40.out).mono ?_); (case side1 => repeat (first | exact (Kd.C_below HR0.out HB.out) | (with_reducible refine Kd.C_alloc ?_ _) | (with_reducible refine Kd.C_drewN ?_ _) | (with_reducible refine Kd.C_drew ?_))); (case side2 => exact HC0.out); rintro e w43 ⟨v126, rfl, ho0, hb⟩; have n0_ := Aside0.mk (Kd.R_lower ho0 (below_size (by repeat (first | (with_reducible first | exact HB.out | apply below_alloc | apply pw_below_drewN | apply below_drew1) | exact HB.out)))); have n1_ := Aside0.mk (below_step (by repeat (first | (with_reducible first | exact HB.out | apply below_alloc | apply pw_below_drewN | apply below_drew1) | exact HB.out)) hb); clear HB; have HO127 := n0_; have HB := n1_; clear n0_ n1_; (try clear hb); (try clear hb2); (try clear hk); (try clear hi); (try clear ho0)) | (go_at_call 69; (with_reducible refine (ih k2 (by have := HK1.out; have := HK2.out; omega) _ _ l0 a1 (wrap64 (a2 + x12_2)) a3 ji34 t128 _ ?side1 ?side2 A41.out).mono ?_); (case side1 => repeat (first | exact (Kd.C_below HR0.out HB.out) | (with_reducible refine Kd.C_alloc ?_ _) | (with_reducible refine Kd.C_drewN ?_ _) | (with_reducible refine Kd.C_drew ?_))); (case side2 => exact HC0.out); rintro e w44 ⟨v129, rfl, ho0, hb⟩; have n0_ := Aside0.mk (Kd.R_elder' (by (with_reducible repeat (first | apply Kd.R_alloc | apply Kd.R_drewN | apply Kd.R_drew)); exact HO127.out) (Kd.R_base ho0) hb); have n1_ := Aside0.mk (Kd.R_lower (Kd.R_new' ho0 (Kd.R_lt (by (with_reducible repeat (first | apply Kd.R_alloc | apply Kd.R_drewN | apply Kd.R_drew)); exact HO127.out))) (below_size (by repeat (first | (with_reducible first | exact HB.out | apply below_alloc | apply pw_below_drewN | apply below_drew1) | exact HB.out)))); have n2_ := Aside0.mk (below_step (by repeat (first | (with_reducible first | exact HB.out | apply below_alloc | apply pw_below_drewN | apply below_drew1) | exact HB.out)) hb); clear HO127; clear HB; have HO127 := n0_; have HO130 := n1_; have HB := n2_; clear n0_ n1_ n2_; (try clear hb); (try clear hb2); (try clear hk); (try clear hi); (try clear ho0); obtain ⟨Ao46, co46, eo46⟩ := Kd.R_slice HO130.out; subst eo46) | ((with_reducible refine gate_builtin (b := .append) (xs := #[.tmp 105, .tmp 115]) rfl ?_); at_builtin; refine Kd.R_append_rows k56 (w0 := w) w.heap.size rfl (.tmp 105) (.tmp 115) 35 56 (.agg #[(.int .i64 0), (.int .i64 0), (.int .i64 0)]) 24 rfl Try.underlying35 info56 rfl (by decide) (by omega) v126 t125 t128 _ _ _ (fun k_ => some k_ ≠ (.slice Ao46 t128.length co46 : Value).ownBlock) (fun _ => False) rfl rfl ?aO ?aR (fun _ _ h => h) (fun _ h => h.elim) ?aF ?aB ?aS ?aL ?_; (case aR => repeat (first | exact (Kd.R_reads' HO130.out).2.2 | (with_reducible refine Kd.C_alloc ?_ _) | (with_reducible refine Kd.C_drewN ?_ _) | (with_reducible refine Kd.C_drew ?_))); (case aB => exact (by repeat (first | (with_reducible first | exact HB.out | apply below_alloc | apply pw_below_drewN | apply below_drew1) | exact HB.out))); (case aF => exact (fun k_ hk => Kd.fresh' (Kd.R_lt (by (with_reducible repeat (first | apply Kd.R_alloc | apply Kd.R_drewN | apply Kd.R_drew)); exact HO130.out)) k_ hk)); (case aO => exact (by (with_reducible repeat (first | apply Kd.R_alloc | apply Kd.R_drewN | apply Kd.R_drew)); exact Kd.R_mono HO127.out (fun _ hk => hk.2))); (case aS => exact (below_size (by repeat (first | (with_reducible first | exact HB.out | apply below_alloc | apply pw_below_drewN | apply below_drew1) | exact HB.out)))); (case aL => have := LMc42.out; omega); intro v132 w45 ho hb hg hat; rw [← Ny131.out] at ho; have n0_ := Aside0.mk (Kd.R_after (ok := (fun _ => True)) (by (with_reducible repeat (first | apply Kd.R_alloc | apply Kd.R_drewN | apply Kd.R_drew)); exact HO130.out) hg hat); have n1_ := Aside0.mk (hb); have n2_ := Aside0.mk (ho); clear HO130; clear HB; clear HO127; have HO130 := n0_; have HB := n1_; have HO133 := n2_; clear n0_ n1_ n2_; clear ho hb hg hat)))
                                    go_ret
                                    exact ⟨_, by first | rfl | (simp [errW_none, errW_some] <;> rfl) | (simp only [← hji34]; first | rfl | (simp [errW_none, errW_some] <;> rfl)) | (simp [*, errW_none, errW_some] <;> rfl), by (with_reducible repeat (first | apply Kd.R_alloc | apply Kd.R_drewN | apply Kd.R_drew)); exact Kd.R_mono HO133.out (fun _ hk => trivial), by repeat (first | (with_reducible first | exact HB.out | apply below_alloc | apply pw_below_drewN | apply below_drew1) | exact HB.out)⟩
                                  · rw [if_neg c42] at H
                                    exact absurd H (by simp)
                                · rw [if_neg c39] at H
                                  have c39b0 : ((wrap64 ((rd (rd_L1 l0 a3) x12_2) + (rd (rd_L1 l0 a3) (ji34)))) == (rd (rd_L1 l0 a3) a4)) = false := beq_eq_false_iff_ne.mpr c39
                                  have c39b1 : ((wrap64 ((rd (rd_L1 l0 a3) x12_2) + (rd (rd_L1 l0 a3) (ji34)))) != (rd (rd_L1 l0 a3) a4)) = true := bne_iff_ne.mpr c39
                                  have H' := Aside0.mk H
                                  clear H
                                  have p119 : 0 ≤ (a3 : Int) := of_decide_eq_true (by first | (with_reducible assumption) | assumption)
                                  have q119 : a3 < (l0.length : Int) := of_decide_eq_true (by first | (with_reducible assumption) | assumption)
                                  obtain ⟨ad119, A119_0, c119_0, e119, hx119_0, hl119_0, hi119_0⟩ := at_L1 HR0.out a3 p119 q119
                                  cases e119
                                  replace hx119_0 := (HB.out.cell (World.block_lt_of_cell? w _ hx119_0)).trans hx119_0
                                  have HR119_0 := Aside0.mk hi119_0
                                  have HC119_0 := Aside0.mk hl119_0
                                  clear hi119_0 hl119_0
                                  replace p119 := eq_true p119
                                  replace q119 := eq_true q119
                                  have p120 : 0 ≤ (x12_2 : Int) := of_decide_eq_true (by first | (with_reducible assumption) | assumption)
                                  have q120 : x12_2 < ((rd_L1 l0 a3).length : Int) := of_decide_eq_true (by first | (with_reducible assumption) | assumption)
                                  obtain ⟨ad120, e120, hx120_0⟩ := Kd.at_int HR119_0.out x12_2 p120 q120
                                  cases e120
                                  replace hx120_0 := (HB.out.cell (World.block_lt_of_cell? w _ hx120_0)).trans hx120_0
                                  replace p120 := eq_true p120
                                  replace q120 := eq_true q120
                                  have p121 : 0 ≤ (a3 : Int) := of_decide_eq_true (by first | (with_reducible assumption) | assumption)
                                  have q121 : a3 < (l0.length : Int) := of_decide_eq_true (by first | (with_reducible assumption) | assumption)
                                  obtain ⟨ad121, A121_0, c121_0, e121, hx121_0, hl121_0, hi121_0⟩ := at_L1 HR0.out a3 p121 q121
                                  obtain rfl : ad119 = ad121 := (by injection e121)
                                  replace hx121_0 := (HB.out.cell (World.block_lt_of_cell? w _ hx121_0)).trans hx121_0
                                  have HR121_0 := Aside0.mk hi121_0
                                  have HC121_0 := Aside0.mk hl121_0
                                  clear hi121_0 hl121_0
                                  replace p121 := eq_true p121
                                  replace q121 := eq_true q121
                                  have ea_ := Option.some.inj (hx119_0.symm.trans hx121_0)
                                  injection ea_ with ea_ en_ ec_
                                  subst ea_
                                  subst ec_
                                  clear en_
                                  have p122 : 0 ≤ ((ji34) : Int) := of_decide_eq_true (by first | (with_reducible assumption) | assumption)
                                  have q122 : (ji34) < ((rd_L1 l0 a3).length : Int) := of_decide_eq_true (by first | (with_reducible assumption) | assumption)
                                  obtain ⟨ad122, e122, hx122_0⟩ := Kd.at_int HR121_0.out (ji34) p122 q122
                                  cases e122
                                  replace hx122_0 := (HB.out.cell (World.block_lt_of_cell? w _ hx122_0)).trans hx122_0
                                  replace p122 := eq_true p122
                                  replace q122 := eq_true q122
                                  have p123 : 0 ≤ (a3 : Int) := of_decide_eq_true (by first | (with_reducible assumption) | assumption)
                                  have q123 : a3 < (l0.length : Int) := of_decide_eq_true (by first | (with_reducible assumption) | assumption)
                                  obtain ⟨ad123, A123_0, c123_0, e123, hx123_0, hl123_0, hi123_0⟩ := at_L1 HR0.out a3 p123 q123
                                  obtain rfl : ad119 = ad123 := (by injection e123)
                                  replace hx123_0 := (HB.out.cell (World.block_lt_of_cell? w _ hx123_0)).trans hx123_0
                                  have HR123_0 := Aside0.mk hi123_0
                                  have HC123_0 := Aside0.mk hl123_0
                                  clear hi123_0 hl123_0
                                  replace p123 := eq_true p123
                                  replace q123 := eq_true q123
                                  have ea_ := Option.some.inj (hx119_0.symm.trans hx123_0)
                                  injection ea_ with ea_ en_ ec_
                                  subst ea_
                                  subst ec_
                                  clear en_
                                  have p124 : 0 ≤ (a4 : Int) := of_decide_eq_true (by first | (with_reducible assumption) | assumption)
                                  have q124 : a4 < ((rd_L1 l0 a3).length : Int) := of_decide_eq_true (by first | (with_reducible assumption) | assumption)
                                  obtain ⟨ad124, e124, hx124_0⟩ := Kd.at_int HR123_0.out a4 p124 q124
                                  cases e124
                                  replace hx124_0 := (HB.out.cell (World.block_lt_of_cell? w _ hx124_0)).trans hx124_0
                                  replace p124 := eq_true p124
                                  replace q124 := eq_true q124
                                  go_wp2
                                  repeat (go_quiet (fail); try go_wp2)
                                  go_roundg k2
                                  case measure => have := HK1.out; have := HK2.out; omega
                                  case rel => exact ⟨(wrap64 (x12_2 + 1)), (by first | rfl | (simp; done) | (simp [*]; done)), H', ⟨by have := HK1.out; have := HK2.out; omega⟩, ⟨by repeat (first | (with_reducible first | exact HB.out | apply below_alloc | apply pw_below_drewN | apply below_drew1) | exact HB.out)⟩⟩
                              · rw [if_neg c38] at H
                                exact absurd H (by simp)
                            · rw [if_neg c37] at H
                              exact absurd H (by simp)
                          · rw [if_neg c36] at H
                            exact absurd H (by simp)
                        · rw [if_neg c35] at H
                          exact absurd H (by simp)
                      · rw [if_neg c33] at H
                        exact absurd H (by simp)
                    · rw [if_neg c32] at H
                      exact absurd H (by simp)
                  · rw [if_neg c31] at H
                    exact absurd H (by simp)
                · rw [if_neg c30] at H
                  exact absurd H (by simp)
              · rw [if_neg c29] at H
                have c29b0 : decide (x12_2 ≤ (wrap64 (Int.tdiv a4 2))) = false := decide_eq_false c29
                clear c29
                obtain rfl := Option.some.inj H
                go_wp2
                repeat (go_quiet (fail); try go_wp2)
                go_ret
                exact ⟨_, by first | rfl | (simp [errW_none, errW_some] <;> rfl) | (simp [*, errW_none, errW_some] <;> rfl), by first | exact Kd.R_nil _ _ _ _ _ | exact Kd.N_nil _ _ _ _ _ | exact Kd.V_nil _ _ _ _ _ | exact Kd.Q_nil _ _ _ _ _ | exact Kd.S_nil _ _ _ _ _, by repeat (first | (with_reducible first | exact HB.out | apply below_alloc | apply pw_below_drewN | apply below_drew1) | exact HB.out)⟩
end Go.Proofs.Ytdfcljfajiihdaa.P

namespace Go.Proofs.Ytdfcljfajiihdaa.P
open Go.RowKit Go.Proofs.YtdfcljfajiihdaaW.PrintWords Go.Proofs.YtdfcljfajiihdaaW.PrintLast Go.Proofs.YtdfcljfajiihdaaW.PrintMore
attribute [local go_sem] max2_int min2_int max_two min_two max_three min_three max_four min_four
set_option linter.unusedVariables false
set_option linter.unusedSimpArgs false
open Go.Proofs.Ytdfcljfajiihdaa.T Go.Proofs.Ytdfcljfajiihdaa.Aid
theorem ite_none {α : Type} {c : Prop} [Decidable c] {a : Option α} {r : α} (h : (if c then a else none) = some r) : c ∧ a = some r := by
  by_cases k : c
  · rw [if_pos k] at h; exact ⟨k, h⟩
  · rw [if_neg k] at h; cases h
def FP (tb : List (List Int)) (A0 : Option Addr) (c0 : Nat) (b0 B base : Nat) (l : List Sq) (w w' : World) : Prop := ∃ A n c, Kd.S (Kd.slice 3 (Kd.int .i64)) 22 w' b0 (fun _ => True) (.slice A0 tb.length c0) tb ∧ w'.heap[B]? = some (.cells #[.slice A n c] 35 (0, 0)) ∧ Kd.R k56 56 w' base (fun _ => True) (.slice A n c) l ∧ Below base w w'
theorem FP.from {tb : List (List Int)} {A0 : Option Addr} {c0 b0 B base : Nat} {l : List Sq} {a b c : World} (h : Below base a b) (k : FP tb A0 c0 b0 B base l b c) : FP tb A0 c0 b0 B base l a c := by
  obtain ⟨A, n, d, h1, h2, h3, h4⟩ := k
  exact ⟨A, n, d, h1, h2, h3, h.trans h4⟩
set_option maxHeartbeats 8000000 in
set_option maxRecDepth 100000 in
theorem spec_fePart.calls (k : Nat) : ∀ (A0 : Option Addr) (c0 : Nat) (tb : List (List Int)) (x y W H : Int) (r : List Sq) (B base b0 : Nat) (A9 : Option Addr) (n9 c9 : Nat) (acc : List Sq) (w : World)
    (_ : Kd.S (Kd.slice 3 (Kd.int .i64)) 22 w b0 (fun _ => True) (.slice A0 tb.length c0) tb)
    (_ : w.heap[B]? = some (.cells #[.slice A9 n9 c9] 35 (0, 0))) (_ : base ≤ B) (_ : Kd.R k56 56 w base (fun _ => True) (.slice A9 n9 c9) acc)
    (_ : 1 ≤ W ∧ W ≤ 1000) (_ : 1 ≤ H ∧ H ≤ 1000) (_ : acc.length + r.length ≤ 1000000) (_ : impl_lined.f k tb x y W H = some r),
    Calls Try.prog 66 #[.slice A0 tb.length c0, .int .i64 x, .int .i64 y, .int .i64 W, .int .i64 H, .pointer (some ⟨B, 0, none⟩)] w fun e w' => e = .returned (.tuple #[]) ∧ FP tb A0 c0 b0 B base (acc ++ r) w w' := by
  induction k using Nat.strongRecOn with
  | _ k ih =>
  intro A0 c0 tb x y W H r B base b0 A9 n9 c9 acc w ht hx hbB hr hW hH hl h
  cases k with
  | zero => exact absurd h (by simp [impl_lined.f])
  | succ k =>
  simp only [impl_lined.f] at h
  have hu56 := Try.underlying56
  have HT := Aside0.mk ht
  have HX := Aside0.mk hx
  have HR := Aside0.mk hr
  have HBB := Aside0.mk hbB
  have HSZ : Aside0 (base ≤ w.heap.size) := ⟨Nat.le_trans hbB (Nat.le_of_lt (blk_lt hx))⟩
  have HL := Aside0.mk hl
  have HW := Aside0.mk hW
  have HH := Aside0.mk hH
  clear ht hr hbB hl
  by_cases c6 : W = H
  · rw [if_pos c6] at h
    have b6 : (W == H) = true := beq_iff_eq.mpr c6
    have hr1 : [(⟨x, y, W⟩ : Sq)] = r := Option.some.inj h
    have HRR := Aside0.mk hr1
    have k0 : w.cell? ⟨B, 0, none⟩ = some (.slice A9 n9 c9) := (blk_cell hx 0).trans rfl
    clear h hx c6 hr1 hW hH
    go_enter Try.func66, Try.ntmps66
    go_wp2_with ((with_reducible refine gate_builtin (b := .append) (xs := #[.tmp 20, .tmp 25]) rfl ?_); at_builtin; refine Kd.R_append k56 (w0 := w) base rfl (.tmp 20) (.tmp 25) 35 56 (.agg #[.int .i64 0, .int .i64 0, .int .i64 0]) 24 rfl Try.underlying35 info56 rfl (by decide) (by omega) (.slice A9 n9 c9) acc (⟨x, y, W⟩ : Sq) [.int .i64 x, .int .i64 y, .int .i64 W] (fun _ => True) (fun _ => False) rfl rfl (k56_mkM _ _ _ (⟨x, y, W⟩ : Sq)) (fun _ h => h.elim) (fun _ _ => trivial) HR.out (Below.refl base w) HSZ.out (by have := HL.out; have := HRR.out; subst this; simp only [List.length_cons, List.length_nil] at *; omega) ?_; intro v7 w7 ho hb hg hat; obtain ⟨A7, c7, e7⟩ := Kd.R_slice ho; subst e7; generalize (acc ++ [(⟨x, y, W⟩ : Sq)]).length = n7 at ho ⊢; have hx7 := blk_grown HX.out hg (Kd.R_ne HR.out HX.out (by decide)); have HT7 := Aside0.mk (Kd.S_over' HT.out (Kd.R_typed HR.out) (by decide) hg); have HX7 := Aside0.mk hx7; have HO7 := Aside0.mk ho; have HB7 := Aside0.mk hb; have k7 : w7.cell? ⟨B, 0, none⟩ = some (.slice A9 n9 c9) := (blk_cell hx7 0).trans rfl; have f7 := blk_frozen hx7 0; clear ho hb hg hat hx7)
    refine bodyPost_ret (results_none (by rfl) _ _ _) rfl ?_
    exact ⟨rfl, A7, n7, c7, Kd.S_set HT7.out HX7.out (by decide) 0 _, blk_put HX7.out 0 _ rfl, by rw [← HRR.out]; exact Kd.R_set HO7.out HX7.out (by decide) 0 _, HB7.out.setCell (p := ⟨B, 0, none⟩) HBB.out _⟩
  · rw [if_neg c6] at h
    have b6 : (W == H) = false := beq_eq_false_iff_ne.mpr c6
    have HA0 := Aside0.mk h
    clear h hx hW hH c6
    go_enter Try.func66, Try.ntmps66
    go_wp2_with fail
    go_loopg [12] k (fun kq v12 wc => ∃ a : Int, v12 = .int .i64 a ∧ Aside0 (impl_lined.l0 kq tb x y W H a = some r) ∧ Aside0 (kq ≤ k) ∧ Aside0 (1 ≤ a ∧ a ≤ 1000) ∧ Aside0 (Below w.heap.size w wc))
    case atStart => exact ⟨1, rfl, HA0, ⟨Nat.le_refl _⟩, ⟨by omega⟩, ⟨Below.refl _ _⟩⟩
    case round =>
      clear HA0 b6
      obtain ⟨a, rfl, HA, HK1, HAB, HB⟩ := hrel
      cases gk with
      | zero => exact absurd HA.out (by simp [impl_lined.l0])
      | succ k1 =>
        have h := HA.out
        clear HA
        simp only [impl_lined.l0] at h
        have hab := HAB.out
        have hW := HW.out
        have hH := HH.out
        have hk1 := HK1.out
        rw [show wrap64 (Int.tdiv W 2) = W / 2 by rw [Int.tdiv_eq_ediv_of_nonneg (by omega), w64 (by omega) (by omega)]] at h
        have e2 : wrap64 (2 * a) = 2 * a := w64 (by omega) (by omega)
        by_cases d9 : a ≤ W / 2
        · rw [if_pos d9] at h
          have b9 : decide (wrap64 (2 * a) ≤ W) = true := decide_eq_true (by rw [e2]; omega)
          have HTC := (Kd.S_reads' (Kd.S_below HT.out HB.out)).2.2
          obtain ⟨j, hj⟩ : ∃ j : Int, wrap64 (W - a) = j := ⟨_, rfl⟩
          obtain ⟨c10, h⟩ := ite_none h
          obtain ⟨c11, h⟩ := ite_none h
          obtain ⟨c12, h⟩ := ite_none h
          obtain ⟨c13, h⟩ := ite_none h
          rw [hj] at h
          obtain ⟨c14, h⟩ := ite_none h
          obtain ⟨c15, h⟩ := ite_none h
          obtain ⟨c16, h⟩ := ite_none h
          obtain ⟨c17, h⟩ := ite_none h
          obtain ⟨c18, h⟩ := ite_none h
          obtain ⟨c19, h⟩ := ite_none h
          have hje : W - a = j := by rw [← hj, w64 (by omega) (by omega)]
          have hjw : IntKind.i64.wrap (W - a) = j := (i64_w _).trans hj
          obtain ⟨ad0, A1, cc0, e0_, x0, l0, i0⟩ := at_L1 HTC a c10 c11
          cases e0_
          obtain ⟨ae0, f0_, y0⟩ := Kd.at_int i0 H c12 c13
          cases f0_
          obtain ⟨ad1, A2, cc1, e1_, x1, l1, i1⟩ := at_L1 HTC j c14 c15
          obtain rfl : ad0 = ad1 := (by injection e1_)
          obtain ⟨ae1, f1_, y1⟩ := Kd.at_int i1 H c12 c16
          cases f1_
          obtain ⟨ad2, A3, cc2, e2_, x2, l2, i2⟩ := at_L1 HTC W c17 c18
          obtain rfl : ad0 = ad2 := (by injection e2_)
          obtain ⟨ae2, f2_, y2⟩ := Kd.at_int i2 H c12 c19
          cases f2_
          by_cases c21 : (wrap64 ((rd (rd_L1 tb a) H) + (rd (rd_L1 tb j) H))) = (rd (rd_L1 tb W) H)
          · rw [if_pos c21] at h
            have b21 := beq_iff_eq.mpr c21
            obtain ⟨t1, hA, h⟩ := Option.bind_eq_some_iff.mp h
            obtain ⟨t2, hB, h⟩ := Option.bind_eq_some_iff.mp h
            obtain ⟨clen, h⟩ := ite_none h
            have hr2 : t1 ++ t2 = r := Option.some.inj h
            have hln : acc.length + (t1.length + t2.length) ≤ 1000000 := by have h1 := HL.out; rw [← hr2, List.length_append] at h1; exact h1
            have HC1 : Aside0 (∀ V, Below wr.heap.size wr V → Calls Try.prog 66 #[.slice (some ad0) tb.length c0, .int .i64 x, .int .i64 y, .int .i64 a, .int .i64 H, .pointer (some ⟨B, 0, none⟩)] V fun e w' => e = .returned (.tuple #[]) ∧ FP tb (some ad0) c0 b0 B base (acc ++ t1) w w') := ⟨fun V hV => by
              refine (ih k1 (by omega) _ _ tb x y a H t1 B base b0 A9 n9 c9 acc V (Kd.S_below (Kd.S_below HT.out HB.out) hV) (blk_below (blk_below HX.out HB.out) hV) HBB.out (Kd.R_below (Kd.R_below HR.out HB.out) hV) (by omega) (by omega) (by omega) hA).mono ?_
              rintro e w' ⟨rfl, hf⟩
              exact ⟨rfl, hf.from ((HB.out.trans (hV.mono HB.out.size)).mono HSZ.out)⟩⟩
            have HC2 : Aside0 (∀ V, FP tb (some ad0) c0 b0 B base (acc ++ t1) w V → Calls Try.prog 66 #[.slice (some ad0) tb.length c0, .int .i64 (wrap64 (x + a)), .int .i64 y, .int .i64 j, .int .i64 H, .pointer (some ⟨B, 0, none⟩)] V fun e w' => e = .returned (.tuple #[]) ∧ FP tb (some ad0) c0 b0 B base (acc ++ r) w w') := ⟨fun V hV => by
              obtain ⟨A5, n5, c5, h1, h2, h3, h4⟩ := hV
              refine (ih k1 (by omega) _ _ tb (wrap64 (x + a)) y j H t2 B base b0 A5 n5 c5 (acc ++ t1) V h1 h2 HBB.out h3 (by omega) (by omega) (by rw [List.length_append]; omega) hB).mono ?_
              rintro e w' ⟨rfl, hf⟩
              rw [List.append_assoc, hr2] at hf
              exact ⟨rfl, hf.from h4⟩⟩
            replace c10 := eq_true c10
            replace c11 := eq_true c11
            replace c12 := eq_true c12
            replace c13 := eq_true c13
            replace c14 := eq_true c14
            replace c15 := eq_true c15
            replace c16 := eq_true c16
            replace c17 := eq_true c17
            replace c18 := eq_true c18
            replace c19 := eq_true c19
            clear hab hW hH hk1 h hA hB hln hr2 clen d9 c21 HTC i0 i1 i2 l0 l1 l2 hj hje e2
            go_wp2_with (first | (go_at_call 66; (with_reducible refine (HC1.out _ ?side).mono ?_); (case side => first | exact Below.refl _ _ | exact below_drew (Below.refl _ _) | exact pw_below_drewN (Below.refl _ _) _); rintro e w1 ⟨rfl, hf1⟩; have HF1 := Aside0.mk hf1; clear hf1) | (go_at_call 66; (with_reducible refine (HC2.out _ HF1.out).mono ?_); rintro e w2 ⟨rfl, hf2⟩; have HF2 := Aside0.mk hf2; clear hf2))
            repeat (go_quiet (first | (go_at_call 66; (with_reducible refine (HC1.out _ ?side).mono ?_); (case side => first | exact Below.refl _ _ | exact below_drew (Below.refl _ _) | exact pw_below_drewN (Below.refl _ _) _); rintro e w1 ⟨rfl, hf1⟩; have HF1 := Aside0.mk hf1; clear hf1) | (go_at_call 66; (with_reducible refine (HC2.out _ HF1.out).mono ?_); rintro e w2 ⟨rfl, hf2⟩; have HF2 := Aside0.mk hf2; clear hf2)); try go_wp2_with (first | (go_at_call 66; (with_reducible refine (HC1.out _ ?side).mono ?_); (case side => first | exact Below.refl _ _ | exact below_drew (Below.refl _ _) | exact pw_below_drewN (Below.refl _ _) _); rintro e w1 ⟨rfl, hf1⟩; have HF1 := Aside0.mk hf1; clear hf1) | (go_at_call 66; (with_reducible refine (HC2.out _ HF1.out).mono ?_); rintro e w2 ⟨rfl, hf2⟩; have HF2 := Aside0.mk hf2; clear hf2)))
            refine bodyPost_ret (results_none (by rfl) _ _ _) rfl ?_
            exact ⟨rfl, HF2.out⟩
          · rw [if_neg c21] at h
            have b21 := beq_eq_false_iff_ne.mpr c21
            have EA : wrap64 (a + 1) = a + 1 := w64 (by omega) (by omega)
            rw [EA] at h
            have HA2 := Aside0.mk h
            have HA3 : Aside0 (1 ≤ a + 1 ∧ a + 1 ≤ 1000) := ⟨by omega⟩
            have HEA := Aside0.mk EA
            replace c10 := eq_true c10
            replace c11 := eq_true c11
            replace c12 := eq_true c12
            replace c13 := eq_true c13
            replace c14 := eq_true c14
            replace c15 := eq_true c15
            replace c16 := eq_true c16
            replace c17 := eq_true c17
            replace c18 := eq_true c18
            replace c19 := eq_true c19
            clear hab hW hH h EA d9 c21 HTC i0 i1 i2 l0 l1 l2 hj hje e2
            go_wp2_with fail
            repeat (go_quiet (fail); try go_wp2_with fail)
            go_roundg k1
            case measure => omega
            case rel => exact ⟨a + 1, by first | rfl | rw [HEA.out], HA2, ⟨by have := HK1.out; omega⟩, HA3, ⟨by first | exact HB.out | exact below_drew HB.out | exact pw_below_drewN HB.out _⟩⟩
        · rw [if_neg d9] at h
          have b9 : decide (wrap64 (2 * a) ≤ W) = false := decide_eq_false (by rw [e2]; omega)
          have HA0 := Aside0.mk h
          have HKK : Aside0 (k1 ≤ k) := ⟨by omega⟩
          clear h hab hW hH hk1 d9 e2 HK1 HAB
          go_wp2_with fail
          clear b9
          go_loopg [13] k1 (fun kq v13 wc => ∃ a : Int, v13 = .int .i64 a ∧ Aside0 (impl_lined.l1 kq tb x y W H a = some r) ∧ Aside0 (kq ≤ k1) ∧ Aside0 (1 ≤ a ∧ a ≤ 1000) ∧ Aside0 (Below w.heap.size w wc))
          case atStart => exact ⟨1, rfl, HA0, ⟨Nat.le_refl _⟩, ⟨by omega⟩, HB⟩
          case round =>
            clear HA0 HB
            obtain ⟨a, rfl, HA, HK1, HAB, HB⟩ := hrel
            cases gk with
            | zero => exact absurd HA.out (by simp [impl_lined.l1])
            | succ k2 =>
              have hkk := HKK.out
              have h := HA.out
              clear HA
              simp only [impl_lined.l1] at h
              have hab := HAB.out
              have hW := HW.out
              have hH := HH.out
              have hk1 := HK1.out
              rw [show wrap64 (Int.tdiv H 2) = H / 2 by rw [Int.tdiv_eq_ediv_of_nonneg (by omega), w64 (by omega) (by omega)]] at h
              have e2 : wrap64 (2 * a) = 2 * a := w64 (by omega) (by omega)
              by_cases d9 : a ≤ H / 2
              · rw [if_pos d9] at h
                have b9 : decide (wrap64 (2 * a) ≤ H) = true := decide_eq_true (by rw [e2]; omega)
                have HTC := (Kd.S_reads' (Kd.S_below HT.out HB.out)).2.2
                obtain ⟨j, hj⟩ : ∃ j : Int, wrap64 (H - a) = j := ⟨_, rfl⟩
                obtain ⟨c10, h⟩ := ite_none h
                obtain ⟨c11, h⟩ := ite_none h
                obtain ⟨c12, h⟩ := ite_none h
                obtain ⟨c13, h⟩ := ite_none h
                rw [hj] at h
                obtain ⟨c14, h⟩ := ite_none h
                obtain ⟨c15, h⟩ := ite_none h
                obtain ⟨c16, h⟩ := ite_none h
                obtain ⟨c17, h⟩ := ite_none h
                have hje : H - a = j := by rw [← hj, w64 (by omega) (by omega)]
                have hjw : IntKind.i64.wrap (H - a) = j := (i64_w _).trans hj
                obtain ⟨ad0, A1, cc0, e0_, x0, l0, i0⟩ := at_L1 HTC W c10 c11
                cases e0_
                obtain ⟨ae0, f0_, y0⟩ := Kd.at_int i0 a c12 c13
                cases f0_
                obtain ⟨ae1, f1_, y1⟩ := Kd.at_int i0 j c14 c15
                obtain rfl : ae0 = ae1 := (by injection f1_)
                obtain ⟨ae2, f2_, y2⟩ := Kd.at_int i0 H c16 c17
                obtain rfl : ae0 = ae2 := (by injection f2_)
                by_cases c21 : (wrap64 ((rd (rd_L1 tb W) a) + (rd (rd_L1 tb W) j))) = (rd (rd_L1 tb W) H)
                · rw [if_pos c21] at h
                  have b21 := beq_iff_eq.mpr c21
                  obtain ⟨t1, hA, h⟩ := Option.bind_eq_some_iff.mp h
                  obtain ⟨t2, hB, h⟩ := Option.bind_eq_some_iff.mp h
                  obtain ⟨clen, h⟩ := ite_none h
                  have hr2 : t1 ++ t2 = r := Option.some.inj h
                  have hln : acc.length + (t1.length + t2.length) ≤ 1000000 := by have h1 := HL.out; rw [← hr2, List.length_append] at h1; exact h1
                  have HC1 : Aside0 (∀ V, Below wr.heap.size wr V → Calls Try.prog 66 #[.slice (some ad0) tb.length c0, .int .i64 x, .int .i64 y, .int .i64 W, .int .i64 a, .pointer (some ⟨B, 0, none⟩)] V fun e w' => e = .returned (.tuple #[]) ∧ FP tb (some ad0) c0 b0 B base (acc ++ t1) w w') := ⟨fun V hV => by
                    refine (ih k2 (by omega) _ _ tb x y W a t1 B base b0 A9 n9 c9 acc V (Kd.S_below (Kd.S_below HT.out HB.out) hV) (blk_below (blk_below HX.out HB.out) hV) HBB.out (Kd.R_below (Kd.R_below HR.out HB.out) hV) (by omega) (by omega) (by omega) hA).mono ?_
                    rintro e w' ⟨rfl, hf⟩
                    exact ⟨rfl, hf.from ((HB.out.trans (hV.mono HB.out.size)).mono HSZ.out)⟩⟩
                  have HC2 : Aside0 (∀ V, FP tb (some ad0) c0 b0 B base (acc ++ t1) w V → Calls Try.prog 66 #[.slice (some ad0) tb.length c0, .int .i64 x, .int .i64 (wrap64 (y + a)), .int .i64 W, .int .i64 j, .pointer (some ⟨B, 0, none⟩)] V fun e w' => e = .returned (.tuple #[]) ∧ FP tb (some ad0) c0 b0 B base (acc ++ r) w w') := ⟨fun V hV => by
                    obtain ⟨A5, n5, c5, h1, h2, h3, h4⟩ := hV
                    refine (ih k2 (by omega) _ _ tb x (wrap64 (y + a)) W j t2 B base b0 A5 n5 c5 (acc ++ t1) V h1 h2 HBB.out h3 (by omega) (by omega) (by rw [List.length_append]; omega) hB).mono ?_
                    rintro e w' ⟨rfl, hf⟩
                    rw [List.append_assoc, hr2] at hf
                    exact ⟨rfl, hf.from h4⟩⟩
                  replace c10 := eq_true c10
                  replace c11 := eq_true c11
                  replace c12 := eq_true c12
                  replace c13 := eq_true c13
                  replace c14 := eq_true c14
                  replace c15 := eq_true c15
                  replace c16 := eq_true c16
                  replace c17 := eq_true c17
                  clear hab hW hH hk1 h hA hB hln hr2 clen d9 c21 HTC i0 l0 hj hje e2
                  go_wp2_with (first | (go_at_call 66; (with_reducible refine (HC1.out _ ?side).mono ?_); (case side => first | exact Below.refl _ _ | exact below_drew (Below.refl _ _) | exact pw_below_drewN (Below.refl _ _) _); rintro e w1 ⟨rfl, hf1⟩; have HF1 := Aside0.mk hf1; clear hf1) | (go_at_call 66; (with_reducible refine (HC2.out _ HF1.out).mono ?_); rintro e w2 ⟨rfl, hf2⟩; have HF2 := Aside0.mk hf2; clear hf2))
                  repeat (go_quiet (first | (go_at_call 66; (with_reducible refine (HC1.out _ ?side).mono ?_); (case side => first | exact Below.refl _ _ | exact below_drew (Below.refl _ _) | exact pw_below_drewN (Below.refl _ _) _); rintro e w1 ⟨rfl, hf1⟩; have HF1 := Aside0.mk hf1; clear hf1) | (go_at_call 66; (with_reducible refine (HC2.out _ HF1.out).mono ?_); rintro e w2 ⟨rfl, hf2⟩; have HF2 := Aside0.mk hf2; clear hf2)); try go_wp2_with (first | (go_at_call 66; (with_reducible refine (HC1.out _ ?side).mono ?_); (case side => first | exact Below.refl _ _ | exact below_drew (Below.refl _ _) | exact pw_below_drewN (Below.refl _ _) _); rintro e w1 ⟨rfl, hf1⟩; have HF1 := Aside0.mk hf1; clear hf1) | (go_at_call 66; (with_reducible refine (HC2.out _ HF1.out).mono ?_); rintro e w2 ⟨rfl, hf2⟩; have HF2 := Aside0.mk hf2; clear hf2)))
                  refine bodyPost_ret (results_none (by rfl) _ _ _) rfl ?_
                  exact ⟨rfl, HF2.out⟩
                · rw [if_neg c21] at h
                  have b21 := beq_eq_false_iff_ne.mpr c21
                  have EA : wrap64 (a + 1) = a + 1 := w64 (by omega) (by omega)
                  rw [EA] at h
                  have HA2 := Aside0.mk h
                  have HA3 : Aside0 (1 ≤ a + 1 ∧ a + 1 ≤ 1000) := ⟨by omega⟩
                  have HEA := Aside0.mk EA
                  replace c10 := eq_true c10
                  replace c11 := eq_true c11
                  replace c12 := eq_true c12
                  replace c13 := eq_true c13
                  replace c14 := eq_true c14
                  replace c15 := eq_true c15
                  replace c16 := eq_true c16
                  replace c17 := eq_true c17
                  clear hab hW hH h EA d9 c21 HTC i0 l0 hj hje e2
                  go_wp2_with fail
                  repeat (go_quiet (fail); try go_wp2_with fail)
                  go_roundg k2
                  case measure => omega
                  case rel => exact ⟨a + 1, by first | rfl | rw [HEA.out], HA2, ⟨by have := HK1.out; omega⟩, HA3, ⟨by first | exact HB.out | exact below_drew HB.out | exact pw_below_drewN HB.out _⟩⟩
              · rw [if_neg d9] at h
                have b9 : decide (wrap64 (2 * a) ≤ H) = false := decide_eq_false (by rw [e2]; omega)
                have hr2 : ([] : List Sq) = r := Option.some.inj h
                have HRR := Aside0.mk hr2
                clear h hab hW hH hk1 d9 e2 HK1 HAB hr2
                go_wp2_with fail
                go_end0
                exact ⟨rfl, A9, n9, c9, Kd.S_below HT.out HB.out, blk_below HX.out HB.out, by rw [← HRR.out, List.append_nil]; exact Kd.R_below HR.out HB.out, HB.out.mono HSZ.out⟩
end Go.Proofs.Ytdfcljfajiihdaa.P

namespace Go.Proofs.Ytdfcljfajiihdaa.P
open Go.RowKit Go.Proofs.YtdfcljfajiihdaaW.PrintWords Go.Proofs.YtdfcljfajiihdaaW.PrintLast Go.Proofs.YtdfcljfajiihdaaW.PrintMore
attribute [local go_sem] max2_int min2_int max_two min_two max_three min_three max_four min_four
set_option linter.unusedVariables false
set_option linter.unusedSimpArgs false
open Go.Proofs.Ytdfcljfajiihdaa.T Go.Proofs.Ytdfcljfajiihdaa.Aid
def spec_CutByLines.f (k : Nat) (a0 a1 : Int) : Option (Int × Int × List S56 × Bool) := (spec_feSize.f a0 a1 60).bind fun t => if t = true then ((spec_feLines.f k a0 a1).bind fun tb => ((impl_lined.f k tb 0 0 a0 a1).bind fun l => if (1 ≤ a0 ∧ a0 ≤ 1000) ∧ (1 ≤ a1 ∧ a1 ≤ 1000) ∧ l.length ≤ 1000000 then spec_cuMake.f k a0 a1 l else none)) else some (0, 0, [], false)
set_option maxHeartbeats 8000000 in
set_option maxRecDepth 100000 in
theorem spec_CutByLines.calls (k : Nat) (a0 a1 : Int) (r1 r2 : Int) (r3 : List S56) (r4 : Bool) (w : World) (h : spec_CutByLines.f k a0 a1 = some (r1, r2, r3, r4)) :
    Calls Try.prog 28 #[.int .i64 a0, .int .i64 a1] w fun e w' => ∃ v2_ : Value, e = .returned (.tuple #[.agg #[.int .i64 r1, .int .i64 r2, v2_], .bool r4]) ∧ Kd.R k56 56 w' w.heap.size (fun _ => True) v2_ r3 ∧ Below w.heap.size w w' := by
  unfold spec_CutByLines.f at h
  have hu := Try.underlying37
  obtain ⟨t, ht, h⟩ := Option.bind_eq_some_iff.mp h
  have HS := Aside0.mk (fun V => spec_feSize.calls a0 a1 60 t V ht)
  clear ht
  cases t with
  | false =>
    rw [if_neg (by decide)] at h
    simp only [Option.some.injEq, Prod.mk.injEq] at h
    obtain ⟨rfl, rfl, rfl, rfl⟩ := h
    go_enter Try.func28, Try.ntmps28
    go_wp2_with (first | ((with_reducible refine gate_dst (N := 4) rfl ?_); refine box_event ?hg (N := 4) ?hd (cs := #[.int .i64 0, .int .i64 0, .slice none 0 0]) (t := 37) ?hr ?_; (case hd => rfl); (case hg => rfl); (case hr => first | (go_simp; done) | (go_simp; rfl)); intro g1 hg w1 hbox hb; have HG1 := Aside0.mk hg; have HX1 := Aside0.mk hbox; have HB1 := Aside0.mk hb; clear hg hbox hb) | (go_at_call 65; refine (HS.out _).mono ?_; rintro e w2 ⟨rfl, hd⟩; have HB2 := Aside0.mk (below_step HB1.out hd.below); have hx := blk_below HX1.out hd.below; have HX2 := Aside0.mk hx; have k0 : w2.cell? ⟨g1, 0, none⟩ = some (.int .i64 0) := (blk_cell hx 0).trans rfl; have k1 : w2.cell? ⟨g1, 1, none⟩ = some (.int .i64 0) := (blk_cell hx 1).trans rfl; have k2 : w2.cell? ⟨g1, 2, none⟩ = some (.slice none 0 0) := (blk_cell hx 2).trans rfl; have f0 := blk_frozen hx 0; have f1 := blk_frozen hx 1; have f2 := blk_frozen hx 2; clear hx hd))
    have HGE : Aside0 (w.heap.size ≤ g1) := ⟨by rw [HG1.out]; exact Nat.le_refl _⟩
    refine bodyPost_ret (results_ct rfl _ _ g1 37 #[.int .i64 0, .int .i64 0, .slice none 0 0] (0, 0) _ rfl (blk_put (cs := #[.int .i64 0, .int .i64 0, .slice none 0 0]) (blk_put (cs := #[.int .i64 0, .int .i64 0, .slice none 0 0]) (blk_put (cs := #[.int .i64 0, .int .i64 0, .slice none 0 0]) HX2.out 0 _ rfl) 1 _ rfl) 2 _ rfl) Try.underlying37 rfl (by kernel_rfl)) rfl ?_
    exact ⟨_, rfl, Kd.R_nil _ _ _ _ _, below_set (below_set (below_set HB2.out HGE.out) HGE.out) HGE.out⟩
  | true =>
    rw [if_pos rfl] at h
    obtain ⟨tb, htb, h⟩ := Option.bind_eq_some_iff.mp h
    obtain ⟨l, hl, h⟩ := Option.bind_eq_some_iff.mp h
    obtain ⟨hc, h⟩ := ite_none h
    have HF := Aside0.mk (fun V => spec_feLines.calls k a0 a1 tb V htb)
    have HL := Aside0.mk hl
    have HM := Aside0.mk h
    have HC := Aside0.mk hc
    clear htb hl h hc
    go_enter Try.func28, Try.ntmps28
    go_wp2_with (first
      | ((with_reducible refine gate_dst (N := 4) rfl ?_); refine box_event ?hg (N := 4) ?hd (cs := #[.int .i64 0, .int .i64 0, .slice none 0 0]) (t := 37) ?hr ?_; (case hd => rfl); (case hg => rfl); (case hr => first | (go_simp; done) | (go_simp; rfl)); intro g1 hg w1 hbox hb; have HG1 := Aside0.mk hg; have HX1 := Aside0.mk hbox; have HB1 := Aside0.mk hb; clear hg hbox hb)
      | (go_at_call 65; refine (HS.out _).mono ?_; rintro e w2 ⟨rfl, hd⟩; have HB2 := Aside0.mk (below_step HB1.out hd.below); have HX2 := Aside0.mk (blk_below HX1.out hd.below); clear hd)
      | ((with_reducible refine gate_dst (N := 6) rfl ?_); refine box_event ?hg (N := 6) ?hd (cs := #[.slice none 0 0]) (t := 35) ?hr ?_; (case hd => rfl); (case hg => rfl); (case hr => first | (go_simp; done) | (go_simp; rfl)); intro g2 hg w3 hbox hb; have HGG : Aside0 (g1 < g2) := ⟨by rw [hg]; exact blk_lt HX2.out⟩; have HGS : Aside0 (w.heap.size ≤ g2) := ⟨by rw [hg]; exact HB2.out.size⟩; have HY3 := Aside0.mk hbox; have HX3 := Aside0.mk (blk_below HX2.out hb); have HB3 := Aside0.mk (below_step HB2.out hb); clear hg hbox hb)
      | (go_at_call 31; refine (HF.out _).mono ?_; rintro e w4 ⟨vT, rfl, ho, hb⟩; obtain ⟨b0, ho⟩ : ∃ b0, Kd.S (Kd.slice 3 (Kd.int .i64)) 22 w4 b0 (fun _ => True) vT tb := ⟨_, ho⟩; obtain ⟨A0, c0, e0⟩ := Kd.S_slice ho; subst e0; have HT4 := Aside0.mk ho; have HY4 := Aside0.mk (blk_below HY3.out hb); have HX4 := Aside0.mk (blk_below HX3.out hb); have HB4 := Aside0.mk (below_step HB3.out hb); clear ho hb)
      | (go_at_call 66; refine (spec_fePart.calls k A0 c0 tb 0 0 a0 a1 l g2 g2 b0 none 0 0 [] _ HT4.out HY4.out (Nat.le_refl _) (Kd.R_nil _ _ _ _ _) HC.out.1 HC.out.2.1 (by have := HC.out.2.2; rw [List.length_nil]; omega) HL.out).mono ?_; rintro e w5 ⟨rfl, A5, n5, c5, hs, hy, hr, hb⟩; rw [List.nil_append] at hr; obtain rfl : n5 = l.length := (Kd.R_reads' hr).1; have HR5 := Aside0.mk hr; have HX5 : Aside0 (w5.heap[g1]? = some (.cells #[.int .i64 0, .int .i64 0, .slice none 0 0] 37 (0, 0))) := ⟨(hb.block g1 HGG.out).trans HX4.out⟩; have HB5 := Aside0.mk (HB4.out.trans (hb.mono HGS.out)); have y5 : w5.cell? ⟨g2, 0, none⟩ = some (.slice A5 l.length c5) := (blk_cell hy 0).trans rfl; clear hs hy hr hb)
      | (go_at_call 53; refine (spec_cuMake.calls k a0 a1 A5 c5 l r1 r2 r3 r4 _ (Kd.R_reads' HR5.out).2.2 (Kd.R_reads' HR5.out).2.1 HM.out).mono ?_; rintro e w6 ⟨v6, rfl, ho, hb⟩; obtain ⟨A6, c6, e6⟩ := Kd.R_slice ho; subst e6; have HR6 := Aside0.mk (Kd.R_lower ho HB5.out.size); have hx := blk_below HX5.out hb; have HX6 := Aside0.mk hx; have HB6 := Aside0.mk (below_step HB5.out hb); have k0 : w6.cell? ⟨g1, 0, none⟩ = some (.int .i64 0) := (blk_cell hx 0).trans rfl; have k1 : w6.cell? ⟨g1, 1, none⟩ = some (.int .i64 0) := (blk_cell hx 1).trans rfl; have k2 : w6.cell? ⟨g1, 2, none⟩ = some (.slice none 0 0) := (blk_cell hx 2).trans rfl; have f0 := blk_frozen hx 0; have f1 := blk_frozen hx 1; have f2 := blk_frozen hx 2; clear hx ho hb))
    have HGE : Aside0 (w.heap.size ≤ g1) := ⟨by rw [HG1.out]; exact Nat.le_refl _⟩
    refine bodyPost_ret (results_ct rfl _ _ g1 37 #[.int .i64 r1, .int .i64 r2, .slice A6 r3.length c6] (0, 0) _ rfl (blk_put (cs := #[.int .i64 r1, .int .i64 r2, .slice none 0 0]) (blk_put (cs := #[.int .i64 r1, .int .i64 0, .slice none 0 0]) (blk_put (cs := #[.int .i64 0, .int .i64 0, .slice none 0 0]) HX6.out 0 _ rfl) 1 _ rfl) 2 _ rfl) Try.underlying37 rfl (by kernel_rfl)) rfl ?_
    exact ⟨_, rfl, Kd.R_mono (Kd.R_far (p := ⟨g1, 2, none⟩) (Kd.R_far (p := ⟨g1, 1, none⟩) (Kd.R_far (p := ⟨g1, 0, none⟩) (Kd.R_types HR6.out HX6.out (by decide)) (fun _ hk => hk.2) (.int .i64 r1)) (fun _ hk => hk.2) (.int .i64 r2)) (fun _ hk => hk.2) (.slice A6 r3.length c6)) (fun _ hk => trivial), below_set (below_set (below_set HB6.out HGE.out) HGE.out) HGE.out⟩
end Go.Proofs.Ytdfcljfajiihdaa.P
