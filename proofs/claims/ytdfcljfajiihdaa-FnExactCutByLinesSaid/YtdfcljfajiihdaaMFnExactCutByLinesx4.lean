import Derived.Test.YtdfcljfajiihdaaMFnExactCutByLineswWords
import Derived.Test.YtdfcljfajiihdaaMFnExactCutByLineswLast
import Derived.Test.YtdfcljfajiihdaaMFnExactCutByLineswTab
import Derived.Test.YtdfcljfajiihdaaMFnExactCutByLineswApart
import Derived.Test.YtdfcljfajiihdaaMFnExactCutByLineswFoot
import Derived.Test.YtdfcljfajiihdaaMFnExactCutByLineswKept
import Derived.Test.YtdfcljfajiihdaaMFnExactCutByLineswShare
import Derived.Test.YtdfcljfajiihdaaMFnExactCutByLineswN
import Derived.Test.YtdfcljfajiihdaaMFnExactCutByLineswFootNe
import Derived.Test.YtdfcljfajiihdaaMFnExactCutByLineswAt
import Derived.Test.YtdfcljfajiihdaaMFnExactCutByLineswRepsOne
import Derived.Test.YtdfcljfajiihdaaMFnExactCutByLineswGuard
import Derived.Test.YtdfcljfajiihdaaMFnExactCutByLineswMore
import Derived.Test.YtdfcljfajiihdaaMFnExactCutByLinesx0
import Derived.Test.YtdfcljfajiihdaaMFnExactCutByLinesx1
import Derived.Test.YtdfcljfajiihdaaMFnExactCutByLinesx2
import Derived.Test.YtdfcljfajiihdaaMFnExactCutByLinesx3
import Derived.Shelf.Abstract
import Derived.Lib.SliceRun
import Derived.Sort.Lot0
namespace Go.Proofs.Ytdfcljfajiihdaa.P
open Go.RowKit Go.Proofs.YtdfcljfajiihdaaW.PrintWords Go.Proofs.YtdfcljfajiihdaaW.PrintLast Go.Proofs.YtdfcljfajiihdaaW.PrintMore
attribute [local go_sem] max2_int min2_int max_two min_two max_three min_three max_four min_four
set_option linter.unusedVariables false
set_option linter.unusedSimpArgs false
mutual
def impl_byLines.l0 : Nat → Int → List (List Int) → Int → Int → Option ((List (List Int)))
  | 0, _, _, _, _ => none
  | k + 1, x1, x5, x15, x16 => if x16 < x15 then (if 0 ≤ (wrap64 (x1 + 1)) then (if (wrap64 (x1 + 1) : Int).toNat ≤ 35184372088832 then (if 0 ≤ x16 then (if x16 < (x5.length : Int) then (impl_byLines.l1 k x1 (x5.set (x16 : Int).toNat (List.replicate (wrap64 (x1 + 1) : Int).toNat 0)) x16 1 x15 x16) else (none)) else (none)) else (none)) else (none)) else (some x5)
def impl_byLines.l1 : Nat → Int → List (List Int) → Int → Int → Int → Int → Option ((List (List Int)))
  | 0, _, _, _, _, _, _ => none
  | k + 1, x1, x5, x6, x7, x15, x16 => if x7 ≤ x1 then (impl_byLines.j2 k x1 x5 x6 x7 x15 x16 (decide (x6 > 0))) else (impl_byLines.j2 k x1 x5 x6 x7 x15 x16 false)
def impl_byLines.j2 : Nat → Int → List (List Int) → Int → Int → Int → Int → Bool → Option ((List (List Int)))
  | 0, _, _, _, _, _, _, _ => none
  | k + 1, x1, x5, x6, x7, x15, x16, x31 => if x31 = true then (if x6 = x7 then (impl_byLines.j3 k x1 x5 x6 x7 1 x15 x16) else (impl_byLines.j3 k x1 x5 x6 x7 (wrap64 (x6 * x7)) x15 x16)) else (impl_byLines.l0 k x1 x5 x15 (wrap64 (x16 + 1)))
def impl_byLines.j3 : Nat → Int → List (List Int) → Int → Int → Int → Int → Int → Option ((List (List Int)))
  | 0, _, _, _, _, _, _, _ => none
  | k + 1, x1, x5, x6, x7, x8, x15, x16 => impl_byLines.l2 k x1 x5 x6 x7 x8 1 x15 x16
def impl_byLines.l2 : Nat → Int → List (List Int) → Int → Int → Int → Int → Int → Int → Option ((List (List Int)))
  | 0, _, _, _, _, _, _, _, _ => none
  | k + 1, x1, x5, x6, x7, x8, x9, x15, x16 => if x9 ≤ (wrap64 (Int.tdiv x6 2)) then (if 0 ≤ x9 then (if x9 < (x5.length : Int) then (if 0 ≤ x7 then (if x7 < ((rd_L1 x5 x9).length : Int) then (if 0 ≤ (wrap64 (x6 - x9)) then (if (wrap64 (x6 - x9)) < (x5.length : Int) then (if x7 < ((rd_L1 x5 (wrap64 (x6 - x9))).length : Int) then (impl_byLines.l2 k x1 x5 x6 x7 (mn x8 (wrap64 ((rd (rd_L1 x5 x9) x7) + (rd (rd_L1 x5 (wrap64 (x6 - x9))) x7)))) (wrap64 (x9 + 1)) x15 x16) else (none)) else (none)) else (none)) else (none)) else (none)) else (none)) else (none)) else (impl_byLines.l3 k x1 x5 x6 x7 x8 1 x15 x16)
def impl_byLines.l3 : Nat → Int → List (List Int) → Int → Int → Int → Int → Int → Int → Option ((List (List Int)))
  | 0, _, _, _, _, _, _, _, _ => none
  | k + 1, x1, x5, x6, x7, x8, x10, x15, x16 => if x10 ≤ (wrap64 (Int.tdiv x7 2)) then (if 0 ≤ x6 then (if x6 < (x5.length : Int) then (if 0 ≤ x10 then (if x10 < ((rd_L1 x5 x6).length : Int) then (if 0 ≤ (wrap64 (x7 - x10)) then (if (wrap64 (x7 - x10)) < ((rd_L1 x5 x6).length : Int) then (impl_byLines.l3 k x1 x5 x6 x7 (mn x8 (wrap64 ((rd (rd_L1 x5 x6) x10) + (rd (rd_L1 x5 x6) (wrap64 (x7 - x10)))))) (wrap64 (x10 + 1)) x15 x16) else (none)) else (none)) else (none)) else (none)) else (none)) else (none)) else (if 0 ≤ x6 then (if x6 < (x5.length : Int) then (if 0 ≤ x7 then (if x7 < ((rd_L1 x5 x6).length : Int) then (impl_byLines.l1 k x1 (x5.set (x6 : Int).toNat ((rd_L1 x5 x6).set (x7 : Int).toNat x8)) x6 (wrap64 (x7 + 1)) x15 x16) else (none)) else (none)) else (none)) else (none))
end
def impl_byLines.f (k : Nat) (a0 : Int) (a1 : Int) : Option ((List (List Int))) := if 0 ≤ (wrap64 (a0 + 1)) then (if (wrap64 (a0 + 1) : Int).toNat ≤ 11728124029610 then ((some (List.replicate (wrap64 (a0 + 1) : Int).toNat [] : List (List Int))).bind fun y101 => (impl_byLines.l0 k a1 y101 (y101.length : Int) 0)) else (none)) else (none)
set_option maxHeartbeats 8000000 in
set_option maxRecDepth 100000 in
theorem impl_byLines.calls (k : Nat) (a0 : Int) (a1 : Int) (r : List (List Int)) (w : World) (h : impl_byLines.f k a0 a1 = some r) :
    Calls Try.prog 33 #[.int .i64 a0, .int .i64 a1] w fun e w' => ∃ v0_ : Value, e = .returned (v0_) ∧ Kd.S (Kd.slice 3 (Kd.int .i64)) 22 w' w.heap.size (fun _ => True) v0_ r ∧ Below w.heap.size w w' := by
  have HB := Aside0.mk (Below.refl w.heap.size w)
  have H : (if 0 ≤ (wrap64 (a0 + 1)) then (if (wrap64 (a0 + 1) : Int).toNat ≤ 11728124029610 then ((some (List.replicate (wrap64 (a0 + 1) : Int).toNat [] : List (List Int))).bind fun y101 => (impl_byLines.l0 k a1 y101 (y101.length : Int) 0)) else (none)) else (none)) = some r := h
  clear h
  obtain ⟨ji3, hji3⟩ : ∃ j_ : Int, (wrap64 (a0 + 1)) = j_ := ⟨_, rfl⟩
  replace H : (if 0 ≤ (ji3) then (if (ji3 : Int).toNat ≤ 11728124029610 then ((some (List.replicate (ji3 : Int).toNat [] : List (List Int))).bind fun y101 => (impl_byLines.l0 k a1 y101 (y101.length : Int) 0)) else (none)) else (none)) = some r := by first | (rw [hji3] at H; exact H) | (simp only [hji3] at H ⊢; exact H)
  have hji3w : (IntKind.i64.wrap (a0 + 1)) = ji3 := (i64_w _).trans hji3
  by_cases c4 : 0 ≤ (ji3)
  · rw [if_pos c4] at H
    have c4b0 := eq_true c4
    have c4b1 : decide (0 ≤ (ji3)) = true := decide_eq_true c4
    clear c4
    by_cases c5 : (ji3 : Int).toNat ≤ 11728124029610
    · rw [if_pos c5] at H
      have c5b0 := eq_true c5
      have c5b1 : decide ((ji3 : Int).toNat ≤ 11728124029610) = true := decide_eq_true c5
      clear c5
      obtain ⟨y101, hy101⟩ : ∃ y_ : List (List Int), y_ = (List.replicate (ji3 : Int).toNat []) := ⟨_, rfl⟩
      replace H : (impl_byLines.l0 k a1 y101 (y101.length : Int) 0) = some r := by first | (rw [hy101]; with_reducible exact H) | (have H2_ := (Option.bind_some _ _).symm.trans H; rw [hy101]; with_reducible exact H2_) | (have H2_ := (Option.bind_some _ _).symm.trans H; with_reducible exact H2_) | with_reducible exact H | (rw [hy101]; exact H) | exact H
      have Ny101 := Aside0.mk hy101
      clear hy101
      have H' := Aside0.mk H
      clear H
      go_enter Try.func33, Try.ntmps33
      go_wp2_with (first | ((with_reducible refine gate_dst (N := 13) rfl ?_); refine Kd.S_make (Kd.slice 3 (Kd.int .i64)) _ 22 rfl (N := 13) rfl 51 _ _ rfl ji3 rfl rfl Try.underlying51 (.slice none 0 0) 24 info22 rfl (by decide) (by omega) [] (ok := fun _ => True) (okp := fun _ => True) ⟨_, rfl, Kd.R_nil _ _ _ _ _⟩ (fun _ hk => hk) trivial (of_decide_eq_true (by first | (with_reducible assumption) | assumption)) (Nat.le_trans (Nat.mul_le_mul_right _ (of_decide_eq_true (by first | (with_reducible assumption) | assumption) : ji3.toNat ≤ 11728124029610)) (by omega)) (Below.refl _ _) (Nat.le_refl _) ?_; intro v102 w6 ho7 hb hg_ hnew_; clear hg_ hnew_; (first | rw [← Ny101.out] at ho7 | (simp only [Int.reduceToNat] at ho7; rw [← Ny101.out] at ho7)); have n0_ := Aside0.mk (Kd.S_lower ho7 (below_size (by repeat (first | (with_reducible first | exact HB.out | apply below_alloc | apply pw_below_drewN | apply below_drew1) | exact HB.out)))); have n1_ := Aside0.mk (below_step (by repeat (first | (with_reducible first | exact HB.out | apply below_alloc | apply pw_below_drewN | apply below_drew1) | exact HB.out)) hb); clear HB; have HO103 := n0_; have HB := n1_; clear n0_ n1_; clear hb ho7; obtain ⟨Ao8, co8, eo8⟩ := Kd.S_slice HO103.out; subst eo8))
      repeat (go_quiet (first | ((with_reducible refine gate_dst (N := 13) rfl ?_); refine Kd.S_make (Kd.slice 3 (Kd.int .i64)) _ 22 rfl (N := 13) rfl 51 _ _ rfl ji3 rfl rfl Try.underlying51 (.slice none 0 0) 24 info22 rfl (by decide) (by omega) [] (ok := fun _ => True) (okp := fun _ => True) ⟨_, rfl, Kd.R_nil _ _ _ _ _⟩ (fun _ hk => hk) trivial (of_decide_eq_true (by first | (with_reducible assumption) | assumption)) (Nat.le_trans (Nat.mul_le_mul_right _ (of_decide_eq_true (by first | (with_reducible assumption) | assumption) : ji3.toNat ≤ 11728124029610)) (by omega)) (Below.refl _ _) (Nat.le_refl _) ?_; intro v102 w6 ho7 hb hg_ hnew_; clear hg_ hnew_; (first | rw [← Ny101.out] at ho7 | (simp only [Int.reduceToNat] at ho7; rw [← Ny101.out] at ho7)); have n0_ := Aside0.mk (Kd.S_lower ho7 (below_size (by repeat (first | (with_reducible first | exact HB.out | apply below_alloc | apply pw_below_drewN | apply below_drew1) | exact HB.out)))); have n1_ := Aside0.mk (below_step (by repeat (first | (with_reducible first | exact HB.out | apply below_alloc | apply pw_below_drewN | apply below_drew1) | exact HB.out)) hb); clear HB; have HO103 := n0_; have HB := n1_; clear n0_ n1_; clear hb ho7; obtain ⟨Ao8, co8, eo8⟩ := Kd.S_slice HO103.out; subst eo8)); try go_wp2_with (first | ((with_reducible refine gate_dst (N := 13) rfl ?_); refine Kd.S_make (Kd.slice 3 (Kd.int .i64)) _ 22 rfl (N := 13) rfl 51 _ _ rfl ji3 rfl rfl Try.underlying51 (.slice none 0 0) 24 info22 rfl (by decide) (by omega) [] (ok := fun _ => True) (okp := fun _ => True) ⟨_, rfl, Kd.R_nil _ _ _ _ _⟩ (fun _ hk => hk) trivial (of_decide_eq_true (by first | (with_reducible assumption) | assumption)) (Nat.le_trans (Nat.mul_le_mul_right _ (of_decide_eq_true (by first | (with_reducible assumption) | assumption) : ji3.toNat ≤ 11728124029610)) (by omega)) (Below.refl _ _) (Nat.le_refl _) ?_; intro v102 w6 ho7 hb hg_ hnew_; clear hg_ hnew_; (first | rw [← Ny101.out] at ho7 | (simp only [Int.reduceToNat] at ho7; rw [← Ny101.out] at ho7)); have n0_ := Aside0.mk (Kd.S_lower ho7 (below_size (by repeat (first | (with_reducible first | exact HB.out | apply below_alloc | apply pw_below_drewN | apply below_drew1) | exact HB.out)))); have n1_ := Aside0.mk (below_step (by repeat (first | (with_reducible first | exact HB.out | apply below_alloc | apply pw_below_drewN | apply below_drew1) | exact HB.out)) hb); clear HB; have HO103 := n0_; have HB := n1_; clear n0_ n1_; clear hb ho7; obtain ⟨Ao8, co8, eo8⟩ := Kd.S_slice HO103.out; subst eo8)))
      go_loopg [16] k (fun kq v16 w' => ∃ (x5_1 : List (List Int)) (x16_1 : Int), v16 = .int .i64 x16_1 ∧ Aside0 (impl_byLines.l0 kq a1 x5_1 (y101.length : Int) x16_1 = some r) ∧ Aside0 (kq ≤ k) ∧ Aside0 (Kd.S (Kd.slice 3 (Kd.int .i64)) 22 w' w.heap.size (fun _ => True) (.slice Ao8 y101.length co8) x5_1) ∧ Aside0 (Below w.heap.size w w'))
      case atStart => exact ⟨(y101), (0), (by first | rfl | (simp; done) | (simp [*]; done)), H', ⟨Nat.le_refl _⟩, ⟨by (with_reducible repeat (first | apply Kd.S_alloc | apply Kd.S_drewN | apply Kd.S_drew)); exact HO103.out⟩, ⟨by repeat (first | (with_reducible first | exact HB.out | apply below_alloc | apply pw_below_drewN | apply below_drew1) | exact HB.out)⟩⟩
      case round =>
        clear H'
        try clear p2
        try clear c3
        try clear c4
        try clear c4b0
        try clear c4b1
        try clear c5
        try clear c5b0
        try clear c5b1
        try clear p6
        obtain ⟨x5_1, x16_1, rfl, HA, HK1, HO_5, HB⟩ := hrel
        have hl5_1 := (Kd.S_reads' HO_5.out).1
        rw [hl5_1] at HO_5
        (try simp only [hl5_1])
        cases gk with
        | zero => exact absurd HA.out (by simp [impl_byLines.l0])
        | succ k1 =>
          have H := HA.out
          clear HA
          simp only [impl_byLines.l0] at H
          by_cases c9 : x16_1 < (y101.length : Int)
          · rw [if_pos c9] at H
            have c9b0 : decide (x16_1 < (y101.length : Int)) = true := decide_eq_true c9
            have c9b0x := c9b0
            (try simp only [hl5_1] at c9b0x)
            (try simp only [hl5_2] at c9b0x)
            clear c9
            obtain ⟨ji10, hji10⟩ : ∃ j_ : Int, (wrap64 (a1 + 1)) = j_ := ⟨_, rfl⟩
            replace H : (if 0 ≤ (ji10) then (if (ji10 : Int).toNat ≤ 35184372088832 then (if 0 ≤ x16_1 then (if x16_1 < (x5_1.length : Int) then (impl_byLines.l1 k1 a1 (x5_1.set (x16_1 : Int).toNat (List.replicate (ji10 : Int).toNat 0)) x16_1 1 (y101.length : Int) x16_1) else (none)) else (none)) else (none)) else (none)) = some r := by first | (rw [hji10] at H; exact H) | (simp only [hji10] at H ⊢; exact H)
            have hji10w : (IntKind.i64.wrap (a1 + 1)) = ji10 := (i64_w _).trans hji10
            by_cases c11 : 0 ≤ (ji10)
            · rw [if_pos c11] at H
              have c11b0 := eq_true c11
              have c11b1 : decide (0 ≤ (ji10)) = true := decide_eq_true c11
              clear c11
              by_cases c12 : (ji10 : Int).toNat ≤ 35184372088832
              · rw [if_pos c12] at H
                have c12b0 := eq_true c12
                have c12b1 : decide ((ji10 : Int).toNat ≤ 35184372088832) = true := decide_eq_true c12
                clear c12
                obtain ⟨y104, hy104⟩ : ∃ y_ : List Int, y_ = (List.replicate (ji10 : Int).toNat 0) := ⟨_, rfl⟩
                replace H : (if 0 ≤ x16_1 then (if x16_1 < (x5_1.length : Int) then (impl_byLines.l1 k1 a1 (x5_1.set (x16_1 : Int).toNat y104) x16_1 1 (y101.length : Int) x16_1) else (none)) else (none)) = some r := by first | (rw [hy104]; with_reducible exact H) | (have H2_ := (Option.bind_some _ _).symm.trans H; rw [hy104]; with_reducible exact H2_) | (have H2_ := (Option.bind_some _ _).symm.trans H; with_reducible exact H2_) | with_reducible exact H | (rw [hy104]; exact H) | exact H
                have Ny104 := Aside0.mk hy104
                clear hy104
                by_cases c13 : 0 ≤ x16_1
                · rw [if_pos c13] at H
                  have c13b0 : decide (0 ≤ x16_1) = true := decide_eq_true c13
                  clear c13
                  by_cases c14 : x16_1 < (x5_1.length : Int)
                  · rw [if_pos c14] at H
                    have c14b0 : decide (x16_1 < (x5_1.length : Int)) = true := decide_eq_true c14
                    have c14b0x := c14b0
                    (try simp only [hl5_1] at c14b0x)
                    (try simp only [hl5_2] at c14b0x)
                    clear c14
                    obtain ⟨y107, hy107⟩ : ∃ y_ : List (List Int), y_ = (x5_1.set (x16_1 : Int).toNat y104) := ⟨_, rfl⟩
                    replace H : (impl_byLines.l1 k1 a1 y107 x16_1 1 (y101.length : Int) x16_1) = some r := by first | (rw [hy107]; with_reducible exact H) | (have H2_ := (Option.bind_some _ _).symm.trans H; rw [hy107]; with_reducible exact H2_) | (have H2_ := (Option.bind_some _ _).symm.trans H; with_reducible exact H2_) | with_reducible exact H | (rw [hy107]; exact H) | exact H
                    have Ny107 := Aside0.mk hy107
                    clear hy107
                    have H' := Aside0.mk H
                    clear H
                    go_wp2_with (first | ((with_reducible refine gate_dst (N := 23) rfl ?_); refine Kd.R_make (Kd.int .i64) _ 3 rfl (N := 23) rfl 22 _ _ rfl ji10 rfl rfl Try.underlying22 (.int .i64 0) 8 info3 rfl (by decide) (by omega) 0 (ok := fun _ => True) (okp := fun _ => True) rfl (fun _ hk => hk) trivial (of_decide_eq_true (by first | (with_reducible assumption) | assumption)) (Nat.le_trans (Nat.mul_le_mul_right _ (of_decide_eq_true (by first | (with_reducible assumption) | assumption) : ji10.toNat ≤ 35184372088832)) (by omega)) (Below.refl _ _) (Nat.le_refl _) ?_; intro v105 w16 ho17 hb hg_ hnew_; clear hg_ hnew_; (first | rw [← Ny104.out] at ho17 | (simp only [Int.reduceToNat] at ho17; rw [← Ny104.out] at ho17)); have n0_ := Aside0.mk (Kd.S_elder' (by (with_reducible repeat (first | apply Kd.S_alloc | apply Kd.S_drewN | apply Kd.S_drew)); exact HO_5.out) (Kd.R_base ho17) hb); have n1_ := Aside0.mk (Kd.R_lower ho17 (below_size (by repeat (first | (with_reducible first | exact HB.out | apply below_alloc | apply pw_below_drewN | apply below_drew1) | exact HB.out)))); have n2_ := Aside0.mk (below_step (by repeat (first | (with_reducible first | exact HB.out | apply below_alloc | apply pw_below_drewN | apply below_drew1) | exact HB.out)) hb); clear HO_5; clear HB; have HO_5 := n0_; have HO106 := n1_; have HB := n2_; clear n0_ n1_ n2_; clear hb ho17; have p15 : 0 ≤ (x16_1 : Int) := of_decide_eq_true (by first | (with_reducible assumption) | assumption); have q15 : (x16_1 : Int) < ((x5_1.length : Int) : Int) := of_decide_eq_true (by first | (with_reducible assumption) | assumption); obtain ⟨go15, co15, eo15, gb15, gl15, cl15, HG15⟩ := Kd.S_form HO_5.out (by omega); (first | cases eo15 | (injection eo15 with ea_ en_ ec_; (first | subst ea_ | (injection ea_ with ea_; subst ea_)); subst ec_; clear en_)); have GB15 := Aside0.mk gb15; have GG15 := Aside0.mk HG15; clear gb15 gl15 HG15; obtain ⟨_, ce15, hcl15, hM15, hcc15, hfr15, _, _⟩ := Kd.S_elem HO_5.out [] (x16_1 : Int) p15 q15; obtain ⟨ve15_0, rfl, ge15_0⟩ := hM15; have hx15_0 := hcc15 0 _ rfl; have hf15_0 := hfr15 0; (try simp only [show ((Kd.slice 3 (Kd.int .i64))).sz = 1 from rfl, Nat.mul_one, Nat.add_zero] at hx15_0); (try simp only [show ((Kd.slice 3 (Kd.int .i64))).sz = 1 from rfl, Nat.mul_one, Nat.add_zero] at hf15_0); clear hcl15 hcc15 hfr15; (try clear hM15); replace p15 := eq_true p15; replace q15 := eq_true q15; obtain ⟨Ao20, co20, eo20⟩ := Kd.R_slice HO106.out; subst eo20; have n_ := Aside0.mk (Kd.S_mono (ok' := (fun k_ => some k_ ≠ (.slice Ao20 y104.length co20 : Value).ownBlock)) HO_5.out (fun k_ hk => hk.2)); clear HO_5; have HO_5 := n_; clear n_; have HX18 := Aside0.mk (show Kd.S (Kd.slice 3 (Kd.int .i64)) 22 w16 w.heap.size (fun k_ => ((fun _ => True)) k_ ∧ ¬ ((fun k_ => some k_ = (.slice Ao20 y104.length co20 : Value).ownBlock)) k_) (.slice (some ⟨go15, 0, none⟩) x5_1.length co8) x5_1 from (by (with_reducible repeat (first | apply Kd.S_alloc | apply Kd.S_drewN | apply Kd.S_drew)); exact Kd.S_mono HO_5.out (fun k_ hk => ⟨trivial, fun e_ => hk e_⟩))); obtain ⟨oki18, ce18, hcl18, hM18, hcc18, hfr18, hoki18, hH18⟩ := Kd.S_elem HX18.out [] (x16_1 : Int) (of_decide_eq_true (by first | (with_reducible assumption) | assumption)) (by have h_ : (x16_1 : Int) < ((x5_1.length : Int) : Int) := of_decide_eq_true (by first | (with_reducible assumption) | assumption); first | exact h_ | (have e_ := (Kd.S_reads' HO_5.out).1; omega) | simpa using h_); obtain ⟨ve18_0, rfl, ge18_0⟩ := hM18; have HP18 := Kd.S_seg hH18 (of_decide_eq_true (by first | (with_reducible assumption) | assumption)) (by have h_ : (x16_1 : Int) < ((x5_1.length : Int) : Int) := of_decide_eq_true (by first | (with_reducible assumption) | assumption); first | exact h_ | (have e_ := (Kd.S_reads' HO_5.out).1; omega) | simpa using h_) (seg := [.slice Ao20 y104.length co20]) (j := 0) (show 1 ≤ 1 from by decide) (x' := y104) (Kd.M_row (Kd.R_mono (Kd.R_tight rfl (Kd.R_mono (ok' := fun k_ => ((fun _ => True)) k_ ∧ k_ ≠ go15) (Kd.R_apart' (HO106.out) (Kd.S_typed HO_5.out) (by decide)) (fun k_ hk => ⟨trivial, fun e_ => (hk.2) (by rw [e_]; rfl)⟩))) (fun _ h_ => Or.inr (h_)))) (fun _ hk => hk) (fun k_ hk_ => ((Kd.R_mono (ok' := fun k_ => ((fun _ => True)) k_ ∧ k_ ≠ go15) (Kd.R_apart' (HO106.out) (Kd.S_typed HO_5.out) (by decide)) (fun k_ hk => ⟨trivial, fun e_ => (hk.2) (by rw [e_]; rfl)⟩))).1 k_ hk_.symm); have hx18_0 := hcc18 0 _ rfl; (try simp only [show ((Kd.slice 3 (Kd.int .i64))).sz = 1 from rfl, Nat.mul_one, Nat.add_zero] at hx18_0); have hf18_0 := hfr18 0; (try simp only [show ((Kd.slice 3 (Kd.int .i64))).sz = 1 from rfl, Nat.mul_one, Nat.add_zero] at hf18_0); clear hcl18 hcc18 hfr18; (try clear hM18); clear hoki18 hH18; (try simp only [show ((Kd.slice 3 (Kd.int .i64))).sz = 1 from rfl, Nat.mul_one, Nat.add_zero] at HP18)) | ((with_reducible refine gate_store (t := 22) (p := 24) rfl ?_); (try (rw [drewN_self w16]; generalize hq_ : World.drewN w16 _ = w16; have n0_ := Aside0.mk (Kd.S_at hq_ HO_5.out); have n1_ := Aside0.mk (below_at hq_ HB.out); clear hq_ HO_5 HB; have HO_5 := n0_; have HB := n1_; clear n0_ n1_; (try (obtain ⟨Ao20, co20, eo20⟩ := Kd.R_slice HO106.out)); (try (subst eo20)); (try (have n_ := Aside0.mk (Kd.S_mono (ok' := (fun k_ => some k_ ≠ (.slice Ao20 y104.length co20 : Value).ownBlock)) HO_5.out (fun k_ hk => hk.2)); clear HO_5; have HO_5 := n_; clear n_)); (try (have HX18 := Aside0.mk (show Kd.S (Kd.slice 3 (Kd.int .i64)) 22 w16 w.heap.size (fun k_ => ((fun _ => True)) k_ ∧ ¬ ((fun k_ => some k_ = (.slice Ao20 y104.length co20 : Value).ownBlock)) k_) (.slice (some ⟨go15, 0, none⟩) x5_1.length co8) x5_1 from (by (with_reducible repeat (first | apply Kd.S_alloc | apply Kd.S_drewN | apply Kd.S_drew)); exact Kd.S_mono HO_5.out (fun k_ hk => ⟨trivial, fun e_ => hk e_⟩))))); (try (obtain ⟨oki18, ce18, hcl18, hM18, hcc18, hfr18, hoki18, hH18⟩ := Kd.S_elem HX18.out [] (x16_1 : Int) (of_decide_eq_true (by first | (with_reducible assumption) | assumption)) (by have h_ : (x16_1 : Int) < ((x5_1.length : Int) : Int) := of_decide_eq_true (by first | (with_reducible assumption) | assumption); first | exact h_ | (have e_ := (Kd.S_reads' HO_5.out).1; omega) | simpa using h_))); (try (obtain ⟨ve18_0, rfl, ge18_0⟩ := hM18)); (try (have HP18 := Kd.S_seg hH18 (of_decide_eq_true (by first | (with_reducible assumption) | assumption)) (by have h_ : (x16_1 : Int) < ((x5_1.length : Int) : Int) := of_decide_eq_true (by first | (with_reducible assumption) | assumption); first | exact h_ | (have e_ := (Kd.S_reads' HO_5.out).1; omega) | simpa using h_) (seg := [.slice Ao20 y104.length co20]) (j := 0) (show 1 ≤ 1 from by decide) (x' := y104) (Kd.M_row (Kd.R_mono (Kd.R_tight rfl (Kd.R_mono (ok' := fun k_ => ((fun _ => True)) k_ ∧ k_ ≠ go15) (Kd.R_apart' (HO106.out) (Kd.S_typed HO_5.out) (by decide)) (fun k_ hk => ⟨trivial, fun e_ => (hk.2) (by rw [e_]; rfl)⟩))) (fun _ h_ => Or.inr (h_)))) (fun _ hk => hk) (fun k_ hk_ => ((Kd.R_mono (ok' := fun k_ => ((fun _ => True)) k_ ∧ k_ ≠ go15) (Kd.R_apart' (HO106.out) (Kd.S_typed HO_5.out) (by decide)) (fun k_ hk => ⟨trivial, fun e_ => (hk.2) (by rw [e_]; rfl)⟩))).1 k_ hk_.symm))); (try (have hx18_0 := hcc18 0 _ rfl)); (try (try simp only [show ((Kd.slice 3 (Kd.int .i64))).sz = 1 from rfl, Nat.mul_one, Nat.add_zero] at hx18_0)); (try (have hf18_0 := hfr18 0)); (try (try simp only [show ((Kd.slice 3 (Kd.int .i64))).sz = 1 from rfl, Nat.mul_one, Nat.add_zero] at hf18_0)); (try (clear hcl18 hcc18 hfr18; (try clear hM18); clear hoki18 hH18)); (try (try simp only [show ((Kd.slice 3 (Kd.int .i64))).sz = 1 from rfl, Nat.mul_one, Nat.add_zero] at HP18)))); refine store_event (t := 22) (p := 24) (v := ?vo_w19) (w1 := (w16.setCell ⟨go15, (x16_1 : Int).toNat, none⟩ (.slice Ao20 y104.length co20))) ?hg ?ho ?hn ?hr ?_; (case ho => rfl); (case hg => rfl); (case hn => rfl); (case hr => first | (go_simp; done) | (go_simp; rfl)); intro w19 hw; have hg : w16.grownBy w19 (some go15) := (by rw [hw]; exact HP18.2); have hp_ : Kd.S (Kd.slice 3 (Kd.int .i64)) 22 w19 w.heap.size (fun _ => True) (.slice (some ⟨go15, 0, none⟩) x5_1.length co8) y107 := (by rw [hw, Ny107.out]; exact HP18.1); clear HP18; have n0_ := Aside0.mk (hp_); have n1_ := Aside0.mk ((by rw [hw]; exact below_set (HB.out) GB15.out : Below w.heap.size w w19)); clear HO_5; clear HB; clear HO106; have HO_5 := n0_; have HB := n1_; clear n0_ n1_; clear hg hw hp_))
                    repeat (go_quiet (first | ((with_reducible refine gate_dst (N := 23) rfl ?_); refine Kd.R_make (Kd.int .i64) _ 3 rfl (N := 23) rfl 22 _ _ rfl ji10 rfl rfl Try.underlying22 (.int .i64 0) 8 info3 rfl (by decide) (by omega) 0 (ok := fun _ => True) (okp := fun _ => True) rfl (fun _ hk => hk) trivial (of_decide_eq_true (by first | (with_reducible assumption) | assumption)) (Nat.le_trans (Nat.mul_le_mul_right _ (of_decide_eq_true (by first | (with_reducible assumption) | assumption) : ji10.toNat ≤ 35184372088832)) (by omega)) (Below.refl _ _) (Nat.le_refl _) ?_; intro v105 w16 ho17 hb hg_ hnew_; clear hg_ hnew_; (first | rw [← Ny104.out] at ho17 | (simp only [Int.reduceToNat] at ho17; rw [← Ny104.out] at ho17)); have n0_ := Aside0.mk (Kd.S_elder' (by (with_reducible repeat (first | apply Kd.S_alloc | apply Kd.S_drewN | apply Kd.S_drew)); exact HO_5.out) (Kd.R_base ho17) hb); have n1_ := Aside0.mk (Kd.R_lower ho17 (below_size (by repeat (first | (with_reducible first | exact HB.out | apply below_alloc | apply pw_below_drewN | apply below_drew1) | exact HB.out)))); have n2_ := Aside0.mk (below_step (by repeat (first | (with_reducible first | exact HB.out | apply below_alloc | apply pw_below_drewN | apply below_drew1) | exact HB.out)) hb); clear HO_5; clear HB; have HO_5 := n0_; have HO106 := n1_; have HB := n2_; clear n0_ n1_ n2_; clear hb ho17; have p15 : 0 ≤ (x16_1 : Int) := of_decide_eq_true (by first | (with_reducible assumption) | assumption); have q15 : (x16_1 : Int) < ((x5_1.length : Int) : Int) := of_decide_eq_true (by first | (with_reducible assumption) | assumption); obtain ⟨go15, co15, eo15, gb15, gl15, cl15, HG15⟩ := Kd.S_form HO_5.out (by omega); (first | cases eo15 | (injection eo15 with ea_ en_ ec_; (first | subst ea_ | (injection ea_ with ea_; subst ea_)); subst ec_; clear en_)); have GB15 := Aside0.mk gb15; have GG15 := Aside0.mk HG15; clear gb15 gl15 HG15; obtain ⟨_, ce15, hcl15, hM15, hcc15, hfr15, _, _⟩ := Kd.S_elem HO_5.out [] (x16_1 : Int) p15 q15; obtain ⟨ve15_0, rfl, ge15_0⟩ := hM15; have hx15_0 := hcc15 0 _ rfl; have hf15_0 := hfr15 0; (try simp only [show ((Kd.slice 3 (Kd.int .i64))).sz = 1 from rfl, Nat.mul_one, Nat.add_zero] at hx15_0); (try simp only [show ((Kd.slice 3 (Kd.int .i64))).sz = 1 from rfl, Nat.mul_one, Nat.add_zero] at hf15_0); clear hcl15 hcc15 hfr15; (try clear hM15); replace p15 := eq_true p15; replace q15 := eq_true q15; obtain ⟨Ao20, co20, eo20⟩ := Kd.R_slice HO106.out; subst eo20; have n_ := Aside0.mk (Kd.S_mono (ok' := (fun k_ => some k_ ≠ (.slice Ao20 y104.length co20 : Value).ownBlock)) HO_5.out (fun k_ hk => hk.2)); clear HO_5; have HO_5 := n_; clear n_; have HX18 := Aside0.mk (show Kd.S (Kd.slice 3 (Kd.int .i64)) 22 w16 w.heap.size (fun k_ => ((fun _ => True)) k_ ∧ ¬ ((fun k_ => some k_ = (.slice Ao20 y104.length co20 : Value).ownBlock)) k_) (.slice (some ⟨go15, 0, none⟩) x5_1.length co8) x5_1 from (by (with_reducible repeat (first | apply Kd.S_alloc | apply Kd.S_drewN | apply Kd.S_drew)); exact Kd.S_mono HO_5.out (fun k_ hk => ⟨trivial, fun e_ => hk e_⟩))); obtain ⟨oki18, ce18, hcl18, hM18, hcc18, hfr18, hoki18, hH18⟩ := Kd.S_elem HX18.out [] (x16_1 : Int) (of_decide_eq_true (by first | (with_reducible assumption) | assumption)) (by have h_ : (x16_1 : Int) < ((x5_1.length : Int) : Int) := of_decide_eq_true (by first | (with_reducible assumption) | assumption); first | exact h_ | (have e_ := (Kd.S_reads' HO_5.out).1; omega) | simpa using h_); obtain ⟨ve18_0, rfl, ge18_0⟩ := hM18; have HP18 := Kd.S_seg hH18 (of_decide_eq_true (by first | (with_reducible assumption) | assumption)) (by have h_ : (x16_1 : Int) < ((x5_1.length : Int) : Int) := of_decide_eq_true (by first | (with_reducible assumption) | assumption); first | exact h_ | (have e_ := (Kd.S_reads' HO_5.out).1; omega) | simpa using h_) (seg := [.slice Ao20 y104.length co20]) (j := 0) (show 1 ≤ 1 from by decide) (x' := y104) (Kd.M_row (Kd.R_mono (Kd.R_tight rfl (Kd.R_mono (ok' := fun k_ => ((fun _ => True)) k_ ∧ k_ ≠ go15) (Kd.R_apart' (HO106.out) (Kd.S_typed HO_5.out) (by decide)) (fun k_ hk => ⟨trivial, fun e_ => (hk.2) (by rw [e_]; rfl)⟩))) (fun _ h_ => Or.inr (h_)))) (fun _ hk => hk) (fun k_ hk_ => ((Kd.R_mono (ok' := fun k_ => ((fun _ => True)) k_ ∧ k_ ≠ go15) (Kd.R_apart' (HO106.out) (Kd.S_typed HO_5.out) (by decide)) (fun k_ hk => ⟨trivial, fun e_ => (hk.2) (by rw [e_]; rfl)⟩))).1 k_ hk_.symm); have hx18_0 := hcc18 0 _ rfl; (try simp only [show ((Kd.slice 3 (Kd.int .i64))).sz = 1 from rfl, Nat.mul_one, Nat.add_zero] at hx18_0); have hf18_0 := hfr18 0; (try simp only [show ((Kd.slice 3 (Kd.int .i64))).sz = 1 from rfl, Nat.mul_one, Nat.add_zero] at hf18_0); clear hcl18 hcc18 hfr18; (try clear hM18); clear hoki18 hH18; (try simp only [show ((Kd.slice 3 (Kd.int .i64))).sz = 1 from rfl, Nat.mul_one, Nat.add_zero] at HP18)) | ((with_reducible refine gate_store (t := 22) (p := 24) rfl ?_); (try (rw [drewN_self w16]; generalize hq_ : World.drewN w16 _ = w16; have n0_ := Aside0.mk (Kd.S_at hq_ HO_5.out); have n1_ := Aside0.mk (below_at hq_ HB.out); clear hq_ HO_5 HB; have HO_5 := n0_; have HB := n1_; clear n0_ n1_; (try (obtain ⟨Ao20, co20, eo20⟩ := Kd.R_slice HO106.out)); (try (subst eo20)); (try (have n_ := Aside0.mk (Kd.S_mono (ok' := (fun k_ => some k_ ≠ (.slice Ao20 y104.length co20 : Value).ownBlock)) HO_5.out (fun k_ hk => hk.2)); clear HO_5; have HO_5 := n_; clear n_)); (try (have HX18 := Aside0.mk (show Kd.S (Kd.slice 3 (Kd.int .i64)) 22 w16 w.heap.size (fun k_ => ((fun _ => True)) k_ ∧ ¬ ((fun k_ => some k_ = (.slice Ao20 y104.length co20 : Value).ownBlock)) k_) (.slice (some ⟨go15, 0, none⟩) x5_1.length co8) x5_1 from (by (with_reducible repeat (first | apply Kd.S_alloc | apply Kd.S_drewN | apply Kd.S_drew)); exact Kd.S_mono HO_5.out (fun k_ hk => ⟨trivial, fun e_ => hk e_⟩))))); (try (obtain ⟨oki18, ce18, hcl18, hM18, hcc18, hfr18, hoki18, hH18⟩ := Kd.S_elem HX18.out [] (x16_1 : Int) (of_decide_eq_true (by first | (with_reducible assumption) | assumption)) (by have h_ : (x16_1 : Int) < ((x5_1.length : Int) : Int) := of_decide_eq_true (by first | (with_reducible assumption) | assumption); first | exact h_ | (have e_ := (Kd.S_reads' HO_5.out).1; omega) | simpa using h_))); (try (obtain ⟨ve18_0, rfl, ge18_0⟩ := hM18)); (try (have HP18 := Kd.S_seg hH18 (of_decide_eq_true (by first | (with_reducible assumption) | assumption)) (by have h_ : (x16_1 : Int) < ((x5_1.length : Int) : Int) := of_decide_eq_true (by first | (with_reducible assumption) | assumption); first | exact h_ | (have e_ := (Kd.S_reads' HO_5.out).1; omega) | simpa using h_) (seg := [.slice Ao20 y104.length co20]) (j := 0) (show 1 ≤ 1 from by decide) (x' := y104) (Kd.M_row (Kd.R_mono (Kd.R_tight rfl (Kd.R_mono (ok' := fun k_ => ((fun _ => True)) k_ ∧ k_ ≠ go15) (Kd.R_apart' (HO106.out) (Kd.S_typed HO_5.out) (by decide)) (fun k_ hk => ⟨trivial, fun e_ => (hk.2) (by rw [e_]; rfl)⟩))) (fun _ h_ => Or.inr (h_)))) (fun _ hk => hk) (fun k_ hk_ => ((Kd.R_mono (ok' := fun k_ => ((fun _ => True)) k_ ∧ k_ ≠ go15) (Kd.R_apart' (HO106.out) (Kd.S_typed HO_5.out) (by decide)) (fun k_ hk => ⟨trivial, fun e_ => (hk.2) (by rw [e_]; rfl)⟩))).1 k_ hk_.symm))); (try (have hx18_0 := hcc18 0 _ rfl)); (try (try simp only [show ((Kd.slice 3 (Kd.int .i64))).sz = 1 from rfl, Nat.mul_one, Nat.add_zero] at hx18_0)); (try (have hf18_0 := hfr18 0)); (try (try simp only [show ((Kd.slice 3 (Kd.int .i64))).sz = 1 from rfl, Nat.mul_one, Nat.add_zero] at hf18_0)); (try (clear hcl18 hcc18 hfr18; (try clear hM18); clear hoki18 hH18)); (try (try simp only [show ((Kd.slice 3 (Kd.int .i64))).sz = 1 from rfl, Nat.mul_one, Nat.add_zero] at HP18)))); refine store_event (t := 22) (p := 24) (v := ?vo_w19) (w1 := (w16.setCell ⟨go15, (x16_1 : Int).toNat, none⟩ (.slice Ao20 y104.length co20))) ?hg ?ho ?hn ?hr ?_; (case ho => rfl); (case hg => rfl); (case hn => rfl); (case hr => first | (go_simp; done) | (go_simp; rfl)); intro w19 hw; have hg : w16.grownBy w19 (some go15) := (by rw [hw]; exact HP18.2); have hp_ : Kd.S (Kd.slice 3 (Kd.int .i64)) 22 w19 w.heap.size (fun _ => True) (.slice (some ⟨go15, 0, none⟩) x5_1.length co8) y107 := (by rw [hw, Ny107.out]; exact HP18.1); clear HP18; have n0_ := Aside0.mk (hp_); have n1_ := Aside0.mk ((by rw [hw]; exact below_set (HB.out) GB15.out : Below w.heap.size w w19)); clear HO_5; clear HB; clear HO106; have HO_5 := n0_; have HB := n1_; clear n0_ n1_; clear hg hw hp_)); try go_wp2_with (first | ((with_reducible refine gate_dst (N := 23) rfl ?_); refine Kd.R_make (Kd.int .i64) _ 3 rfl (N := 23) rfl 22 _ _ rfl ji10 rfl rfl Try.underlying22 (.int .i64 0) 8 info3 rfl (by decide) (by omega) 0 (ok := fun _ => True) (okp := fun _ => True) rfl (fun _ hk => hk) trivial (of_decide_eq_true (by first | (with_reducible assumption) | assumption)) (Nat.le_trans (Nat.mul_le_mul_right _ (of_decide_eq_true (by first | (with_reducible assumption) | assumption) : ji10.toNat ≤ 35184372088832)) (by omega)) (Below.refl _ _) (Nat.le_refl _) ?_; intro v105 w16 ho17 hb hg_ hnew_; clear hg_ hnew_; (first | rw [← Ny104.out] at ho17 | (simp only [Int.reduceToNat] at ho17; rw [← Ny104.out] at ho17)); have n0_ := Aside0.mk (Kd.S_elder' (by (with_reducible repeat (first | apply Kd.S_alloc | apply Kd.S_drewN | apply Kd.S_drew)); exact HO_5.out) (Kd.R_base ho17) hb); have n1_ := Aside0.mk (Kd.R_lower ho17 (below_size (by repeat (first | (with_reducible first | exact HB.out | apply below_alloc | apply pw_below_drewN | apply below_drew1) | exact HB.out)))); have n2_ := Aside0.mk (below_step (by repeat (first | (with_reducible first | exact HB.out | apply below_alloc | apply pw_below_drewN | apply below_drew1) | exact HB.out)) hb); clear HO_5; clear HB; have HO_5 := n0_; have HO106 := n1_; have HB := n2_; clear n0_ n1_ n2_; clear hb ho17; have p15 : 0 ≤ (x16_1 : Int) := of_decide_eq_true (by first | (with_reducible assumption) | assumption); have q15 : (x16_1 : Int) < ((x5_1.length : Int) : Int) := of_decide_eq_true (by first | (with_reducible assumption) | assumption); obtain ⟨go15, co15, eo15, gb15, gl15, cl15, HG15⟩ := Kd.S_form HO_5.out (by omega); (first | cases eo15 | (injection eo15 with ea_ en_ ec_; (first | subst ea_ | (injection ea_ with ea_; subst ea_)); subst ec_; clear en_)); have GB15 := Aside0.mk gb15; have GG15 := Aside0.mk HG15; clear gb15 gl15 HG15; obtain ⟨_, ce15, hcl15, hM15, hcc15, hfr15, _, _⟩ := Kd.S_elem HO_5.out [] (x16_1 : Int) p15 q15; obtain ⟨ve15_0, rfl, ge15_0⟩ := hM15; have hx15_0 := hcc15 0 _ rfl; have hf15_0 := hfr15 0; (try simp only [show ((Kd.slice 3 (Kd.int .i64))).sz = 1 from rfl, Nat.mul_one, Nat.add_zero] at hx15_0); (try simp only [show ((Kd.slice 3 (Kd.int .i64))).sz = 1 from rfl, Nat.mul_one, Nat.add_zero] at hf15_0); clear hcl15 hcc15 hfr15; (try clear hM15); replace p15 := eq_true p15; replace q15 := eq_true q15; obtain ⟨Ao20, co20, eo20⟩ := Kd.R_slice HO106.out; subst eo20; have n_ := Aside0.mk (Kd.S_mono (ok' := (fun k_ => some k_ ≠ (.slice Ao20 y104.length co20 : Value).ownBlock)) HO_5.out (fun k_ hk => hk.2)); clear HO_5; have HO_5 := n_; clear n_; have HX18 := Aside0.mk (show Kd.S (Kd.slice 3 (Kd.int .i64)) 22 w16 w.heap.size (fun k_ => ((fun _ => True)) k_ ∧ ¬ ((fun k_ => some k_ = (.slice Ao20 y104.length co20 : Value).ownBlock)) k_) (.slice (some ⟨go15, 0, none⟩) x5_1.length co8) x5_1 from (by (with_reducible repeat (first | apply Kd.S_alloc | apply Kd.S_drewN | apply Kd.S_drew)); exact Kd.S_mono HO_5.out (fun k_ hk => ⟨trivial, fun e_ => hk e_⟩))); obtain ⟨oki18, ce18, hcl18, hM18, hcc18, hfr18, hoki18, hH18⟩ := Kd.S_elem HX18.out [] (x16_1 : Int) (of_decide_eq_true (by first | (with_reducible assumption) | assumption)) (by have h_ : (x16_1 : Int) < ((x5_1.length : Int) : Int) := of_decide_eq_true (by first | (with_reducible assumption) | assumption); first | exact h_ | (have e_ := (Kd.S_reads' HO_5.out).1; omega) | simpa using h_); obtain ⟨ve18_0, rfl, ge18_0⟩ := hM18; have HP18 := Kd.S_seg hH18 (of_decide_eq_true (by first | (with_reducible assumption) | assumption)) (by have h_ : (x16_1 : Int) < ((x5_1.length : Int) : Int) := of_decide_eq_true (by first | (with_reducible assumption) | assumption); first | exact h_ | (have e_ := (Kd.S_reads' HO_5.out).1; omega) | simpa using h_) (seg := [.slice Ao20 y104.length co20]) (j := 0) (show 1 ≤ 1 from by decide) (x' := y104) (Kd.M_row (Kd.R_mono (Kd.R_tight rfl (Kd.R_mono (ok' := fun k_ => ((fun _ => True)) k_ ∧ k_ ≠ go15) (Kd.R_apart' (HO106.out) (Kd.S_typed HO_5.out) (by decide)) (fun k_ hk => ⟨trivial, fun e_ => (hk.2) (by rw [e_]; rfl)⟩))) (fun _ h_ => Or.inr (h_)))) (fun _ hk => hk) (fun k_ hk_ => ((Kd.R_mono (ok' := fun k_ => ((fun _ => True)) k_ ∧ k_ ≠ go15) (Kd.R_apart' (HO106.out) (Kd.S_typed HO_5.out) (by decide)) (fun k_ hk => ⟨trivial, fun e_ => (hk.2) (by rw [e_]; rfl)⟩))).1 k_ hk_.symm); have hx18_0 := hcc18 0 _ rfl; (try simp only [show ((Kd.slice 3 (Kd.int .i64))).sz = 1 from rfl, Nat.mul_one, Nat.add_zero] at hx18_0); have hf18_0 := hfr18 0; (try simp only [show ((Kd.slice 3 (Kd.int .i64))).sz = 1 from rfl, Nat.mul_one, Nat.add_zero] at hf18_0); clear hcl18 hcc18 hfr18; (try clear hM18); clear hoki18 hH18; (try simp only [show ((Kd.slice 3 (Kd.int .i64))).sz = 1 from rfl, Nat.mul_one, Nat.add_zero] at HP18)) | ((with_reducible refine gate_store (t := 22) (p := 24) rfl ?_); (try (rw [drewN_self w16]; generalize hq_ : World.drewN w16 _ = w16; have n0_ := Aside0.mk (Kd.S_at hq_ HO_5.out); have n1_ := Aside0.mk (below_at hq_ HB.out); clear hq_ HO_5 HB; have HO_5 := n0_; have HB := n1_; clear n0_ n1_; (try (obtain ⟨Ao20, co20, eo20⟩ := Kd.R_slice HO106.out)); (try (subst eo20)); (try (have n_ := Aside0.mk (Kd.S_mono (ok' := (fun k_ => some k_ ≠ (.slice Ao20 y104.length co20 : Value).ownBlock)) HO_5.out (fun k_ hk => hk.2)); clear HO_5; have HO_5 := n_; clear n_)); (try (have HX18 := Aside0.mk (show Kd.S (Kd.slice 3 (Kd.int .i64)) 22 w16 w.heap.size (fun k_ => ((fun _ => True)) k_ ∧ ¬ ((fun k_ => some k_ = (.slice Ao20 y104.length co20 : Value).ownBlock)) k_) (.slice (some ⟨go15, 0, none⟩) x5_1.length co8) x5_1 from (by (with_reducible repeat (first | apply Kd.S_alloc | apply Kd.S_drewN | apply Kd.S_drew)); exact Kd.S_mono HO_5.out (fun k_ hk => ⟨trivial, fun e_ => hk e_⟩))))); (try (obtain ⟨oki18, ce18, hcl18, hM18, hcc18, hfr18, hoki18, hH18⟩ := Kd.S_elem HX18.out [] (x16_1 : Int) (of_decide_eq_true (by first | (with_reducible assumption) | assumption)) (by have h_ : (x16_1 : Int) < ((x5_1.length : Int) : Int) := of_decide_eq_true (by first | (with_reducible assumption) | assumption); first | exact h_ | (have e_ := (Kd.S_reads' HO_5.out).1; omega) | simpa using h_))); (try (obtain ⟨ve18_0, rfl, ge18_0⟩ := hM18)); (try (have HP18 := Kd.S_seg hH18 (of_decide_eq_true (by first | (with_reducible assumption) | assumption)) (by have h_ : (x16_1 : Int) < ((x5_1.length : Int) : Int) := of_decide_eq_true (by first | (with_reducible assumption) | assumption); first | exact h_ | (have e_ := (Kd.S_reads' HO_5.out).1; omega) | simpa using h_) (seg := [.slice Ao20 y104.length co20]) (j := 0) (show 1 ≤ 1 from by decide) (x' := y104) (Kd.M_row (Kd.R_mono (Kd.R_tight rfl (Kd.R_mono (ok' := fun k_ => ((fun _ => True)) k_ ∧ k_ ≠ go15) (Kd.R_apart' (HO106.out) (Kd.S_typed HO_5.out) (by decide)) (fun k_ hk => ⟨trivial, fun e_ => (hk.2) (by rw [e_]; rfl)⟩))) (fun _ h_ => Or.inr (h_)))) (fun _ hk => hk) (fun k_ hk_ => ((Kd.R_mono (ok' := fun k_ => ((fun _ => True)) k_ ∧ k_ ≠ go15) (Kd.R_apart' (HO106.out) (Kd.S_typed HO_5.out) (by decide)) (fun k_ hk => ⟨trivial, fun e_ => (hk.2) (by rw [e_]; rfl)⟩))).1 k_ hk_.symm))); (try (have hx18_0 := hcc18 0 _ rfl)); (try (try simp only [show ((Kd.slice 3 (Kd.int .i64))).sz = 1 from rfl, Nat.mul_one, Nat.add_zero] at hx18_0)); (try (have hf18_0 := hfr18 0)); (try (try simp only [show ((Kd.slice 3 (Kd.int .i64))).sz = 1 from rfl, Nat.mul_one, Nat.add_zero] at hf18_0)); (try (clear hcl18 hcc18 hfr18; (try clear hM18); clear hoki18 hH18)); (try (try simp only [show ((Kd.slice 3 (Kd.int .i64))).sz = 1 from rfl, Nat.mul_one, Nat.add_zero] at HP18)))); refine store_event (t := 22) (p := 24) (v := ?vo_w19) (w1 := (w16.setCell ⟨go15, (x16_1 : Int).toNat, none⟩ (.slice Ao20 y104.length co20))) ?hg ?ho ?hn ?hr ?_; (case ho => rfl); (case hg => rfl); (case hn => rfl); (case hr => first | (go_simp; done) | (go_simp; rfl)); intro w19 hw; have hg : w16.grownBy w19 (some go15) := (by rw [hw]; exact HP18.2); have hp_ : Kd.S (Kd.slice 3 (Kd.int .i64)) 22 w19 w.heap.size (fun _ => True) (.slice (some ⟨go15, 0, none⟩) x5_1.length co8) y107 := (by rw [hw, Ny107.out]; exact HP18.1); clear HP18; have n0_ := Aside0.mk (hp_); have n1_ := Aside0.mk ((by rw [hw]; exact below_set (HB.out) GB15.out : Below w.heap.size w w19)); clear HO_5; clear HB; clear HO106; have HO_5 := n0_; have HB := n1_; clear n0_ n1_; clear hg hw hp_)))
                    go_loopg [7] k1 (fun kq v7 w' => ∃ (x5_2 : List (List Int)) (x7_2 : Int), v7 = .int .i64 x7_2 ∧ Aside0 (impl_byLines.l1 kq a1 x5_2 x16_1 x7_2 (y101.length : Int) x16_1 = some r) ∧ Aside0 (kq ≤ k1) ∧ Aside0 (Kd.S (Kd.slice 3 (Kd.int .i64)) 22 w' w.heap.size (fun _ => True) (.slice (some ⟨go15, 0, none⟩) x5_1.length co8) x5_2) ∧ Aside0 (Below w.heap.size w w'))
                    case atStart => exact ⟨(y107), (1), (by first | rfl | (simp; done) | (simp [*]; done)), H', ⟨Nat.le_refl _⟩, ⟨by (try simp only [hl5_1]); (with_reducible repeat (first | apply Kd.S_alloc | apply Kd.S_drewN | apply Kd.S_drew)); exact HO_5.out⟩, ⟨by repeat (first | (with_reducible first | exact HB.out | apply below_alloc | apply pw_below_drewN | apply below_drew1) | exact HB.out)⟩⟩
                    case round =>
                      clear H'
                      try clear c1
                      try clear p1
                      try clear q1
                      try clear hx1
                      try clear p2
                      try clear c3
                      try clear c4
                      try clear c4b0
                      try clear c4b1
                      try clear c5
                      try clear c5b0
                      try clear c5b1
                      try clear p6
                      try clear c9
                      try clear c9b0
                      try clear c11
                      try clear c11b0
                      try clear c11b1
                      try clear c12
                      try clear c12b0
                      try clear c12b1
                      try clear c13
                      try clear c13b0
                      try clear c14
                      try clear c14b0
                      try clear c15
                      try clear p15
                      try clear q15
                      try clear hx15
                      try clear hf15
                      try clear c18
                      try clear hx18
                      try clear hf18
                      try clear hx15_0
                      try clear hx18_0
                      try clear p15
                      try clear p2
                      try clear p6
                      try clear q15
                      obtain ⟨x5_2, x7_2, rfl, HA, HK2, HO_5, HB⟩ := hrel
                      have hl5_2 := (Kd.S_reads' HO_5.out).1
                      rw [hl5_2] at HO_5
                      (try simp only [hl5_2])
                      cases gk with
                      | zero => exact absurd HA.out (by simp [impl_byLines.l1])
                      | succ k2 =>
                        have H := HA.out
                        clear HA
                        simp only [impl_byLines.l1] at H
                        have HC21 := Aside0.mk H
                        clear H
                        go_upto_region 7 with (fail)
                        repeat (go_quiet (fail); go_upto_region 7 with (fail))
                        go_cut [31] (fun v31 wc => ∃ (kq : Nat) (x31_20 : Bool), v31 = .bool x31_20 ∧ Aside0 (impl_byLines.j2 kq a1 x5_2 x16_1 x7_2 (y101.length : Int) x16_1 x31_20 = some r) ∧ Aside0 (kq ≤ k2) ∧ Aside0 (Kd.S (Kd.slice 3 (Kd.int .i64)) 22 wc w.heap.size (fun _ => True) (.slice (some ⟨go15, 0, none⟩) x5_2.length co8) x5_2) ∧ Aside0 (Below w.heap.size w wc))
                        case first =>
                          have H := HC21.out
                          clear HC21
                          by_cases c22 : x7_2 ≤ a1
                          · rw [if_pos c22] at H
                            have c22b0 : decide (x7_2 ≤ a1) = true := decide_eq_true c22
                            clear c22
                            (first | rw [c22b0] | (simp only [i64_w, i32_w]; rw [c22b0]) | skip)
                            have H' := Aside0.mk H
                            clear H
                            go_wp2
                            repeat (go_quiet (fail); try go_wp2)
                            go_meet
                            case rel => exact ⟨_, (decide (x16_1 > 0)), (by first | rfl | (simp; done) | (simp [*]; done)), H', ⟨by have := HK1.out; have := HK2.out; first | omega | exact Nat.le_refl _⟩, ⟨by (try simp only [hl5_1]); (try simp only [hl5_2]); (with_reducible repeat (first | apply Kd.S_alloc | apply Kd.S_drewN | apply Kd.S_drew)); exact HO_5.out⟩, ⟨by repeat (first | (with_reducible first | exact HB.out | apply below_alloc | apply pw_below_drewN | apply below_drew1) | exact HB.out)⟩⟩
                          · rw [if_neg c22] at H
                            have c22b0 : decide (x7_2 ≤ a1) = false := decide_eq_false c22
                            clear c22
                            (first | rw [c22b0] | (simp only [i64_w, i32_w]; rw [c22b0]) | skip)
                            have H' := Aside0.mk H
                            clear H
                            go_wp2
                            repeat (go_quiet (fail); try go_wp2)
                            go_meet
                            case rel => exact ⟨_, (false), (by first | rfl | (simp; done) | (simp [*]; done)), H', ⟨by have := HK1.out; have := HK2.out; first | omega | exact Nat.le_refl _⟩, ⟨by (try simp only [hl5_1]); (try simp only [hl5_2]); (with_reducible repeat (first | apply Kd.S_alloc | apply Kd.S_drewN | apply Kd.S_drew)); exact HO_5.out⟩, ⟨by repeat (first | (with_reducible first | exact HB.out | apply below_alloc | apply pw_below_drewN | apply below_drew1) | exact HB.out)⟩⟩
                        case rest =>
                          clear HC21
                          try clear c1
                          try clear p1
                          try clear q1
                          try clear hx1
                          try clear c2
                          try clear p2
                          try clear c3
                          try clear c4
                          try clear c4b0
                          try clear c4b1
                          try clear c5
                          try clear c5b0
                          try clear c5b1
                          try clear p6
                          try clear c9
                          try clear c9b0
                          try clear c11
                          try clear c11b0
                          try clear c11b1
                          try clear c12
                          try clear c12b0
                          try clear c12b1
                          try clear c13
                          try clear c13b0
                          try clear c14
                          try clear c14b0
                          try clear c15
                          try clear p15
                          try clear q15
                          try clear hx15
                          try clear hf15
                          try clear c18
                          try clear hx18
                          try clear hf18
                          try clear c22
                          try clear c22b0
                          try clear hx15_0
                          try clear hx18_0
                          try clear p1
                          try clear p15
                          try clear p2
                          try clear p6
                          try clear q1
                          try clear q15
                          obtain ⟨kq, x31_20, rfl, HA, HJ20, HO_5, HB⟩ := hcut
                          cases kq with
                          | zero => exact absurd HA.out (by simp [impl_byLines.j2])
                          | succ kj20 =>
                            have H := HA.out
                            clear HA
                            simp only [impl_byLines.j2] at H
                            by_cases c23 : x31_20 = true
                            · subst c23
                              have H1 : (if x16_1 = x7_2 then (impl_byLines.j3 kj20 a1 x5_2 x16_1 x7_2 1 (y101.length : Int) x16_1) else (impl_byLines.j3 kj20 a1 x5_2 x16_1 x7_2 (wrap64 (x16_1 * x7_2)) (y101.length : Int) x16_1)) = some r := by rw [if_pos rfl] at H; exact H
                              clear H
                              have H := H1
                              clear H1
                              have HC24 := Aside0.mk H
                              clear H
                              go_upto_if 39 with (fail)
                              repeat (go_quiet (fail); go_upto_if 39 with (fail))
                              go_cut [8] (fun v8 wc => ∃ (kq : Nat) (x8_23 : Int), v8 = .int .i64 x8_23 ∧ Aside0 (impl_byLines.j3 kq a1 x5_2 x16_1 x7_2 x8_23 (y101.length : Int) x16_1 = some r) ∧ Aside0 (kq ≤ kj20) ∧ Aside0 (Kd.S (Kd.slice 3 (Kd.int .i64)) 22 wc w.heap.size (fun _ => True) (.slice (some ⟨go15, 0, none⟩) x5_2.length co8) x5_2) ∧ Aside0 (Below w.heap.size w wc))
                              case first =>
                                have H := HC24.out
                                clear HC24
                                by_cases c25 : x16_1 = x7_2
                                · rw [if_pos c25] at H
                                  have c25b0 : (x16_1 == x7_2) = true := beq_iff_eq.mpr c25
                                  have c25b1 : (x16_1 != x7_2) = false := bne_eq_false_iff_eq.mpr c25
                                  clear c25
                                  (first | rw [c25b0] | (simp only [i64_w, i32_w]; rw [c25b0]) | skip)
                                  have H' := Aside0.mk H
                                  clear H
                                  go_wp2
                                  repeat (go_quiet (fail); try go_wp2)
                                  go_meet
                                  case rel => exact ⟨_, (1), (by first | rfl | (simp; done) | (simp [*]; done)), H', ⟨by have := HK1.out; have := HK2.out; have := HJ20.out; first | omega | exact Nat.le_refl _⟩, ⟨by (try simp only [hl5_1]); (try simp only [hl5_2]); (with_reducible repeat (first | apply Kd.S_alloc | apply Kd.S_drewN | apply Kd.S_drew)); exact HO_5.out⟩, ⟨by repeat (first | (with_reducible first | exact HB.out | apply below_alloc | apply pw_below_drewN | apply below_drew1) | exact HB.out)⟩⟩
                                · rw [if_neg c25] at H
                                  have c25b0 : (x16_1 == x7_2) = false := beq_eq_false_iff_ne.mpr c25
                                  have c25b1 : (x16_1 != x7_2) = true := bne_iff_ne.mpr c25
                                  (first | rw [c25b0] | (simp only [i64_w, i32_w]; rw [c25b0]) | skip)
                                  have H' := Aside0.mk H
                                  clear H
                                  go_wp2
                                  repeat (go_quiet (fail); try go_wp2)
                                  go_meet
                                  case rel => exact ⟨_, (wrap64 (x16_1 * x7_2)), (by first | rfl | (simp; done) | (simp [*]; done)), H', ⟨by have := HK1.out; have := HK2.out; have := HJ20.out; first | omega | exact Nat.le_refl _⟩, ⟨by (try simp only [hl5_1]); (try simp only [hl5_2]); (with_reducible repeat (first | apply Kd.S_alloc | apply Kd.S_drewN | apply Kd.S_drew)); exact HO_5.out⟩, ⟨by repeat (first | (with_reducible first | exact HB.out | apply below_alloc | apply pw_below_drewN | apply below_drew1) | exact HB.out)⟩⟩
                              case rest =>
                                clear HC24
                                try clear c1
                                try clear p1
                                try clear q1
                                try clear hx1
                                try clear c2
                                try clear p2
                                try clear c3
                                try clear c4
                                try clear c4b0
                                try clear c4b1
                                try clear c5
                                try clear c5b0
                                try clear c5b1
                                try clear p6
                                try clear c9
                                try clear c9b0
                                try clear c11
                                try clear c11b0
                                try clear c11b1
                                try clear c12
                                try clear c12b0
                                try clear c12b1
                                try clear c13
                                try clear c13b0
                                try clear c14
                                try clear c14b0
                                try clear c15
                                try clear p15
                                try clear q15
                                try clear hx15
                                try clear hf15
                                try clear c18
                                try clear hx18
                                try clear hf18
                                try clear c22
                                try clear c22b0
                                try clear c23
                                try clear c25
                                try clear c25b0
                                try clear c25b1
                                try clear hx15_0
                                try clear hx18_0
                                try clear p1
                                try clear p15
                                try clear p2
                                try clear p6
                                try clear q1
                                try clear q15
                                obtain ⟨kq, x8_23, rfl, HA, HJ23, HO_5, HB⟩ := hcut
                                cases kq with
                                | zero => exact absurd HA.out (by simp [impl_byLines.j3])
                                | succ kj23 =>
                                  have H := HA.out
                                  clear HA
                                  simp only [impl_byLines.j3] at H
                                  have H' := Aside0.mk H
                                  clear H
                                  go_wp2
                                  repeat (go_quiet (fail); try go_wp2)
                                  go_loopg [8, 9] kj23 (fun kq v8 v9 w' => ∃ (x8_5 : Int) (x9_5 : Int), v8 = .int .i64 x8_5 ∧ v9 = .int .i64 x9_5 ∧ Aside0 (impl_byLines.l2 kq a1 x5_2 x16_1 x7_2 x8_5 x9_5 (y101.length : Int) x16_1 = some r) ∧ Aside0 (kq ≤ kj23) ∧ Aside0 (Kd.S (Kd.slice 3 (Kd.int .i64)) 22 w' w.heap.size (fun _ => True) (.slice (some ⟨go15, 0, none⟩) x5_2.length co8) x5_2) ∧ Aside0 (Below w.heap.size w w'))
                                  case atStart => exact ⟨(x8_23), (1), (by first | rfl | (simp; done) | (simp [*]; done)), (by first | rfl | (simp; done) | (simp [*]; done)), H', ⟨Nat.le_refl _⟩, ⟨by (try simp only [hl5_1]); (try simp only [hl5_2]); (with_reducible repeat (first | apply Kd.S_alloc | apply Kd.S_drewN | apply Kd.S_drew)); exact HO_5.out⟩, ⟨by repeat (first | (with_reducible first | exact HB.out | apply below_alloc | apply pw_below_drewN | apply below_drew1) | exact HB.out)⟩⟩
                                  case round =>
                                    clear H'
                                    try clear c1
                                    try clear p1
                                    try clear q1
                                    try clear hx1
                                    try clear c2
                                    try clear p2
                                    try clear c3
                                    try clear c4
                                    try clear c4b0
                                    try clear c4b1
                                    try clear c5
                                    try clear c5b0
                                    try clear c5b1
                                    try clear p6
                                    try clear c9
                                    try clear c9b0
                                    try clear c11
                                    try clear c11b0
                                    try clear c11b1
                                    try clear c12
                                    try clear c12b0
                                    try clear c12b1
                                    try clear c13
                                    try clear c13b0
                                    try clear c14
                                    try clear c14b0
                                    try clear c15
                                    try clear p15
                                    try clear q15
                                    try clear hx15
                                    try clear hf15
                                    try clear c18
                                    try clear hx18
                                    try clear hf18
                                    try clear c22
                                    try clear c22b0
                                    try clear c23
                                    try clear c25
                                    try clear c25b0
                                    try clear c25b1
                                    try clear hx15_0
                                    try clear hx18_0
                                    try clear p1
                                    try clear p15
                                    try clear p2
                                    try clear p6
                                    try clear q1
                                    try clear q15
                                    obtain ⟨x8_5, x9_5, rfl, rfl, HA, HK5, HO_5, HB⟩ := hrel
                                    cases gk with
                                    | zero => exact absurd HA.out (by simp [impl_byLines.l2])
                                    | succ k5 =>
                                      have H := HA.out
                                      clear HA
                                      simp only [impl_byLines.l2] at H
                                      by_cases c26 : x9_5 ≤ (wrap64 (Int.tdiv x16_1 2))
                                      · rw [if_pos c26] at H
                                        have c26b0 : decide (x9_5 ≤ (wrap64 (Int.tdiv x16_1 2))) = true := decide_eq_true c26
                                        clear c26
                                        by_cases c27 : 0 ≤ x9_5
                                        · rw [if_pos c27] at H
                                          have c27b0 : decide (0 ≤ x9_5) = true := decide_eq_true c27
                                          clear c27
                                          by_cases c28 : x9_5 < (x5_2.length : Int)
                                          · rw [if_pos c28] at H
                                            have c28b0 : decide (x9_5 < (x5_2.length : Int)) = true := decide_eq_true c28
                                            have c28b0x := c28b0
                                            (try simp only [hl5_1] at c28b0x)
                                            (try simp only [hl5_2] at c28b0x)
                                            clear c28
                                            by_cases c29 : 0 ≤ x7_2
                                            · rw [if_pos c29] at H
                                              have c29b0 : decide (0 ≤ x7_2) = true := decide_eq_true c29
                                              clear c29
                                              by_cases c30 : x7_2 < ((rd_L1 x5_2 x9_5).length : Int)
                                              · rw [if_pos c30] at H
                                                have c30b0 : decide (x7_2 < ((rd_L1 x5_2 x9_5).length : Int)) = true := decide_eq_true c30
                                                have c30b0x := c30b0
                                                (try simp only [hl5_1] at c30b0x)
                                                (try simp only [hl5_2] at c30b0x)
                                                clear c30
                                                obtain ⟨ji31, hji31⟩ : ∃ j_ : Int, (wrap64 (x16_1 - x9_5)) = j_ := ⟨_, rfl⟩
                                                replace H : (if 0 ≤ (ji31) then (if (ji31) < (x5_2.length : Int) then (if x7_2 < ((rd_L1 x5_2 (ji31)).length : Int) then (impl_byLines.l2 k5 a1 x5_2 x16_1 x7_2 (mn x8_5 (wrap64 ((rd (rd_L1 x5_2 x9_5) x7_2) + (rd (rd_L1 x5_2 (ji31)) x7_2)))) (wrap64 (x9_5 + 1)) (y101.length : Int) x16_1) else (none)) else (none)) else (none)) = some r := by first | (rw [hji31] at H; exact H) | (simp only [hji31] at H ⊢; exact H)
                                                have hji31w : (IntKind.i64.wrap (x16_1 - x9_5)) = ji31 := (i64_w _).trans hji31
                                                by_cases c32 : 0 ≤ (ji31)
                                                · rw [if_pos c32] at H
                                                  have c32b0 : decide (0 ≤ (ji31)) = true := decide_eq_true c32
                                                  clear c32
                                                  by_cases c33 : (ji31) < (x5_2.length : Int)
                                                  · rw [if_pos c33] at H
                                                    have c33b0 : decide ((ji31) < (x5_2.length : Int)) = true := decide_eq_true c33
                                                    have c33b0x := c33b0
                                                    (try simp only [hl5_1] at c33b0x)
                                                    (try simp only [hl5_2] at c33b0x)
                                                    clear c33
                                                    by_cases c34 : x7_2 < ((rd_L1 x5_2 (ji31)).length : Int)
                                                    · rw [if_pos c34] at H
                                                      have c34b0 : decide (x7_2 < ((rd_L1 x5_2 (ji31)).length : Int)) = true := decide_eq_true c34
                                                      have c34b0x := c34b0
                                                      (try simp only [hl5_1] at c34b0x)
                                                      (try simp only [hl5_2] at c34b0x)
                                                      clear c34
                                                      obtain ⟨ji35, hji35⟩ : ∃ j_ : Int, (mn x8_5 (wrap64 ((rd (rd_L1 x5_2 x9_5) x7_2) + (rd (rd_L1 x5_2 (ji31)) x7_2)))) = j_ := ⟨_, rfl⟩
                                                      replace H : (impl_byLines.l2 k5 a1 x5_2 x16_1 x7_2 ji35 (wrap64 (x9_5 + 1)) (y101.length : Int) x16_1) = some r := by first | (rw [hji35] at H; exact H) | (simp only [hji35] at H ⊢; exact H)
                                                      have hji35_ : (if (wrap64 ((rd (rd_L1 x5_2 x9_5) x7_2) + (rd (rd_L1 x5_2 (ji31)) x7_2))) < x8_5 then (wrap64 ((rd (rd_L1 x5_2 x9_5) x7_2) + (rd (rd_L1 x5_2 (ji31)) x7_2))) else x8_5) = ji35 := hji35
                                                      have H' := Aside0.mk H
                                                      clear H
                                                      have p108 : 0 ≤ (x9_5 : Int) := of_decide_eq_true (by first | (with_reducible assumption) | assumption)
                                                      have q108 : x9_5 < (x5_2.length : Int) := of_decide_eq_true (by first | (with_reducible assumption) | assumption)
                                                      obtain ⟨ad108, A108_0, c108_0, e108, hx108_0, hl108_0, hi108_0⟩ := at_L1 (Kd.S_reads' HO_5.out).2.2 x9_5 p108 q108
                                                      obtain rfl : (⟨go15, 0, none⟩ : Addr) = ad108 := (by injection e108)
                                                      obtain ⟨ce108, hce108, hMe108, hcc108⟩ := Kd.S_get HO_5.out [] x9_5 p108 (by first | exact q108 | exact of_decide_eq_true (by first | (with_reducible assumption) | assumption) | (have e_ := (Kd.S_reads' HO_5.out).1; omega))
                                                      obtain ⟨ve108_0, rfl, ge108_0⟩ := hMe108
                                                      have hv108_0 := hcc108 0 _ rfl
                                                      rw [Nat.add_zero, show ((Kd.slice 3 (Kd.int .i64))).sz = 1 from rfl, Nat.mul_one] at hv108_0
                                                      replace hv108_0 := Option.some.inj (hv108_0.symm.trans hx108_0)
                                                      rw [hv108_0] at ge108_0
                                                      have HL108_0 := Aside0.mk (show Kd.R (Kd.int .i64) 3 _ _ _ _ (rd_L1 x5_2 x9_5) from ge108_0)
                                                      clear hv108_0 ge108_0
                                                      have HX108_0 := Aside0.mk hx108_0
                                                      clear hcc108 hce108
                                                      (first | simp only [add_plain] at hx108_0 | simp only [add_at] at hx108_0 | simp only [Addr.add, Nat.zero_add] at hx108_0 | skip)
                                                      have HR108_0 := Aside0.mk hi108_0
                                                      have HC108_0 := Aside0.mk hl108_0
                                                      clear hi108_0 hl108_0
                                                      replace p108 := eq_true p108
                                                      replace q108 := eq_true q108
                                                      have p109 : 0 ≤ (x7_2 : Int) := of_decide_eq_true (by first | (with_reducible assumption) | assumption)
                                                      have q109 : x7_2 < ((rd_L1 x5_2 x9_5).length : Int) := of_decide_eq_true (by first | (with_reducible assumption) | assumption)
                                                      obtain ⟨ad109, e109, hx109_0⟩ := Kd.at_int (by repeat (first | (with_reducible exact HR108_0.out) | (with_reducible refine Kd.C_alloc ?_ _) | (with_reducible refine Kd.C_drewN ?_ _) | (with_reducible refine Kd.C_drew ?_) | exact HR108_0.out)) x7_2 p109 q109
                                                      cases e109
                                                      replace p109 := eq_true p109
                                                      replace q109 := eq_true q109
                                                      have p110 : 0 ≤ ((ji31) : Int) := of_decide_eq_true (by first | (with_reducible assumption) | assumption)
                                                      have q110 : (ji31) < (x5_2.length : Int) := of_decide_eq_true (by first | (with_reducible assumption) | assumption)
                                                      obtain ⟨ad110, A110_0, c110_0, e110, hx110_0, hl110_0, hi110_0⟩ := at_L1 (Kd.S_reads' HO_5.out).2.2 (ji31) p110 q110
                                                      obtain rfl : (⟨go15, 0, none⟩ : Addr) = ad110 := (by injection e110)
                                                      obtain ⟨ce110, hce110, hMe110, hcc110⟩ := Kd.S_get HO_5.out [] (ji31) p110 (by first | exact q110 | exact of_decide_eq_true (by first | (with_reducible assumption) | assumption) | (have e_ := (Kd.S_reads' HO_5.out).1; omega))
                                                      obtain ⟨ve110_0, rfl, ge110_0⟩ := hMe110
                                                      have hv110_0 := hcc110 0 _ rfl
                                                      rw [Nat.add_zero, show ((Kd.slice 3 (Kd.int .i64))).sz = 1 from rfl, Nat.mul_one] at hv110_0
                                                      replace hv110_0 := Option.some.inj (hv110_0.symm.trans hx110_0)
                                                      rw [hv110_0] at ge110_0
                                                      have HL110_0 := Aside0.mk (show Kd.R (Kd.int .i64) 3 _ _ _ _ (rd_L1 x5_2 (ji31)) from ge110_0)
                                                      clear hv110_0 ge110_0
                                                      have HX110_0 := Aside0.mk hx110_0
                                                      clear hcc110 hce110
                                                      (first | simp only [add_plain] at hx110_0 | simp only [add_at] at hx110_0 | simp only [Addr.add, Nat.zero_add] at hx110_0 | skip)
                                                      have HR110_0 := Aside0.mk hi110_0
                                                      have HC110_0 := Aside0.mk hl110_0
                                                      clear hi110_0 hl110_0
                                                      replace p110 := eq_true p110
                                                      replace q110 := eq_true q110
                                                      have p111 : 0 ≤ (x7_2 : Int) := of_decide_eq_true (by first | (with_reducible assumption) | assumption)
                                                      have q111 : x7_2 < ((rd_L1 x5_2 (ji31)).length : Int) := of_decide_eq_true (by first | (with_reducible assumption) | assumption)
                                                      obtain ⟨ad111, e111, hx111_0⟩ := Kd.at_int (by repeat (first | (with_reducible exact HR110_0.out) | (with_reducible refine Kd.C_alloc ?_ _) | (with_reducible refine Kd.C_drewN ?_ _) | (with_reducible refine Kd.C_drew ?_) | exact HR110_0.out)) x7_2 p111 q111
                                                      cases e111
                                                      replace p111 := eq_true p111
                                                      replace q111 := eq_true q111
                                                      go_wp2
                                                      repeat (go_quiet (fail); try go_wp2)
                                                      go_roundg k5
                                                      case measure => have := HK1.out; have := HK2.out; have := HJ20.out; have := HJ23.out; have := HK5.out; omega
                                                      case rel => exact ⟨(ji35), (wrap64 (x9_5 + 1)), (by first | rfl | (simp; done) | (simp only [← hji35] <;> (first | rfl | simp)) | (simp [*]; done)), (by first | rfl | (simp; done) | (simp [*]; done)), H', ⟨by have := HK1.out; have := HK2.out; have := HJ20.out; have := HJ23.out; have := HK5.out; omega⟩, ⟨by (try simp only [hl5_1]); (try simp only [hl5_2]); (with_reducible repeat (first | apply Kd.S_alloc | apply Kd.S_drewN | apply Kd.S_drew)); exact HO_5.out⟩, ⟨by repeat (first | (with_reducible first | exact HB.out | apply below_alloc | apply pw_below_drewN | apply below_drew1) | exact HB.out)⟩⟩
                                                    · rw [if_neg c34] at H
                                                      exact absurd H (by simp)
                                                  · rw [if_neg c33] at H
                                                    exact absurd H (by simp)
                                                · rw [if_neg c32] at H
                                                  exact absurd H (by simp)
                                              · rw [if_neg c30] at H
                                                exact absurd H (by simp)
                                            · rw [if_neg c29] at H
                                              exact absurd H (by simp)
                                          · rw [if_neg c28] at H
                                            exact absurd H (by simp)
                                        · rw [if_neg c27] at H
                                          exact absurd H (by simp)
                                      · rw [if_neg c26] at H
                                        have c26b0 : decide (x9_5 ≤ (wrap64 (Int.tdiv x16_1 2))) = false := decide_eq_false c26
                                        clear c26
                                        have H' := Aside0.mk H
                                        clear H
                                        go_wp2
                                        repeat (go_quiet (fail); try go_wp2)
                                        go_loopg [8, 10] k5 (fun kq v8 v10 w' => ∃ (x8_6 : Int) (x10_6 : Int), v8 = .int .i64 x8_6 ∧ v10 = .int .i64 x10_6 ∧ Aside0 (impl_byLines.l3 kq a1 x5_2 x16_1 x7_2 x8_6 x10_6 (y101.length : Int) x16_1 = some r) ∧ Aside0 (kq ≤ k5) ∧ Aside0 (Kd.S (Kd.slice 3 (Kd.int .i64)) 22 w' w.heap.size (fun _ => True) (.slice (some ⟨go15, 0, none⟩) x5_2.length co8) x5_2) ∧ Aside0 (Below w.heap.size w w'))
                                        case atStart => exact ⟨(x8_5), (1), (by first | rfl | (simp; done) | (simp [*]; done)), (by first | rfl | (simp; done) | (simp [*]; done)), H', ⟨Nat.le_refl _⟩, ⟨by (try simp only [hl5_1]); (try simp only [hl5_2]); (with_reducible repeat (first | apply Kd.S_alloc | apply Kd.S_drewN | apply Kd.S_drew)); exact HO_5.out⟩, ⟨by repeat (first | (with_reducible first | exact HB.out | apply below_alloc | apply pw_below_drewN | apply below_drew1) | exact HB.out)⟩⟩
                                        case round =>
                                          clear H'
                                          try clear c1
                                          try clear p1
                                          try clear q1
                                          try clear hx1
                                          try clear c2
                                          try clear p2
                                          try clear c3
                                          try clear c4
                                          try clear c4b0
                                          try clear c4b1
                                          try clear c5
                                          try clear c5b0
                                          try clear c5b1
                                          try clear p6
                                          try clear c9
                                          try clear c9b0
                                          try clear c10
                                          try clear p10
                                          try clear q10
                                          try clear hx10
                                          try clear c11
                                          try clear c11b0
                                          try clear c11b1
                                          try clear p11
                                          try clear q11
                                          try clear hx11
                                          try clear c12
                                          try clear c12b0
                                          try clear c12b1
                                          try clear c13
                                          try clear c13b0
                                          try clear c14
                                          try clear c14b0
                                          try clear c15
                                          try clear p15
                                          try clear q15
                                          try clear hx15
                                          try clear hf15
                                          try clear c18
                                          try clear hx18
                                          try clear hf18
                                          try clear c22
                                          try clear c22b0
                                          try clear c23
                                          try clear c25
                                          try clear c25b0
                                          try clear c25b1
                                          try clear c26
                                          try clear c26b0
                                          try clear c27
                                          try clear c27b0
                                          try clear c28
                                          try clear c28b0
                                          try clear c29
                                          try clear c29b0
                                          try clear c30
                                          try clear c30b0
                                          try clear c32
                                          try clear c32b0
                                          try clear c33
                                          try clear c33b0
                                          try clear c34
                                          try clear c34b0
                                          try clear hx108_0
                                          try clear hx109_0
                                          try clear hx110_0
                                          try clear hx111_0
                                          try clear hx15_0
                                          try clear hx18_0
                                          try clear p1
                                          try clear p108
                                          try clear p109
                                          try clear p110
                                          try clear p111
                                          try clear p15
                                          try clear p2
                                          try clear p6
                                          try clear q1
                                          try clear q108
                                          try clear q109
                                          try clear q110
                                          try clear q111
                                          try clear q15
                                          obtain ⟨x8_6, x10_6, rfl, rfl, HA, HK6, HO_5, HB⟩ := hrel
                                          cases gk with
                                          | zero => exact absurd HA.out (by simp [impl_byLines.l3])
                                          | succ k6 =>
                                            have H := HA.out
                                            clear HA
                                            simp only [impl_byLines.l3] at H
                                            by_cases c36 : x10_6 ≤ (wrap64 (Int.tdiv x7_2 2))
                                            · rw [if_pos c36] at H
                                              have c36b0 : decide (x10_6 ≤ (wrap64 (Int.tdiv x7_2 2))) = true := decide_eq_true c36
                                              clear c36
                                              by_cases c37 : 0 ≤ x16_1
                                              · rw [if_pos c37] at H
                                                have c37b0 : decide (0 ≤ x16_1) = true := decide_eq_true c37
                                                clear c37
                                                by_cases c38 : x16_1 < (x5_2.length : Int)
                                                · rw [if_pos c38] at H
                                                  have c38b0 : decide (x16_1 < (x5_2.length : Int)) = true := decide_eq_true c38
                                                  have c38b0x := c38b0
                                                  (try simp only [hl5_1] at c38b0x)
                                                  (try simp only [hl5_2] at c38b0x)
                                                  clear c38
                                                  by_cases c39 : 0 ≤ x10_6
                                                  · rw [if_pos c39] at H
                                                    have c39b0 : decide (0 ≤ x10_6) = true := decide_eq_true c39
                                                    clear c39
                                                    by_cases c40 : x10_6 < ((rd_L1 x5_2 x16_1).length : Int)
                                                    · rw [if_pos c40] at H
                                                      have c40b0 : decide (x10_6 < ((rd_L1 x5_2 x16_1).length : Int)) = true := decide_eq_true c40
                                                      have c40b0x := c40b0
                                                      (try simp only [hl5_1] at c40b0x)
                                                      (try simp only [hl5_2] at c40b0x)
                                                      clear c40
                                                      obtain ⟨ji41, hji41⟩ : ∃ j_ : Int, (wrap64 (x7_2 - x10_6)) = j_ := ⟨_, rfl⟩
                                                      replace H : (if 0 ≤ (ji41) then (if (ji41) < ((rd_L1 x5_2 x16_1).length : Int) then (impl_byLines.l3 k6 a1 x5_2 x16_1 x7_2 (mn x8_6 (wrap64 ((rd (rd_L1 x5_2 x16_1) x10_6) + (rd (rd_L1 x5_2 x16_1) (ji41))))) (wrap64 (x10_6 + 1)) (y101.length : Int) x16_1) else (none)) else (none)) = some r := by first | (rw [hji41] at H; exact H) | (simp only [hji41] at H ⊢; exact H)
                                                      have hji41w : (IntKind.i64.wrap (x7_2 - x10_6)) = ji41 := (i64_w _).trans hji41
                                                      by_cases c42 : 0 ≤ (ji41)
                                                      · rw [if_pos c42] at H
                                                        have c42b0 : decide (0 ≤ (ji41)) = true := decide_eq_true c42
                                                        clear c42
                                                        by_cases c43 : (ji41) < ((rd_L1 x5_2 x16_1).length : Int)
                                                        · rw [if_pos c43] at H
                                                          have c43b0 : decide ((ji41) < ((rd_L1 x5_2 x16_1).length : Int)) = true := decide_eq_true c43
                                                          have c43b0x := c43b0
                                                          (try simp only [hl5_1] at c43b0x)
                                                          (try simp only [hl5_2] at c43b0x)
                                                          clear c43
                                                          obtain ⟨ji44, hji44⟩ : ∃ j_ : Int, (mn x8_6 (wrap64 ((rd (rd_L1 x5_2 x16_1) x10_6) + (rd (rd_L1 x5_2 x16_1) (ji41))))) = j_ := ⟨_, rfl⟩
                                                          replace H : (impl_byLines.l3 k6 a1 x5_2 x16_1 x7_2 ji44 (wrap64 (x10_6 + 1)) (y101.length : Int) x16_1) = some r := by first | (rw [hji44] at H; exact H) | (simp only [hji44] at H ⊢; exact H)
                                                          have hji44_ : (if (wrap64 ((rd (rd_L1 x5_2 x16_1) x10_6) + (rd (rd_L1 x5_2 x16_1) (ji41)))) < x8_6 then (wrap64 ((rd (rd_L1 x5_2 x16_1) x10_6) + (rd (rd_L1 x5_2 x16_1) (ji41)))) else x8_6) = ji44 := hji44
                                                          have H' := Aside0.mk H
                                                          clear H
                                                          have p112 : 0 ≤ (x16_1 : Int) := of_decide_eq_true (by first | (with_reducible assumption) | assumption)
                                                          have q112 : x16_1 < (x5_2.length : Int) := of_decide_eq_true (by first | (with_reducible assumption) | assumption)
                                                          obtain ⟨ad112, A112_0, c112_0, e112, hx112_0, hl112_0, hi112_0⟩ := at_L1 (Kd.S_reads' HO_5.out).2.2 x16_1 p112 q112
                                                          obtain rfl : (⟨go15, 0, none⟩ : Addr) = ad112 := (by injection e112)
                                                          obtain ⟨ce112, hce112, hMe112, hcc112⟩ := Kd.S_get HO_5.out [] x16_1 p112 (by first | exact q112 | exact of_decide_eq_true (by first | (with_reducible assumption) | assumption) | (have e_ := (Kd.S_reads' HO_5.out).1; omega))
                                                          obtain ⟨ve112_0, rfl, ge112_0⟩ := hMe112
                                                          have hv112_0 := hcc112 0 _ rfl
                                                          rw [Nat.add_zero, show ((Kd.slice 3 (Kd.int .i64))).sz = 1 from rfl, Nat.mul_one] at hv112_0
                                                          replace hv112_0 := Option.some.inj (hv112_0.symm.trans hx112_0)
                                                          rw [hv112_0] at ge112_0
                                                          have HL112_0 := Aside0.mk (show Kd.R (Kd.int .i64) 3 _ _ _ _ (rd_L1 x5_2 x16_1) from ge112_0)
                                                          clear hv112_0 ge112_0
                                                          have HX112_0 := Aside0.mk hx112_0
                                                          clear hcc112 hce112
                                                          (first | simp only [add_plain] at hx112_0 | simp only [add_at] at hx112_0 | simp only [Addr.add, Nat.zero_add] at hx112_0 | skip)
                                                          have HR112_0 := Aside0.mk hi112_0
                                                          have HC112_0 := Aside0.mk hl112_0
                                                          clear hi112_0 hl112_0
                                                          replace p112 := eq_true p112
                                                          replace q112 := eq_true q112
                                                          have p113 : 0 ≤ (x10_6 : Int) := of_decide_eq_true (by first | (with_reducible assumption) | assumption)
                                                          have q113 : x10_6 < ((rd_L1 x5_2 x16_1).length : Int) := of_decide_eq_true (by first | (with_reducible assumption) | assumption)
                                                          obtain ⟨ad113, e113, hx113_0⟩ := Kd.at_int (by repeat (first | (with_reducible exact HR112_0.out) | (with_reducible refine Kd.C_alloc ?_ _) | (with_reducible refine Kd.C_drewN ?_ _) | (with_reducible refine Kd.C_drew ?_) | exact HR112_0.out)) x10_6 p113 q113
                                                          cases e113
                                                          replace p113 := eq_true p113
                                                          replace q113 := eq_true q113
                                                          have p114 : 0 ≤ (x16_1 : Int) := of_decide_eq_true (by first | (with_reducible assumption) | assumption)
                                                          have q114 : x16_1 < (x5_2.length : Int) := of_decide_eq_true (by first | (with_reducible assumption) | assumption)
                                                          obtain ⟨ad114, A114_0, c114_0, e114, hx114_0, hl114_0, hi114_0⟩ := at_L1 (Kd.S_reads' HO_5.out).2.2 x16_1 p114 q114
                                                          obtain rfl : (⟨go15, 0, none⟩ : Addr) = ad114 := (by injection e114)
                                                          obtain ⟨ce114, hce114, hMe114, hcc114⟩ := Kd.S_get HO_5.out [] x16_1 p114 (by first | exact q114 | exact of_decide_eq_true (by first | (with_reducible assumption) | assumption) | (have e_ := (Kd.S_reads' HO_5.out).1; omega))
                                                          obtain ⟨ve114_0, rfl, ge114_0⟩ := hMe114
                                                          have hv114_0 := hcc114 0 _ rfl
                                                          rw [Nat.add_zero, show ((Kd.slice 3 (Kd.int .i64))).sz = 1 from rfl, Nat.mul_one] at hv114_0
                                                          replace hv114_0 := Option.some.inj (hv114_0.symm.trans hx114_0)
                                                          rw [hv114_0] at ge114_0
                                                          have HL114_0 := Aside0.mk (show Kd.R (Kd.int .i64) 3 _ _ _ _ (rd_L1 x5_2 x16_1) from ge114_0)
                                                          clear hv114_0 ge114_0
                                                          have HX114_0 := Aside0.mk hx114_0
                                                          clear hcc114 hce114
                                                          (first | simp only [add_plain] at hx114_0 | simp only [add_at] at hx114_0 | simp only [Addr.add, Nat.zero_add] at hx114_0 | skip)
                                                          have HR114_0 := Aside0.mk hi114_0
                                                          have HC114_0 := Aside0.mk hl114_0
                                                          clear hi114_0 hl114_0
                                                          replace p114 := eq_true p114
                                                          replace q114 := eq_true q114
                                                          have ea_ := Option.some.inj (hx112_0.symm.trans hx114_0)
                                                          injection ea_ with ea_ en_ ec_
                                                          subst ea_
                                                          subst ec_
                                                          clear en_
                                                          have p115 : 0 ≤ ((ji41) : Int) := of_decide_eq_true (by first | (with_reducible assumption) | assumption)
                                                          have q115 : (ji41) < ((rd_L1 x5_2 x16_1).length : Int) := of_decide_eq_true (by first | (with_reducible assumption) | assumption)
                                                          obtain ⟨ad115, e115, hx115_0⟩ := Kd.at_int (by repeat (first | (with_reducible exact HR114_0.out) | (with_reducible refine Kd.C_alloc ?_ _) | (with_reducible refine Kd.C_drewN ?_ _) | (with_reducible refine Kd.C_drew ?_) | exact HR114_0.out)) (ji41) p115 q115
                                                          cases e115
                                                          replace p115 := eq_true p115
                                                          replace q115 := eq_true q115
                                                          go_wp2
                                                          repeat (go_quiet (fail); try go_wp2)
                                                          go_roundg k6
                                                          case measure => have := HK1.out; have := HK2.out; have := HJ20.out; have := HJ23.out; have := HK5.out; have := HK6.out; omega
                                                          case rel => exact ⟨(ji44), (wrap64 (x10_6 + 1)), (by first | rfl | (simp; done) | (simp only [← hji44] <;> (first | rfl | simp)) | (simp [*]; done)), (by first | rfl | (simp; done) | (simp [*]; done)), H', ⟨by have := HK1.out; have := HK2.out; have := HJ20.out; have := HJ23.out; have := HK5.out; have := HK6.out; omega⟩, ⟨by (try simp only [hl5_1]); (try simp only [hl5_2]); (with_reducible repeat (first | apply Kd.S_alloc | apply Kd.S_drewN | apply Kd.S_drew)); exact HO_5.out⟩, ⟨by repeat (first | (with_reducible first | exact HB.out | apply below_alloc | apply pw_below_drewN | apply below_drew1) | exact HB.out)⟩⟩
                                                        · rw [if_neg c43] at H
                                                          exact absurd H (by simp)
                                                      · rw [if_neg c42] at H
                                                        exact absurd H (by simp)
                                                    · rw [if_neg c40] at H
                                                      exact absurd H (by simp)
                                                  · rw [if_neg c39] at H
                                                    exact absurd H (by simp)
                                                · rw [if_neg c38] at H
                                                  exact absurd H (by simp)
                                              · rw [if_neg c37] at H
                                                exact absurd H (by simp)
                                            · rw [if_neg c36] at H
                                              have c36b0 : decide (x10_6 ≤ (wrap64 (Int.tdiv x7_2 2))) = false := decide_eq_false c36
                                              clear c36
                                              by_cases c45 : 0 ≤ x16_1
                                              · rw [if_pos c45] at H
                                                have c45b0 : decide (0 ≤ x16_1) = true := decide_eq_true c45
                                                clear c45
                                                by_cases c46 : x16_1 < (x5_2.length : Int)
                                                · rw [if_pos c46] at H
                                                  have c46b0 : decide (x16_1 < (x5_2.length : Int)) = true := decide_eq_true c46
                                                  have c46b0x := c46b0
                                                  (try simp only [hl5_1] at c46b0x)
                                                  (try simp only [hl5_2] at c46b0x)
                                                  clear c46
                                                  by_cases c47 : 0 ≤ x7_2
                                                  · rw [if_pos c47] at H
                                                    have c47b0 : decide (0 ≤ x7_2) = true := decide_eq_true c47
                                                    clear c47
                                                    by_cases c48 : x7_2 < ((rd_L1 x5_2 x16_1).length : Int)
                                                    · rw [if_pos c48] at H
                                                      have c48b0 : decide (x7_2 < ((rd_L1 x5_2 x16_1).length : Int)) = true := decide_eq_true c48
                                                      have c48b0x := c48b0
                                                      (try simp only [hl5_1] at c48b0x)
                                                      (try simp only [hl5_2] at c48b0x)
                                                      clear c48
                                                      obtain ⟨y117, hy117⟩ : ∃ y_ : List Int, y_ = ((rd_L1 x5_2 x16_1).set (x7_2 : Int).toNat x8_6) := ⟨_, rfl⟩
                                                      replace H : (impl_byLines.l1 k6 a1 (x5_2.set (x16_1 : Int).toNat y117) x16_1 (wrap64 (x7_2 + 1)) (y101.length : Int) x16_1) = some r := by first | (rw [hy117]; with_reducible exact H) | (have H2_ := (Option.bind_some _ _).symm.trans H; rw [hy117]; with_reducible exact H2_) | (have H2_ := (Option.bind_some _ _).symm.trans H; with_reducible exact H2_) | with_reducible exact H | (rw [hy117]; exact H) | exact H
                                                      have Ny117 := Aside0.mk hy117
                                                      clear hy117
                                                      obtain ⟨y119, hy119⟩ : ∃ y_ : List (List Int), y_ = (x5_2.set (x16_1 : Int).toNat y117) := ⟨_, rfl⟩
                                                      replace H : (impl_byLines.l1 k6 a1 y119 x16_1 (wrap64 (x7_2 + 1)) (y101.length : Int) x16_1) = some r := by first | (rw [hy119]; with_reducible exact H) | (have H2_ := (Option.bind_some _ _).symm.trans H; rw [hy119]; with_reducible exact H2_) | (have H2_ := (Option.bind_some _ _).symm.trans H; with_reducible exact H2_) | with_reducible exact H | (rw [hy119]; exact H) | exact H
                                                      have Ny119 := Aside0.mk hy119
                                                      clear hy119
                                                      have H' := Aside0.mk H
                                                      clear H
                                                      have p116 : 0 ≤ (x16_1 : Int) := of_decide_eq_true (by first | (with_reducible assumption) | assumption)
                                                      have q116 : x16_1 < (x5_2.length : Int) := of_decide_eq_true (by first | (with_reducible assumption) | assumption)
                                                      obtain ⟨ad116, A116_0, c116_0, e116, hx116_0, hl116_0, hi116_0⟩ := at_L1 (Kd.S_reads' HO_5.out).2.2 x16_1 p116 q116
                                                      obtain rfl : (⟨go15, 0, none⟩ : Addr) = ad116 := (by injection e116)
                                                      obtain ⟨ce116, hce116, hMe116, hcc116⟩ := Kd.S_get HO_5.out [] x16_1 p116 (by first | exact q116 | exact of_decide_eq_true (by first | (with_reducible assumption) | assumption) | (have e_ := (Kd.S_reads' HO_5.out).1; omega))
                                                      obtain ⟨ve116_0, rfl, ge116_0⟩ := hMe116
                                                      have hv116_0 := hcc116 0 _ rfl
                                                      rw [Nat.add_zero, show ((Kd.slice 3 (Kd.int .i64))).sz = 1 from rfl, Nat.mul_one] at hv116_0
                                                      replace hv116_0 := Option.some.inj (hv116_0.symm.trans hx116_0)
                                                      rw [hv116_0] at ge116_0
                                                      have HL116_0 := Aside0.mk (show Kd.R (Kd.int .i64) 3 _ _ _ _ (rd_L1 x5_2 x16_1) from ge116_0)
                                                      clear hv116_0 ge116_0
                                                      have HX116_0 := Aside0.mk hx116_0
                                                      clear hcc116 hce116
                                                      (first | simp only [add_plain] at hx116_0 | simp only [add_at] at hx116_0 | simp only [Addr.add, Nat.zero_add] at hx116_0 | skip)
                                                      have HR116_0 := Aside0.mk hi116_0
                                                      have HC116_0 := Aside0.mk hl116_0
                                                      clear hi116_0 hl116_0
                                                      replace p116 := eq_true p116
                                                      replace q116 := eq_true q116
                                                      have p49 : 0 ≤ (x7_2 : Int) := of_decide_eq_true (by first | (with_reducible assumption) | assumption)
                                                      have q49 : (x7_2 : Int) < (((rd_L1 x5_2 x16_1).length : Int) : Int) := of_decide_eq_true (by first | (with_reducible assumption) | assumption)
                                                      obtain ⟨go49, co49, eo49, gb49, gl49, cl49, HG49⟩ := Kd.R_form HL116_0.out (by omega)
                                                      (first | cases eo49 | (injection eo49 with ea_ en_ ec_; (first | subst ea_ | (injection ea_ with ea_; subst ea_)); subst ec_; clear en_))
                                                      have GB49 := Aside0.mk gb49
                                                      have GG49 := Aside0.mk HG49
                                                      clear gb49 gl49 HG49
                                                      obtain ⟨hx49_0, hf49_0⟩ := Kd.R_celln 0 HL116_0.out (x7_2 : Int) p49 q49
                                                      replace p49 := eq_true p49
                                                      replace q49 := eq_true q49
                                                      have hq50 : (x16_1 : Int) < (x5_2.length : Int) := (by have h_ : (x16_1 : Int) < ((x5_2.length : Int) : Int) := of_decide_eq_true (by first | (with_reducible assumption) | assumption); first | exact h_ | (have e_ := (Kd.S_reads' HO_5.out).1; omega) | simpa only [List.length_set, List.length_set] using h_)
                                                      obtain ⟨oki50, ce50, hcl50, hM50, hcc50, hok50, hbk50⟩ := Kd.S_borrow HO_5.out [] (x16_1 : Int) (of_decide_eq_true (by first | (with_reducible assumption) | assumption)) hq50
                                                      obtain ⟨ve50_0, rfl, ge50_0⟩ := hM50
                                                      have hv50 := hcc50 0 _ rfl
                                                      rw [Nat.add_zero, show ((Kd.slice 3 (Kd.int .i64))).sz = 1 from rfl, Nat.mul_one] at hv50
                                                      replace hv50 := Option.some.inj (hv50.symm.trans HX116_0.out)
                                                      subst hv50
                                                      clear hcc50 hcl50
                                                      replace ge50_0 := (show Kd.R (Kd.int .i64) 3 _ _ _ _ (rd_L1 x5_2 x16_1) from ge50_0)
                                                      have HP50 := Kd.R_putg ge50_0 (x7_2 : Int) x8_6
                                                      go_wp2_with (first | ((with_reducible refine gate_store (t := 3) (p := 96) rfl ?_); (try (rw [drewN_self wr]; generalize hq_ : World.drewN wr _ = wr; have n0_ := Aside0.mk (Kd.S_at hq_ HO_5.out); have n1_ := Aside0.mk (Kd.R_at hq_ HL120.out); have n2_ := Aside0.mk (below_at hq_ HB.out); clear hq_ HO_5 HL120 HB; have HO_5 := n0_; have HL120 := n1_; have HB := n2_; clear n0_ n1_ n2_; (try (have hq50 : (x16_1 : Int) < (x5_2.length : Int) := (by have h_ : (x16_1 : Int) < ((x5_2.length : Int) : Int) := of_decide_eq_true (by first | (with_reducible assumption) | assumption); first | exact h_ | (have e_ := (Kd.S_reads' HO_5.out).1; omega) | simpa only [List.length_set, List.length_set] using h_))); (try (obtain ⟨oki50, ce50, hcl50, hM50, hcc50, hok50, hbk50⟩ := Kd.S_borrow HO_5.out [] (x16_1 : Int) (of_decide_eq_true (by first | (with_reducible assumption) | assumption)) hq50)); (try (obtain ⟨ve50_0, rfl, ge50_0⟩ := hM50)); (try (have hv50 := hcc50 0 _ rfl)); (try (rw [Nat.add_zero, show ((Kd.slice 3 (Kd.int .i64))).sz = 1 from rfl, Nat.mul_one] at hv50)); (try (replace hv50 := Option.some.inj (hv50.symm.trans HX116_0.out))); (try (subst hv50)); (try (clear hcc50 hcl50)); (try (replace ge50_0 := (show Kd.R (Kd.int .i64) 3 _ _ _ _ (rd_L1 x5_2 x16_1) from ge50_0))); (try (have HP50 := Kd.R_putg ge50_0 (x7_2 : Int) x8_6)))); refine store_event (t := 3) (p := 96) (v := ?vo_w51) (w1 := (wr.setCell ⟨go49, (x7_2 : Int).toNat, none⟩ (.int .i64 x8_6))) ?hg ?ho ?hn ?hr ?_; (case ho => rfl); (case hg => rfl); (case hn => rfl); (case hr => first | (go_simp; done) | (go_simp; rfl)); intro w51 hw; have hg : wr.grownBy w51 (some go49) := (by rw [hw]; exact HP50.2); have hz_ : Kd.R (Kd.int .i64) 3 w51 w.heap.size oki50 (.slice (some ⟨go49, 0, none⟩) (rd_L1 x5_2 x16_1).length c116_0) y117 := (by rw [hw, Ny117.out]; exact HP50.1); have hp_ : Kd.S (Kd.slice 3 (Kd.int .i64)) 22 w51 w.heap.size (fun _ => True) (.slice (some ⟨go15, 0, none⟩) x5_2.length co8) y119 := (by rw [Ny119.out]; exact hbk50 hg (fun k_ e_ => by injection e_ with e_; subst e_; exact ge50_0.1 _ rfl) (Kd.M_row hz_)); have hm_ := Kd.R_mono hz_ hok50; clear HP50 hbk50; have n0_ := Aside0.mk (hp_); have n1_ := Aside0.mk ((by rw [hw]; exact below_set (HB.out) GB49.out : Below w.heap.size w w51)); have n2_ := Aside0.mk (hm_); have n3_ := Aside0.mk ((Kd.R_reads' hm_).2.1); clear HO_5; clear HB; clear HL116_0; have HO_5 := n0_; have HB := n1_; have HL120 := n2_; have HC118 := n3_; clear n0_ n1_ n2_ n3_; clear hg hw hp_ hz_ hm_ hok50))
                                                      repeat (go_quiet (first | ((with_reducible refine gate_store (t := 3) (p := 96) rfl ?_); (try (rw [drewN_self wr]; generalize hq_ : World.drewN wr _ = wr; have n0_ := Aside0.mk (Kd.S_at hq_ HO_5.out); have n1_ := Aside0.mk (Kd.R_at hq_ HL120.out); have n2_ := Aside0.mk (below_at hq_ HB.out); clear hq_ HO_5 HL120 HB; have HO_5 := n0_; have HL120 := n1_; have HB := n2_; clear n0_ n1_ n2_; (try (have hq50 : (x16_1 : Int) < (x5_2.length : Int) := (by have h_ : (x16_1 : Int) < ((x5_2.length : Int) : Int) := of_decide_eq_true (by first | (with_reducible assumption) | assumption); first | exact h_ | (have e_ := (Kd.S_reads' HO_5.out).1; omega) | simpa only [List.length_set, List.length_set] using h_))); (try (obtain ⟨oki50, ce50, hcl50, hM50, hcc50, hok50, hbk50⟩ := Kd.S_borrow HO_5.out [] (x16_1 : Int) (of_decide_eq_true (by first | (with_reducible assumption) | assumption)) hq50)); (try (obtain ⟨ve50_0, rfl, ge50_0⟩ := hM50)); (try (have hv50 := hcc50 0 _ rfl)); (try (rw [Nat.add_zero, show ((Kd.slice 3 (Kd.int .i64))).sz = 1 from rfl, Nat.mul_one] at hv50)); (try (replace hv50 := Option.some.inj (hv50.symm.trans HX116_0.out))); (try (subst hv50)); (try (clear hcc50 hcl50)); (try (replace ge50_0 := (show Kd.R (Kd.int .i64) 3 _ _ _ _ (rd_L1 x5_2 x16_1) from ge50_0))); (try (have HP50 := Kd.R_putg ge50_0 (x7_2 : Int) x8_6)))); refine store_event (t := 3) (p := 96) (v := ?vo_w51) (w1 := (wr.setCell ⟨go49, (x7_2 : Int).toNat, none⟩ (.int .i64 x8_6))) ?hg ?ho ?hn ?hr ?_; (case ho => rfl); (case hg => rfl); (case hn => rfl); (case hr => first | (go_simp; done) | (go_simp; rfl)); intro w51 hw; have hg : wr.grownBy w51 (some go49) := (by rw [hw]; exact HP50.2); have hz_ : Kd.R (Kd.int .i64) 3 w51 w.heap.size oki50 (.slice (some ⟨go49, 0, none⟩) (rd_L1 x5_2 x16_1).length c116_0) y117 := (by rw [hw, Ny117.out]; exact HP50.1); have hp_ : Kd.S (Kd.slice 3 (Kd.int .i64)) 22 w51 w.heap.size (fun _ => True) (.slice (some ⟨go15, 0, none⟩) x5_2.length co8) y119 := (by rw [Ny119.out]; exact hbk50 hg (fun k_ e_ => by injection e_ with e_; subst e_; exact ge50_0.1 _ rfl) (Kd.M_row hz_)); have hm_ := Kd.R_mono hz_ hok50; clear HP50 hbk50; have n0_ := Aside0.mk (hp_); have n1_ := Aside0.mk ((by rw [hw]; exact below_set (HB.out) GB49.out : Below w.heap.size w w51)); have n2_ := Aside0.mk (hm_); have n3_ := Aside0.mk ((Kd.R_reads' hm_).2.1); clear HO_5; clear HB; clear HL116_0; have HO_5 := n0_; have HB := n1_; have HL120 := n2_; have HC118 := n3_; clear n0_ n1_ n2_ n3_; clear hg hw hp_ hz_ hm_ hok50)); try go_wp2_with (first | ((with_reducible refine gate_store (t := 3) (p := 96) rfl ?_); (try (rw [drewN_self wr]; generalize hq_ : World.drewN wr _ = wr; have n0_ := Aside0.mk (Kd.S_at hq_ HO_5.out); have n1_ := Aside0.mk (Kd.R_at hq_ HL120.out); have n2_ := Aside0.mk (below_at hq_ HB.out); clear hq_ HO_5 HL120 HB; have HO_5 := n0_; have HL120 := n1_; have HB := n2_; clear n0_ n1_ n2_; (try (have hq50 : (x16_1 : Int) < (x5_2.length : Int) := (by have h_ : (x16_1 : Int) < ((x5_2.length : Int) : Int) := of_decide_eq_true (by first | (with_reducible assumption) | assumption); first | exact h_ | (have e_ := (Kd.S_reads' HO_5.out).1; omega) | simpa only [List.length_set, List.length_set] using h_))); (try (obtain ⟨oki50, ce50, hcl50, hM50, hcc50, hok50, hbk50⟩ := Kd.S_borrow HO_5.out [] (x16_1 : Int) (of_decide_eq_true (by first | (with_reducible assumption) | assumption)) hq50)); (try (obtain ⟨ve50_0, rfl, ge50_0⟩ := hM50)); (try (have hv50 := hcc50 0 _ rfl)); (try (rw [Nat.add_zero, show ((Kd.slice 3 (Kd.int .i64))).sz = 1 from rfl, Nat.mul_one] at hv50)); (try (replace hv50 := Option.some.inj (hv50.symm.trans HX116_0.out))); (try (subst hv50)); (try (clear hcc50 hcl50)); (try (replace ge50_0 := (show Kd.R (Kd.int .i64) 3 _ _ _ _ (rd_L1 x5_2 x16_1) from ge50_0))); (try (have HP50 := Kd.R_putg ge50_0 (x7_2 : Int) x8_6)))); refine store_event (t := 3) (p := 96) (v := ?vo_w51) (w1 := (wr.setCell ⟨go49, (x7_2 : Int).toNat, none⟩ (.int .i64 x8_6))) ?hg ?ho ?hn ?hr ?_; (case ho => rfl); (case hg => rfl); (case hn => rfl); (case hr => first | (go_simp; done) | (go_simp; rfl)); intro w51 hw; have hg : wr.grownBy w51 (some go49) := (by rw [hw]; exact HP50.2); have hz_ : Kd.R (Kd.int .i64) 3 w51 w.heap.size oki50 (.slice (some ⟨go49, 0, none⟩) (rd_L1 x5_2 x16_1).length c116_0) y117 := (by rw [hw, Ny117.out]; exact HP50.1); have hp_ : Kd.S (Kd.slice 3 (Kd.int .i64)) 22 w51 w.heap.size (fun _ => True) (.slice (some ⟨go15, 0, none⟩) x5_2.length co8) y119 := (by rw [Ny119.out]; exact hbk50 hg (fun k_ e_ => by injection e_ with e_; subst e_; exact ge50_0.1 _ rfl) (Kd.M_row hz_)); have hm_ := Kd.R_mono hz_ hok50; clear HP50 hbk50; have n0_ := Aside0.mk (hp_); have n1_ := Aside0.mk ((by rw [hw]; exact below_set (HB.out) GB49.out : Below w.heap.size w w51)); have n2_ := Aside0.mk (hm_); have n3_ := Aside0.mk ((Kd.R_reads' hm_).2.1); clear HO_5; clear HB; clear HL116_0; have HO_5 := n0_; have HB := n1_; have HL120 := n2_; have HC118 := n3_; clear n0_ n1_ n2_ n3_; clear hg hw hp_ hz_ hm_ hok50)))
                                                      (try simp only [← hl5_2])
                                                      go_roundg k6
                                                      case measure => have := HK1.out; have := HK2.out; have := HJ20.out; have := HJ23.out; have := HK5.out; have := HK6.out; omega
                                                      case rel => exact ⟨(y119), (wrap64 (x7_2 + 1)), (by first | rfl | (simp; done) | (simp [*]; done)), H', ⟨by have := HK1.out; have := HK2.out; have := HJ20.out; have := HJ23.out; have := HK5.out; have := HK6.out; omega⟩, ⟨by (try simp only [hl5_1]); (try simp only [hl5_2]); (with_reducible repeat (first | apply Kd.S_alloc | apply Kd.S_drewN | apply Kd.S_drew)); exact HO_5.out⟩, ⟨by repeat (first | (with_reducible first | exact HB.out | apply below_alloc | apply pw_below_drewN | apply below_drew1) | exact HB.out)⟩⟩
                                                    · rw [if_neg c48] at H
                                                      exact absurd H (by simp)
                                                  · rw [if_neg c47] at H
                                                    exact absurd H (by simp)
                                                · rw [if_neg c46] at H
                                                  exact absurd H (by simp)
                                              · rw [if_neg c45] at H
                                                exact absurd H (by simp)
                            · replace c23 := Bool.eq_false_iff.mpr c23
                              subst c23
                              have H1 : (impl_byLines.l0 kj20 a1 x5_2 (y101.length : Int) (wrap64 (x16_1 + 1))) = some r := by rw [if_neg (show ¬ (false = true) by decide)] at H; exact H
                              clear H
                              have H := H1
                              clear H1
                              have H' := Aside0.mk H
                              clear H
                              go_wp2
                              repeat (go_quiet (fail); try go_wp2)
                              (try simp only [← hl5_1, ← hl5_2])
                              go_roundg kj20
                              case measure => have := HK1.out; have := HK2.out; have := HJ20.out; omega
                              case rel => exact ⟨(x5_2), (wrap64 (x16_1 + 1)), (by first | rfl | (simp; done) | (simp [*]; done)), H', ⟨by have := HK1.out; have := HK2.out; have := HJ20.out; omega⟩, ⟨by (try simp only [hl5_1]); (try simp only [hl5_2]); (with_reducible repeat (first | apply Kd.S_alloc | apply Kd.S_drewN | apply Kd.S_drew)); exact HO_5.out⟩, ⟨by repeat (first | (with_reducible first | exact HB.out | apply below_alloc | apply pw_below_drewN | apply below_drew1) | exact HB.out)⟩⟩
                  · rw [if_neg c14] at H
                    exact absurd H (by simp)
                · rw [if_neg c13] at H
                  exact absurd H (by simp)
              · rw [if_neg c12] at H
                exact absurd H (by simp)
            · rw [if_neg c11] at H
              exact absurd H (by simp)
          · rw [if_neg c9] at H
            have c9b0 : decide (x16_1 < (y101.length : Int)) = false := decide_eq_false c9
            have c9b0x := c9b0
            (try simp only [hl5_1] at c9b0x)
            (try simp only [hl5_2] at c9b0x)
            clear c9
            obtain rfl := Option.some.inj H
            go_wp2
            repeat (go_quiet (fail); try go_wp2)
            go_ret
            exact ⟨_, by first | rfl | (simp [errW_none, errW_some] <;> rfl) | (simp only [← hji3]; first | rfl | (simp [errW_none, errW_some] <;> rfl)) | (simp [*, errW_none, errW_some] <;> rfl), by (with_reducible repeat (first | apply Kd.S_alloc | apply Kd.S_drewN | apply Kd.S_drew)); exact HO_5.out, by repeat (first | (with_reducible first | exact HB.out | apply below_alloc | apply pw_below_drewN | apply below_drew1) | exact HB.out)⟩
    · rw [if_neg c5] at H
      exact absurd H (by simp)
  · rw [if_neg c4] at H
    exact absurd H (by simp)
end Go.Proofs.Ytdfcljfajiihdaa.P

namespace Go.Proofs.Ytdfcljfajiihdaa.P
open Go.RowKit Go.Proofs.YtdfcljfajiihdaaW.PrintWords Go.Proofs.YtdfcljfajiihdaaW.PrintLast Go.Proofs.YtdfcljfajiihdaaW.PrintMore
attribute [local go_sem] max2_int min2_int max_two min_two max_three min_three max_four min_four
set_option linter.unusedVariables false
set_option linter.unusedSimpArgs false
def impl_within.f (a0 : Int) (a1 : Int) (a2 : Int) : Option (Bool) := if a1 ≤ a0 then (some (decide (a0 ≤ a2))) else (some false)
set_option maxHeartbeats 8000000 in
set_option maxRecDepth 100000 in
theorem impl_within.calls (a0 : Int) (a1 : Int) (a2 : Int) (r : Bool) (w : World) (h : impl_within.f a0 a1 a2 = some r) :
    Calls Try.prog 32 #[.int .i64 a0, .int .i64 a1, .int .i64 a2] w fun e w' => e = .returned (.bool r) ∧ Drawn0 w w' := by
  have H : (if a1 ≤ a0 then (some (decide (a0 ≤ a2))) else (some false)) = some r := h
  clear h
  by_cases c4 : a1 ≤ a0
  · rw [if_pos c4] at H
    have c4b0 : decide (a1 ≤ a0) = true := decide_eq_true c4
    clear c4
    obtain rfl := Option.some.inj H
    go_enter Try.func32, Try.ntmps32
    go_wp2
    go_ret
    exact ⟨by first | rfl | (simp; done) | (simp [*]; done), by repeat (first | exact Drawn0.refl _ | apply Drawn0.step)⟩
  · rw [if_neg c4] at H
    have c4b0 : decide (a1 ≤ a0) = false := decide_eq_false c4
    clear c4
    obtain rfl := Option.some.inj H
    go_enter Try.func32, Try.ntmps32
    go_wp2
    go_ret
    exact ⟨by first | rfl | (simp; done) | (simp [*]; done), by repeat (first | exact Drawn0.refl _ | apply Drawn0.step)⟩
end Go.Proofs.Ytdfcljfajiihdaa.P

namespace Go.Proofs.Ytdfcljfajiihdaa.P
open Go.RowKit Go.Proofs.YtdfcljfajiihdaaW.PrintWords Go.Proofs.YtdfcljfajiihdaaW.PrintLast Go.Proofs.YtdfcljfajiihdaaW.PrintMore
attribute [local go_sem] max2_int min2_int max_two min_two max_three min_three max_four min_four
set_option linter.unusedVariables false
set_option linter.unusedSimpArgs false
def impl_isLined.f (a0 : Int) (a1 : Int) : Option (Bool) := (impl_within.f a0 1 60).bind fun t101 => (if t101 = true then ((impl_within.f a1 1 60).bind fun t102 => (some t102)) else (some false))
set_option maxHeartbeats 8000000 in
set_option maxRecDepth 100000 in
theorem impl_isLined.calls (a0 : Int) (a1 : Int) (r : Bool) (w : World) (h : impl_isLined.f a0 a1 = some r) :
    Calls Try.prog 67 #[.int .i64 a0, .int .i64 a1] w fun e w' => e = .returned (.bool r) ∧ Drawn0 w w' := by
  have H : ((impl_within.f a0 1 60).bind fun t101 => (if t101 = true then ((impl_within.f a1 1 60).bind fun t102 => (some t102)) else (some false))) = some r := h
  clear h
  replace H := Option.bind_eq_some_iff.mp H
  obtain ⟨t101, A30, H⟩ := H
  replace H : (if t101 = true then ((impl_within.f a1 1 60).bind fun t102 => (some t102)) else (some false)) = some r := H
  have A3 := Aside0.mk A30
  clear A30
  by_cases c4 : t101 = true
  · subst c4
    have H1 : ((impl_within.f a1 1 60).bind fun t102 => (some t102)) = some r := by rw [if_pos rfl] at H; exact H
    clear H
    have H := H1
    clear H1
    replace H := Option.bind_eq_some_iff.mp H
    obtain ⟨t102, A50, H⟩ := H
    replace H : (some t102) = some r := H
    have A5 := Aside0.mk A50
    clear A50
    obtain rfl := Option.some.inj H
    go_enter Try.func67, Try.ntmps67
    go_wp2_with (first | ((with_reducible refine gate_callee (f := 32) rfl ?_); refine goesL_ (some 6) rfl rfl Try.func32 (by kernel_rfl) rfl #[.int .i64 a0, .int .i64 1, .int .i64 60] rfl (by (try simp only [List.map_toArray, List.map_cons, List.map_nil]); first | done | rfl | (simp only [List.length_drop, List.length_take]; rfl)) ?_; (with_reducible refine (impl_within.calls a0 1 60 true _ A3.out).mono ?_); rintro e w' ⟨rfl, ⟨nd, rfl⟩⟩; refine ⟨_, rfl, ?_⟩) | (go_at_call 32; (with_reducible refine (impl_within.calls a1 1 60 t102 _ A5.out).mono ?_); rintro e w' ⟨rfl, ⟨nd, rfl⟩⟩))
    go_ret
    exact ⟨by first | rfl | (simp; done) | (simp [*]; done), by repeat (first | exact Drawn0.refl _ | apply Drawn0.step)⟩
  · replace c4 := Bool.eq_false_iff.mpr c4
    subst c4
    have H1 : (some false) = some r := by rw [if_neg (show ¬ (false = true) by decide)] at H; exact H
    clear H
    have H := H1
    clear H1
    obtain rfl := Option.some.inj H
    go_enter Try.func67, Try.ntmps67
    go_wp2_with (first | ((with_reducible refine gate_callee (f := 32) rfl ?_); refine goesL_ (some 6) rfl rfl Try.func32 (by kernel_rfl) rfl #[.int .i64 a0, .int .i64 1, .int .i64 60] rfl (by (try simp only [List.map_toArray, List.map_cons, List.map_nil]); first | done | rfl | (simp only [List.length_drop, List.length_take]; rfl)) ?_; (with_reducible refine (impl_within.calls a0 1 60 false _ A3.out).mono ?_); rintro e w' ⟨rfl, ⟨nd, rfl⟩⟩; refine ⟨_, rfl, ?_⟩))
    go_ret
    exact ⟨by first | rfl | (simp; done) | (simp [*]; done), by repeat (first | exact Drawn0.refl _ | apply Drawn0.step)⟩
end Go.Proofs.Ytdfcljfajiihdaa.P

namespace Go.Proofs.Ytdfcljfajiihdaa.P
open Go.RowKit Go.Proofs.YtdfcljfajiihdaaW.PrintWords Go.Proofs.YtdfcljfajiihdaaW.PrintLast Go.Proofs.YtdfcljfajiihdaaW.PrintMore
attribute [local go_sem] max2_int min2_int max_two min_two max_three min_three max_four min_four
set_option linter.unusedVariables false
set_option linter.unusedSimpArgs false
def impl_isWide.f (a0 : Int) : Option (Bool) := (impl_within.f a0 1 500).bind fun t101 => (some t101)
set_option maxHeartbeats 8000000 in
set_option maxRecDepth 100000 in
theorem impl_isWide.calls (a0 : Int) (r : Bool) (w : World) (h : impl_isWide.f a0 = some r) :
    Calls Try.prog 76 #[.int .i64 a0] w fun e w' => e = .returned (.bool r) ∧ Drawn0 w w' := by
  have H : ((impl_within.f a0 1 500).bind fun t101 => (some t101)) = some r := h
  clear h
  replace H := Option.bind_eq_some_iff.mp H
  obtain ⟨t101, A20, H⟩ := H
  replace H : (some t101) = some r := H
  have A2 := Aside0.mk A20
  clear A20
  obtain rfl := Option.some.inj H
  go_enter Try.func76, Try.ntmps76
  go_wp2_with (first | ((with_reducible refine gate_callee (f := 32) rfl ?_); refine goesL_ (some 4) rfl rfl Try.func32 (by kernel_rfl) rfl #[.int .i64 a0, .int .i64 1, .int .i64 500] rfl (by (try simp only [List.map_toArray, List.map_cons, List.map_nil]); first | done | rfl | (simp only [List.length_drop, List.length_take]; rfl)) ?_; (with_reducible refine (impl_within.calls a0 1 500 t101 _ A2.out).mono ?_); rintro e w' ⟨rfl, ⟨nd, rfl⟩⟩; refine ⟨_, rfl, ?_⟩))
  go_ret
  exact ⟨by first | rfl | (simp; done) | (simp [*]; done), by repeat (first | exact Drawn0.refl _ | apply Drawn0.step)⟩
end Go.Proofs.Ytdfcljfajiihdaa.P

namespace Go.Proofs.Ytdfcljfajiihdaa.P
open Go.RowKit Go.Proofs.YtdfcljfajiihdaaW.PrintWords Go.Proofs.YtdfcljfajiihdaaW.PrintLast Go.Proofs.YtdfcljfajiihdaaW.PrintMore
attribute [local go_sem] max2_int min2_int max_two min_two max_three min_three max_four min_four
set_option linter.unusedVariables false
set_option linter.unusedSimpArgs false
def impl_comparePlaces.f (a0_0 : Int) (a0_1 : Int) (a0_2 : Int) (a1_0 : Int) (a1_1 : Int) (a1_2 : Int) : Option (Int) := if a0_1 = a1_1 then (some (wrap64 (a0_0 - a1_0))) else (some (wrap64 (a0_1 - a1_1)))
set_option maxHeartbeats 8000000 in
set_option maxRecDepth 100000 in
theorem impl_comparePlaces.calls (a0_0 : Int) (a0_1 : Int) (a0_2 : Int) (a1_0 : Int) (a1_1 : Int) (a1_2 : Int) (r : Int) (w : World) (h : impl_comparePlaces.f a0_0 a0_1 a0_2 a1_0 a1_1 a1_2 = some r) :
    Calls Try.prog 77 #[.agg #[.int .i64 a0_0, .int .i64 a0_1, .int .i64 a0_2], .agg #[.int .i64 a1_0, .int .i64 a1_1, .int .i64 a1_2]] w fun e w' => e = .returned (.int .i64 r) ∧ Below w.heap.size w w' := by
  have hu56 := Try.underlying56
  have HB := Aside0.mk (Below.refl w.heap.size w)
  have H : (if a0_1 = a1_1 then (some (wrap64 (a0_0 - a1_0))) else (some (wrap64 (a0_1 - a1_1)))) = some r := h
  clear h
  by_cases c3 : a0_1 = a1_1
  · rw [if_pos c3] at H
    have c3b0 : (a0_1 == a1_1) = true := beq_iff_eq.mpr c3
    have c3b1 : (a0_1 != a1_1) = false := bne_eq_false_iff_eq.mpr c3
    clear c3
    obtain rfl := Option.some.inj H
    go_enter Try.func77, Try.ntmps77
    go_wp2_with (first | ((with_reducible refine gate_dst (N := 2) rfl ?_); refine box_event ?hg (N := 2) ?hd (cs := #[.int .i64 a0_0, .int .i64 a0_1, .int .i64 a0_2]) (t := 56) ?hr ?_; (case hd => rfl); (case hg => rfl); (case hr => first | (go_simp; done) | (go_simp; rfl)); intro gb101 hg w4 hbox hb; have n0_ := Aside0.mk (below_step (by repeat (first | (with_reducible first | exact HB.out | apply below_alloc | apply pw_below_drewN | apply below_drew1) | exact HB.out)) hb); have n1_ := Aside0.mk (hbox); have n2_ := Aside0.mk ((by rw [hg]; exact (below_size (by repeat (first | (with_reducible first | exact HB.out | apply below_alloc | apply pw_below_drewN | apply below_drew1) | exact HB.out))) : w.heap.size ≤ gb101)); have n3_ := Aside0.mk ((by rw [hg]; exact (below_size (by repeat (first | (with_reducible first | exact HB.out | apply below_alloc | apply pw_below_drewN | apply below_drew1) | exact HB.out))) : w.heap.size ≤ gb101)); clear HB; have HB := n0_; have BK101 := n1_; have GW101 := n2_; have GE101 := n3_; clear n0_ n1_ n2_ n3_; clear hb hbox hg) | ((with_reducible refine gate_dst (N := 3) rfl ?_); refine box_event ?hg (N := 3) ?hd (cs := #[.int .i64 a1_0, .int .i64 a1_1, .int .i64 a1_2]) (t := 56) ?hr ?_; (case hd => rfl); (case hg => rfl); (case hr => first | (go_simp; done) | (go_simp; rfl)); intro gb102 hg w5 hbox hb; have n0_ := Aside0.mk (blk_below (g := gb101) (o := .cells #[.int .i64 a0_0, .int .i64 a0_1, .int .i64 a0_2] 56 (0, 0)) (by (with_reducible repeat (first | refine blk_drewN ?_ _ | refine blk_drew ?_ | refine blk_alloc ?_ _)); exact BK101.out) hb); have n1_ := Aside0.mk (below_step (by repeat (first | (with_reducible first | exact HB.out | apply below_alloc | apply pw_below_drewN | apply below_drew1 | refine below_set ?_ GE101.out) | exact HB.out)) hb); have n2_ := Aside0.mk (hbox); have n3_ := Aside0.mk ((by rw [hg]; exact (below_size (by repeat (first | (with_reducible first | exact HB.out | apply below_alloc | apply pw_below_drewN | apply below_drew1 | refine below_set ?_ GE101.out) | exact HB.out))) : w.heap.size ≤ gb102)); have n4_ := Aside0.mk ((by rw [hg]; exact (below_size (by repeat (first | (with_reducible first | exact HB.out | apply below_alloc | apply pw_below_drewN | apply below_drew1 | refine below_set ?_ GE101.out) | exact HB.out))) : w.heap.size ≤ gb102)); have n5_ := Aside0.mk ((by rw [hg]; exact Nat.ne_of_lt (blk_lt (g := gb101) (o := .cells #[.int .i64 a0_0, .int .i64 a0_1, .int .i64 a0_2] 56 (0, 0)) (by (with_reducible repeat (first | refine blk_drewN ?_ _ | refine blk_drew ?_ | refine blk_alloc ?_ _)); exact BK101.out)) : gb101 ≠ gb102)); have n6_ := Aside0.mk ((by rw [hg]; exact Nat.ne_of_gt (blk_lt (g := gb101) (o := .cells #[.int .i64 a0_0, .int .i64 a0_1, .int .i64 a0_2] 56 (0, 0)) (by (with_reducible repeat (first | refine blk_drewN ?_ _ | refine blk_drew ?_ | refine blk_alloc ?_ _)); exact BK101.out)) : gb102 ≠ gb101)); clear BK101; clear HB; have BK101 := n0_; have HB := n1_; have BK102 := n2_; have GW102 := n3_; have GE102 := n4_; have NB101_102 := n5_; have NB102_101 := n6_; clear n0_ n1_ n2_ n3_ n4_ n5_ n6_; clear hb hbox hg; have hnb6 := NB101_102.out; have hnc6 := NB102_101.out; have hcz7_0 : w5.cell? ⟨gb101, 0, none⟩ = some (.int .i64 a0_0) := (blk_cell BK101.out 0).trans rfl; have hcz7_1 : w5.cell? ⟨gb101, 1, none⟩ = some (.int .i64 a0_1) := (blk_cell BK101.out 1).trans rfl; have hcz7_2 : w5.cell? ⟨gb101, 2, none⟩ = some (.int .i64 a0_2) := (blk_cell BK101.out 2).trans rfl; have hfz7_0 := blk_frozen BK101.out 0; have hfz7_1 := blk_frozen BK101.out 1; have hfz7_2 := blk_frozen BK101.out 2; have hcz8_0 : w5.cell? ⟨gb102, 0, none⟩ = some (.int .i64 a1_0) := (blk_cell BK102.out 0).trans rfl; have hcz8_1 : w5.cell? ⟨gb102, 1, none⟩ = some (.int .i64 a1_1) := (blk_cell BK102.out 1).trans rfl; have hcz8_2 : w5.cell? ⟨gb102, 2, none⟩ = some (.int .i64 a1_2) := (blk_cell BK102.out 2).trans rfl; have hfz8_0 := blk_frozen BK102.out 0; have hfz8_1 := blk_frozen BK102.out 1; have hfz8_2 := blk_frozen BK102.out 2))
    go_ret
    exact ⟨by first | rfl | (simp [errW_none, errW_some] <;> rfl) | (simp [*, errW_none, errW_some] <;> rfl), by repeat (first | (with_reducible first | exact HB.out | apply below_alloc | apply pw_below_drewN | apply below_drew1 | refine below_set ?_ GE101.out | refine below_set ?_ GE102.out) | exact HB.out)⟩
  · rw [if_neg c3] at H
    have c3b0 : (a0_1 == a1_1) = false := beq_eq_false_iff_ne.mpr c3
    have c3b1 : (a0_1 != a1_1) = true := bne_iff_ne.mpr c3
    obtain rfl := Option.some.inj H
    go_enter Try.func77, Try.ntmps77
    go_wp2_with (first | ((with_reducible refine gate_dst (N := 2) rfl ?_); refine box_event ?hg (N := 2) ?hd (cs := #[.int .i64 a0_0, .int .i64 a0_1, .int .i64 a0_2]) (t := 56) ?hr ?_; (case hd => rfl); (case hg => rfl); (case hr => first | (go_simp; done) | (go_simp; rfl)); intro gb101 hg w9 hbox hb; have n0_ := Aside0.mk (below_step (by repeat (first | (with_reducible first | exact HB.out | apply below_alloc | apply pw_below_drewN | apply below_drew1) | exact HB.out)) hb); have n1_ := Aside0.mk (hbox); have n2_ := Aside0.mk ((by rw [hg]; exact (below_size (by repeat (first | (with_reducible first | exact HB.out | apply below_alloc | apply pw_below_drewN | apply below_drew1) | exact HB.out))) : w.heap.size ≤ gb101)); have n3_ := Aside0.mk ((by rw [hg]; exact (below_size (by repeat (first | (with_reducible first | exact HB.out | apply below_alloc | apply pw_below_drewN | apply below_drew1) | exact HB.out))) : w.heap.size ≤ gb101)); clear HB; have HB := n0_; have BK101 := n1_; have GW101 := n2_; have GE101 := n3_; clear n0_ n1_ n2_ n3_; clear hb hbox hg) | ((with_reducible refine gate_dst (N := 3) rfl ?_); refine box_event ?hg (N := 3) ?hd (cs := #[.int .i64 a1_0, .int .i64 a1_1, .int .i64 a1_2]) (t := 56) ?hr ?_; (case hd => rfl); (case hg => rfl); (case hr => first | (go_simp; done) | (go_simp; rfl)); intro gb102 hg w10 hbox hb; have n0_ := Aside0.mk (blk_below (g := gb101) (o := .cells #[.int .i64 a0_0, .int .i64 a0_1, .int .i64 a0_2] 56 (0, 0)) (by (with_reducible repeat (first | refine blk_drewN ?_ _ | refine blk_drew ?_ | refine blk_alloc ?_ _)); exact BK101.out) hb); have n1_ := Aside0.mk (below_step (by repeat (first | (with_reducible first | exact HB.out | apply below_alloc | apply pw_below_drewN | apply below_drew1 | refine below_set ?_ GE101.out) | exact HB.out)) hb); have n2_ := Aside0.mk (hbox); have n3_ := Aside0.mk ((by rw [hg]; exact (below_size (by repeat (first | (with_reducible first | exact HB.out | apply below_alloc | apply pw_below_drewN | apply below_drew1 | refine below_set ?_ GE101.out) | exact HB.out))) : w.heap.size ≤ gb102)); have n4_ := Aside0.mk ((by rw [hg]; exact (below_size (by repeat (first | (with_reducible first | exact HB.out | apply below_alloc | apply pw_below_drewN | apply below_drew1 | refine below_set ?_ GE101.out) | exact HB.out))) : w.heap.size ≤ gb102)); have n5_ := Aside0.mk ((by rw [hg]; exact Nat.ne_of_lt (blk_lt (g := gb101) (o := .cells #[.int .i64 a0_0, .int .i64 a0_1, .int .i64 a0_2] 56 (0, 0)) (by (with_reducible repeat (first | refine blk_drewN ?_ _ | refine blk_drew ?_ | refine blk_alloc ?_ _)); exact BK101.out)) : gb101 ≠ gb102)); have n6_ := Aside0.mk ((by rw [hg]; exact Nat.ne_of_gt (blk_lt (g := gb101) (o := .cells #[.int .i64 a0_0, .int .i64 a0_1, .int .i64 a0_2] 56 (0, 0)) (by (with_reducible repeat (first | refine blk_drewN ?_ _ | refine blk_drew ?_ | refine blk_alloc ?_ _)); exact BK101.out)) : gb102 ≠ gb101)); clear BK101; clear HB; have BK101 := n0_; have HB := n1_; have BK102 := n2_; have GW102 := n3_; have GE102 := n4_; have NB101_102 := n5_; have NB102_101 := n6_; clear n0_ n1_ n2_ n3_ n4_ n5_ n6_; clear hb hbox hg; have hnb11 := NB101_102.out; have hnc11 := NB102_101.out; have hcz12_0 : w10.cell? ⟨gb101, 0, none⟩ = some (.int .i64 a0_0) := (blk_cell BK101.out 0).trans rfl; have hcz12_1 : w10.cell? ⟨gb101, 1, none⟩ = some (.int .i64 a0_1) := (blk_cell BK101.out 1).trans rfl; have hcz12_2 : w10.cell? ⟨gb101, 2, none⟩ = some (.int .i64 a0_2) := (blk_cell BK101.out 2).trans rfl; have hfz12_0 := blk_frozen BK101.out 0; have hfz12_1 := blk_frozen BK101.out 1; have hfz12_2 := blk_frozen BK101.out 2; have hcz13_0 : w10.cell? ⟨gb102, 0, none⟩ = some (.int .i64 a1_0) := (blk_cell BK102.out 0).trans rfl; have hcz13_1 : w10.cell? ⟨gb102, 1, none⟩ = some (.int .i64 a1_1) := (blk_cell BK102.out 1).trans rfl; have hcz13_2 : w10.cell? ⟨gb102, 2, none⟩ = some (.int .i64 a1_2) := (blk_cell BK102.out 2).trans rfl; have hfz13_0 := blk_frozen BK102.out 0; have hfz13_1 := blk_frozen BK102.out 1; have hfz13_2 := blk_frozen BK102.out 2))
    go_ret
    exact ⟨by first | rfl | (simp [errW_none, errW_some] <;> rfl) | (simp [*, errW_none, errW_some] <;> rfl), by repeat (first | (with_reducible first | exact HB.out | apply below_alloc | apply pw_below_drewN | apply below_drew1 | refine below_set ?_ GE101.out | refine below_set ?_ GE102.out) | exact HB.out)⟩
end Go.Proofs.Ytdfcljfajiihdaa.P

namespace Go.Proofs.Ytdfcljfajiihdaa.T
def idxF {α : Type} (p : α → Bool) : List α → Nat → Int
  | [], _ => -1
  | x :: l, i => if p x = true then i else idxF p l (i + 1)
theorem idxF_hit {α : Type} (p : α → Bool) (l : List α) (j : Nat) (x : α) (hx : l[j]? = some x) (hp : p x = true) (hb : ∀ (i : Nat) (y : α), i < j → l[i]? = some y → p y = false) : ∀ k : Nat, idxF p l k = (k + j : Nat) := by
  induction l generalizing j with
  | nil => simp at hx
  | cons z l ih =>
    intro k
    cases j with
    | zero => simp at hx; subst hx; simp [idxF, hp]
    | succ j =>
      have hz := hb 0 z (by omega) rfl
      simp only [idxF, hz]
      rw [if_neg (by simp), ih j (by simpa using hx) (fun i y hi hy => hb (i + 1) y (by omega) (by simpa using hy))]
      omega
theorem idxF_miss {α : Type} (p : α → Bool) (l : List α) (hb : ∀ (i : Nat) (y : α), l[i]? = some y → p y = false) : ∀ k : Nat, idxF p l k = -1 := by
  induction l with
  | nil => intro k; rfl
  | cons z l ih =>
    intro k
    have hz := hb 0 z rfl
    simp only [idxF, hz]
    rw [if_neg (by simp), ih (fun i y hy => hb (i + 1) y (by simpa using hy))]
theorem idxF_nonneg {α : Type} (p : α → Bool) (l : List α) : ∀ k : Nat, 0 ≤ idxF p l k ↔ l.any p = true := by
  induction l with
  | nil => intro k; simp [idxF]
  | cons z l ih =>
    intro k
    have := ih (k + 1)
    simp only [idxF, List.any_cons]
    by_cases h : p z = true
    · rw [if_pos h, h]; simp
    · rw [if_neg h, this, Bool.eq_false_iff.mpr h]; simp
theorem idxF_any {α : Type} (p : α → Bool) (l : List α) (k : Nat) : decide (0 ≤ idxF p l k) = l.any p := by
  by_cases h : l.any p = true
  · rw [h, decide_eq_true ((idxF_nonneg p l k).2 h)]
  · rw [decide_eq_false (fun e => h ((idxF_nonneg p l k).1 e))]; simpa using h
end Go.Proofs.Ytdfcljfajiihdaa.T

namespace Go.Proofs.Ytdfcljfajiihdaa.P
open Go.RowKit Go.Proofs.YtdfcljfajiihdaaW.PrintWords Go.Proofs.YtdfcljfajiihdaaW.PrintLast Go.Proofs.YtdfcljfajiihdaaW.PrintMore
attribute [local go_sem] max2_int min2_int max_two min_two max_three min_three max_four min_four
set_option linter.unusedVariables false
set_option linter.unusedSimpArgs false
open Go.Proofs.Ytdfcljfajiihdaa.T in
set_option maxHeartbeats 1000000 in
theorem slices_IndexFunc_sq (l : List S56) (A : Option Addr) (c : Nat) (g : Nat) (lb : Array Value) (p : S56 → Bool) (w : World) (hr : Kd.C k56 w A l.length l) (hlc : l.length ≤ c)
    (eg : ∀ args w, (callFunc g args).run Try.prog w = .ok (.enter g args) w)
    (hp : ∀ W x, Below w.heap.size w W → Calls Try.prog g (#[.agg #[.int .i64 x.f0, .int .i64 x.f1, .int .i64 x.f2]] ++ lb) W fun e w' => e = .returned (.bool (p x)) ∧ Below w.heap.size w w') :
    Calls Try.prog 94 #[.slice A l.length c, .func (.func g) #[] lb] w fun e w' => e = .returned (.int .i64 (idxF p l 0)) ∧ Below w.heap.size w w' := by
  have hlen := hr.2.1
  have HR := Aside0.mk hr
  clear hr
  go_enter Try.func94, Try.ntmps94
  go_wp2
  go_loopg [5, 8] l.length (fun gg v5 v8 wc => ∃ (i : Int), 0 ≤ i ∧ i ≤ (l.length : Int) ∧ (l.length : Int) - i ≤ (gg : Int) ∧ v8 = .int .i64 i ∧ Aside0 (Below w.heap.size w wc) ∧ Aside0 (∀ j y, (j : Nat) < i.toNat → l[j]? = some y → p y = false))
  case atStart => exact ⟨0, by omega, by omega, by omega, rfl, ⟨Below.refl _ _⟩, ⟨fun j y hj => by simp at hj⟩⟩
  case round =>
    obtain ⟨i, h0, h1, hg, rfl, HB, HN⟩ := hrel
    by_cases c4 : i < (l.length : Int)
    · obtain ⟨ad, e1, hx0, hx1, hx2⟩ := at_T56 (Kd.C_below HR.out HB.out) i h0 c4
      cases e1
      have hget : l[i.toNat]? = some (rd_T56 l i) := by
        have : i.toNat < l.length := by omega
        simp [rd_T56, this]
      have HG := Aside0.mk hget
      clear hget
      have HP := Aside0.mk (hp _ (rd_T56 l i) HB.out)
      clear hp
      generalize hxx : rd_T56 l i = x at HG HP hx0 hx1 hx2
      clear hxx
      have c4b : decide (i < (l.length : Int)) = true := decide_eq_true c4
      have h0' := eq_true h0
      cases hb : p x with
      | true =>
        rw [hb] at HP
        go_wp2_with (go_at_fn g; refine HP.out.mono ?_; rintro e w' ⟨rfl, hb'⟩)
        go_ret
        refine ⟨?_, hb'⟩
        rw [idxF_hit p l i.toNat x HG.out hb (fun j y hj hy => HN.out j y hj hy) 0, show ((0 + i.toNat : Nat) : Int) = i by omega]
        rfl
      | false =>
        rw [hb] at HP
        go_wp2_with (go_at_fn g; refine HP.out.mono ?_; rintro e w' ⟨rfl, hb'⟩)
        go_roundg (l.length - (i.toNat + 1))
        case measure => omega
        case rel =>
          refine ⟨i + 1, by omega, by omega, by omega, rfl, ⟨hb'⟩, ⟨fun j y hj hy => ?_⟩⟩
          by_cases e : j = i.toNat
          · subst e
            have := HG.out
            rw [this] at hy; cases hy; exact hb
          · exact HN.out j y (by omega) hy
    · have c4b : decide (i < (l.length : Int)) = false := decide_eq_false c4
      go_wp2
      go_ret
      refine ⟨?_, HB.out⟩
      rw [idxF_miss p l (fun j y hy => HN.out j y (by have := (List.getElem?_eq_some_iff.1 hy).1; omega) hy) 0]
      rfl
end Go.Proofs.Ytdfcljfajiihdaa.P

namespace Go.Proofs.Ytdfcljfajiihdaa.P
open Go.RowKit Go.Proofs.YtdfcljfajiihdaaW.PrintWords Go.Proofs.YtdfcljfajiihdaaW.PrintLast Go.Proofs.YtdfcljfajiihdaaW.PrintMore
attribute [local go_sem] max2_int min2_int max_two min_two max_three min_three max_four min_four
set_option linter.unusedVariables false
set_option linter.unusedSimpArgs false
open Go.Proofs.Ytdfcljfajiihdaa.T in
theorem slices_ContainsFunc_sq (l : List S56) (A : Option Addr) (c : Nat) (g : Nat) (lb : Array Value) (p : S56 → Bool) (w : World) (hr : Kd.C k56 w A l.length l) (hlc : l.length ≤ c)
    (eg : ∀ args w, (callFunc g args).run Try.prog w = .ok (.enter g args) w)
    (hp : ∀ W x, Below w.heap.size w W → Calls Try.prog g (#[.agg #[.int .i64 x.f0, .int .i64 x.f1, .int .i64 x.f2]] ++ lb) W fun e w' => e = .returned (.bool (p x)) ∧ Below w.heap.size w w') :
    Calls Try.prog 78 #[.slice A l.length c, .func (.func g) #[] lb] w fun e w' => e = .returned (.bool (l.any p)) ∧ Below w.heap.size w w' := by
  rw [← idxF_any p l 0]
  have HC := Aside0.mk (slices_IndexFunc_sq l A c g lb p w hr hlc eg hp)
  clear hr hp
  go_enter Try.func78, Try.ntmps78
  go_wp2_with (go_at_call 94; refine HC.out.mono ?_; rintro e w' ⟨rfl, hb'⟩)
  go_ret
  exact ⟨rfl, hb'⟩
end Go.Proofs.Ytdfcljfajiihdaa.P

namespace Go.Proofs.Ytdfcljfajiihdaa.P
open Go.RowKit Go.Proofs.YtdfcljfajiihdaaW.PrintWords Go.Proofs.YtdfcljfajiihdaaW.PrintLast Go.Proofs.YtdfcljfajiihdaaW.PrintMore
attribute [local go_sem] max2_int min2_int max_two min_two max_three min_three max_four min_four
set_option linter.unusedVariables false
set_option linter.unusedSimpArgs false
def impl_overlap.f (a0_0 : Int) (a0_1 : Int) (a0_2 : Int) (a1_0 : Int) (a1_1 : Int) (a1_2 : Int) : Option (Bool) := if a0_0 < (wrap64 (a1_0 + a1_2)) then (if a1_0 < (wrap64 (a0_0 + a0_2)) then (if a0_1 < (wrap64 (a1_1 + a1_2)) then (some (decide (a1_1 < (wrap64 (a0_1 + a0_2))))) else (some false)) else (some false)) else (some false)
set_option maxHeartbeats 8000000 in
set_option maxRecDepth 100000 in
theorem impl_overlap.calls (a0_0 : Int) (a0_1 : Int) (a0_2 : Int) (a1_0 : Int) (a1_1 : Int) (a1_2 : Int) (r : Bool) (w : World) (h : impl_overlap.f a0_0 a0_1 a0_2 a1_0 a1_1 a1_2 = some r) :
    Calls Try.prog 80 #[.agg #[.int .i64 a0_0, .int .i64 a0_1, .int .i64 a0_2], .agg #[.int .i64 a1_0, .int .i64 a1_1, .int .i64 a1_2]] w fun e w' => e = .returned (.bool r) ∧ Below w.heap.size w w' := by
  have hu56 := Try.underlying56
  have HB := Aside0.mk (Below.refl w.heap.size w)
  have H : (if a0_0 < (wrap64 (a1_0 + a1_2)) then (if a1_0 < (wrap64 (a0_0 + a0_2)) then (if a0_1 < (wrap64 (a1_1 + a1_2)) then (some (decide (a1_1 < (wrap64 (a0_1 + a0_2))))) else (some false)) else (some false)) else (some false)) = some r := h
  clear h
  by_cases c3 : a0_0 < (wrap64 (a1_0 + a1_2))
  · rw [if_pos c3] at H
    have c3b0 : decide (a0_0 < (wrap64 (a1_0 + a1_2))) = true := decide_eq_true c3
    clear c3
    by_cases c4 : a1_0 < (wrap64 (a0_0 + a0_2))
    · rw [if_pos c4] at H
      have c4b0 : decide (a1_0 < (wrap64 (a0_0 + a0_2))) = true := decide_eq_true c4
      clear c4
      by_cases c5 : a0_1 < (wrap64 (a1_1 + a1_2))
      · rw [if_pos c5] at H
        have c5b0 : decide (a0_1 < (wrap64 (a1_1 + a1_2))) = true := decide_eq_true c5
        clear c5
        obtain rfl := Option.some.inj H
        go_enter Try.func80, Try.ntmps80
        go_wp2_with (first | ((with_reducible refine gate_dst (N := 2) rfl ?_); refine box_event ?hg (N := 2) ?hd (cs := #[.int .i64 a0_0, .int .i64 a0_1, .int .i64 a0_2]) (t := 56) ?hr ?_; (case hd => rfl); (case hg => rfl); (case hr => first | (go_simp; done) | (go_simp; rfl)); intro gb101 hg w6 hbox hb; have n0_ := Aside0.mk (below_step (by repeat (first | (with_reducible first | exact HB.out | apply below_alloc | apply pw_below_drewN | apply below_drew1) | exact HB.out)) hb); have n1_ := Aside0.mk (hbox); have n2_ := Aside0.mk ((by rw [hg]; exact (below_size (by repeat (first | (with_reducible first | exact HB.out | apply below_alloc | apply pw_below_drewN | apply below_drew1) | exact HB.out))) : w.heap.size ≤ gb101)); have n3_ := Aside0.mk ((by rw [hg]; exact (below_size (by repeat (first | (with_reducible first | exact HB.out | apply below_alloc | apply pw_below_drewN | apply below_drew1) | exact HB.out))) : w.heap.size ≤ gb101)); clear HB; have HB := n0_; have BK101 := n1_; have GW101 := n2_; have GE101 := n3_; clear n0_ n1_ n2_ n3_; clear hb hbox hg) | ((with_reducible refine gate_dst (N := 3) rfl ?_); refine box_event ?hg (N := 3) ?hd (cs := #[.int .i64 a1_0, .int .i64 a1_1, .int .i64 a1_2]) (t := 56) ?hr ?_; (case hd => rfl); (case hg => rfl); (case hr => first | (go_simp; done) | (go_simp; rfl)); intro gb102 hg w7 hbox hb; have n0_ := Aside0.mk (blk_below (g := gb101) (o := .cells #[.int .i64 a0_0, .int .i64 a0_1, .int .i64 a0_2] 56 (0, 0)) (by (with_reducible repeat (first | refine blk_drewN ?_ _ | refine blk_drew ?_ | refine blk_alloc ?_ _)); exact BK101.out) hb); have n1_ := Aside0.mk (below_step (by repeat (first | (with_reducible first | exact HB.out | apply below_alloc | apply pw_below_drewN | apply below_drew1 | refine below_set ?_ GE101.out) | exact HB.out)) hb); have n2_ := Aside0.mk (hbox); have n3_ := Aside0.mk ((by rw [hg]; exact (below_size (by repeat (first | (with_reducible first | exact HB.out | apply below_alloc | apply pw_below_drewN | apply below_drew1 | refine below_set ?_ GE101.out) | exact HB.out))) : w.heap.size ≤ gb102)); have n4_ := Aside0.mk ((by rw [hg]; exact (below_size (by repeat (first | (with_reducible first | exact HB.out | apply below_alloc | apply pw_below_drewN | apply below_drew1 | refine below_set ?_ GE101.out) | exact HB.out))) : w.heap.size ≤ gb102)); have n5_ := Aside0.mk ((by rw [hg]; exact Nat.ne_of_lt (blk_lt (g := gb101) (o := .cells #[.int .i64 a0_0, .int .i64 a0_1, .int .i64 a0_2] 56 (0, 0)) (by (with_reducible repeat (first | refine blk_drewN ?_ _ | refine blk_drew ?_ | refine blk_alloc ?_ _)); exact BK101.out)) : gb101 ≠ gb102)); have n6_ := Aside0.mk ((by rw [hg]; exact Nat.ne_of_gt (blk_lt (g := gb101) (o := .cells #[.int .i64 a0_0, .int .i64 a0_1, .int .i64 a0_2] 56 (0, 0)) (by (with_reducible repeat (first | refine blk_drewN ?_ _ | refine blk_drew ?_ | refine blk_alloc ?_ _)); exact BK101.out)) : gb102 ≠ gb101)); clear BK101; clear HB; have BK101 := n0_; have HB := n1_; have BK102 := n2_; have GW102 := n3_; have GE102 := n4_; have NB101_102 := n5_; have NB102_101 := n6_; clear n0_ n1_ n2_ n3_ n4_ n5_ n6_; clear hb hbox hg; have hnb8 := NB101_102.out; have hnc8 := NB102_101.out; have hcz9_0 : w7.cell? ⟨gb101, 0, none⟩ = some (.int .i64 a0_0) := (blk_cell BK101.out 0).trans rfl; have hcz9_1 : w7.cell? ⟨gb101, 1, none⟩ = some (.int .i64 a0_1) := (blk_cell BK101.out 1).trans rfl; have hcz9_2 : w7.cell? ⟨gb101, 2, none⟩ = some (.int .i64 a0_2) := (blk_cell BK101.out 2).trans rfl; have hfz9_0 := blk_frozen BK101.out 0; have hfz9_1 := blk_frozen BK101.out 1; have hfz9_2 := blk_frozen BK101.out 2; have hcz10_0 : w7.cell? ⟨gb102, 0, none⟩ = some (.int .i64 a1_0) := (blk_cell BK102.out 0).trans rfl; have hcz10_1 : w7.cell? ⟨gb102, 1, none⟩ = some (.int .i64 a1_1) := (blk_cell BK102.out 1).trans rfl; have hcz10_2 : w7.cell? ⟨gb102, 2, none⟩ = some (.int .i64 a1_2) := (blk_cell BK102.out 2).trans rfl; have hfz10_0 := blk_frozen BK102.out 0; have hfz10_1 := blk_frozen BK102.out 1; have hfz10_2 := blk_frozen BK102.out 2))
        go_ret
        exact ⟨by first | rfl | (simp [errW_none, errW_some] <;> rfl) | (simp [*, errW_none, errW_some] <;> rfl), by repeat (first | (with_reducible first | exact HB.out | apply below_alloc | apply pw_below_drewN | apply below_drew1 | refine below_set ?_ GE101.out | refine below_set ?_ GE102.out) | exact HB.out)⟩
      · rw [if_neg c5] at H
        have c5b0 : decide (a0_1 < (wrap64 (a1_1 + a1_2))) = false := decide_eq_false c5
        clear c5
        obtain rfl := Option.some.inj H
        go_enter Try.func80, Try.ntmps80
        go_wp2_with (first | ((with_reducible refine gate_dst (N := 2) rfl ?_); refine box_event ?hg (N := 2) ?hd (cs := #[.int .i64 a0_0, .int .i64 a0_1, .int .i64 a0_2]) (t := 56) ?hr ?_; (case hd => rfl); (case hg => rfl); (case hr => first | (go_simp; done) | (go_simp; rfl)); intro gb101 hg w11 hbox hb; have n0_ := Aside0.mk (below_step (by repeat (first | (with_reducible first | exact HB.out | apply below_alloc | apply pw_below_drewN | apply below_drew1) | exact HB.out)) hb); have n1_ := Aside0.mk (hbox); have n2_ := Aside0.mk ((by rw [hg]; exact (below_size (by repeat (first | (with_reducible first | exact HB.out | apply below_alloc | apply pw_below_drewN | apply below_drew1) | exact HB.out))) : w.heap.size ≤ gb101)); have n3_ := Aside0.mk ((by rw [hg]; exact (below_size (by repeat (first | (with_reducible first | exact HB.out | apply below_alloc | apply pw_below_drewN | apply below_drew1) | exact HB.out))) : w.heap.size ≤ gb101)); clear HB; have HB := n0_; have BK101 := n1_; have GW101 := n2_; have GE101 := n3_; clear n0_ n1_ n2_ n3_; clear hb hbox hg) | ((with_reducible refine gate_dst (N := 3) rfl ?_); refine box_event ?hg (N := 3) ?hd (cs := #[.int .i64 a1_0, .int .i64 a1_1, .int .i64 a1_2]) (t := 56) ?hr ?_; (case hd => rfl); (case hg => rfl); (case hr => first | (go_simp; done) | (go_simp; rfl)); intro gb102 hg w12 hbox hb; have n0_ := Aside0.mk (blk_below (g := gb101) (o := .cells #[.int .i64 a0_0, .int .i64 a0_1, .int .i64 a0_2] 56 (0, 0)) (by (with_reducible repeat (first | refine blk_drewN ?_ _ | refine blk_drew ?_ | refine blk_alloc ?_ _)); exact BK101.out) hb); have n1_ := Aside0.mk (below_step (by repeat (first | (with_reducible first | exact HB.out | apply below_alloc | apply pw_below_drewN | apply below_drew1 | refine below_set ?_ GE101.out) | exact HB.out)) hb); have n2_ := Aside0.mk (hbox); have n3_ := Aside0.mk ((by rw [hg]; exact (below_size (by repeat (first | (with_reducible first | exact HB.out | apply below_alloc | apply pw_below_drewN | apply below_drew1 | refine below_set ?_ GE101.out) | exact HB.out))) : w.heap.size ≤ gb102)); have n4_ := Aside0.mk ((by rw [hg]; exact (below_size (by repeat (first | (with_reducible first | exact HB.out | apply below_alloc | apply pw_below_drewN | apply below_drew1 | refine below_set ?_ GE101.out) | exact HB.out))) : w.heap.size ≤ gb102)); have n5_ := Aside0.mk ((by rw [hg]; exact Nat.ne_of_lt (blk_lt (g := gb101) (o := .cells #[.int .i64 a0_0, .int .i64 a0_1, .int .i64 a0_2] 56 (0, 0)) (by (with_reducible repeat (first | refine blk_drewN ?_ _ | refine blk_drew ?_ | refine blk_alloc ?_ _)); exact BK101.out)) : gb101 ≠ gb102)); have n6_ := Aside0.mk ((by rw [hg]; exact Nat.ne_of_gt (blk_lt (g := gb101) (o := .cells #[.int .i64 a0_0, .int .i64 a0_1, .int .i64 a0_2] 56 (0, 0)) (by (with_reducible repeat (first | refine blk_drewN ?_ _ | refine blk_drew ?_ | refine blk_alloc ?_ _)); exact BK101.out)) : gb102 ≠ gb101)); clear BK101; clear HB; have BK101 := n0_; have HB := n1_; have BK102 := n2_; have GW102 := n3_; have GE102 := n4_; have NB101_102 := n5_; have NB102_101 := n6_; clear n0_ n1_ n2_ n3_ n4_ n5_ n6_; clear hb hbox hg; have hnb13 := NB101_102.out; have hnc13 := NB102_101.out; have hcz14_0 : w12.cell? ⟨gb101, 0, none⟩ = some (.int .i64 a0_0) := (blk_cell BK101.out 0).trans rfl; have hcz14_1 : w12.cell? ⟨gb101, 1, none⟩ = some (.int .i64 a0_1) := (blk_cell BK101.out 1).trans rfl; have hcz14_2 : w12.cell? ⟨gb101, 2, none⟩ = some (.int .i64 a0_2) := (blk_cell BK101.out 2).trans rfl; have hfz14_0 := blk_frozen BK101.out 0; have hfz14_1 := blk_frozen BK101.out 1; have hfz14_2 := blk_frozen BK101.out 2; have hcz15_0 : w12.cell? ⟨gb102, 0, none⟩ = some (.int .i64 a1_0) := (blk_cell BK102.out 0).trans rfl; have hcz15_1 : w12.cell? ⟨gb102, 1, none⟩ = some (.int .i64 a1_1) := (blk_cell BK102.out 1).trans rfl; have hcz15_2 : w12.cell? ⟨gb102, 2, none⟩ = some (.int .i64 a1_2) := (blk_cell BK102.out 2).trans rfl; have hfz15_0 := blk_frozen BK102.out 0; have hfz15_1 := blk_frozen BK102.out 1; have hfz15_2 := blk_frozen BK102.out 2))
        go_ret
        exact ⟨by first | rfl | (simp [errW_none, errW_some] <;> rfl) | (simp [*, errW_none, errW_some] <;> rfl), by repeat (first | (with_reducible first | exact HB.out | apply below_alloc | apply pw_below_drewN | apply below_drew1 | refine below_set ?_ GE101.out | refine below_set ?_ GE102.out) | exact HB.out)⟩
    · rw [if_neg c4] at H
      have c4b0 : decide (a1_0 < (wrap64 (a0_0 + a0_2))) = false := decide_eq_false c4
      clear c4
      obtain rfl := Option.some.inj H
      go_enter Try.func80, Try.ntmps80
      go_wp2_with (first | ((with_reducible refine gate_dst (N := 2) rfl ?_); refine box_event ?hg (N := 2) ?hd (cs := #[.int .i64 a0_0, .int .i64 a0_1, .int .i64 a0_2]) (t := 56) ?hr ?_; (case hd => rfl); (case hg => rfl); (case hr => first | (go_simp; done) | (go_simp; rfl)); intro gb101 hg w16 hbox hb; have n0_ := Aside0.mk (below_step (by repeat (first | (with_reducible first | exact HB.out | apply below_alloc | apply pw_below_drewN | apply below_drew1) | exact HB.out)) hb); have n1_ := Aside0.mk (hbox); have n2_ := Aside0.mk ((by rw [hg]; exact (below_size (by repeat (first | (with_reducible first | exact HB.out | apply below_alloc | apply pw_below_drewN | apply below_drew1) | exact HB.out))) : w.heap.size ≤ gb101)); have n3_ := Aside0.mk ((by rw [hg]; exact (below_size (by repeat (first | (with_reducible first | exact HB.out | apply below_alloc | apply pw_below_drewN | apply below_drew1) | exact HB.out))) : w.heap.size ≤ gb101)); clear HB; have HB := n0_; have BK101 := n1_; have GW101 := n2_; have GE101 := n3_; clear n0_ n1_ n2_ n3_; clear hb hbox hg) | ((with_reducible refine gate_dst (N := 3) rfl ?_); refine box_event ?hg (N := 3) ?hd (cs := #[.int .i64 a1_0, .int .i64 a1_1, .int .i64 a1_2]) (t := 56) ?hr ?_; (case hd => rfl); (case hg => rfl); (case hr => first | (go_simp; done) | (go_simp; rfl)); intro gb102 hg w17 hbox hb; have n0_ := Aside0.mk (blk_below (g := gb101) (o := .cells #[.int .i64 a0_0, .int .i64 a0_1, .int .i64 a0_2] 56 (0, 0)) (by (with_reducible repeat (first | refine blk_drewN ?_ _ | refine blk_drew ?_ | refine blk_alloc ?_ _)); exact BK101.out) hb); have n1_ := Aside0.mk (below_step (by repeat (first | (with_reducible first | exact HB.out | apply below_alloc | apply pw_below_drewN | apply below_drew1 | refine below_set ?_ GE101.out) | exact HB.out)) hb); have n2_ := Aside0.mk (hbox); have n3_ := Aside0.mk ((by rw [hg]; exact (below_size (by repeat (first | (with_reducible first | exact HB.out | apply below_alloc | apply pw_below_drewN | apply below_drew1 | refine below_set ?_ GE101.out) | exact HB.out))) : w.heap.size ≤ gb102)); have n4_ := Aside0.mk ((by rw [hg]; exact (below_size (by repeat (first | (with_reducible first | exact HB.out | apply below_alloc | apply pw_below_drewN | apply below_drew1 | refine below_set ?_ GE101.out) | exact HB.out))) : w.heap.size ≤ gb102)); have n5_ := Aside0.mk ((by rw [hg]; exact Nat.ne_of_lt (blk_lt (g := gb101) (o := .cells #[.int .i64 a0_0, .int .i64 a0_1, .int .i64 a0_2] 56 (0, 0)) (by (with_reducible repeat (first | refine blk_drewN ?_ _ | refine blk_drew ?_ | refine blk_alloc ?_ _)); exact BK101.out)) : gb101 ≠ gb102)); have n6_ := Aside0.mk ((by rw [hg]; exact Nat.ne_of_gt (blk_lt (g := gb101) (o := .cells #[.int .i64 a0_0, .int .i64 a0_1, .int .i64 a0_2] 56 (0, 0)) (by (with_reducible repeat (first | refine blk_drewN ?_ _ | refine blk_drew ?_ | refine blk_alloc ?_ _)); exact BK101.out)) : gb102 ≠ gb101)); clear BK101; clear HB; have BK101 := n0_; have HB := n1_; have BK102 := n2_; have GW102 := n3_; have GE102 := n4_; have NB101_102 := n5_; have NB102_101 := n6_; clear n0_ n1_ n2_ n3_ n4_ n5_ n6_; clear hb hbox hg; have hnb18 := NB101_102.out; have hnc18 := NB102_101.out; have hcz19_0 : w17.cell? ⟨gb101, 0, none⟩ = some (.int .i64 a0_0) := (blk_cell BK101.out 0).trans rfl; have hcz19_1 : w17.cell? ⟨gb101, 1, none⟩ = some (.int .i64 a0_1) := (blk_cell BK101.out 1).trans rfl; have hcz19_2 : w17.cell? ⟨gb101, 2, none⟩ = some (.int .i64 a0_2) := (blk_cell BK101.out 2).trans rfl; have hfz19_0 := blk_frozen BK101.out 0; have hfz19_1 := blk_frozen BK101.out 1; have hfz19_2 := blk_frozen BK101.out 2; have hcz20_0 : w17.cell? ⟨gb102, 0, none⟩ = some (.int .i64 a1_0) := (blk_cell BK102.out 0).trans rfl; have hcz20_1 : w17.cell? ⟨gb102, 1, none⟩ = some (.int .i64 a1_1) := (blk_cell BK102.out 1).trans rfl; have hcz20_2 : w17.cell? ⟨gb102, 2, none⟩ = some (.int .i64 a1_2) := (blk_cell BK102.out 2).trans rfl; have hfz20_0 := blk_frozen BK102.out 0; have hfz20_1 := blk_frozen BK102.out 1; have hfz20_2 := blk_frozen BK102.out 2))
      go_ret
      exact ⟨by first | rfl | (simp [errW_none, errW_some] <;> rfl) | (simp [*, errW_none, errW_some] <;> rfl), by repeat (first | (with_reducible first | exact HB.out | apply below_alloc | apply pw_below_drewN | apply below_drew1 | refine below_set ?_ GE101.out | refine below_set ?_ GE102.out) | exact HB.out)⟩
  · rw [if_neg c3] at H
    have c3b0 : decide (a0_0 < (wrap64 (a1_0 + a1_2))) = false := decide_eq_false c3
    clear c3
    obtain rfl := Option.some.inj H
    go_enter Try.func80, Try.ntmps80
    go_wp2_with (first | ((with_reducible refine gate_dst (N := 2) rfl ?_); refine box_event ?hg (N := 2) ?hd (cs := #[.int .i64 a0_0, .int .i64 a0_1, .int .i64 a0_2]) (t := 56) ?hr ?_; (case hd => rfl); (case hg => rfl); (case hr => first | (go_simp; done) | (go_simp; rfl)); intro gb101 hg w21 hbox hb; have n0_ := Aside0.mk (below_step (by repeat (first | (with_reducible first | exact HB.out | apply below_alloc | apply pw_below_drewN | apply below_drew1) | exact HB.out)) hb); have n1_ := Aside0.mk (hbox); have n2_ := Aside0.mk ((by rw [hg]; exact (below_size (by repeat (first | (with_reducible first | exact HB.out | apply below_alloc | apply pw_below_drewN | apply below_drew1) | exact HB.out))) : w.heap.size ≤ gb101)); have n3_ := Aside0.mk ((by rw [hg]; exact (below_size (by repeat (first | (with_reducible first | exact HB.out | apply below_alloc | apply pw_below_drewN | apply below_drew1) | exact HB.out))) : w.heap.size ≤ gb101)); clear HB; have HB := n0_; have BK101 := n1_; have GW101 := n2_; have GE101 := n3_; clear n0_ n1_ n2_ n3_; clear hb hbox hg) | ((with_reducible refine gate_dst (N := 3) rfl ?_); refine box_event ?hg (N := 3) ?hd (cs := #[.int .i64 a1_0, .int .i64 a1_1, .int .i64 a1_2]) (t := 56) ?hr ?_; (case hd => rfl); (case hg => rfl); (case hr => first | (go_simp; done) | (go_simp; rfl)); intro gb102 hg w22 hbox hb; have n0_ := Aside0.mk (blk_below (g := gb101) (o := .cells #[.int .i64 a0_0, .int .i64 a0_1, .int .i64 a0_2] 56 (0, 0)) (by (with_reducible repeat (first | refine blk_drewN ?_ _ | refine blk_drew ?_ | refine blk_alloc ?_ _)); exact BK101.out) hb); have n1_ := Aside0.mk (below_step (by repeat (first | (with_reducible first | exact HB.out | apply below_alloc | apply pw_below_drewN | apply below_drew1 | refine below_set ?_ GE101.out) | exact HB.out)) hb); have n2_ := Aside0.mk (hbox); have n3_ := Aside0.mk ((by rw [hg]; exact (below_size (by repeat (first | (with_reducible first | exact HB.out | apply below_alloc | apply pw_below_drewN | apply below_drew1 | refine below_set ?_ GE101.out) | exact HB.out))) : w.heap.size ≤ gb102)); have n4_ := Aside0.mk ((by rw [hg]; exact (below_size (by repeat (first | (with_reducible first | exact HB.out | apply below_alloc | apply pw_below_drewN | apply below_drew1 | refine below_set ?_ GE101.out) | exact HB.out))) : w.heap.size ≤ gb102)); have n5_ := Aside0.mk ((by rw [hg]; exact Nat.ne_of_lt (blk_lt (g := gb101) (o := .cells #[.int .i64 a0_0, .int .i64 a0_1, .int .i64 a0_2] 56 (0, 0)) (by (with_reducible repeat (first | refine blk_drewN ?_ _ | refine blk_drew ?_ | refine blk_alloc ?_ _)); exact BK101.out)) : gb101 ≠ gb102)); have n6_ := Aside0.mk ((by rw [hg]; exact Nat.ne_of_gt (blk_lt (g := gb101) (o := .cells #[.int .i64 a0_0, .int .i64 a0_1, .int .i64 a0_2] 56 (0, 0)) (by (with_reducible repeat (first | refine blk_drewN ?_ _ | refine blk_drew ?_ | refine blk_alloc ?_ _)); exact BK101.out)) : gb102 ≠ gb101)); clear BK101; clear HB; have BK101 := n0_; have HB := n1_; have BK102 := n2_; have GW102 := n3_; have GE102 := n4_; have NB101_102 := n5_; have NB102_101 := n6_; clear n0_ n1_ n2_ n3_ n4_ n5_ n6_; clear hb hbox hg; have hnb23 := NB101_102.out; have hnc23 := NB102_101.out; have hcz24_0 : w22.cell? ⟨gb101, 0, none⟩ = some (.int .i64 a0_0) := (blk_cell BK101.out 0).trans rfl; have hcz24_1 : w22.cell? ⟨gb101, 1, none⟩ = some (.int .i64 a0_1) := (blk_cell BK101.out 1).trans rfl; have hcz24_2 : w22.cell? ⟨gb101, 2, none⟩ = some (.int .i64 a0_2) := (blk_cell BK101.out 2).trans rfl; have hfz24_0 := blk_frozen BK101.out 0; have hfz24_1 := blk_frozen BK101.out 1; have hfz24_2 := blk_frozen BK101.out 2; have hcz25_0 : w22.cell? ⟨gb102, 0, none⟩ = some (.int .i64 a1_0) := (blk_cell BK102.out 0).trans rfl; have hcz25_1 : w22.cell? ⟨gb102, 1, none⟩ = some (.int .i64 a1_1) := (blk_cell BK102.out 1).trans rfl; have hcz25_2 : w22.cell? ⟨gb102, 2, none⟩ = some (.int .i64 a1_2) := (blk_cell BK102.out 2).trans rfl; have hfz25_0 := blk_frozen BK102.out 0; have hfz25_1 := blk_frozen BK102.out 1; have hfz25_2 := blk_frozen BK102.out 2))
    go_ret
    exact ⟨by first | rfl | (simp [errW_none, errW_some] <;> rfl) | (simp [*, errW_none, errW_some] <;> rfl), by repeat (first | (with_reducible first | exact HB.out | apply below_alloc | apply pw_below_drewN | apply below_drew1 | refine below_set ?_ GE101.out | refine below_set ?_ GE102.out) | exact HB.out)⟩
end Go.Proofs.Ytdfcljfajiihdaa.P

namespace Go.Proofs.Ytdfcljfajiihdaa.P
open Go.RowKit Go.Proofs.YtdfcljfajiihdaaW.PrintWords Go.Proofs.YtdfcljfajiihdaaW.PrintLast Go.Proofs.YtdfcljfajiihdaaW.PrintMore
attribute [local go_sem] max2_int min2_int max_two min_two max_three min_three max_four min_four
set_option linter.unusedVariables false
set_option linter.unusedSimpArgs false
def ovl (a b : S56) : Bool := decide (a.f0 < wrap64 (b.f0 + b.f2)) && decide (b.f0 < wrap64 (a.f0 + a.f2)) && decide (a.f1 < wrap64 (b.f1 + b.f2)) && decide (b.f1 < wrap64 (a.f1 + a.f2))
theorem ovl_f (a b : S56) : impl_overlap.f a.f0 a.f1 a.f2 b.f0 b.f1 b.f2 = some (ovl a b) := by
  unfold impl_overlap.f ovl
  by_cases c1 : a.f0 < wrap64 (b.f0 + b.f2) <;> by_cases c2 : b.f0 < wrap64 (a.f0 + a.f2) <;> by_cases c3 : a.f1 < wrap64 (b.f1 + b.f2) <;> simp [c1, c2, c3]
theorem impl_IsCut_clo (x s : S56) (B : Nat) (w : World) (hB : B < w.heap.size) (h0 : w.cell? ⟨B, 0, none⟩ = some (.int .i64 s.f0)) (h1 : w.cell? ⟨B, 1, none⟩ = some (.int .i64 s.f1)) (h2 : w.cell? ⟨B, 2, none⟩ = some (.int .i64 s.f2)) :
    Calls Try.prog 79 #[.agg #[.int .i64 x.f0, .int .i64 x.f1, .int .i64 x.f2], .pointer (some ⟨B, 0, none⟩)] w fun e w' => e = .returned (.bool (ovl s x)) ∧ Below w.heap.size w w' := by
  have HF := Aside0.mk (fun W => impl_overlap.calls s.f0 s.f1 s.f2 x.f0 x.f1 x.f2 _ W (ovl_f s x))
  generalize ovl s x = b at HF ⊢
  have hne : B ≠ w.heap.size := by omega
  go_enter Try.func79, Try.ntmps79
  go_wp2_with (go_at_call 80; refine (HF.out _).mono ?_; rintro e w' ⟨rfl, hb⟩)
  go_ret
  exact ⟨rfl, ((Below.refl _ _).alloc (Nat.le_refl _) _).trans (hb.mono (by simp))⟩
def cmpP (a b : S56) : Int := if a.f1 = b.f1 then wrap64 (a.f0 - b.f0) else wrap64 (a.f1 - b.f1)
theorem cmpP_f (a b : S56) : impl_comparePlaces.f a.f0 a.f1 a.f2 b.f0 b.f1 b.f2 = some (cmpP a b) := by
  unfold impl_comparePlaces.f cmpP; split <;> rfl
theorem within_b (n lo hi : Int) : impl_within.f n lo hi = some (decide (lo ≤ n) && decide (n ≤ hi)) := by
  unfold impl_within.f; by_cases c : lo ≤ n <;> simp [c]
theorem isWide_b (n : Int) : impl_isWide.f n = some (decide (1 ≤ n) && decide (n ≤ 500)) := by
  unfold impl_isWide.f; rw [within_b]; rfl
def ok1 (W H : Int) (s : S56) : Bool := decide (1 ≤ s.f2) && decide (s.f2 ≤ mn W H)
def ok2 (W : Int) (s : S56) : Bool := decide (0 ≤ s.f0) && decide (s.f0 ≤ wrap64 (W - s.f2))
def ok3 (H : Int) (s : S56) : Bool := decide (0 ≤ s.f1) && decide (s.f1 ≤ wrap64 (H - s.f2))
def ok4 (l : List S56) (s : S56) (i : Nat) : Bool := decide (i = 0) || decide (cmpP (rd_T56 l ((i - 1 : Nat) : Int)) s < 0)
def okAt (W H : Int) (l : List S56) (i : Nat) : Bool :=
  let s := rd_T56 l (i : Int)
  ok1 W H s && ok2 W s && ok3 H s && ok4 l s i && !((l.take i).any (ovl s))
def areaW : List S56 → Int → Int
  | [], a => a
  | s :: l, a => areaW l (wrap64 (a + wrap64 (s.f2 * s.f2)))
theorem areaW_snoc (l : List S56) (s : S56) : ∀ a, areaW (l ++ [s]) a = wrap64 (areaW l a + wrap64 (s.f2 * s.f2)) := by
  induction l with
  | nil => intro a; rfl
  | cons t l ih => intro a; simp only [List.cons_append, areaW, ih]
def isCutB (W H : Int) (l : List S56) : Bool :=
  (decide (1 ≤ W) && decide (W ≤ 500)) && (decide (1 ≤ H) && decide (H ≤ 500)) && decide (l.length ≤ 30) && (List.range l.length).all (okAt W H l) && decide (areaW l 0 = wrap64 (W * H))
def impl_IsCut.f (a0_0 : Int) (a0_1 : Int) (l0_2 : List S56) : Option Bool := some (isCutB a0_0 a0_1 l0_2)
open Go.Proofs.Ytdfcljfajiihdaa.Gr in
set_option maxHeartbeats 4000000 in
set_option maxRecDepth 100000 in
theorem impl_IsCut.calls (a0_0 : Int) (a0_1 : Int) (A0_2 : Option Addr) (c0_2 : Nat) (l0_2 : List S56) (r : Bool) (w : World) (hr0_2 : Kd.C k56 w A0_2 l0_2.length l0_2) (hc0_2 : l0_2.length ≤ c0_2) (h : impl_IsCut.f a0_0 a0_1 l0_2 = some r) :
    Calls Try.prog 45 #[.agg #[.int .i64 a0_0, .int .i64 a0_1, .slice A0_2 l0_2.length c0_2]] w fun e w' => e = .returned (.bool r) ∧ Below w.heap.size w w' := by
  obtain rfl : isCutB a0_0 a0_1 l0_2 = r := Option.some.inj h
  clear h
  have hlen := hr0_2.2.1
  have HR := Aside0.mk hr0_2
  clear hr0_2
  have HW := Aside0.mk (fun n W => impl_isWide.calls n _ W (isWide_b n))
  have eg : ∀ args w, (callFunc 79 args).run Try.prog w = .ok (.enter 79 args) w := enters_of Try.func79 (by kernel_rfl) rfl
  have hu := Try.underlying56
  have hu2 := Try.underlying37
  generalize hq : isCutB a0_0 a0_1 l0_2 = q
  have HQ := Aside0.mk hq
  clear hq
  cases b1 : (decide (1 ≤ a0_0) && decide (a0_0 ≤ 500)) with
  | false =>
    have hq : q = false := by rw [← HQ.out]; unfold isCutB; rw [b1]; simp
    subst hq
    have H1 := Aside0.mk (fun W => by have := HW.out a0_0 W; rw [b1] at this; exact this)
    clear b1
    go_enter Try.func45, Try.ntmps45
    go_wp2_with (go_at_call 76; refine (H1.out _).mono ?_; rintro e w1 ⟨rfl, ⟨nd, rfl⟩⟩)
    go_ret
    exact ⟨rfl, by repeat (first | exact Below.refl _ _ | apply pw_below_drewN | apply below_alloc)⟩
  | true =>
  cases b2 : (decide (1 ≤ a0_1) && decide (a0_1 ≤ 500)) with
  | false =>
    have hq : q = false := by rw [← HQ.out]; unfold isCutB; rw [b2]; simp
    subst hq
    have H1 := Aside0.mk (fun W => by have := HW.out a0_0 W; rw [b1] at this; exact this)
    have H2 := Aside0.mk (fun W => by have := HW.out a0_1 W; rw [b2] at this; exact this)
    clear b1 b2
    go_enter Try.func45, Try.ntmps45
    go_wp2_with fail
    refine (H1.out _).mono ?_
    rintro e w1 ⟨rfl, ⟨nd, rfl⟩⟩
    go_wp2_with fail
    refine (H2.out _).mono ?_
    rintro e w1 ⟨rfl, ⟨nd2, rfl⟩⟩
    go_wp2
    go_ret
    exact ⟨rfl, by repeat (first | exact Below.refl _ _ | apply pw_below_drewN | apply below_alloc)⟩
  | true =>
  cases b3 : decide (l0_2.length ≤ 30) with
  | false =>
    have hq : q = false := by rw [← HQ.out]; unfold isCutB; rw [b3]; simp
    subst hq
    have b3' : decide (30 < l0_2.length) = true := by simp at b3 ⊢; omega
    have b3z : decide ((30 : Int) < (l0_2.length : Int)) = true := by simp at b3 ⊢; omega
    have H1 := Aside0.mk (fun W => by have := HW.out a0_0 W; rw [b1] at this; exact this)
    have H2 := Aside0.mk (fun W => by have := HW.out a0_1 W; rw [b2] at this; exact this)
    clear b1 b2 b3
    go_enter Try.func45, Try.ntmps45
    go_wp2_with fail
    refine (H1.out _).mono ?_
    rintro e w1 ⟨rfl, ⟨nd, rfl⟩⟩
    go_wp2_with fail
    refine (H2.out _).mono ?_
    rintro e w1 ⟨rfl, ⟨nd2, rfl⟩⟩
    go_wp2
    go_ret
    exact ⟨rfl, by repeat (first | exact Below.refl _ _ | apply pw_below_drewN | apply below_alloc)⟩
  | true =>
    have b3' : decide (30 < l0_2.length) = false := by simp at b3 ⊢; omega
    have b3z : decide ((30 : Int) < (l0_2.length : Int)) = false := by simp at b3 ⊢; omega
    have B123 := Aside0.mk (And.intro b1 (And.intro b2 b3))
    have H1 := Aside0.mk (fun W => by have := HW.out a0_0 W; rw [b1] at this; exact this)
    have H2 := Aside0.mk (fun W => by have := HW.out a0_1 W; rw [b2] at this; exact this)
    clear b1 b2 b3
    go_enter Try.func45, Try.ntmps45
    go_wp2_with fail
    refine (H1.out _).mono ?_
    rintro e w1 ⟨rfl, ⟨nd, rfl⟩⟩
    go_wp2_with fail
    refine (H2.out _).mono ?_
    rintro e w1 ⟨rfl, ⟨nd2, rfl⟩⟩
    go_wp2
    clear b3' b3z
    have HC0 : ∀ X, X = ((w.alloc (.cells #[.int .i64 a0_0, .int .i64 a0_1, .slice A0_2 l0_2.length c0_2] 37)).drewN (nd + nd2)) → Aside0 (Below w.heap.size w X ∧ X.heap.size = w.heap.size + 1 ∧ X.cell? ⟨w.heap.size, 0, none⟩ = some (.int .i64 a0_0) ∧ X.cell? ⟨w.heap.size, 1, none⟩ = some (.int .i64 a0_1) ∧ X.cell? ⟨w.heap.size, 2, none⟩ = some (.slice A0_2 l0_2.length c0_2)) := by
      rintro X rfl
      exact ⟨by repeat (first | exact Below.refl _ _ | apply pw_below_drewN | apply below_alloc), by simp, by simp, by simp, by simp⟩
    replace HC0 := HC0 _ rfl
    generalize ((w.alloc (.cells #[.int .i64 a0_0, .int .i64 a0_1, .slice A0_2 l0_2.length c0_2] 37)).drewN (nd + nd2)) = W1 at HC0 ⊢
    have HI := Aside0.mk (fun a b c W => impl_within.calls a b c _ W (within_b a b c))
    go_loopg [3, 4, 5, 25] l0_2.length (fun gg v3 v4 v5 v25 wc => ∃ i : Nat, i ≤ l0_2.length ∧ l0_2.length - i ≤ gg ∧ v25 = .int .i64 i ∧ v3 = .int .i64 (areaW (l0_2.take i) 0) ∧ Aside0 (Below W1.heap.size W1 wc) ∧ Aside0 (∀ j, j < i → okAt a0_0 a0_1 l0_2 j = true))
    case atStart => exact ⟨0, by omega, by omega, rfl, rfl, ⟨Below.refl _ _⟩, ⟨fun j hj => by omega⟩⟩
    case round =>
      obtain ⟨i, hi, hg, rfl, rfl, HB, HO⟩ := hrel
      have HBw := Aside0.mk (HC0.out.1.trans (HB.out.mono HC0.out.1.size))
      have hsz : w.heap.size < wr.heap.size := by have h1 := HC0.out.2.1; have h2 := HB.out.size; omega
      have d0 : wr.cell? ⟨w.heap.size, 0, none⟩ = some (.int .i64 a0_0) := (HB.out.cell (p := ⟨w.heap.size, 0, none⟩) (by have := HC0.out.2.1; show w.heap.size < _; omega)).trans HC0.out.2.2.1
      have d1 : wr.cell? ⟨w.heap.size, 1, none⟩ = some (.int .i64 a0_1) := (HB.out.cell (p := ⟨w.heap.size, 1, none⟩) (by have := HC0.out.2.1; show w.heap.size < _; omega)).trans HC0.out.2.2.2.1
      have d2 : wr.cell? ⟨w.heap.size, 2, none⟩ = some (.slice A0_2 l0_2.length c0_2) := (HB.out.cell (p := ⟨w.heap.size, 2, none⟩) (by have := HC0.out.2.1; show w.heap.size < _; omega)).trans HC0.out.2.2.2.2
      by_cases hlt : i < l0_2.length
      · have hltz : decide ((i : Int) < (l0_2.length : Int)) = true := by simp; omega
        obtain ⟨ad, e1, hx0, hx1, hx2⟩ := at_T56 (Kd.C_below HR.out HBw.out) (i : Int) (by omega) (by omega)
        cases e1
        simp only [Int.toNat_natCast] at hx0 hx1 hx2
        have HOK : Aside0 (okAt a0_0 a0_1 l0_2 i = (ok1 a0_0 a0_1 (rd_T56 l0_2 (i : Int)) && ok2 a0_0 (rd_T56 l0_2 (i : Int)) && ok3 a0_1 (rd_T56 l0_2 (i : Int)) && ok4 l0_2 (rd_T56 l0_2 (i : Int)) i && !((l0_2.take i).any (ovl (rd_T56 l0_2 (i : Int)))))) := ⟨rfl⟩
        have HNX : Aside0 (l0_2.take (i + 1) = l0_2.take i ++ [rd_T56 l0_2 (i : Int)]) := ⟨by rw [List.take_succ_eq_append_getElem hlt]; simp [rd_T56, hlt]⟩
        generalize hss : rd_T56 l0_2 (i : Int) = s at hx0 hx1 hx2 HOK HNX
        clear hss
        have hne : w.heap.size ≠ wr.heap.size := by omega
        have HF := Aside0.mk (fun (h : okAt a0_0 a0_1 l0_2 i = false) => show isCutB a0_0 a0_1 l0_2 = false by
          unfold isCutB
          have : (List.range l0_2.length).all (okAt a0_0 a0_1 l0_2) = false := by
            rw [List.all_eq_false]; exact ⟨i, List.mem_range.2 hlt, by rw [h]; simp⟩
          rw [this]; simp)
        obtain ⟨m, hm⟩ : ∃ m, mn a0_0 a0_1 = m := ⟨_, rfl⟩
        have hmm : (if a0_1 < a0_0 then a0_1 else a0_0) = m := hm
        have HM := Aside0.mk hm
        clear hm
        cases k1 : ok1 a0_0 a0_1 s with
        | false =>
          have hq : q = false := by rw [← HQ.out]; exact HF.out (by rw [HOK.out, k1]; simp)
          subst hq
          have V1 : Aside0 (∀ W, Calls Try.prog 32 #[.int .i64 s.f2, .int .i64 1, .int .i64 m] W fun e w' => e = .returned (.bool false) ∧ Drawn0 W w') := ⟨fun W => by have := HI.out s.f2 1 m W; rw [show (decide (1 ≤ s.f2) && decide (s.f2 ≤ m)) = false from by rw [← HM.out]; exact k1] at this; exact this⟩
          clear k1
          go_wp2_with fail
          refine (V1.out _).mono ?_
          rintro e w1 ⟨rfl, ⟨nd1, rfl⟩⟩
          go_wp2
          go_ret
          exact ⟨rfl, by repeat (first | exact HBw.out | apply pw_below_drewN | apply below_alloc)⟩
        | true =>
        have V1 : Aside0 (∀ W, Calls Try.prog 32 #[.int .i64 s.f2, .int .i64 1, .int .i64 m] W fun e w' => e = .returned (.bool true) ∧ Drawn0 W w') := ⟨fun W => by have := HI.out s.f2 1 m W; rw [show (decide (1 ≤ s.f2) && decide (s.f2 ≤ m)) = true from by rw [← HM.out]; exact k1] at this; exact this⟩
        have K1 := Aside0.mk k1
        clear k1
        cases k2 : ok2 a0_0 s with
        | false =>
          have hq : q = false := by rw [← HQ.out]; exact HF.out (by rw [HOK.out, k2]; simp)
          subst hq
          have V2 : Aside0 (∀ W, Calls Try.prog 32 #[.int .i64 s.f0, .int .i64 0, .int .i64 (wrap64 (a0_0 - s.f2))] W fun e w' => e = .returned (.bool false) ∧ Drawn0 W w') := ⟨fun W => by have := HI.out s.f0 0 (wrap64 (a0_0 - s.f2)) W; rw [show (decide (0 ≤ s.f0) && decide (s.f0 ≤ wrap64 (a0_0 - s.f2))) = false from k2] at this; exact this⟩
          clear k2
          go_wp2_with fail
          refine (V1.out _).mono ?_
          rintro e w1 ⟨rfl, ⟨nd1, rfl⟩⟩
          go_wp2_with fail
          refine (V2.out _).mono ?_
          rintro e w1 ⟨rfl, ⟨nd1, rfl⟩⟩
          go_wp2
          go_ret
          exact ⟨rfl, by repeat (first | exact HBw.out | apply pw_below_drewN | apply below_alloc)⟩
        | true =>
        have V2 : Aside0 (∀ W, Calls Try.prog 32 #[.int .i64 s.f0, .int .i64 0, .int .i64 (wrap64 (a0_0 - s.f2))] W fun e w' => e = .returned (.bool true) ∧ Drawn0 W w') := ⟨fun W => by have := HI.out s.f0 0 (wrap64 (a0_0 - s.f2)) W; rw [show (decide (0 ≤ s.f0) && decide (s.f0 ≤ wrap64 (a0_0 - s.f2))) = true from k2] at this; exact this⟩
        have K2 := Aside0.mk k2
        clear k2
        cases k3 : ok3 a0_1 s with
        | false =>
          have hq : q = false := by rw [← HQ.out]; exact HF.out (by rw [HOK.out, k3]; simp)
          subst hq
          have V3 : Aside0 (∀ W, Calls Try.prog 32 #[.int .i64 s.f1, .int .i64 0, .int .i64 (wrap64 (a0_1 - s.f2))] W fun e w' => e = .returned (.bool false) ∧ Drawn0 W w') := ⟨fun W => by have := HI.out s.f1 0 (wrap64 (a0_1 - s.f2)) W; rw [show (decide (0 ≤ s.f1) && decide (s.f1 ≤ wrap64 (a0_1 - s.f2))) = false from k3] at this; exact this⟩
          clear k3
          go_wp2_with fail
          refine (V1.out _).mono ?_
          rintro e w1 ⟨rfl, ⟨nd1, rfl⟩⟩
          go_wp2_with fail
          refine (V2.out _).mono ?_
          rintro e w1 ⟨rfl, ⟨nd1, rfl⟩⟩
          go_wp2_with fail
          refine (V3.out _).mono ?_
          rintro e w1 ⟨rfl, ⟨nd1, rfl⟩⟩
          go_wp2
          go_ret
          exact ⟨rfl, by repeat (first | exact HBw.out | apply pw_below_drewN | apply below_alloc)⟩
        | true =>
        have V3 : Aside0 (∀ W, Calls Try.prog 32 #[.int .i64 s.f1, .int .i64 0, .int .i64 (wrap64 (a0_1 - s.f2))] W fun e w' => e = .returned (.bool true) ∧ Drawn0 W w') := ⟨fun W => by have := HI.out s.f1 0 (wrap64 (a0_1 - s.f2)) W; rw [show (decide (0 ≤ s.f1) && decide (s.f1 ≤ wrap64 (a0_1 - s.f2))) = true from k3] at this; exact this⟩
        have K3 := Aside0.mk k3
        clear k3
        go_wp2_with fail
        refine (V1.out _).mono ?_
        rintro e w1 ⟨rfl, ⟨nd1, rfl⟩⟩
        go_wp2_with fail
        refine (V2.out _).mono ?_
        rintro e w1 ⟨rfl, ⟨nd2', rfl⟩⟩
        go_wp2_with fail
        refine (V3.out _).mono ?_
        rintro e w1 ⟨rfl, ⟨nd3, rfl⟩⟩
        go_wp2
        have HX : ∀ X, X = ((wr.alloc (.cells #[.int .i64 s.f0, .int .i64 s.f1, .int .i64 s.f2] 56)).drewN (nd1 + nd2' + nd3)) → Aside0 (Below w.heap.size w X ∧ Below W1.heap.size W1 X ∧ X.heap.size = wr.heap.size + 1) ∧ X.cell? ⟨w.heap.size, 2, none⟩ = some (.slice (some ad) l0_2.length c0_2) ∧ X.cell? ⟨wr.heap.size, 0, none⟩ = some (.int .i64 s.f0) ∧ X.cell? ⟨wr.heap.size, 1, none⟩ = some (.int .i64 s.f1) ∧ X.cell? ⟨wr.heap.size, 2, none⟩ = some (.int .i64 s.f2) := by
          rintro X rfl
          refine ⟨⟨by repeat (first | exact HBw.out | apply pw_below_drewN | apply below_alloc), by repeat (first | exact HB.out | apply pw_below_drewN | apply below_alloc), by simp⟩, ?_, ?_, ?_, ?_⟩
          · have hbx : Below wr.heap.size wr ((wr.alloc (.cells #[.int .i64 s.f0, .int .i64 s.f1, .int .i64 s.f2] 56)).drewN (nd1 + nd2' + nd3)) := by repeat (first | exact Below.refl _ _ | apply pw_below_drewN | apply below_alloc)
            exact (hbx.cell (p := ⟨w.heap.size, 2, none⟩) hsz).trans d2
          · simp
          · simp
          · simp
        obtain ⟨XF, x0, x1, x2, x3⟩ := HX _ rfl
        generalize ((wr.alloc (.cells #[.int .i64 s.f0, .int .i64 s.f1, .int .i64 s.f2] 56)).drewN (nd1 + nd2' + nd3)) = X at XF x0 x1 x2 x3 ⊢
        clear HX d0 d1 d2 hx0 hx1 hx2
        have HCF : Aside0 (∀ W, Below X.heap.size X W → Calls Try.prog 78 #[.slice (some ad) i c0_2, .func (.func 79) #[] #[.pointer (some ⟨wr.heap.size, 0, none⟩)]] W fun e w' => e = .returned (.bool ((l0_2.take i).any (ovl s))) ∧ Below W.heap.size W w') := ⟨fun W hW => by
          have hC := Kd.C_below (Kd.C_below HR.out XF.out.1) hW
          have hT : Kd.C k56 W (some ad) (l0_2.take i).length (l0_2.take i) := by
            refine ⟨rfl, by have := hC.2.1; simp; omega, fun h => ?_⟩
            obtain ⟨ad', e, hh⟩ := hC.2.2 (by omega)
            refine ⟨ad', e, fun j p hj => hh j p ?_⟩
            rw [List.getElem?_take] at hj
            split at hj
            · exact hj
            · cases hj
          have hl : (l0_2.take i).length = i := by simp; omega
          have hh := slices_ContainsFunc_sq (l0_2.take i) (some ad) c0_2 79 #[.pointer (some ⟨wr.heap.size, 0, none⟩)] (ovl s) W hT (by omega) eg (fun V x hV => by
            have hB : wr.heap.size < W.heap.size := by have := XF.out.2.2; have := hW.size; omega
            refine (impl_IsCut_clo x s wr.heap.size V (by have := hV.size; omega) ?_ ?_ ?_).mono ?_
            · exact (hV.cell (p := ⟨wr.heap.size, 0, none⟩) hB).trans ((hW.cell (p := ⟨wr.heap.size, 0, none⟩) (by have := XF.out.2.2; show wr.heap.size < _; omega)).trans x1)
            · exact (hV.cell (p := ⟨wr.heap.size, 1, none⟩) hB).trans ((hW.cell (p := ⟨wr.heap.size, 1, none⟩) (by have := XF.out.2.2; show wr.heap.size < _; omega)).trans x2)
            · exact (hV.cell (p := ⟨wr.heap.size, 2, none⟩) hB).trans ((hW.cell (p := ⟨wr.heap.size, 2, none⟩) (by have := XF.out.2.2; show wr.heap.size < _; omega)).trans x3)
            · rintro e w' ⟨rfl, hb⟩
              exact ⟨rfl, hV.trans (hb.mono hV.size)⟩)
          rw [hl] at hh
          exact hh⟩
        have hXs := Aside0.mk XF.out.2.2
        have x0' := fun p => cell_gr (p := p) (by have := hXs.out; show w.heap.size < _; omega) x0
        have x1' := fun p => cell_gr (p := p) (by have := hXs.out; show wr.heap.size < _; omega) x1
        have x2' := fun p => cell_gr (p := p) (by have := hXs.out; show wr.heap.size < _; omega) x2
        have x3' := fun p => cell_gr (p := p) (by have := hXs.out; show wr.heap.size < _; omega) x3
        clear x0 x1 x2 x3
        generalize hb5 : (l0_2.take i).any (ovl s) = b5 at HCF HOK
        clear hb5
        have HCP : Aside0 (∀ W, Calls Try.prog 77 #[.agg #[.int .i64 (rd_T56 l0_2 ((i - 1 : Nat) : Int)).f0, .int .i64 (rd_T56 l0_2 ((i - 1 : Nat) : Int)).f1, .int .i64 (rd_T56 l0_2 ((i - 1 : Nat) : Int)).f2], .agg #[.int .i64 s.f0, .int .i64 s.f1, .int .i64 s.f2]] W fun e w' => e = .returned (.int .i64 (cmpP (rd_T56 l0_2 ((i - 1 : Nat) : Int)) s)) ∧ Below W.heap.size W w') := ⟨fun W => impl_comparePlaces.calls _ _ _ _ _ _ _ W (cmpP_f _ s)⟩
        by_cases hi0 : i = 0
        · have z1 : decide ((0 : Int) < (i : Int)) = false := by simp; omega
          have z2 : decide (0 < i) = false := by simp; omega
          have KK4 : ok4 l0_2 s i = true := by unfold ok4; simp [hi0]
          have HK4 := Aside0.mk KK4
          clear KK4 hi0
          cases b5 with
          | true =>
            have hq : q = false := by rw [← HQ.out]; exact HF.out (by rw [HOK.out]; simp)
            subst hq
            refine wp_region_gr (by kernel_rfl) (by kernel_rfl) ?_
            repeat (go_big_quiet_step (first | (go_at_call 78; refine Calls.gr_of (HCF.out _ (Gr.h _))) | (go_at_call 77; refine Calls.gr_of (HCP.out _))))
            refine wpQuiet_nil ?_
            intro W2 hw'
            obtain ⟨⟨V2, hB2⟩, hw''⟩ := hw'
            replace hw'' : W2 = V2 := hw''
            subst hw''
            go_wp2
            go_ret
            exact ⟨rfl, XF.out.1.trans (hB2.mono XF.out.1.size)⟩
          | false =>
            refine wp_region_gr (by kernel_rfl) (by kernel_rfl) ?_
            repeat (go_big_quiet_step (first | (go_at_call 78; refine Calls.gr_of (HCF.out _ (Gr.h _))) | (go_at_call 77; refine Calls.gr_of (HCP.out _))))
            refine wpQuiet_nil ?_
            intro W2 hw'
            obtain ⟨⟨V2, hB2⟩, hw''⟩ := hw'
            replace hw'' : W2 = V2 := hw''
            subst hw''
            have y3 : W2.cell? ⟨wr.heap.size, 2, none⟩ = some (.int .i64 s.f2) := x3' ⟨W2, hB2⟩
            have HB2 := Aside0.mk hB2
            clear hB2 x0' x1' x2' x3'
            go_wp2
            go_roundg (l0_2.length - (i + 1))
            case measure => omega
            case rel =>
              refine ⟨i + 1, by omega, by omega, by go_num, ?_, ⟨XF.out.2.1.trans (HB2.out.mono XF.out.2.1.size)⟩, ⟨fun j hj => ?_⟩⟩
              · rw [HNX.out, areaW_snoc]
              · by_cases e : j = i
                · subst e; rw [HOK.out, K1.out, K2.out, K3.out, HK4.out]; rfl
                · exact HO.out j (by omega)
        · have z1 : decide ((0 : Int) < (i : Int)) = true := by simp; omega
          have z2 : decide (0 < i) = true := by simp; omega
          have hi1 : i - 1 + 1 = i := by omega
          obtain ⟨adp, ep, hp0, hp1, hp2⟩ := at_T56 (Kd.C_below HR.out XF.out.1) ((i - 1 : Nat) : Int) (by omega) (by omega)
          obtain rfl : ad = adp := by injection ep
          have hlt' := Kd.C_lt (Kd.C_below HR.out XF.out.1) (show 0 < l0_2.length by omega) (by decide)
          simp only [Int.toNat_natCast] at hp0 hp1 hp2
          have KK4 : ok4 l0_2 s i = decide (cmpP (rd_T56 l0_2 ((i - 1 : Nat) : Int)) s < 0) := by unfold ok4; simp [hi0]
          have HK4 := Aside0.mk KK4
          clear KK4 hi0 ep
          generalize rd_T56 l0_2 ((i - 1 : Nat) : Int) = t at HCP HK4 hp0 hp1 hp2
          generalize hcc : cmpP t s = cc at HCP HK4
          clear hcc
          have hlb : (ad.add ((i - 1) * 3)).block < X.heap.size := by rw [show (ad.add ((i - 1) * 3)).block = ad.block from by unfold Addr.add; split <;> rfl]; exact hlt'
          have hp0' := fun p => cell_gr (p := p) hlb hp0
          have hp1' := fun p => cell_gr (p := p) (a := ⟨(ad.add ((i - 1) * 3)).block, (ad.add ((i - 1) * 3)).off + 1, none⟩) hlb hp1
          have hp2' := fun p => cell_gr (p := p) (a := ⟨(ad.add ((i - 1) * 3)).block, (ad.add ((i - 1) * 3)).off + 2, none⟩) hlb hp2
          clear hp0 hp1 hp2 hlt' hlb
          by_cases hc0 : cc < 0
          · have z3 : decide (0 ≤ cc) = false := by simp; omega
            have HC9 := Aside0.mk hc0
            clear hc0
            cases b5 with
            | true =>
              have hq : q = false := by rw [← HQ.out]; exact HF.out (by rw [HOK.out]; simp)
              subst hq
              refine wp_region_gr (by kernel_rfl) (by kernel_rfl) ?_
              repeat (go_big_quiet_step (first | (go_at_call 78; refine Calls.gr_of (HCF.out _ (Gr.h _))) | (go_at_call 77; refine Calls.gr_of (HCP.out _))))
              refine wpQuiet_nil ?_
              intro W2 hw'
              obtain ⟨⟨V2, hB2⟩, hw''⟩ := hw'
              replace hw'' : W2 = V2 := hw''
              subst hw''
              go_wp2
              go_ret
              exact ⟨rfl, XF.out.1.trans (hB2.mono XF.out.1.size)⟩
            | false =>
              refine wp_region_gr (by kernel_rfl) (by kernel_rfl) ?_
              repeat (go_big_quiet_step (first | (go_at_call 78; refine Calls.gr_of (HCF.out _ (Gr.h _))) | (go_at_call 77; refine Calls.gr_of (HCP.out _))))
              refine wpQuiet_nil ?_
              intro W2 hw'
              obtain ⟨⟨V2, hB2⟩, hw''⟩ := hw'
              replace hw'' : W2 = V2 := hw''
              subst hw''
              have y3 : W2.cell? ⟨wr.heap.size, 2, none⟩ = some (.int .i64 s.f2) := x3' ⟨W2, hB2⟩
              have HB2 := Aside0.mk hB2
              clear hB2 x0' x1' x2' x3'
              go_wp2
              go_roundg (l0_2.length - (i + 1))
              case measure => omega
              case rel =>
                refine ⟨i + 1, by omega, by omega, by go_num, ?_, ⟨XF.out.2.1.trans (HB2.out.mono XF.out.2.1.size)⟩, ⟨fun j hj => ?_⟩⟩
                · rw [HNX.out, areaW_snoc]
                · by_cases e : j = i
                  · subst e; rw [HOK.out, K1.out, K2.out, K3.out, HK4.out, decide_eq_true HC9.out]; rfl
                  · exact HO.out j (by omega)
          · have z3 : decide (0 ≤ cc) = true := by simp; omega
            have hq : q = false := by rw [← HQ.out]; exact HF.out (by rw [HOK.out, HK4.out, decide_eq_false hc0]; simp)
            subst hq
            clear hc0
            refine wp_region_gr (by kernel_rfl) (by kernel_rfl) ?_
            repeat (go_big_quiet_step (first | (go_at_call 77; refine Calls.gr_of (HCP.out _))))
            refine wpQuiet_nil ?_
            intro W2 hw'
            obtain ⟨⟨V2, hB2⟩, hw''⟩ := hw'
            replace hw'' : W2 = V2 := hw''
            subst hw''
            go_wp2
            go_ret
            exact ⟨rfl, XF.out.1.trans (hB2.mono XF.out.1.size)⟩
      · have hltz : decide ((i : Int) < (l0_2.length : Int)) = false := by simp; omega
        have hil : l0_2.take i = l0_2 := List.take_of_length_le (by omega)
        have hall : (List.range l0_2.length).all (okAt a0_0 a0_1 l0_2) = true := by
          rw [List.all_eq_true]; exact fun j hj => HO.out j (by have := List.mem_range.1 hj; omega)
        have hq : (areaW l0_2 0 == wrap64 (a0_0 * a0_1)) = q := by
          rw [← HQ.out]; unfold isCutB; rw [B123.out.1, B123.out.2.1, B123.out.2.2, hall]; simp; rfl
        rw [hil]
        have HE := Aside0.mk hq
        clear hil hall hq
        generalize areaW l0_2 0 = ar at HE ⊢
        go_wp2
        go_ret
        refine ⟨?_, HBw.out⟩
        rw [← HE.out]
        rfl
end Go.Proofs.Ytdfcljfajiihdaa.P

namespace Go.Proofs.Ytdfcljfajiihdaa.P
open Go.RowKit Go.Proofs.YtdfcljfajiihdaaW.PrintWords Go.Proofs.YtdfcljfajiihdaaW.PrintLast Go.Proofs.YtdfcljfajiihdaaW.PrintMore
attribute [local go_sem] max2_int min2_int max_two min_two max_three min_three max_four min_four
set_option linter.unusedVariables false
set_option linter.unusedSimpArgs false
open Go.Proofs.Ytdfcljfajiihdaa.T Go.Proofs.Ytdfcljfajiihdaa.Aid
theorem R_emptyq (W : World) (base : Nat) (hb : base ≤ W.heap.size) : Kd.R k56 56 (W.alloc (.cells #[] 56)) base (fun _ => True) (.slice (some ⟨W.heap.size, 0, none⟩) 0 0) [] :=
  ⟨fun k hk => trivial, [], World.ownsRow_lit (base := base) (e := 56) (size := 3) W #[] 0 hb (by simp [maxLen]) (by simp), Reps.none _ _⟩
set_option maxHeartbeats 1000000 in
theorem slices_Clone_sq (l : List Sq) (A : Option Addr) (c : Nat) (w : World) (hr : Kd.C k56 w A l.length l) (hc : l.length ≤ c) (hl : l.length ≤ 1000000) :
    Calls Try.prog 88 #[.slice A l.length c] w fun e w' => ∃ v, e = .returned v ∧ Kd.R k56 56 w' w.heap.size (fun _ => True) v l ∧ Below w.heap.size w w' := by
  have q36 : ∀ (w : World) (a : Option Addr) (n c n' c' : Nat), (binOp .eql 35 (.slice a n c) (.slice none n' c')).run Try.prog w = .ok (.bool a.isNone) w := fun w a n c n' c' => Go.Lib.run_eql_slice_nil w _ _ a n c n' c' Try.underlying35
  cases A with
  | none =>
    have h0 : l = [] := by
      cases l with
      | nil => rfl
      | cons x l =>
        obtain ⟨ad, e, _⟩ := at_T56 hr 0 (by omega) (by simp)
        cases e
    subst h0
    go_enter Try.func88, Try.ntmps88
    go_wp2_with fail
    go_ret
    exact ⟨_, rfl, Kd.R_nil _ _ _ _ _, by repeat (first | exact Below.refl _ _ | apply below_alloc | apply pw_below_drewN)⟩
  | some ad =>
    have HR := Aside0.mk hr
    clear hr
    go_enter Try.func88, Try.ntmps88
    go_wp2_with (first | ((with_reducible refine gate_builtin (b := .append) (xs := #[.tmp 5, .tmp 6]) rfl ?_); at_builtin; refine Kd.R_append_rows k56 (w0 := w) w.heap.size rfl (.tmp 5) (.tmp 6) 35 56 (.agg #[.int .i64 0, .int .i64 0, .int .i64 0]) 24 rfl Try.underlying35 info56 rfl (by decide) (by omega) (.slice (some ⟨w.heap.size, 0, none⟩) 0 0) [] l _ _ _ (fun _ => True) (fun _ => False) rfl rfl (R_emptyq w _ (Nat.le_refl _)) ?aR (fun _ _ h => h) (fun _ h => h.elim) (fun _ _ => trivial) (below_alloc (Below.refl _ _) _) (below_alloc (Below.refl _ _) _).size ?aL ?_; (case aR => exact (show Kd.C k56 _ (some ad) l.length l from Kd.C_alloc HR.out _)); (case aL => simp; omega); intro v1 w1 ho hb hg hat; rw [List.nil_append] at ho; have HO := Aside0.mk ho; have HB := Aside0.mk hb; clear ho hb hg hat))
    go_ret
    exact ⟨_, rfl, HO.out, HB.out⟩
end Go.Proofs.Ytdfcljfajiihdaa.P

namespace Go.Proofs.Ytdfcljfajiihdaa.T
open Go.Sort
variable {α : Type} [Inhabited α]
theorem swpGet (d : Array α) {i j : Nat} (hi : i < d.size) (hj : j < d.size) (k : Nat) :
    (swp d i j)[k]! = if k = j then d[i]! else if k = i then d[j]! else d[k]! := by
  unfold swp
  simp only [getElem!_def, Array.getElem?_setIfInBounds, Array.size_setIfInBounds]
  by_cases h1 : k = j
  · subst h1; simp [hj]
  · by_cases h2 : k = i
    · subst h2; simp [hi, Ne.symm h1, h1]
    · simp [Ne.symm h1, Ne.symm h2, h1, h2]
theorem swpSize (d : Array α) (i j : Nat) : (swp d i j).size = d.size := by simp [swp]
def swpN (d : Array α) (a b : Nat) : Nat → Array α
  | 0 => d
  | n + 1 => swp (swpN d a b n) (a + n) (b + n)
theorem swpN_size (d : Array α) (a b : Nat) : ∀ n, (swpN d a b n).size = d.size
  | 0 => rfl
  | n + 1 => by rw [swpN, swpSize, swpN_size d a b n]
theorem swpN_get (d : Array α) (a b : Nat) : ∀ n, a + n ≤ b → b + n ≤ d.size → ∀ k, (swpN d a b n)[k]! = if a ≤ k ∧ k < a + n then d[b + (k - a)]! else if b ≤ k ∧ k < b + n then d[a + (k - b)]! else d[k]!
  | 0, _, _, k => by simp only [swpN]; rw [if_neg (by omega), if_neg (by omega)]
  | n + 1, h1, h2, k => by
    have ih := swpN_get d a b n (by omega) (by omega)
    rw [swpN, swpGet _ (by rw [swpN_size]; omega) (by rw [swpN_size]; omega), ih (a + n), ih (b + n), ih k]
    by_cases c1 : k = b + n
    · subst c1
      rw [if_pos rfl, if_neg (by omega), if_neg (by omega), if_neg (by omega), if_pos (by omega)]
      congr 1; omega
    · rw [if_neg c1]
      by_cases c2 : k = a + n
      · subst c2
        rw [if_pos rfl, if_neg (by omega), if_neg (by omega), if_pos (by omega)]
        congr 1; omega
      · rw [if_neg c2]
        by_cases c3 : a ≤ k ∧ k < a + n
        · rw [if_pos c3, if_pos (by omega)]
        · have e3 : ¬ (a ≤ k ∧ k < a + (n + 1)) := by omega
          rw [if_neg c3, if_neg e3]
          by_cases c4 : b ≤ k ∧ k < b + n
          · rw [if_pos c4, if_pos (by omega)]
          · rw [if_neg c4, if_neg (by omega)]
theorem swpN_perm (d : Array α) (lo hi a b : Nat) : ∀ n, lo ≤ a → a + n ≤ hi → lo ≤ b → b + n ≤ hi → hi ≤ d.size → PermIn lo hi d (swpN d a b n)
  | 0, _, _, _, _, _ => permIn_refl _ _ _
  | n + 1, h1, h2, h3, h4, h5 => permIn_trans _ _ _ _ _ (swpN_perm d lo hi a b n h1 (by omega) h3 (by omega) h5) (swp_permIn _ _ _ _ _ (by omega) (by omega) (by omega) (by omega) (by rw [swpN_size]; omega))
structure Rot (d : Array α) (a m b : Nat) (d' : Array α) : Prop where
  size : d'.size = d.size
  out : ∀ k, k < a ∨ b ≤ k → d'[k]! = d[k]!
  lo : ∀ k, k < b - m → d'[a + k]! = d[m + k]!
  hi : ∀ k, k < m - a → d'[a + (b - m) + k]! = d[a + k]!
theorem Rot.last (d : Array α) (m i : Nat) (h1 : i ≤ m) (h2 : m + i ≤ d.size) : Rot d (m - i) m (m + i) (swpN d (m - i) m i) := by
  have g := swpN_get d (m - i) m i (by omega) h2
  refine ⟨swpN_size _ _ _ _, fun k hk => ?_, fun k hk => ?_, fun k hk => ?_⟩
  · rw [g, if_neg (by omega), if_neg (by omega)]
  · rw [g, if_pos (by omega)]; congr 1; omega
  · rw [g, if_neg (by omega), if_pos (by omega)]; congr 1; omega
theorem Rot.left {d d' : Array α} {m i j : Nat} (h1 : i ≤ m) (hj : j < i) (h2 : m + j ≤ d.size) (h : Rot (swpN d (m - i) m j) (m - (i - j)) m (m + j) d') : Rot d (m - i) m (m + j) d' := by
  have g := swpN_get d (m - i) m j (by omega) h2
  refine ⟨h.size.trans (swpN_size _ _ _ _), fun k hk => ?_, fun k hk => ?_, fun k hk => ?_⟩
  · rw [h.out k (by omega), g, if_neg (by omega), if_neg (by omega)]
  · rw [h.out _ (by omega), g, if_pos (by omega)]; congr 1; omega
  · by_cases c : k < j
    · have := h.lo k (by omega)
      rw [show m - (i - j) + k = m - i + (m + j - m) + k by omega] at this
      rw [this, g, if_neg (by omega), if_pos (by omega)]; congr 1; omega
    · have := h.hi (k - j) (by omega)
      rw [show m - (i - j) + (m + j - m) + (k - j) = m - i + (m + j - m) + k by omega] at this
      rw [this, g, if_neg (by omega), if_neg (by omega)]; congr 1; omega
theorem Rot.right {d d' : Array α} {m i j : Nat} (h1 : i ≤ m) (hj : i < j) (h2 : m + j ≤ d.size) (h : Rot (swpN d (m - i) (m + j - i) i) (m - i) m (m + (j - i)) d') : Rot d (m - i) m (m + j) d' := by
  have g := swpN_get d (m - i) (m + j - i) i (by omega) (by omega)
  refine ⟨h.size.trans (swpN_size _ _ _ _), fun k hk => ?_, fun k hk => ?_, fun k hk => ?_⟩
  · rw [h.out k (by omega), g, if_neg (by omega), if_neg (by omega)]
  · by_cases c : k < j - i
    · rw [h.lo k (by omega), g, if_neg (by omega), if_neg (by omega)]
    · have := h.hi (k - (j - i)) (by omega)
      rw [show m - i + (m + (j - i) - m) + (k - (j - i)) = m - i + k by omega] at this
      rw [this, g, if_pos (by omega)]; congr 1; omega
  · rw [h.out _ (by omega), g, if_neg (by omega), if_pos (by omega)]; congr 1; omega
theorem Rot.nil_left {d : Array α} {m b : Nat} : Rot d m m b d := ⟨rfl, fun _ _ => rfl, fun _ _ => rfl, fun k hk => by omega⟩
theorem Rot.nil_right {d : Array α} {a m : Nat} : Rot d a m m d := ⟨rfl, fun _ _ => rfl, fun k hk => by omega, fun k hk => by simp⟩
variable {lt : α → α → Bool}
theorem SortedIn.le (O : SWO lt) {a b : Nat} {d : Array α} (h : SortedIn lt a b d) {i j : Nat} (hi : a ≤ i) (hij : i ≤ j) (hj : j < b) : lt d[j]! d[i]! = false := by
  rcases Nat.lt_or_eq_of_le hij with h1 | h1
  · exact h i j hi h1 hj
  · subst h1; exact O.irrefl _
structure Parts (lt : α → α → Bool) (a s m e b : Nat) (d : Array α) : Prop where
  p1 : SortedIn lt a s d
  p2 : SortedIn lt s m d
  p3 : SortedIn lt m e d
  p4 : SortedIn lt e b d
  cross : ∀ i j, a ≤ i → i < m → m ≤ j → j < b → lt d[j]! d[i]! = false
theorem sym_parts (O : SWO lt) {d d1 : Array α} {a m b mid n s e lo hi : Nat} (ham : a < m) (hmb : m < b) (hmid : mid = (a + b) / 2) (hn : n = mid + m)
    (hlo : lo = if mid < m then n - b else a) (hhi : hi = if mid < m then mid else m) (h1 : lo ≤ s) (h2 : s ≤ hi) (he : e = n - s)
    (hs : s = lo ∨ lt d[n - s]! d[s - 1]! = false) (ht : s = hi ∨ lt d[n - 1 - s]! d[s]! = true)
    (hS1 : SortedIn lt a m d) (hS2 : SortedIn lt m b d) (hR : Rot d s m e d1) : Parts lt a s mid e b d1 := by
  have hb0 : a ≤ lo ∧ lo ≤ hi ∧ hi ≤ m ∧ hi ≤ mid ∧ n - b ≤ lo := by
    rw [hlo, hhi]
    by_cases c : mid < m
    · rw [if_pos c, if_pos c]; omega
    · rw [if_neg c, if_neg c]; omega
  have hlo' : a < s → s = lo → e = b := fun h4 h5 => by
    subst h5
    by_cases c : mid < m
    · rw [if_pos c] at hlo; omega
    · rw [if_neg c] at hlo; omega
  have hhi' : s = hi → s = m ∨ e = m := fun h5 => by
    subst h5
    by_cases c : mid < m
    · rw [if_pos c] at hhi; omega
    · rw [if_neg c] at hhi; omega
  have g1 : ∀ i, a ≤ i → i < s → d1[i]! = d[i]! := fun i _ h => hR.out i (.inl h)
  have g2 : ∀ i, s ≤ i → i < mid → d1[i]! = d[m + (i - s)]! := fun i h h' => by
    have := hR.lo (i - s) (by omega)
    rwa [show s + (i - s) = i by omega] at this
  have g3 : ∀ i, mid ≤ i → i < e → d1[i]! = d[s + (i - mid)]! := fun i h h' => by
    have := hR.hi (i - mid) (by omega)
    rwa [show s + (e - m) + (i - mid) = i by omega] at this
  have g4 : ∀ i, e ≤ i → d1[i]! = d[i]! := fun i h => hR.out i (.inr h)
  refine ⟨fun i j hi hij hj => ?_, fun i j hi hij hj => ?_, fun i j hi hij hj => ?_, fun i j hi hij hj => ?_, fun i j hi hi2 hj hj2 => ?_⟩
  · rw [g1 i hi (by omega), g1 j (by omega) hj]; exact hS1 i j hi hij (by omega)
  · rw [g2 i hi (by omega), g2 j (by omega) hj]; exact hS2 _ _ (by omega) (by omega) (by omega)
  · rw [g3 i hi (by omega), g3 j (by omega) hj]; exact hS1 _ _ (by omega) (by omega) (by omega)
  · rw [g4 i hi, g4 j (by omega)]; exact hS2 i j (by omega) hij hj
  · by_cases c1 : i < s
    · rw [g1 i hi c1]
      by_cases c2 : j < e
      · rw [g3 j hj c2]; exact SortedIn.le O hS1 hi (by omega) (by omega)
      · rw [g4 j (by omega)]
        -- d[i] ≤ d[s-1] ≤ d[e] ≤ d[j]
        rcases hs with hs | hs
        · have := hlo' (by omega) hs; omega
        · have h3 : lt d[s - 1]! d[i]! = false := SortedIn.le O hS1 hi (by omega) (by omega)
          have h4 : lt d[j]! d[n - s]! = false := SortedIn.le O hS2 (by omega) (by omega) hj2
          exact O.ntrans _ _ _ h4 (O.ntrans _ _ _ hs h3)
    · rw [g2 i (by omega) hi2]
      by_cases c2 : j < e
      · rw [g3 j hj c2]
        rcases ht with ht | ht
        · rcases hhi' ht with h5 | h5 <;> omega
        · have h0 : lt d[s]! d[n - 1 - s]! = false := by
            cases hc : lt d[s]! d[n - 1 - s]! with
            | false => rfl
            | true => have := O.trans _ _ _ hc ht; rw [O.irrefl] at this; cases this
          have h3 : lt d[s + (j - mid)]! d[s]! = false := SortedIn.le O hS1 (by omega) (by omega) (by omega)
          have h4 : lt d[n - 1 - s]! d[m + (i - s)]! = false := SortedIn.le O hS2 (by omega) (by omega) (by omega)
          exact O.ntrans _ _ _ h3 (O.ntrans _ _ _ h0 h4)
      · rw [g4 j (by omega)]; exact SortedIn.le O hS2 (by omega) (by omega) hj2
theorem sym_done {a mid b : Nat} {d1 d2 d3 : Array α} (hb : b ≤ d1.size) (ham : a ≤ mid) (hmb : mid ≤ b) (hc : ∀ i j, a ≤ i → i < mid → mid ≤ j → j < b → lt d1[j]! d1[i]! = false)
    (hp2 : PermIn a mid d1 d2) (hs2 : SortedIn lt a mid d2) (hp3 : PermIn mid b d2 d3) (hs3 : SortedIn lt mid b d3) : PermIn a b d1 d3 ∧ SortedIn lt a b d3 := by
  refine ⟨permIn_trans _ _ _ _ _ (permIn_mono _ _ _ _ _ _ (Nat.le_refl _) hmb hb hp2) (permIn_mono _ _ _ _ _ _ ham (Nat.le_refl _) (by rw [hp2.1]; exact hb) hp3), fun i j hi hij hj => ?_⟩
  by_cases c1 : j < mid
  · rw [hp3.2.1 i (.inl (by omega)), hp3.2.1 j (.inl c1)]; exact hs2 i j hi hij c1
  · by_cases c2 : i < mid
    · have hx : ∀ j, mid ≤ j → j < b → lt d2[j]! d2[i]! = false := by
        intro j h1 h2
        rw [hp2.2.1 j (.inr h1)]
        exact permIn_all d1 d2 a mid (fun x => lt d1[j]! x = false) (by omega) hp2 (fun i hi hi2 => hc i j hi hi2 h1 h2) i hi c2
      rw [hp3.2.1 i (.inl c2)]
      exact permIn_all d2 d3 mid b (fun x => lt x d2[i]! = false) (by rw [hp2.1]; exact hb) hp3 hx j (by omega) hj
    · exact hs3 i j (by omega) hij hj
end Go.Proofs.Ytdfcljfajiihdaa.T
