import Derived.Test.YthmcdiekgfgpdaaMFnExactCountMirroredwWords
import Derived.Test.YthmcdiekgfgpdaaMFnExactCountMirroredwLast
import Derived.Test.YthmcdiekgfgpdaaMFnExactCountMirroredwTab
import Derived.Test.YthmcdiekgfgpdaaMFnExactCountMirroredwApart
import Derived.Test.YthmcdiekgfgpdaaMFnExactCountMirroredwFoot
import Derived.Test.YthmcdiekgfgpdaaMFnExactCountMirroredwKept
import Derived.Test.YthmcdiekgfgpdaaMFnExactCountMirroredwShare
import Derived.Test.YthmcdiekgfgpdaaMFnExactCountMirroredwN
import Derived.Test.YthmcdiekgfgpdaaMFnExactCountMirroredwEqStruct
import Derived.Test.YthmcdiekgfgpdaaMFnExactCountMirroredwRepsOne
import Derived.Test.YthmcdiekgfgpdaaMFnExactCountMirroredwInv
import Derived.Test.YthmcdiekgfgpdaaMFnExactCountMirroredwMore
import Derived.Test.YthmcdiekgfgpdaaMFnExactCountMirroredx0
import Derived.Test.YthmcdiekgfgpdaaMFnExactCountMirroredx1
namespace Go.Proofs.Ythmcdiekgfgpdaa.P
open Go.RowKit Go.Proofs.YthmcdiekgfgpdaaW.PrintWords Go.Proofs.YthmcdiekgfgpdaaW.PrintLast Go.Proofs.YthmcdiekgfgpdaaW.PrintMore
attribute [local go_sem] max2_int min2_int max_two min_two max_three min_three max_four min_four
set_option linter.unusedVariables false
set_option linter.unusedSimpArgs false
def spec_cuText.l0 : Nat → ByteArray → List (S42) → Int → Int → Option (ByteArray)
  | 0, _, _, _, _ => none
  | k + 1, x3, x15, x16, x17 => if x17 < x16 then (if 0 ≤ x17 then (if x17 < (x15.length : Int) then ((spec_l1Num.f k ((rd_T42 x15 x17).f0)).bind fun t106 => (if 1 + t106.size ≤ 9223372036854775807 then (if ((⟨#[59]⟩ : ByteArray) ++ t106).size + 1 ≤ 9223372036854775807 then ((spec_l1Num.f k ((rd_T42 x15 x17).f1)).bind fun t107 => (if (((⟨#[59]⟩ : ByteArray) ++ t106) ++ (⟨#[44]⟩ : ByteArray)).size + t107.size ≤ 9223372036854775807 then (if ((((⟨#[59]⟩ : ByteArray) ++ t106) ++ (⟨#[44]⟩ : ByteArray)) ++ t107).size + 1 ≤ 9223372036854775807 then ((spec_l1Num.f k ((rd_T42 x15 x17).f2)).bind fun t108 => (if (((((⟨#[59]⟩ : ByteArray) ++ t106) ++ (⟨#[44]⟩ : ByteArray)) ++ t107) ++ (⟨#[44]⟩ : ByteArray)).size + t108.size ≤ 9223372036854775807 then (if x3.size + ((((((⟨#[59]⟩ : ByteArray) ++ t106) ++ (⟨#[44]⟩ : ByteArray)) ++ t107) ++ (⟨#[44]⟩ : ByteArray)) ++ t108).size ≤ 9223372036854775807 then (spec_cuText.l0 k (x3 ++ ((((((⟨#[59]⟩ : ByteArray) ++ t106) ++ (⟨#[44]⟩ : ByteArray)) ++ t107) ++ (⟨#[44]⟩ : ByteArray)) ++ t108)) x15 x16 (wrap64 (x17 + 1))) else (none)) else (none))) else (none)) else (none))) else (none)) else (none))) else (none)) else (none)) else (some x3)
def spec_cuText.f (k : Nat) (a0_0 : Int) (a0_1 : Int) (l0_2 : List (S42)) : Option (ByteArray) := (spec_l1Num.f k a0_0).bind fun t102 => (if t102.size + 1 ≤ 9223372036854775807 then ((spec_l1Num.f k a0_1).bind fun t103 => (if (t102 ++ (⟨#[120]⟩ : ByteArray)).size + t103.size ≤ 9223372036854775807 then (spec_cuText.l0 k ((t102 ++ (⟨#[120]⟩ : ByteArray)) ++ t103) l0_2 (l0_2.length : Int) 0) else (none))) else (none))
def spec_cuText.T1 : Bool × List (List Nat × List Nat) := (true, [([], []), ([0], [0]), ([1], [1]), ([2], [2]), ([], []), ([4], [4]), ([5, 2], [5]), ([3, 6], [3, 6]), ([7, 6, 0, 1, 2, 3, 4, 5, 6, 7], [7])])
def spec_cuText.B1 : List Nat := [0, 1, 3, 7, 0, 16, 55, 127, 255]
theorem spec_cuText.tab1 : rtab .any (opsOf Try.f8 1) = spec_cuText.T1 := by kernel_rfl
theorem spec_cuText.bits1 : waitsOk spec_cuText.T1.2 spec_cuText.B1 = true := by kernel_rfl
def spec_cuText.T5 : Bool × List (List Nat × List Nat) := (true, [([], []), ([], []), ([1], [1]), ([2], [2]), ([3], [3]), ([4], [4]), ([], []), ([6], [6]), ([7, 3], [7]), ([5, 8], [5, 8]), ([9], [9]), ([], []), ([11], [11]), ([12, 8], [12]), ([10, 13], [10, 13]), ([0, 14], [0, 14]), ([15, 13, 0, 1, 2, 3, 4, 5, 6, 7, 8, 9, 10, 11, 12, 13, 14, 15], [0, 15])])
def spec_cuText.B5 : List Nat := [0, 0, 2, 6, 14, 30, 0, 64, 206, 510, 1022, 0, 2048, 6606, 16382, 32767, 65535]
theorem spec_cuText.tab5 : rtab .any (opsOf Try.f8 5) = spec_cuText.T5 := by kernel_rfl
theorem spec_cuText.bits5 : waitsOk spec_cuText.T5.2 spec_cuText.B5 = true := by kernel_rfl
set_option maxHeartbeats 8000000 in
set_option maxRecDepth 100000 in
theorem spec_cuText.calls (k : Nat) (a0_0 : Int) (a0_1 : Int) (A0_2 : Option Addr) (c0_2 : Nat) (l0_2 : List (S42)) (r : ByteArray) (w : World) (hr0_2 : Kd.C k42 w A0_2 l0_2.length l0_2) (hc0_2 : l0_2.length ≤ c0_2) (h : spec_cuText.f k a0_0 a0_1 l0_2 = some r) :
    Calls Try.prog 8 #[.agg #[.int .i64 a0_0, .int .i64 a0_1, .slice A0_2 l0_2.length c0_2]] w fun e w' => e = .returned (.string r) ∧ Below w.heap.size w w' := by
  have hu29 := Try.underlying29
  have hu42 := Try.underlying42
  have HR0_2 := Aside0.mk hr0_2
  have HC0_2 := Aside0.mk hc0_2
  clear hr0_2 hc0_2
  have HB := Aside0.mk (Below.refl w.heap.size w)
  have H : ((spec_l1Num.f k a0_0).bind fun t102 => (if t102.size + 1 ≤ 9223372036854775807 then ((spec_l1Num.f k a0_1).bind fun t103 => (if (t102 ++ (⟨#[120]⟩ : ByteArray)).size + t103.size ≤ 9223372036854775807 then (spec_cuText.l0 k ((t102 ++ (⟨#[120]⟩ : ByteArray)) ++ t103) l0_2 (l0_2.length : Int) 0) else (none))) else (none))) = some r := h
  clear h
  replace H := Option.bind_eq_some_iff.mp H
  obtain ⟨t102, A20, H⟩ := H
  replace H : (if t102.size + 1 ≤ 9223372036854775807 then ((spec_l1Num.f k a0_1).bind fun t103 => (if (t102 ++ (⟨#[120]⟩ : ByteArray)).size + t103.size ≤ 9223372036854775807 then (spec_cuText.l0 k ((t102 ++ (⟨#[120]⟩ : ByteArray)) ++ t103) l0_2 (l0_2.length : Int) 0) else (none))) else (none)) = some r := H
  have A2 := Aside0.mk A20
  clear A20
  by_cases c3 : t102.size + 1 ≤ 9223372036854775807
  · rw [if_pos c3] at H
    have c3b0 := eq_true c3
    have c3b1 : decide (t102.size + 1 ≤ 9223372036854775807) = true := decide_eq_true c3
    try have c3b2 : (9223372036854775807 < t102.size + 1) = False := eq_false (Nat.not_lt.2 c3)
    replace H := Option.bind_eq_some_iff.mp H
    obtain ⟨t103, A40, H⟩ := H
    replace H : (if (t102 ++ (⟨#[120]⟩ : ByteArray)).size + t103.size ≤ 9223372036854775807 then (spec_cuText.l0 k ((t102 ++ (⟨#[120]⟩ : ByteArray)) ++ t103) l0_2 (l0_2.length : Int) 0) else (none)) = some r := H
    have A4 := Aside0.mk A40
    clear A40
    by_cases c5 : (t102 ++ (⟨#[120]⟩ : ByteArray)).size + t103.size ≤ 9223372036854775807
    · rw [if_pos c5] at H
      have c5b0 := eq_true c5
      have c5b1 : decide ((t102 ++ (⟨#[120]⟩ : ByteArray)).size + t103.size ≤ 9223372036854775807) = true := decide_eq_true c5
      try have c5b2 : (9223372036854775807 < (t102 ++ (⟨#[120]⟩ : ByteArray)).size + t103.size) = False := eq_false (Nat.not_lt.2 c5)
      try have c5b9 : (9223372036854775807 < t102.size + 1 + t103.size) = False := by have h_ := c5b2; simp only [ByteArray.size_append] at h_; exact h_
      have H' := Aside0.mk H
      clear H
      go_enter Try.func8, Try.ntmps8
      try go_wp2_with (first | ((with_reducible refine gate_dst (N := 1) rfl ?_); refine box_event ?hg (N := 1) ?hd (cs := #[.int .i64 a0_0, .int .i64 a0_1, .slice A0_2 l0_2.length c0_2]) (t := 29) ?hr ?_; (case hd => rfl); (case hg => rfl); (case hr => first | (go_simp; done) | (go_simp; rfl)); intro gb101 hg w6 hbox hb; have n0_ := Aside0.mk (below_step (by repeat (first | (with_reducible first | exact HB.out | apply below_alloc | apply pw_below_drewN | apply below_drew1) | exact HB.out)) hb); have n1_ := Aside0.mk (hbox); have n2_ := Aside0.mk ((by rw [hg]; exact (below_size (by repeat (first | (with_reducible first | exact HB.out | apply below_alloc | apply pw_below_drewN | apply below_drew1) | exact HB.out))) : w.heap.size ≤ gb101)); have n3_ := Aside0.mk ((by rw [hg]; exact (below_size (by repeat (first | (with_reducible first | exact HB.out | apply below_alloc | apply pw_below_drewN | apply below_drew1) | exact HB.out))) : w.heap.size ≤ gb101)); clear HB; have HB := n0_; have BK101 := n1_; have GW101 := n2_; have GE101 := n3_; clear n0_ n1_ n2_ n3_; clear hb hbox hg))
      have n0_ := Aside0.mk (blk_drew BK101.out)
      have n1_ := Aside0.mk (below_drew1 HB.out)
      clear BK101
      clear HB
      have BK101 := n0_
      have HB := n1_
      clear n0_ n1_
      refine start_ (n := 9) (S := fun w' => w'.cell? ⟨gb101, 0, none⟩ = some (.int .i64 a0_0) ∧ w'.cell? ⟨gb101, 1, none⟩ = some (.int .i64 a0_1) ∧ w'.cell? ⟨gb101, 2, none⟩ = some (.slice A0_2 l0_2.length c0_2)) (ds := []) #[false, false, false, false, false, false, false, false, false] (by kernel_rfl) rfl rfl ⟨(blk_cell BK101.out 0).trans rfl, (blk_cell BK101.out 1).trans rfl, (blk_cell BK101.out 2).trans rfl⟩ (fun hHeld => ?_); refine with_tabW spec_cuText.tab1 spec_cuText.bits1 (fun HT_ HW_ => ?_)
      generalize w6.drew = w7 at BK101 HB hHeld ⊢
      refine pure_ (i := 0) (N := some 6) (v := ?_) (a' := ?_) #[true, false, false, false, false, false, false, false, false] rfl rfl (any_of HT_.out (by kernel_rfl)) (fun _ _ _ h => h) (Or.inl ⟨by rfl, ?_⟩) ?_ ?_
      rotate_left
      · intro w'
        go_simp
        with_reducible rfl
      rotate_left
      · simp only [Act.put, List.setIfInBounds_toArray, List.set_cons_zero, List.set_cons_succ, i64_w, i32_w]
        rfl
      refine pure_ (i := 4) (N := some 10) (v := ?_) (a' := ?_) #[true, false, false, false, true, false, false, false, false] rfl rfl (any_of HT_.out (by kernel_rfl)) (fun _ _ _ h => h) (Or.inl ⟨by rfl, ?_⟩) ?_ ?_
      rotate_left
      · intro w'
        go_simp
        with_reducible rfl
      rotate_left
      · simp only [Act.put, List.setIfInBounds_toArray, List.set_cons_zero, List.set_cons_succ, i64_w, i32_w]
        rfl
      refine take_ (i := 1) (N := some 7) (v := ?_) (a' := ?_) #[true, true, false, false, true, false, false, false, false] rfl rfl (take_ofW HT_.out HW_.out (by kernel_rfl)) (fun _ _ _ h => h) (Or.inl ⟨by rfl, ?_⟩) hHeld ?_ ?_
      rotate_left
      · rintro w' ⟨s0, s1, s2⟩
        go_simp
        with_reducible rfl
      rotate_left
      · simp only [Act.put, List.setIfInBounds_toArray, List.set_cons_zero, List.set_cons_succ, i64_w, i32_w]
        rfl
      refine take_ (i := 5) (N := some 11) (v := ?_) (a' := ?_) #[true, true, false, false, true, true, false, false, false] rfl rfl (take_ofW HT_.out HW_.out (by kernel_rfl)) (fun _ _ _ h => h) (Or.inl ⟨by rfl, ?_⟩) hHeld ?_ ?_
      rotate_left
      · rintro w' ⟨s0, s1, s2⟩
        go_simp
        with_reducible rfl
      rotate_left
      · simp only [Act.put, List.setIfInBounds_toArray, List.set_cons_zero, List.set_cons_succ, i64_w, i32_w]
        rfl
      refine one_ (i := 2) (N := some 8) #[true, true, true, false, true, true, false, false, false] rfl rfl (one_of HT_.out (by kernel_rfl)) (by decide) (fun K hK => ?_)
      refine goes_ Try.func17 (by kernel_rfl) rfl #[.int .i64 a0_0] (by rfl) rfl rfl (by (try simp only [List.map_toArray, List.map_cons, List.map_nil]); first | done | rfl | (simp only [List.length_drop, List.length_take]; rfl)) ?_
      with_reducible refine (spec_l1Num.calls k a0_0 t102 _ A2.out).mono ?_
      rintro e w8 ⟨rfl, hb⟩
      refine ⟨_, rfl, ?_⟩
      have n0_ := Aside0.mk (blk_below (g := gb101) (o := .cells #[.int .i64 a0_0, .int .i64 a0_1, .slice A0_2 l0_2.length c0_2] 29 (0, 0)) (by (with_reducible repeat (first | refine blk_drewN ?_ _ | refine blk_drew ?_ | refine blk_alloc ?_ _)); exact BK101.out) hb)
      have n1_ := Aside0.mk (below_step (by repeat (first | (with_reducible first | exact HB.out | apply below_alloc | apply pw_below_drewN | apply below_drew1 | refine below_set ?_ GE101.out) | exact HB.out)) hb)
      clear BK101
      clear HB
      have BK101 := n0_
      have HB := n1_
      clear n0_ n1_
      (try clear hb)
      (try clear hb2)
      (try clear hk)
      (try clear hi)
      refine hK.out _ _ ⟨(blk_cell BK101.out 0).trans rfl, (blk_cell BK101.out 1).trans rfl, (blk_cell BK101.out 2).trans rfl⟩ (fun hHeld => ?_)
      clear hK K
      refine norm_ (a' := ?_) ?_ ?_
      rotate_left
      · show Act.put _ (some 8) _ = _
        simp only [Act.put, List.setIfInBounds_toArray, List.set_cons_zero, List.set_cons_succ, i64_w, i32_w]
        rfl
      refine pure_ (i := 3) (N := some 9) (v := ?_) (a' := ?_) #[true, true, true, true, true, true, false, false, false] rfl rfl (any_of HT_.out (by kernel_rfl)) (fun _ _ _ h => h) (Or.inl ⟨by rfl, ?_⟩) ?_ ?_
      rotate_left
      · intro w'
        go_simp
        with_reducible rfl
      rotate_left
      · simp only [Act.put, List.setIfInBounds_toArray, List.set_cons_zero, List.set_cons_succ, i64_w, i32_w]
        rfl
      refine one_ (i := 6) (N := some 12) #[true, true, true, true, true, true, true, false, false] rfl rfl (one_of HT_.out (by kernel_rfl)) (by decide) (fun K hK => ?_)
      refine goes_ Try.func17 (by kernel_rfl) rfl #[.int .i64 a0_1] (by rfl) rfl rfl (by (try simp only [List.map_toArray, List.map_cons, List.map_nil]); first | done | rfl | (simp only [List.length_drop, List.length_take]; rfl)) ?_
      with_reducible refine (spec_l1Num.calls k a0_1 t103 _ A4.out).mono ?_
      rintro e w9 ⟨rfl, hb⟩
      refine ⟨_, rfl, ?_⟩
      have n0_ := Aside0.mk (blk_below (g := gb101) (o := .cells #[.int .i64 a0_0, .int .i64 a0_1, .slice A0_2 l0_2.length c0_2] 29 (0, 0)) (by (with_reducible repeat (first | refine blk_drewN ?_ _ | refine blk_drew ?_ | refine blk_alloc ?_ _)); exact BK101.out) hb)
      have n1_ := Aside0.mk (below_step (by repeat (first | (with_reducible first | exact HB.out | apply below_alloc | apply pw_below_drewN | apply below_drew1 | refine below_set ?_ GE101.out) | exact HB.out)) hb)
      clear BK101
      clear HB
      have BK101 := n0_
      have HB := n1_
      clear n0_ n1_
      (try clear hb)
      (try clear hb2)
      (try clear hk)
      (try clear hi)
      refine hK.out _ _ ⟨(blk_cell BK101.out 0).trans rfl, (blk_cell BK101.out 1).trans rfl, (blk_cell BK101.out 2).trans rfl⟩ (fun hHeld => ?_)
      clear hK K
      refine norm_ (a' := ?_) ?_ ?_
      rotate_left
      · show Act.put _ (some 12) _ = _
        simp only [Act.put, List.setIfInBounds_toArray, List.set_cons_zero, List.set_cons_succ, i64_w, i32_w]
        rfl
      refine pure_ (i := 7) (N := some 13) (v := ?_) (a' := ?_) #[true, true, true, true, true, true, true, true, false] rfl rfl (any_of HT_.out (by kernel_rfl)) (fun _ _ _ h => h) (Or.inl ⟨by rfl, ?_⟩) ?_ ?_
      rotate_left
      · intro w'
        go_simp
        with_reducible rfl
      rotate_left
      · simp only [Act.put, List.setIfInBounds_toArray, List.set_cons_zero, List.set_cons_succ, i64_w, i32_w]
        rfl
      refine pure_ (i := 8) (N := some 3) (v := ?_) (a' := ?_) #[true, true, true, true, true, true, true, true, true] rfl rfl (any_of HT_.out (by kernel_rfl)) (fun _ _ _ h => h) (Or.inl ⟨by rfl, ?_⟩) ?_ ?_
      rotate_left
      · intro w'
        go_simp
        with_reducible rfl
      rotate_left
      · simp only [Act.put, List.setIfInBounds_toArray, List.set_cons_zero, List.set_cons_succ, i64_w, i32_w]
        rfl
      refine done_ (done_of HT_.out (by kernel_rfl)) ?_
      have hcz10_0 : w9.cell? ⟨gb101, 0, none⟩ = some (.int .i64 a0_0) := (blk_cell BK101.out 0).trans rfl
      have hcz10_1 : w9.cell? ⟨gb101, 1, none⟩ = some (.int .i64 a0_1) := (blk_cell BK101.out 1).trans rfl
      have hcz10_2 : w9.cell? ⟨gb101, 2, none⟩ = some (.slice A0_2 l0_2.length c0_2) := (blk_cell BK101.out 2).trans rfl
      have hfz10_0 := blk_frozen BK101.out 0
      have hfz10_1 := blk_frozen BK101.out 1
      have hfz10_2 := blk_frozen BK101.out 2
      try go_wp2
      go_loopg [3, 17] k (fun kq v3 v17 w' => ∃ (x3_1 : ByteArray) (x17_1 : Int), v3 = .string x3_1 ∧ v17 = .int .i64 x17_1 ∧ Aside0 (spec_cuText.l0 kq x3_1 l0_2 (l0_2.length : Int) x17_1 = some r) ∧ Aside0 (kq ≤ k) ∧ Aside0 (w'.heap[gb101]? = some (.cells #[.int .i64 a0_0, .int .i64 a0_1, (.slice A0_2 l0_2.length c0_2)] 29 (0, 0))) ∧ Aside0 (Below w.heap.size w w'))
      case atStart => exact ⟨((t102 ++ (⟨#[120]⟩ : ByteArray)) ++ t103), (0), (by first | rfl | (simp; done) | (simp [*]; done)), (by first | rfl | (simp; done) | (simp [*]; done)), H', ⟨Nat.le_refl _⟩, ⟨by (with_reducible repeat (first | refine blk_drewN ?_ _ | refine blk_drew ?_ | refine blk_alloc ?_ _)); exact BK101.out⟩, ⟨by repeat (first | (with_reducible first | exact HB.out | apply below_alloc | apply pw_below_drewN | apply below_drew1 | refine below_set ?_ GE101.out) | exact HB.out)⟩⟩
      case round =>
        clear H'
        try clear c1
        try clear p2
        try clear c3
        try clear c3b0
        try clear c3b1
        try clear c3b2
        try clear c5
        try clear c5b0
        try clear c5b1
        try clear c5b2
        try clear c8
        try clear hcz10_0
        try clear hcz10_1
        try clear hcz10_2
        try clear hfz10_0
        try clear hfz10_1
        try clear hfz10_2
        obtain ⟨x3_1, x17_1, rfl, rfl, HA, HK1, BK101, HB⟩ := hrel
        cases gk with
        | zero => exact absurd HA.out (by simp [spec_cuText.l0])
        | succ k1 =>
          have H := HA.out
          clear HA
          simp only [spec_cuText.l0] at H
          by_cases c11 : x17_1 < (l0_2.length : Int)
          · rw [if_pos c11] at H
            have c11b0 : decide (x17_1 < (l0_2.length : Int)) = true := decide_eq_true c11
            clear c11
            by_cases c12 : 0 ≤ x17_1
            · rw [if_pos c12] at H
              have c12b0 : decide (0 ≤ x17_1) = true := decide_eq_true c12
              clear c12
              by_cases c13 : x17_1 < (l0_2.length : Int)
              · rw [if_pos c13] at H
                have c13b0 : decide (x17_1 < (l0_2.length : Int)) = true := decide_eq_true c13
                clear c13
                replace H := Option.bind_eq_some_iff.mp H
                obtain ⟨t106, A140, H⟩ := H
                replace H : (if 1 + t106.size ≤ 9223372036854775807 then (if ((⟨#[59]⟩ : ByteArray) ++ t106).size + 1 ≤ 9223372036854775807 then ((spec_l1Num.f k1 ((rd_T42 l0_2 x17_1).f1)).bind fun t107 => (if (((⟨#[59]⟩ : ByteArray) ++ t106) ++ (⟨#[44]⟩ : ByteArray)).size + t107.size ≤ 9223372036854775807 then (if ((((⟨#[59]⟩ : ByteArray) ++ t106) ++ (⟨#[44]⟩ : ByteArray)) ++ t107).size + 1 ≤ 9223372036854775807 then ((spec_l1Num.f k1 ((rd_T42 l0_2 x17_1).f2)).bind fun t108 => (if (((((⟨#[59]⟩ : ByteArray) ++ t106) ++ (⟨#[44]⟩ : ByteArray)) ++ t107) ++ (⟨#[44]⟩ : ByteArray)).size + t108.size ≤ 9223372036854775807 then (if x3_1.size + ((((((⟨#[59]⟩ : ByteArray) ++ t106) ++ (⟨#[44]⟩ : ByteArray)) ++ t107) ++ (⟨#[44]⟩ : ByteArray)) ++ t108).size ≤ 9223372036854775807 then (spec_cuText.l0 k1 (x3_1 ++ ((((((⟨#[59]⟩ : ByteArray) ++ t106) ++ (⟨#[44]⟩ : ByteArray)) ++ t107) ++ (⟨#[44]⟩ : ByteArray)) ++ t108)) l0_2 (l0_2.length : Int) (wrap64 (x17_1 + 1))) else (none)) else (none))) else (none)) else (none))) else (none)) else (none)) = some r := H
                have A14 := Aside0.mk A140
                clear A140
                by_cases c15 : 1 + t106.size ≤ 9223372036854775807
                · rw [if_pos c15] at H
                  have c15b0 := eq_true c15
                  have c15b1 : decide (1 + t106.size ≤ 9223372036854775807) = true := decide_eq_true c15
                  try have c15b2 : (9223372036854775807 < 1 + t106.size) = False := eq_false (Nat.not_lt.2 c15)
                  by_cases c16 : ((⟨#[59]⟩ : ByteArray) ++ t106).size + 1 ≤ 9223372036854775807
                  · rw [if_pos c16] at H
                    have c16b0 := eq_true c16
                    have c16b1 : decide (((⟨#[59]⟩ : ByteArray) ++ t106).size + 1 ≤ 9223372036854775807) = true := decide_eq_true c16
                    try have c16b2 : (9223372036854775807 < ((⟨#[59]⟩ : ByteArray) ++ t106).size + 1) = False := eq_false (Nat.not_lt.2 c16)
                    try have c16b9 : (9223372036854775807 < 1 + t106.size + 1) = False := by have h_ := c16b2; simp only [ByteArray.size_append] at h_; exact h_
                    replace H := Option.bind_eq_some_iff.mp H
                    obtain ⟨t107, A170, H⟩ := H
                    replace H : (if (((⟨#[59]⟩ : ByteArray) ++ t106) ++ (⟨#[44]⟩ : ByteArray)).size + t107.size ≤ 9223372036854775807 then (if ((((⟨#[59]⟩ : ByteArray) ++ t106) ++ (⟨#[44]⟩ : ByteArray)) ++ t107).size + 1 ≤ 9223372036854775807 then ((spec_l1Num.f k1 ((rd_T42 l0_2 x17_1).f2)).bind fun t108 => (if (((((⟨#[59]⟩ : ByteArray) ++ t106) ++ (⟨#[44]⟩ : ByteArray)) ++ t107) ++ (⟨#[44]⟩ : ByteArray)).size + t108.size ≤ 9223372036854775807 then (if x3_1.size + ((((((⟨#[59]⟩ : ByteArray) ++ t106) ++ (⟨#[44]⟩ : ByteArray)) ++ t107) ++ (⟨#[44]⟩ : ByteArray)) ++ t108).size ≤ 9223372036854775807 then (spec_cuText.l0 k1 (x3_1 ++ ((((((⟨#[59]⟩ : ByteArray) ++ t106) ++ (⟨#[44]⟩ : ByteArray)) ++ t107) ++ (⟨#[44]⟩ : ByteArray)) ++ t108)) l0_2 (l0_2.length : Int) (wrap64 (x17_1 + 1))) else (none)) else (none))) else (none)) else (none)) = some r := H
                    have A17 := Aside0.mk A170
                    clear A170
                    by_cases c18 : (((⟨#[59]⟩ : ByteArray) ++ t106) ++ (⟨#[44]⟩ : ByteArray)).size + t107.size ≤ 9223372036854775807
                    · rw [if_pos c18] at H
                      have c18b0 := eq_true c18
                      have c18b1 : decide ((((⟨#[59]⟩ : ByteArray) ++ t106) ++ (⟨#[44]⟩ : ByteArray)).size + t107.size ≤ 9223372036854775807) = true := decide_eq_true c18
                      try have c18b2 : (9223372036854775807 < (((⟨#[59]⟩ : ByteArray) ++ t106) ++ (⟨#[44]⟩ : ByteArray)).size + t107.size) = False := eq_false (Nat.not_lt.2 c18)
                      try have c18b9 : (9223372036854775807 < 1 + t106.size + 1 + t107.size) = False := by have h_ := c18b2; simp only [ByteArray.size_append] at h_; exact h_
                      by_cases c19 : ((((⟨#[59]⟩ : ByteArray) ++ t106) ++ (⟨#[44]⟩ : ByteArray)) ++ t107).size + 1 ≤ 9223372036854775807
                      · rw [if_pos c19] at H
                        have c19b0 := eq_true c19
                        have c19b1 : decide (((((⟨#[59]⟩ : ByteArray) ++ t106) ++ (⟨#[44]⟩ : ByteArray)) ++ t107).size + 1 ≤ 9223372036854775807) = true := decide_eq_true c19
                        try have c19b2 : (9223372036854775807 < ((((⟨#[59]⟩ : ByteArray) ++ t106) ++ (⟨#[44]⟩ : ByteArray)) ++ t107).size + 1) = False := eq_false (Nat.not_lt.2 c19)
                        try have c19b9 : (9223372036854775807 < 1 + t106.size + 1 + t107.size + 1) = False := by have h_ := c19b2; simp only [ByteArray.size_append] at h_; exact h_
                        replace H := Option.bind_eq_some_iff.mp H
                        obtain ⟨t108, A200, H⟩ := H
                        replace H : (if (((((⟨#[59]⟩ : ByteArray) ++ t106) ++ (⟨#[44]⟩ : ByteArray)) ++ t107) ++ (⟨#[44]⟩ : ByteArray)).size + t108.size ≤ 9223372036854775807 then (if x3_1.size + ((((((⟨#[59]⟩ : ByteArray) ++ t106) ++ (⟨#[44]⟩ : ByteArray)) ++ t107) ++ (⟨#[44]⟩ : ByteArray)) ++ t108).size ≤ 9223372036854775807 then (spec_cuText.l0 k1 (x3_1 ++ ((((((⟨#[59]⟩ : ByteArray) ++ t106) ++ (⟨#[44]⟩ : ByteArray)) ++ t107) ++ (⟨#[44]⟩ : ByteArray)) ++ t108)) l0_2 (l0_2.length : Int) (wrap64 (x17_1 + 1))) else (none)) else (none)) = some r := H
                        have A20 := Aside0.mk A200
                        clear A200
                        by_cases c21 : (((((⟨#[59]⟩ : ByteArray) ++ t106) ++ (⟨#[44]⟩ : ByteArray)) ++ t107) ++ (⟨#[44]⟩ : ByteArray)).size + t108.size ≤ 9223372036854775807
                        · rw [if_pos c21] at H
                          have c21b0 := eq_true c21
                          have c21b1 : decide ((((((⟨#[59]⟩ : ByteArray) ++ t106) ++ (⟨#[44]⟩ : ByteArray)) ++ t107) ++ (⟨#[44]⟩ : ByteArray)).size + t108.size ≤ 9223372036854775807) = true := decide_eq_true c21
                          try have c21b2 : (9223372036854775807 < (((((⟨#[59]⟩ : ByteArray) ++ t106) ++ (⟨#[44]⟩ : ByteArray)) ++ t107) ++ (⟨#[44]⟩ : ByteArray)).size + t108.size) = False := eq_false (Nat.not_lt.2 c21)
                          try have c21b9 : (9223372036854775807 < 1 + t106.size + 1 + t107.size + 1 + t108.size) = False := by have h_ := c21b2; simp only [ByteArray.size_append] at h_; exact h_
                          by_cases c22 : x3_1.size + ((((((⟨#[59]⟩ : ByteArray) ++ t106) ++ (⟨#[44]⟩ : ByteArray)) ++ t107) ++ (⟨#[44]⟩ : ByteArray)) ++ t108).size ≤ 9223372036854775807
                          · rw [if_pos c22] at H
                            have c22b0 := eq_true c22
                            have c22b1 : decide (x3_1.size + ((((((⟨#[59]⟩ : ByteArray) ++ t106) ++ (⟨#[44]⟩ : ByteArray)) ++ t107) ++ (⟨#[44]⟩ : ByteArray)) ++ t108).size ≤ 9223372036854775807) = true := decide_eq_true c22
                            try have c22b2 : (9223372036854775807 < x3_1.size + ((((((⟨#[59]⟩ : ByteArray) ++ t106) ++ (⟨#[44]⟩ : ByteArray)) ++ t107) ++ (⟨#[44]⟩ : ByteArray)) ++ t108).size) = False := eq_false (Nat.not_lt.2 c22)
                            try have c22b9 : (9223372036854775807 < x3_1.size + (1 + t106.size + 1 + t107.size + 1 + t108.size)) = False := by have h_ := c22b2; simp only [ByteArray.size_append] at h_; exact h_
                            have H' := Aside0.mk H
                            clear H
                            have p104 : 0 ≤ (x17_1 : Int) := of_decide_eq_true (by first | (with_reducible assumption) | assumption)
                            have q104 : x17_1 < (l0_2.length : Int) := of_decide_eq_true (by first | (with_reducible assumption) | assumption)
                            obtain ⟨ad104, e104, hx104_0, hx104_1, hx104_2⟩ := at_T42 HR0_2.out x17_1 p104 q104
                            cases e104
                            replace hx104_0 := (HB.out.cell (World.block_lt_of_cell? w _ hx104_0)).trans hx104_0
                            replace hx104_1 := (HB.out.cell (World.block_lt_of_cell? w _ hx104_1)).trans hx104_1
                            replace hx104_2 := (HB.out.cell (World.block_lt_of_cell? w _ hx104_2)).trans hx104_2
                            replace p104 := eq_true p104
                            replace q104 := eq_true q104
                            try go_wp2_with (first | ((with_reducible refine gate_dst (N := 5) rfl ?_); refine box_event ?hg (N := 5) ?hd (cs := #[.int .i64 0, .int .i64 0, .int .i64 0]) (t := 42) ?hr ?_; (case hd => rfl); (case hg => rfl); (case hr => first | (go_simp; done) | (go_simp; rfl)); intro gb105 hg w23 hbox hb; have n0_ := Aside0.mk (blk_below (g := gb101) (o := .cells #[.int .i64 a0_0, .int .i64 a0_1, .slice (some ad104) l0_2.length c0_2] 29 (0, 0)) (by (with_reducible repeat (first | refine blk_drewN ?_ _ | refine blk_drew ?_ | refine blk_alloc ?_ _)); exact BK101.out) hb); have n1_ := Aside0.mk (below_step (by repeat (first | (with_reducible first | exact HB.out | apply below_alloc | apply pw_below_drewN | apply below_drew1 | refine below_set ?_ GE101.out) | exact HB.out)) hb); have n2_ := Aside0.mk (hbox); have n3_ := Aside0.mk ((by rw [hg]; exact (below_size (by repeat (first | (with_reducible first | exact HB.out | apply below_alloc | apply pw_below_drewN | apply below_drew1 | refine below_set ?_ GE101.out) | exact HB.out))) : w.heap.size ≤ gb105)); have n4_ := Aside0.mk ((by rw [hg]; exact (below_size (by repeat (first | (with_reducible first | exact HB.out | apply below_alloc | apply pw_below_drewN | apply below_drew1 | refine below_set ?_ GE101.out) | exact HB.out))) : w.heap.size ≤ gb105)); have n5_ := Aside0.mk ((by rw [hg]; exact Nat.ne_of_lt (blk_lt (g := gb101) (o := .cells #[.int .i64 a0_0, .int .i64 a0_1, .slice (some ad104) l0_2.length c0_2] 29 (0, 0)) (by (with_reducible repeat (first | refine blk_drewN ?_ _ | refine blk_drew ?_ | refine blk_alloc ?_ _)); exact BK101.out)) : gb101 ≠ gb105)); have n6_ := Aside0.mk ((by rw [hg]; exact Nat.ne_of_gt (blk_lt (g := gb101) (o := .cells #[.int .i64 a0_0, .int .i64 a0_1, .slice (some ad104) l0_2.length c0_2] 29 (0, 0)) (by (with_reducible repeat (first | refine blk_drewN ?_ _ | refine blk_drew ?_ | refine blk_alloc ?_ _)); exact BK101.out)) : gb105 ≠ gb101)); clear BK101; clear HB; have BK101 := n0_; have HB := n1_; have BK105 := n2_; have GW105 := n3_; have GE105 := n4_; have NB101_105 := n5_; have NB105_101 := n6_; clear n0_ n1_ n2_ n3_ n4_ n5_ n6_; clear hb hbox hg; have hnb24 := NB105_101.out; have hnc24 := NB101_105.out; have hcz25_0 : w23.cell? ⟨gb105, 0, none⟩ = some (.int .i64 0) := (blk_cell BK105.out 0).trans rfl; have hcz25_1 : w23.cell? ⟨gb105, 1, none⟩ = some (.int .i64 0) := (blk_cell BK105.out 1).trans rfl; have hcz25_2 : w23.cell? ⟨gb105, 2, none⟩ = some (.int .i64 0) := (blk_cell BK105.out 2).trans rfl; have hfz25_0 := blk_frozen BK105.out 0; have hfz25_1 := blk_frozen BK105.out 1; have hfz25_2 := blk_frozen BK105.out 2))
                            have n0_ : Aside0 ((((w23.setCell ⟨gb105, 0, none⟩ (.int .i64 ((rd_T42 l0_2 x17_1).f0))).setCell ⟨gb105, 1, none⟩ (.int .i64 ((rd_T42 l0_2 x17_1).f1))).setCell ⟨gb105, 2, none⟩ (.int .i64 ((rd_T42 l0_2 x17_1).f2))).heap[gb101]? = some (.cells #[.int .i64 a0_0, .int .i64 a0_1, .slice (some ad104) l0_2.length c0_2] 29 (0, 0))) := ⟨by (with_reducible repeat (first | refine blk_drewN ?_ _ | refine blk_drew ?_ | refine blk_alloc ?_ _)); refine blk_far ?_ NB101_105.out _; (with_reducible repeat (first | refine blk_drewN ?_ _ | refine blk_drew ?_ | refine blk_alloc ?_ _)); refine blk_far ?_ NB101_105.out _; (with_reducible repeat (first | refine blk_drewN ?_ _ | refine blk_drew ?_ | refine blk_alloc ?_ _)); refine blk_far ?_ NB101_105.out _; (with_reducible repeat (first | refine blk_drewN ?_ _ | refine blk_drew ?_ | refine blk_alloc ?_ _)); exact BK101.out⟩
                            have n1_ : Aside0 ((((w23.setCell ⟨gb105, 0, none⟩ (.int .i64 ((rd_T42 l0_2 x17_1).f0))).setCell ⟨gb105, 1, none⟩ (.int .i64 ((rd_T42 l0_2 x17_1).f1))).setCell ⟨gb105, 2, none⟩ (.int .i64 ((rd_T42 l0_2 x17_1).f2))).heap[gb105]? = some (.cells #[.int .i64 ((rd_T42 l0_2 x17_1).f0), .int .i64 ((rd_T42 l0_2 x17_1).f1), .int .i64 ((rd_T42 l0_2 x17_1).f2)] 42 (0, 0))) := ⟨by (with_reducible repeat (first | refine blk_drewN ?_ _ | refine blk_drew ?_ | refine blk_alloc ?_ _)); refine blk_put (cs := #[.int .i64 ((rd_T42 l0_2 x17_1).f0), .int .i64 ((rd_T42 l0_2 x17_1).f1), .int .i64 0]) ?_ 2 _ rfl; (with_reducible repeat (first | refine blk_drewN ?_ _ | refine blk_drew ?_ | refine blk_alloc ?_ _)); refine blk_put (cs := #[.int .i64 ((rd_T42 l0_2 x17_1).f0), .int .i64 0, .int .i64 0]) ?_ 1 _ rfl; (with_reducible repeat (first | refine blk_drewN ?_ _ | refine blk_drew ?_ | refine blk_alloc ?_ _)); refine blk_put (cs := #[.int .i64 0, .int .i64 0, .int .i64 0]) ?_ 0 _ rfl; (with_reducible repeat (first | refine blk_drewN ?_ _ | refine blk_drew ?_ | refine blk_alloc ?_ _)); exact BK105.out⟩
                            have n2_ : Aside0 (Below w.heap.size w (((w23.setCell ⟨gb105, 0, none⟩ (.int .i64 ((rd_T42 l0_2 x17_1).f0))).setCell ⟨gb105, 1, none⟩ (.int .i64 ((rd_T42 l0_2 x17_1).f1))).setCell ⟨gb105, 2, none⟩ (.int .i64 ((rd_T42 l0_2 x17_1).f2)))) := ⟨by repeat (first | (with_reducible first | exact HB.out | apply below_alloc | apply pw_below_drewN | apply below_drew1 | refine below_set ?_ GE101.out | refine below_set ?_ GE105.out) | exact HB.out)⟩
                            (try clear BK101)
                            (try clear BK105)
                            (try clear HB)
                            generalize (((w23.setCell ⟨gb105, 0, none⟩ (.int .i64 ((rd_T42 l0_2 x17_1).f0))).setCell ⟨gb105, 1, none⟩ (.int .i64 ((rd_T42 l0_2 x17_1).f1))).setCell ⟨gb105, 2, none⟩ (.int .i64 ((rd_T42 l0_2 x17_1).f2))) = w26 at n0_ n1_ n2_ ⊢
                            have BK101 := n0_
                            have BK105 := n1_
                            have HB := n2_
                            clear n0_ n1_ n2_
                            have n0_ := Aside0.mk (blk_drew BK101.out)
                            have n1_ := Aside0.mk (blk_drew BK105.out)
                            have n2_ := Aside0.mk (below_drew1 HB.out)
                            clear BK101
                            clear BK105
                            clear HB
                            have BK101 := n0_
                            have BK105 := n1_
                            have HB := n2_
                            clear n0_ n1_ n2_
                            refine start_ (n := 17) (S := fun w' => w'.cell? ⟨gb105, 0, none⟩ = some (.int .i64 ((rd_T42 l0_2 x17_1).f0)) ∧ w'.cell? ⟨gb105, 1, none⟩ = some (.int .i64 ((rd_T42 l0_2 x17_1).f1)) ∧ w'.cell? ⟨gb105, 2, none⟩ = some (.int .i64 ((rd_T42 l0_2 x17_1).f2))) (ds := []) #[false, false, false, false, false, false, false, false, false, false, false, false, false, false, false, false, false] (by kernel_rfl) rfl rfl ⟨(blk_cell BK105.out 0).trans rfl, (blk_cell BK105.out 1).trans rfl, (blk_cell BK105.out 2).trans rfl⟩ (fun hHeld => ?_); refine with_tabW spec_cuText.tab5 spec_cuText.bits5 (fun HT_ HW_ => ?_)
                            generalize w26.drew = w27 at BK101 BK105 HB hHeld ⊢
                            refine pure_ (i := 0) (N := some 21) (v := ?_) (a' := ?_) #[true, false, false, false, false, false, false, false, false, false, false, false, false, false, false, false, false] rfl rfl (any_of HT_.out (by kernel_rfl)) (fun _ _ _ h => h) (Or.inl ⟨by rfl, ?_⟩) ?_ ?_
                            rotate_left
                            · intro w'
                              go_simp
                              with_reducible rfl
                            rotate_left
                            · simp only [Act.put, List.setIfInBounds_toArray, List.set_cons_zero, List.set_cons_succ, i64_w, i32_w]
                              rfl
                            refine pure_ (i := 1) (N := some 22) (v := ?_) (a' := ?_) #[true, true, false, false, false, false, false, false, false, false, false, false, false, false, false, false, false] rfl rfl (any_of HT_.out (by kernel_rfl)) (fun _ _ _ h => h) (Or.inl ⟨by rfl, ?_⟩) ?_ ?_
                            rotate_left
                            · intro w'
                              go_simp
                              with_reducible rfl
                            rotate_left
                            · simp only [Act.put, List.setIfInBounds_toArray, List.set_cons_zero, List.set_cons_succ, i64_w, i32_w]
                              rfl
                            refine pure_ (i := 6) (N := some 27) (v := ?_) (a' := ?_) #[true, true, false, false, false, false, true, false, false, false, false, false, false, false, false, false, false] rfl rfl (any_of HT_.out (by kernel_rfl)) (fun _ _ _ h => h) (Or.inl ⟨by rfl, ?_⟩) ?_ ?_
                            rotate_left
                            · intro w'
                              go_simp
                              with_reducible rfl
                            rotate_left
                            · simp only [Act.put, List.setIfInBounds_toArray, List.set_cons_zero, List.set_cons_succ, i64_w, i32_w]
                              rfl
                            refine pure_ (i := 11) (N := some 32) (v := ?_) (a' := ?_) #[true, true, false, false, false, false, true, false, false, false, false, true, false, false, false, false, false] rfl rfl (any_of HT_.out (by kernel_rfl)) (fun _ _ _ h => h) (Or.inl ⟨by rfl, ?_⟩) ?_ ?_
                            rotate_left
                            · intro w'
                              go_simp
                              with_reducible rfl
                            rotate_left
                            · simp only [Act.put, List.setIfInBounds_toArray, List.set_cons_zero, List.set_cons_succ, i64_w, i32_w]
                              rfl
                            refine take_ (i := 2) (N := some 23) (v := ?_) (a' := ?_) #[true, true, true, false, false, false, true, false, false, false, false, true, false, false, false, false, false] rfl rfl (take_ofW HT_.out HW_.out (by kernel_rfl)) (fun _ _ _ h => h) (Or.inl ⟨by rfl, ?_⟩) hHeld ?_ ?_
                            rotate_left
                            · rintro w' ⟨s0, s1, s2⟩
                              go_simp
                              with_reducible rfl
                            rotate_left
                            · simp only [Act.put, List.setIfInBounds_toArray, List.set_cons_zero, List.set_cons_succ, i64_w, i32_w]
                              rfl
                            refine take_ (i := 7) (N := some 28) (v := ?_) (a' := ?_) #[true, true, true, false, false, false, true, true, false, false, false, true, false, false, false, false, false] rfl rfl (take_ofW HT_.out HW_.out (by kernel_rfl)) (fun _ _ _ h => h) (Or.inl ⟨by rfl, ?_⟩) hHeld ?_ ?_
                            rotate_left
                            · rintro w' ⟨s0, s1, s2⟩
                              go_simp
                              with_reducible rfl
                            rotate_left
                            · simp only [Act.put, List.setIfInBounds_toArray, List.set_cons_zero, List.set_cons_succ, i64_w, i32_w]
                              rfl
                            refine take_ (i := 12) (N := some 33) (v := ?_) (a' := ?_) #[true, true, true, false, false, false, true, true, false, false, false, true, true, false, false, false, false] rfl rfl (take_ofW HT_.out HW_.out (by kernel_rfl)) (fun _ _ _ h => h) (Or.inl ⟨by rfl, ?_⟩) hHeld ?_ ?_
                            rotate_left
                            · rintro w' ⟨s0, s1, s2⟩
                              go_simp
                              with_reducible rfl
                            rotate_left
                            · simp only [Act.put, List.setIfInBounds_toArray, List.set_cons_zero, List.set_cons_succ, i64_w, i32_w]
                              rfl
                            refine one_ (i := 3) (N := some 24) #[true, true, true, true, false, false, true, true, false, false, false, true, true, false, false, false, false] rfl rfl (one_of HT_.out (by kernel_rfl)) (by decide) (fun K hK => ?_)
                            refine goes_ Try.func17 (by kernel_rfl) rfl #[.int .i64 ((rd_T42 l0_2 x17_1).f0)] (by rfl) rfl rfl (by (try simp only [List.map_toArray, List.map_cons, List.map_nil]); first | done | rfl | (simp only [List.length_drop, List.length_take]; rfl)) ?_
                            with_reducible refine (spec_l1Num.calls k1 ((rd_T42 l0_2 x17_1).f0) t106 _ A14.out).mono ?_
                            rintro e w28 ⟨rfl, hb⟩
                            refine ⟨_, rfl, ?_⟩
                            have n0_ := Aside0.mk (blk_below (g := gb101) (o := .cells #[.int .i64 a0_0, .int .i64 a0_1, .slice (some ad104) l0_2.length c0_2] 29 (0, 0)) (by (with_reducible repeat (first | refine blk_drewN ?_ _ | refine blk_drew ?_ | refine blk_alloc ?_ _)); exact BK101.out) hb)
                            have n1_ := Aside0.mk (blk_below (g := gb105) (o := .cells #[.int .i64 ((rd_T42 l0_2 x17_1).f0), .int .i64 ((rd_T42 l0_2 x17_1).f1), .int .i64 ((rd_T42 l0_2 x17_1).f2)] 42 (0, 0)) (by (with_reducible repeat (first | refine blk_drewN ?_ _ | refine blk_drew ?_ | refine blk_alloc ?_ _)); exact BK105.out) hb)
                            have n2_ := Aside0.mk (below_step (by repeat (first | (with_reducible first | exact HB.out | apply below_alloc | apply pw_below_drewN | apply below_drew1 | refine below_set ?_ GE101.out | refine below_set ?_ GE105.out) | exact HB.out)) hb)
                            clear BK101
                            clear BK105
                            clear HB
                            have BK101 := n0_
                            have BK105 := n1_
                            have HB := n2_
                            clear n0_ n1_ n2_
                            (try clear hb)
                            (try clear hb2)
                            (try clear hk)
                            (try clear hi)
                            refine hK.out _ _ ⟨(blk_cell BK105.out 0).trans rfl, (blk_cell BK105.out 1).trans rfl, (blk_cell BK105.out 2).trans rfl⟩ (fun hHeld => ?_)
                            clear hK K
                            refine norm_ (a' := ?_) ?_ ?_
                            rotate_left
                            · show Act.put _ (some 24) _ = _
                              simp only [Act.put, List.setIfInBounds_toArray, List.set_cons_zero, List.set_cons_succ, i64_w, i32_w]
                              rfl
                            refine pure_ (i := 4) (N := some 25) (v := ?_) (a' := ?_) #[true, true, true, true, true, false, true, true, false, false, false, true, true, false, false, false, false] rfl rfl (any_of HT_.out (by kernel_rfl)) (fun _ _ _ h => h) (Or.inl ⟨by rfl, ?_⟩) ?_ ?_
                            rotate_left
                            · intro w'
                              go_simp
                              with_reducible rfl
                            rotate_left
                            · simp only [Act.put, List.setIfInBounds_toArray, List.set_cons_zero, List.set_cons_succ, i64_w, i32_w]
                              rfl
                            refine pure_ (i := 5) (N := some 26) (v := ?_) (a' := ?_) #[true, true, true, true, true, true, true, true, false, false, false, true, true, false, false, false, false] rfl rfl (any_of HT_.out (by kernel_rfl)) (fun _ _ _ h => h) (Or.inl ⟨by rfl, ?_⟩) ?_ ?_
                            rotate_left
                            · intro w'
                              go_simp
                              with_reducible rfl
                            rotate_left
                            · simp only [Act.put, List.setIfInBounds_toArray, List.set_cons_zero, List.set_cons_succ, i64_w, i32_w]
                              rfl
                            refine one_ (i := 8) (N := some 29) #[true, true, true, true, true, true, true, true, true, false, false, true, true, false, false, false, false] rfl rfl (one_of HT_.out (by kernel_rfl)) (by decide) (fun K hK => ?_)
                            refine goes_ Try.func17 (by kernel_rfl) rfl #[.int .i64 ((rd_T42 l0_2 x17_1).f1)] (by rfl) rfl rfl (by (try simp only [List.map_toArray, List.map_cons, List.map_nil]); first | done | rfl | (simp only [List.length_drop, List.length_take]; rfl)) ?_
                            with_reducible refine (spec_l1Num.calls k1 ((rd_T42 l0_2 x17_1).f1) t107 _ A17.out).mono ?_
                            rintro e w29 ⟨rfl, hb⟩
                            refine ⟨_, rfl, ?_⟩
                            have n0_ := Aside0.mk (blk_below (g := gb101) (o := .cells #[.int .i64 a0_0, .int .i64 a0_1, .slice (some ad104) l0_2.length c0_2] 29 (0, 0)) (by (with_reducible repeat (first | refine blk_drewN ?_ _ | refine blk_drew ?_ | refine blk_alloc ?_ _)); exact BK101.out) hb)
                            have n1_ := Aside0.mk (blk_below (g := gb105) (o := .cells #[.int .i64 ((rd_T42 l0_2 x17_1).f0), .int .i64 ((rd_T42 l0_2 x17_1).f1), .int .i64 ((rd_T42 l0_2 x17_1).f2)] 42 (0, 0)) (by (with_reducible repeat (first | refine blk_drewN ?_ _ | refine blk_drew ?_ | refine blk_alloc ?_ _)); exact BK105.out) hb)
                            have n2_ := Aside0.mk (below_step (by repeat (first | (with_reducible first | exact HB.out | apply below_alloc | apply pw_below_drewN | apply below_drew1 | refine below_set ?_ GE101.out | refine below_set ?_ GE105.out) | exact HB.out)) hb)
                            clear BK101
                            clear BK105
                            clear HB
                            have BK101 := n0_
                            have BK105 := n1_
                            have HB := n2_
                            clear n0_ n1_ n2_
                            (try clear hb)
                            (try clear hb2)
                            (try clear hk)
                            (try clear hi)
                            refine hK.out _ _ ⟨(blk_cell BK105.out 0).trans rfl, (blk_cell BK105.out 1).trans rfl, (blk_cell BK105.out 2).trans rfl⟩ (fun hHeld => ?_)
                            clear hK K
                            refine norm_ (a' := ?_) ?_ ?_
                            rotate_left
                            · show Act.put _ (some 29) _ = _
                              simp only [Act.put, List.setIfInBounds_toArray, List.set_cons_zero, List.set_cons_succ, i64_w, i32_w]
                              rfl
                            refine pure_ (i := 9) (N := some 30) (v := ?_) (a' := ?_) #[true, true, true, true, true, true, true, true, true, true, false, true, true, false, false, false, false] rfl rfl (any_of HT_.out (by kernel_rfl)) (fun _ _ _ h => h) (Or.inl ⟨by rfl, ?_⟩) ?_ ?_
                            rotate_left
                            · intro w'
                              go_simp
                              with_reducible rfl
                            rotate_left
                            · simp only [Act.put, List.setIfInBounds_toArray, List.set_cons_zero, List.set_cons_succ, i64_w, i32_w]
                              rfl
                            refine pure_ (i := 10) (N := some 31) (v := ?_) (a' := ?_) #[true, true, true, true, true, true, true, true, true, true, true, true, true, false, false, false, false] rfl rfl (any_of HT_.out (by kernel_rfl)) (fun _ _ _ h => h) (Or.inl ⟨by rfl, ?_⟩) ?_ ?_
                            rotate_left
                            · intro w'
                              go_simp
                              with_reducible rfl
                            rotate_left
                            · simp only [Act.put, List.setIfInBounds_toArray, List.set_cons_zero, List.set_cons_succ, i64_w, i32_w]
                              rfl
                            refine one_ (i := 13) (N := some 34) #[true, true, true, true, true, true, true, true, true, true, true, true, true, true, false, false, false] rfl rfl (one_of HT_.out (by kernel_rfl)) (by decide) (fun K hK => ?_)
                            refine goes_ Try.func17 (by kernel_rfl) rfl #[.int .i64 ((rd_T42 l0_2 x17_1).f2)] (by rfl) rfl rfl (by (try simp only [List.map_toArray, List.map_cons, List.map_nil]); first | done | rfl | (simp only [List.length_drop, List.length_take]; rfl)) ?_
                            with_reducible refine (spec_l1Num.calls k1 ((rd_T42 l0_2 x17_1).f2) t108 _ A20.out).mono ?_
                            rintro e w30 ⟨rfl, hb⟩
                            refine ⟨_, rfl, ?_⟩
                            have n0_ := Aside0.mk (blk_below (g := gb101) (o := .cells #[.int .i64 a0_0, .int .i64 a0_1, .slice (some ad104) l0_2.length c0_2] 29 (0, 0)) (by (with_reducible repeat (first | refine blk_drewN ?_ _ | refine blk_drew ?_ | refine blk_alloc ?_ _)); exact BK101.out) hb)
                            have n1_ := Aside0.mk (blk_below (g := gb105) (o := .cells #[.int .i64 ((rd_T42 l0_2 x17_1).f0), .int .i64 ((rd_T42 l0_2 x17_1).f1), .int .i64 ((rd_T42 l0_2 x17_1).f2)] 42 (0, 0)) (by (with_reducible repeat (first | refine blk_drewN ?_ _ | refine blk_drew ?_ | refine blk_alloc ?_ _)); exact BK105.out) hb)
                            have n2_ := Aside0.mk (below_step (by repeat (first | (with_reducible first | exact HB.out | apply below_alloc | apply pw_below_drewN | apply below_drew1 | refine below_set ?_ GE101.out | refine below_set ?_ GE105.out) | exact HB.out)) hb)
                            clear BK101
                            clear BK105
                            clear HB
                            have BK101 := n0_
                            have BK105 := n1_
                            have HB := n2_
                            clear n0_ n1_ n2_
                            (try clear hb)
                            (try clear hb2)
                            (try clear hk)
                            (try clear hi)
                            refine hK.out _ _ ⟨(blk_cell BK105.out 0).trans rfl, (blk_cell BK105.out 1).trans rfl, (blk_cell BK105.out 2).trans rfl⟩ (fun hHeld => ?_)
                            clear hK K
                            refine norm_ (a' := ?_) ?_ ?_
                            rotate_left
                            · show Act.put _ (some 34) _ = _
                              simp only [Act.put, List.setIfInBounds_toArray, List.set_cons_zero, List.set_cons_succ, i64_w, i32_w]
                              rfl
                            refine pure_ (i := 14) (N := some 35) (v := ?_) (a' := ?_) #[true, true, true, true, true, true, true, true, true, true, true, true, true, true, true, false, false] rfl rfl (any_of HT_.out (by kernel_rfl)) (fun _ _ _ h => h) (Or.inl ⟨by rfl, ?_⟩) ?_ ?_
                            rotate_left
                            · intro w'
                              go_simp
                              with_reducible rfl
                            rotate_left
                            · simp only [Act.put, List.setIfInBounds_toArray, List.set_cons_zero, List.set_cons_succ, i64_w, i32_w]
                              rfl
                            refine pure_ (i := 15) (N := some 36) (v := ?_) (a' := ?_) #[true, true, true, true, true, true, true, true, true, true, true, true, true, true, true, true, false] rfl rfl (any_of HT_.out (by kernel_rfl)) (fun _ _ _ h => h) (Or.inl ⟨by rfl, ?_⟩) ?_ ?_
                            rotate_left
                            · intro w'
                              go_simp
                              with_reducible rfl
                            rotate_left
                            · simp only [Act.put, List.setIfInBounds_toArray, List.set_cons_zero, List.set_cons_succ, i64_w, i32_w]
                              rfl
                            refine pure_ (i := 16) (N := some 3) (v := ?_) (a' := ?_) #[true, true, true, true, true, true, true, true, true, true, true, true, true, true, true, true, true] rfl rfl (any_of HT_.out (by kernel_rfl)) (fun _ _ _ h => h) (Or.inl ⟨by rfl, ?_⟩) ?_ ?_
                            rotate_left
                            · intro w'
                              go_simp
                              with_reducible rfl
                            rotate_left
                            · simp only [Act.put, List.setIfInBounds_toArray, List.set_cons_zero, List.set_cons_succ, i64_w, i32_w]
                              rfl
                            refine done_ (done_of HT_.out (by kernel_rfl)) ?_
                            try go_wp2
                            go_roundg k1
                            case measure => have := HK1.out; omega
                            case rel => exact ⟨(x3_1 ++ ((((((⟨#[59]⟩ : ByteArray) ++ t106) ++ (⟨#[44]⟩ : ByteArray)) ++ t107) ++ (⟨#[44]⟩ : ByteArray)) ++ t108)), (wrap64 (x17_1 + 1)), (by first | rfl | (simp; done) | (simp [*]; done)), (by first | rfl | (simp; done) | (simp [*]; done)), H', ⟨by have := HK1.out; omega⟩, ⟨by (with_reducible repeat (first | refine blk_drewN ?_ _ | refine blk_drew ?_ | refine blk_alloc ?_ _)); exact BK101.out⟩, ⟨by repeat (first | (with_reducible first | exact HB.out | apply below_alloc | apply pw_below_drewN | apply below_drew1 | refine below_set ?_ GE101.out | refine below_set ?_ GE105.out) | exact HB.out)⟩⟩
                          · rw [if_neg c22] at H
                            exact absurd H (by simp)
                        · rw [if_neg c21] at H
                          exact absurd H (by simp)
                      · rw [if_neg c19] at H
                        exact absurd H (by simp)
                    · rw [if_neg c18] at H
                      exact absurd H (by simp)
                  · rw [if_neg c16] at H
                    exact absurd H (by simp)
                · rw [if_neg c15] at H
                  exact absurd H (by simp)
              · rw [if_neg c13] at H
                exact absurd H (by simp)
            · rw [if_neg c12] at H
              exact absurd H (by simp)
          · rw [if_neg c11] at H
            have c11b0 : decide (x17_1 < (l0_2.length : Int)) = false := decide_eq_false c11
            clear c11
            obtain rfl := Option.some.inj H
            go_wp2
            go_ret
            exact ⟨by first | rfl | (simp [errW_none, errW_some] <;> rfl) | (simp [*, errW_none, errW_some] <;> rfl), by repeat (first | (with_reducible first | exact HB.out | apply below_alloc | apply pw_below_drewN | apply below_drew1 | refine below_set ?_ GE101.out) | exact HB.out)⟩
    · rw [if_neg c5] at H
      exact absurd H (by simp)
  · rw [if_neg c3] at H
    exact absurd H (by simp)
end Go.Proofs.Ythmcdiekgfgpdaa.P

namespace Go.Proofs.Ythmcdiekgfgpdaa.P
open Go.RowKit Go.Proofs.YthmcdiekgfgpdaaW.PrintWords Go.Proofs.YthmcdiekgfgpdaaW.PrintLast Go.Proofs.YthmcdiekgfgpdaaW.PrintMore
attribute [local go_sem] max2_int min2_int max_two min_two max_three min_three max_four min_four
set_option linter.unusedVariables false
set_option linter.unusedSimpArgs false
def spec_cuMirror.l0 : Nat → List (S42) → List (S42) → Int → Int → Int → Int → List (S42) → Option (Int × Int × (List (S42)))
  | 0, _, _, _, _, _, _, _ => none
  | k + 1, x3, x7, x8, x9, x102000, x102001, x102002 => if x9 < x8 then (if 0 ≤ x9 then (if x9 < (x7.length : Int) then (if x3.length < 5864062014805 then (spec_cuMirror.l0 k (x3 ++ [(⟨wrap64 ((wrap64 (x102000 - ((rd_T42 x7 x9).f0))) - ((rd_T42 x7 x9).f2)), (rd_T42 x7 x9).f1, (rd_T42 x7 x9).f2⟩ : S42)]) x7 x8 (wrap64 (x9 + 1)) x102000 x102001 x102002) else (none)) else (none)) else (none)) else ((spec_cuSorted.f k x3).bind fun t108 => (some (x102000, x102001, t108)))
def spec_cuMirror.f (k : Nat) (a0_0 : Int) (a0_1 : Int) (l0_2 : List (S42)) : Option (Int × Int × (List (S42))) := spec_cuMirror.l0 k ([] : List (S42)) l0_2 (l0_2.length : Int) 0 a0_0 a0_1 l0_2
def spec_cuMirror.T7 : Bool × List (List Nat × List Nat) := (true, [([], []), ([0], [0]), ([], []), ([2], [2]), ([], []), ([4], [4]), ([1, 3, 5], [1, 3, 5]), ([6, 5, 0, 1, 2, 3, 4, 5, 6], [6])])
def spec_cuMirror.B7 : List Nat := [0, 1, 0, 4, 0, 16, 63, 127]
theorem spec_cuMirror.tab7 : rtab .any (opsOf Try.f9 7) = spec_cuMirror.T7 := by kernel_rfl
theorem spec_cuMirror.bits7 : waitsOk spec_cuMirror.T7.2 spec_cuMirror.B7 = true := by kernel_rfl
set_option maxHeartbeats 8000000 in
set_option maxRecDepth 100000 in
theorem spec_cuMirror.calls (k : Nat) (a0_0 : Int) (a0_1 : Int) (A0_2 : Option Addr) (c0_2 : Nat) (l0_2 : List (S42)) (r1 : Int) (r2 : Int) (r3 : List (S42)) (w : World) (hr0_2 : Kd.C k42 w A0_2 l0_2.length l0_2) (hc0_2 : l0_2.length ≤ c0_2) (h : spec_cuMirror.f k a0_0 a0_1 l0_2 = some (r1, r2, r3)) :
    Calls Try.prog 9 #[.agg #[.int .i64 a0_0, .int .i64 a0_1, .slice A0_2 l0_2.length c0_2]] w fun e w' => ∃ v2_ : Value, e = .returned (.agg #[.int .i64 r1, .int .i64 r2, v2_]) ∧ Kd.R k42 42 w' w.heap.size (fun _ => True) v2_ r3 ∧ Below w.heap.size w w' := by
  have hu29 := Try.underlying29
  have hu42 := Try.underlying42
  have HR0_2 := Aside0.mk hr0_2
  have HC0_2 := Aside0.mk hc0_2
  clear hr0_2 hc0_2
  have HB := Aside0.mk (Below.refl w.heap.size w)
  have H : (spec_cuMirror.l0 k ([] : List (S42)) l0_2 (l0_2.length : Int) 0 a0_0 a0_1 l0_2) = some (r1, r2, r3) := h
  clear h
  have H' := Aside0.mk H
  clear H
  go_enter Try.func9, Try.ntmps9
  go_wp2_with (first | ((with_reducible refine gate_dst (N := 1) rfl ?_); refine box_event ?hg (N := 1) ?hd (cs := #[.int .i64 a0_0, .int .i64 a0_1, .slice A0_2 l0_2.length c0_2]) (t := 29) ?hr ?_; (case hd => rfl); (case hg => rfl); (case hr => first | (go_simp; done) | (go_simp; rfl)); intro gb101 hg w2 hbox hb; have n0_ := Aside0.mk (below_step (by repeat (first | (with_reducible first | exact HB.out | apply below_alloc | apply pw_below_drewN | apply below_drew1) | exact HB.out)) hb); have n1_ := Aside0.mk (hbox); have n2_ := Aside0.mk ((by rw [hg]; exact (below_size (by repeat (first | (with_reducible first | exact HB.out | apply below_alloc | apply pw_below_drewN | apply below_drew1) | exact HB.out))) : w.heap.size ≤ gb101)); have n3_ := Aside0.mk ((by rw [hg]; exact (below_size (by repeat (first | (with_reducible first | exact HB.out | apply below_alloc | apply pw_below_drewN | apply below_drew1) | exact HB.out))) : w.heap.size ≤ gb101)); clear HB; have HB := n0_; have BK101 := n1_; have GW101 := n2_; have GE101 := n3_; clear n0_ n1_ n2_ n3_; clear hb hbox hg) | ((with_reducible refine gate_dst (N := 2) rfl ?_); refine box_event ?hg (N := 2) ?hd (cs := #[.int .i64 0, .int .i64 0, .slice none 0 0]) (t := 29) ?hr ?_; (case hd => rfl); (case hg => rfl); (case hr => first | (go_simp; done) | (go_simp; rfl)); intro gb102 hg w3 hbox hb; have n0_ := Aside0.mk (blk_below (g := gb101) (o := .cells #[.int .i64 a0_0, .int .i64 a0_1, .slice A0_2 l0_2.length c0_2] 29 (0, 0)) (by (with_reducible repeat (first | refine blk_drewN ?_ _ | refine blk_drew ?_ | refine blk_alloc ?_ _)); exact BK101.out) hb); have n1_ := Aside0.mk (below_step (by repeat (first | (with_reducible first | exact HB.out | apply below_alloc | apply pw_below_drewN | apply below_drew1 | refine below_set ?_ GE101.out) | exact HB.out)) hb); have n2_ := Aside0.mk (hbox); have n3_ := Aside0.mk ((by rw [hg]; exact (below_size (by repeat (first | (with_reducible first | exact HB.out | apply below_alloc | apply pw_below_drewN | apply below_drew1 | refine below_set ?_ GE101.out) | exact HB.out))) : w.heap.size ≤ gb102)); have n4_ := Aside0.mk ((by rw [hg]; exact (below_size (by repeat (first | (with_reducible first | exact HB.out | apply below_alloc | apply pw_below_drewN | apply below_drew1 | refine below_set ?_ GE101.out) | exact HB.out))) : w.heap.size ≤ gb102)); have n5_ := Aside0.mk ((by rw [hg]; exact Nat.ne_of_lt (blk_lt (g := gb101) (o := .cells #[.int .i64 a0_0, .int .i64 a0_1, .slice A0_2 l0_2.length c0_2] 29 (0, 0)) (by (with_reducible repeat (first | refine blk_drewN ?_ _ | refine blk_drew ?_ | refine blk_alloc ?_ _)); exact BK101.out)) : gb101 ≠ gb102)); have n6_ := Aside0.mk ((by rw [hg]; exact Nat.ne_of_gt (blk_lt (g := gb101) (o := .cells #[.int .i64 a0_0, .int .i64 a0_1, .slice A0_2 l0_2.length c0_2] 29 (0, 0)) (by (with_reducible repeat (first | refine blk_drewN ?_ _ | refine blk_drew ?_ | refine blk_alloc ?_ _)); exact BK101.out)) : gb102 ≠ gb101)); clear BK101; clear HB; have BK101 := n0_; have HB := n1_; have BK102 := n2_; have GW102 := n3_; have GE102 := n4_; have NB101_102 := n5_; have NB102_101 := n6_; clear n0_ n1_ n2_ n3_ n4_ n5_ n6_; clear hb hbox hg; have hnb4 := NB101_102.out; have hnc4 := NB102_101.out; have hcz5_0 : w3.cell? ⟨gb101, 0, none⟩ = some (.int .i64 a0_0) := (blk_cell BK101.out 0).trans rfl; have hcz5_1 : w3.cell? ⟨gb101, 1, none⟩ = some (.int .i64 a0_1) := (blk_cell BK101.out 1).trans rfl; have hcz5_2 : w3.cell? ⟨gb101, 2, none⟩ = some (.slice A0_2 l0_2.length c0_2) := (blk_cell BK101.out 2).trans rfl; have hfz5_0 := blk_frozen BK101.out 0; have hfz5_1 := blk_frozen BK101.out 1; have hfz5_2 := blk_frozen BK101.out 2))
  go_loopg [3, 9] k (fun kq v3 v9 w' => ∃ (x3_1 : List (S42)) (x9_1 : Int), v9 = .int .i64 x9_1 ∧ Aside0 (spec_cuMirror.l0 kq x3_1 l0_2 (l0_2.length : Int) x9_1 a0_0 a0_1 l0_2 = some (r1, r2, r3)) ∧ Aside0 (kq ≤ k) ∧ Aside0 (Kd.R k42 42 w' w.heap.size (fun _ => True) v3 x3_1) ∧ Aside0 (w'.heap[gb101]? = some (.cells #[.int .i64 a0_0, .int .i64 a0_1, (.slice A0_2 l0_2.length c0_2)] 29 (0, 0))) ∧ Aside0 (w'.heap[gb102]? = some (.cells #[.int .i64 0, .int .i64 0, (.slice none 0 0)] 29 (0, 0))) ∧ Aside0 (Below w.heap.size w w'))
  case atStart => exact ⟨(([] : List (S42))), (0), (by first | rfl | (simp; done) | (simp [*]; done)), H', ⟨Nat.le_refl _⟩, ⟨by first | exact Kd.R_nil _ _ _ _ _ | exact Kd.N_nil _ _ _ _ _ | exact Kd.V_nil _ _ _ _ _ | exact Kd.Q_nil _ _ _ _ _ | exact Kd.S_nil _ _ _ _ _⟩, ⟨by (with_reducible repeat (first | refine blk_drewN ?_ _ | refine blk_drew ?_ | refine blk_alloc ?_ _)); exact BK101.out⟩, ⟨by (with_reducible repeat (first | refine blk_drewN ?_ _ | refine blk_drew ?_ | refine blk_alloc ?_ _)); exact BK102.out⟩, ⟨by repeat (first | (with_reducible first | exact HB.out | apply below_alloc | apply pw_below_drewN | apply below_drew1 | refine below_set ?_ GE101.out | refine below_set ?_ GE102.out) | exact HB.out)⟩⟩
  case round =>
    clear H'
    try clear p2
    try clear c4
    try clear hcz5_0
    try clear hcz5_1
    try clear hcz5_2
    try clear hfz5_0
    try clear hfz5_1
    try clear hfz5_2
    obtain ⟨x3_1, x9_1, rfl, HA, HK1, HO_3, BK101, BK102, HB⟩ := hrel
    cases gk with
    | zero => exact absurd HA.out (by simp [spec_cuMirror.l0])
    | succ k1 =>
      have H := HA.out
      clear HA
      simp only [spec_cuMirror.l0] at H
      by_cases c6 : x9_1 < (l0_2.length : Int)
      · rw [if_pos c6] at H
        have c6b0 : decide (x9_1 < (l0_2.length : Int)) = true := decide_eq_true c6
        clear c6
        by_cases c7 : 0 ≤ x9_1
        · rw [if_pos c7] at H
          have c7b0 : decide (0 ≤ x9_1) = true := decide_eq_true c7
          clear c7
          by_cases c8 : x9_1 < (l0_2.length : Int)
          · rw [if_pos c8] at H
            have c8b0 : decide (x9_1 < (l0_2.length : Int)) = true := decide_eq_true c8
            clear c8
            by_cases c9 : x3_1.length < 5864062014805
            · rw [if_pos c9] at H
              have LMc9 := Aside0.mk c9
              clear c9
              obtain ⟨y105, hy105⟩ : ∃ y_ : List (S42), y_ = (x3_1 ++ [(⟨wrap64 ((wrap64 (a0_0 - ((rd_T42 l0_2 x9_1).f0))) - ((rd_T42 l0_2 x9_1).f2)), (rd_T42 l0_2 x9_1).f1, (rd_T42 l0_2 x9_1).f2⟩ : S42)]) := ⟨_, rfl⟩
              replace H : (spec_cuMirror.l0 k1 y105 l0_2 (l0_2.length : Int) (wrap64 (x9_1 + 1)) a0_0 a0_1 l0_2) = some (r1, r2, r3) := by first | (rw [hy105]; with_reducible exact H) | (have H2_ := (Option.bind_some _ _).symm.trans H; rw [hy105]; with_reducible exact H2_) | (have H2_ := (Option.bind_some _ _).symm.trans H; with_reducible exact H2_) | with_reducible exact H | (rw [hy105]; exact H) | exact H
              have Ny105 := Aside0.mk hy105
              clear hy105
              have H' := Aside0.mk H
              clear H
              have p103 : 0 ≤ (x9_1 : Int) := of_decide_eq_true (by first | (with_reducible assumption) | assumption)
              have q103 : x9_1 < (l0_2.length : Int) := of_decide_eq_true (by first | (with_reducible assumption) | assumption)
              obtain ⟨ad103, e103, hx103_0, hx103_1, hx103_2⟩ := at_T42 HR0_2.out x9_1 p103 q103
              cases e103
              replace hx103_0 := (HB.out.cell (World.block_lt_of_cell? w _ hx103_0)).trans hx103_0
              replace hx103_1 := (HB.out.cell (World.block_lt_of_cell? w _ hx103_1)).trans hx103_1
              replace hx103_2 := (HB.out.cell (World.block_lt_of_cell? w _ hx103_2)).trans hx103_2
              replace p103 := eq_true p103
              replace q103 := eq_true q103
              go_wp2_with (first | ((with_reducible refine gate_dst (N := 5) rfl ?_); refine box_event ?hg (N := 5) ?hd (cs := #[.int .i64 0, .int .i64 0, .int .i64 0]) (t := 42) ?hr ?_; (case hd => rfl); (case hg => rfl); (case hr => first | (go_simp; done) | (go_simp; rfl)); intro gb104 hg w10 hbox hb; have n0_ := Aside0.mk (Kd.R_below (Kd.R_elderB (by (with_reducible repeat (first | apply Kd.R_alloc | apply Kd.R_drewN | apply Kd.R_drew)); exact HO_3.out) gb104 (Nat.le_of_eq hg.symm)) hb); have n1_ := Aside0.mk (blk_below (g := gb101) (o := .cells #[.int .i64 a0_0, .int .i64 a0_1, .slice (some ad103) l0_2.length c0_2] 29 (0, 0)) (by (with_reducible repeat (first | refine blk_drewN ?_ _ | refine blk_drew ?_ | refine blk_alloc ?_ _)); exact BK101.out) hb); have n2_ := Aside0.mk (blk_below (g := gb102) (o := .cells #[.int .i64 0, .int .i64 0, .slice none 0 0] 29 (0, 0)) (by (with_reducible repeat (first | refine blk_drewN ?_ _ | refine blk_drew ?_ | refine blk_alloc ?_ _)); exact BK102.out) hb); have n3_ := Aside0.mk (below_step (by repeat (first | (with_reducible first | exact HB.out | apply below_alloc | apply pw_below_drewN | apply below_drew1 | refine below_set ?_ GE101.out | refine below_set ?_ GE102.out) | exact HB.out)) hb); have n4_ := Aside0.mk (hbox); have n5_ := Aside0.mk ((by rw [hg]; exact (below_size (by repeat (first | (with_reducible first | exact HB.out | apply below_alloc | apply pw_below_drewN | apply below_drew1 | refine below_set ?_ GE101.out | refine below_set ?_ GE102.out) | exact HB.out))) : w.heap.size ≤ gb104)); have n6_ := Aside0.mk ((by rw [hg]; exact (below_size (by repeat (first | (with_reducible first | exact HB.out | apply below_alloc | apply pw_below_drewN | apply below_drew1 | refine below_set ?_ GE101.out | refine below_set ?_ GE102.out) | exact HB.out))) : w.heap.size ≤ gb104)); have n7_ := Aside0.mk ((by rw [hg]; exact Nat.ne_of_lt (blk_lt (g := gb101) (o := .cells #[.int .i64 a0_0, .int .i64 a0_1, .slice (some ad103) l0_2.length c0_2] 29 (0, 0)) (by (with_reducible repeat (first | refine blk_drewN ?_ _ | refine blk_drew ?_ | refine blk_alloc ?_ _)); exact BK101.out)) : gb101 ≠ gb104)); have n8_ := Aside0.mk ((by rw [hg]; exact Nat.ne_of_gt (blk_lt (g := gb101) (o := .cells #[.int .i64 a0_0, .int .i64 a0_1, .slice (some ad103) l0_2.length c0_2] 29 (0, 0)) (by (with_reducible repeat (first | refine blk_drewN ?_ _ | refine blk_drew ?_ | refine blk_alloc ?_ _)); exact BK101.out)) : gb104 ≠ gb101)); have n9_ := Aside0.mk ((by rw [hg]; exact Nat.ne_of_lt (blk_lt (g := gb102) (o := .cells #[.int .i64 0, .int .i64 0, .slice none 0 0] 29 (0, 0)) (by (with_reducible repeat (first | refine blk_drewN ?_ _ | refine blk_drew ?_ | refine blk_alloc ?_ _)); exact BK102.out)) : gb102 ≠ gb104)); have n10_ := Aside0.mk ((by rw [hg]; exact Nat.ne_of_gt (blk_lt (g := gb102) (o := .cells #[.int .i64 0, .int .i64 0, .slice none 0 0] 29 (0, 0)) (by (with_reducible repeat (first | refine blk_drewN ?_ _ | refine blk_drew ?_ | refine blk_alloc ?_ _)); exact BK102.out)) : gb104 ≠ gb102)); clear HO_3; clear BK101; clear BK102; clear HB; have HO_3 := n0_; have BK101 := n1_; have BK102 := n2_; have HB := n3_; have BK104 := n4_; have GW104 := n5_; have GE104 := n6_; have NB101_104 := n7_; have NB104_101 := n8_; have NB102_104 := n9_; have NB104_102 := n10_; clear n0_ n1_ n2_ n3_ n4_ n5_ n6_ n7_ n8_ n9_ n10_; clear hb hbox hg; have hnb11 := NB104_101.out; have hnc11 := NB101_104.out; have hnb12 := NB104_102.out; have hnc12 := NB102_104.out; have hcz13_0 : w10.cell? ⟨gb104, 0, none⟩ = some (.int .i64 0) := (blk_cell BK104.out 0).trans rfl; have hcz13_1 : w10.cell? ⟨gb104, 1, none⟩ = some (.int .i64 0) := (blk_cell BK104.out 1).trans rfl; have hcz13_2 : w10.cell? ⟨gb104, 2, none⟩ = some (.int .i64 0) := (blk_cell BK104.out 2).trans rfl; have hfz13_0 := blk_frozen BK104.out 0; have hfz13_1 := blk_frozen BK104.out 1; have hfz13_2 := blk_frozen BK104.out 2; have hnb14 := NB101_102.out; have hnc14 := NB102_101.out; have hcz15_0 : w10.cell? ⟨gb101, 0, none⟩ = some (.int .i64 a0_0) := (blk_cell BK101.out 0).trans rfl; have hcz15_1 : w10.cell? ⟨gb101, 1, none⟩ = some (.int .i64 a0_1) := (blk_cell BK101.out 1).trans rfl; have hcz15_2 : w10.cell? ⟨gb101, 2, none⟩ = some (.slice (some ad103) l0_2.length c0_2) := (blk_cell BK101.out 2).trans rfl; have hfz15_0 := blk_frozen BK101.out 0; have hfz15_1 := blk_frozen BK101.out 1; have hfz15_2 := blk_frozen BK101.out 2) | ((with_reducible refine gate_builtin (b := .append) (xs := #[.tmp 13, .tmp 27]) rfl ?_); at_builtin; refine Kd.R_append k42 (w0 := w) w.heap.size rfl (.tmp 13) (.tmp 27) 27 42 (.agg #[(.int .i64 0), (.int .i64 0), (.int .i64 0)]) 24 rfl Try.underlying27 info42 rfl (by decide) (by omega) u3 x3_1 (⟨wrap64 ((wrap64 (a0_0 - ((rd_T42 l0_2 x9_1).f0))) - ((rd_T42 l0_2 x9_1).f2)), (rd_T42 l0_2 x9_1).f1, (rd_T42 l0_2 x9_1).f2⟩ : S42) [.int .i64 (wrap64 ((wrap64 (a0_0 - ((rd_T42 l0_2 x9_1).f0))) - ((rd_T42 l0_2 x9_1).f2))), .int .i64 ((rd_T42 l0_2 x9_1).f1), .int .i64 ((rd_T42 l0_2 x9_1).f2)] (fun k_ => k_ ≠ gb104) (fun _ => False) rfl (by first | (go_simp; done) | (go_simp; rfl)) ?aP (fun _ hk => hk.elim) ?aF ?aO ?aB ?aS ?aL ?_; (case aP => exact k42_mkM _ _ _ (⟨wrap64 ((wrap64 (a0_0 - ((rd_T42 l0_2 x9_1).f0))) - ((rd_T42 l0_2 x9_1).f2)), (rd_T42 l0_2 x9_1).f1, (rd_T42 l0_2 x9_1).f2⟩ : S42)); (case aB => exact (by repeat (first | (with_reducible first | exact HB.out | apply below_alloc | apply pw_below_drewN | apply below_drew1 | refine below_set ?_ GE101.out | refine below_set ?_ GE102.out | refine below_set ?_ GE104.out) | exact HB.out))); (case aF => exact (fun k_ hk => Kd.freshB (g := gb104) (o := .cells #[.int .i64 ((rd_T42 l0_2 x9_1).f0), .int .i64 ((rd_T42 l0_2 x9_1).f1), .int .i64 ((rd_T42 l0_2 x9_1).f2)] 42 (0, 0)) (by (with_reducible repeat (first | refine blk_drewN ?_ _ | refine blk_drew ?_ | refine blk_alloc ?_ _)); refine blk_put (cs := #[.int .i64 ((rd_T42 l0_2 x9_1).f0), .int .i64 ((rd_T42 l0_2 x9_1).f1), .int .i64 0]) ?_ 2 _ rfl; (with_reducible repeat (first | refine blk_drewN ?_ _ | refine blk_drew ?_ | refine blk_alloc ?_ _)); refine blk_put (cs := #[.int .i64 ((rd_T42 l0_2 x9_1).f0), .int .i64 0, .int .i64 0]) ?_ 1 _ rfl; (with_reducible repeat (first | refine blk_drewN ?_ _ | refine blk_drew ?_ | refine blk_alloc ?_ _)); refine blk_put (cs := #[.int .i64 0, .int .i64 0, .int .i64 0]) ?_ 0 _ rfl; (with_reducible repeat (first | refine blk_drewN ?_ _ | refine blk_drew ?_ | refine blk_alloc ?_ _)); exact BK104.out) k_ hk)); (case aO => exact (by (with_reducible repeat (first | apply Kd.R_alloc | apply Kd.R_drewN | apply Kd.R_drew)); exact Kd.R_mono (Kd.R_far (p := ⟨gb104, 2, none⟩) (Kd.R_far (p := ⟨gb104, 1, none⟩) (Kd.R_far (p := ⟨gb104, 0, none⟩) (Kd.R_mono HO_3.out (fun k_ hk => (⟨hk, hk.2⟩ : _ ∧ k_ ≠ gb104))) (fun _ hk => hk.2) (.int .i64 ((rd_T42 l0_2 x9_1).f0))) (fun _ hk => hk.2) (.int .i64 ((rd_T42 l0_2 x9_1).f1))) (fun _ hk => hk.2) (.int .i64 ((rd_T42 l0_2 x9_1).f2))) (fun _ hk => hk.1.2))); (case aS => exact (below_size (by repeat (first | (with_reducible first | exact HB.out | apply below_alloc | apply pw_below_drewN | apply below_drew1 | refine below_set ?_ GE101.out | refine below_set ?_ GE102.out | refine below_set ?_ GE104.out) | exact HB.out)))); (case aL => have := LMc9.out; omega); intro v106 w16 ho hb hg hat; rw [← Ny105.out] at ho; have n0_ := Aside0.mk (blk_grown (g := gb101) (o := .cells #[.int .i64 a0_0, .int .i64 a0_1, .slice (some ad103) l0_2.length c0_2] 29 (0, 0)) (by (with_reducible repeat (first | refine blk_drewN ?_ _ | refine blk_drew ?_ | refine blk_alloc ?_ _)); refine blk_far ?_ NB101_104.out _; (with_reducible repeat (first | refine blk_drewN ?_ _ | refine blk_drew ?_ | refine blk_alloc ?_ _)); refine blk_far ?_ NB101_104.out _; (with_reducible repeat (first | refine blk_drewN ?_ _ | refine blk_drew ?_ | refine blk_alloc ?_ _)); refine blk_far ?_ NB101_104.out _; (with_reducible repeat (first | refine blk_drewN ?_ _ | refine blk_drew ?_ | refine blk_alloc ?_ _)); exact BK101.out) hg (Kd.R_ne HO_3.out BK101.out (by decide))); have n1_ := Aside0.mk (blk_grown (g := gb102) (o := .cells #[.int .i64 0, .int .i64 0, .slice none 0 0] 29 (0, 0)) (by (with_reducible repeat (first | refine blk_drewN ?_ _ | refine blk_drew ?_ | refine blk_alloc ?_ _)); refine blk_far ?_ NB102_104.out _; (with_reducible repeat (first | refine blk_drewN ?_ _ | refine blk_drew ?_ | refine blk_alloc ?_ _)); refine blk_far ?_ NB102_104.out _; (with_reducible repeat (first | refine blk_drewN ?_ _ | refine blk_drew ?_ | refine blk_alloc ?_ _)); refine blk_far ?_ NB102_104.out _; (with_reducible repeat (first | refine blk_drewN ?_ _ | refine blk_drew ?_ | refine blk_alloc ?_ _)); exact BK102.out) hg (Kd.R_ne HO_3.out BK102.out (by decide))); have n2_ := Aside0.mk (blk_grown (g := gb104) (o := .cells #[.int .i64 ((rd_T42 l0_2 x9_1).f0), .int .i64 ((rd_T42 l0_2 x9_1).f1), .int .i64 ((rd_T42 l0_2 x9_1).f2)] 42 (0, 0)) (by (with_reducible repeat (first | refine blk_drewN ?_ _ | refine blk_drew ?_ | refine blk_alloc ?_ _)); refine blk_put (cs := #[.int .i64 ((rd_T42 l0_2 x9_1).f0), .int .i64 ((rd_T42 l0_2 x9_1).f1), .int .i64 0]) ?_ 2 _ rfl; (with_reducible repeat (first | refine blk_drewN ?_ _ | refine blk_drew ?_ | refine blk_alloc ?_ _)); refine blk_put (cs := #[.int .i64 ((rd_T42 l0_2 x9_1).f0), .int .i64 0, .int .i64 0]) ?_ 1 _ rfl; (with_reducible repeat (first | refine blk_drewN ?_ _ | refine blk_drew ?_ | refine blk_alloc ?_ _)); refine blk_put (cs := #[.int .i64 0, .int .i64 0, .int .i64 0]) ?_ 0 _ rfl; (with_reducible repeat (first | refine blk_drewN ?_ _ | refine blk_drew ?_ | refine blk_alloc ?_ _)); exact BK104.out) hg (Kd.R_away HO_3.out (fun _ hk => hk.2))); have n3_ := Aside0.mk (hb); have n4_ := Aside0.mk (ho); clear BK101; clear BK102; clear BK104; clear HB; clear HO_3; have BK101 := n0_; have BK102 := n1_; have BK104 := n2_; have HB := n3_; have HO107 := n4_; clear n0_ n1_ n2_ n3_ n4_; clear ho hb hg hat))
              go_roundg k1
              case measure => have := HK1.out; omega
              case rel => exact ⟨(y105), (wrap64 (x9_1 + 1)), (by first | rfl | (simp; done) | (simp [*]; done)), H', ⟨by have := HK1.out; omega⟩, ⟨by (with_reducible repeat (first | apply Kd.R_alloc | apply Kd.R_drewN | apply Kd.R_drew)); exact Kd.R_mono HO107.out (fun _ hk => trivial)⟩, ⟨by (with_reducible repeat (first | refine blk_drewN ?_ _ | refine blk_drew ?_ | refine blk_alloc ?_ _)); exact BK101.out⟩, ⟨by (with_reducible repeat (first | refine blk_drewN ?_ _ | refine blk_drew ?_ | refine blk_alloc ?_ _)); exact BK102.out⟩, ⟨by repeat (first | (with_reducible first | exact HB.out | apply below_alloc | apply pw_below_drewN | apply below_drew1 | refine below_set ?_ GE101.out | refine below_set ?_ GE102.out | refine below_set ?_ GE104.out) | exact HB.out)⟩⟩
            · rw [if_neg c9] at H
              exact absurd H (by simp)
          · rw [if_neg c8] at H
            exact absurd H (by simp)
        · rw [if_neg c7] at H
          exact absurd H (by simp)
      · rw [if_neg c6] at H
        have c6b0 : decide (x9_1 < (l0_2.length : Int)) = false := decide_eq_false c6
        clear c6
        replace H := Option.bind_eq_some_iff.mp H
        obtain ⟨t108, A170, H⟩ := H
        replace H : (some (a0_0, a0_1, t108)) = some (r1, r2, r3) := H
        have A17 := Aside0.mk A170
        clear A170
        simp only [Option.some.injEq, Prod.mk.injEq] at H
        obtain ⟨rfl, rfl, rfl⟩ := H
        try go_wp2
        have n0_ := Aside0.mk (Kd.R_drew HO_3.out)
        have n1_ := Aside0.mk (blk_drew BK101.out)
        have n2_ := Aside0.mk (blk_drew BK102.out)
        have n3_ := Aside0.mk (below_drew1 HB.out)
        clear HO_3
        clear BK101
        clear BK102
        clear HB
        have HO_3 := n0_
        have BK101 := n1_
        have BK102 := n2_
        have HB := n3_
        clear n0_ n1_ n2_ n3_
        obtain ⟨Ao19, co19, eo19⟩ := Kd.R_slice HO_3.out
        (first | subst eo19 | (injection eo19 with f1_ f2_ f3_; have f4_ := f1_.symm; have f5_ := f3_.symm; clear f1_ f2_ f3_; subst f4_; subst f5_))
        refine start_ (n := 8) (S := fun w' => w'.cell? ⟨gb101, 0, none⟩ = some (.int .i64 a0_0) ∧ w'.cell? ⟨gb101, 1, none⟩ = some (.int .i64 a0_1) ∧ w'.cell? ⟨gb101, 2, none⟩ = some (.slice A0_2 l0_2.length c0_2)) (ds := []) #[false, false, false, false, false, false, false, false] (by kernel_rfl) rfl rfl ⟨(blk_cell BK101.out 0).trans rfl, (blk_cell BK101.out 1).trans rfl, (blk_cell BK101.out 2).trans rfl⟩ (fun hHeld => ?_); refine with_tabW spec_cuMirror.tab7 spec_cuMirror.bits7 (fun HT_ HW_ => ?_)
        generalize wr.drew = w18 at HO_3 BK101 BK102 HB hHeld ⊢
        refine pure_ (i := 0) (N := some 30) (v := ?_) (a' := ?_) #[true, false, false, false, false, false, false, false] rfl rfl (any_of HT_.out (by kernel_rfl)) (fun _ _ _ h => h) (Or.inl ⟨by rfl, ?_⟩) ?_ ?_
        rotate_left
        · intro w'
          go_simp
          with_reducible rfl
        rotate_left
        · simp only [Act.put, List.setIfInBounds_toArray, List.set_cons_zero, List.set_cons_succ, i64_w, i32_w]
          rfl
        refine pure_ (i := 2) (N := some 32) (v := ?_) (a' := ?_) #[true, false, true, false, false, false, false, false] rfl rfl (any_of HT_.out (by kernel_rfl)) (fun _ _ _ h => h) (Or.inl ⟨by rfl, ?_⟩) ?_ ?_
        rotate_left
        · intro w'
          go_simp
          with_reducible rfl
        rotate_left
        · simp only [Act.put, List.setIfInBounds_toArray, List.set_cons_zero, List.set_cons_succ, i64_w, i32_w]
          rfl
        refine pure_ (i := 4) (N := some 34) (v := ?_) (a' := ?_) #[true, false, true, false, true, false, false, false] rfl rfl (any_of HT_.out (by kernel_rfl)) (fun _ _ _ h => h) (Or.inl ⟨by rfl, ?_⟩) ?_ ?_
        rotate_left
        · intro w'
          go_simp
          with_reducible rfl
        rotate_left
        · simp only [Act.put, List.setIfInBounds_toArray, List.set_cons_zero, List.set_cons_succ, i64_w, i32_w]
          rfl
        refine take_ (i := 1) (N := some 31) (v := ?_) (a' := ?_) #[true, true, true, false, true, false, false, false] rfl rfl (take_ofW HT_.out HW_.out (by kernel_rfl)) (fun _ _ _ h => h) (Or.inl ⟨by rfl, ?_⟩) hHeld ?_ ?_
        rotate_left
        · rintro w' ⟨s0, s1, s2⟩
          go_simp
          with_reducible rfl
        rotate_left
        · simp only [Act.put, List.setIfInBounds_toArray, List.set_cons_zero, List.set_cons_succ, i64_w, i32_w]
          rfl
        refine take_ (i := 3) (N := some 33) (v := ?_) (a' := ?_) #[true, true, true, true, true, false, false, false] rfl rfl (take_ofW HT_.out HW_.out (by kernel_rfl)) (fun _ _ _ h => h) (Or.inl ⟨by rfl, ?_⟩) hHeld ?_ ?_
        rotate_left
        · rintro w' ⟨s0, s1, s2⟩
          go_simp
          with_reducible rfl
        rotate_left
        · simp only [Act.put, List.setIfInBounds_toArray, List.set_cons_zero, List.set_cons_succ, i64_w, i32_w]
          rfl
        refine one_ (i := 5) (N := some 35) #[true, true, true, true, true, true, false, false] rfl rfl (one_of HT_.out (by kernel_rfl)) (by decide) (fun K hK => ?_)
        refine goes_ Try.func18 (by kernel_rfl) rfl #[.slice Ao19 x3_1.length co19] (by rfl) rfl rfl (by (try simp only [List.map_toArray, List.map_cons, List.map_nil]); first | done | rfl | (simp only [List.length_drop, List.length_take]; rfl)) ?_
        with_reducible refine (spec_cuSorted.calls k1 _ _ x3_1 t108 _ ?side1 ?side2 A17.out).mono ?_
        (case side1 => repeat (first | exact (Kd.R_reads' HO_3.out).2.2 | (with_reducible refine Kd.C_alloc ?_ _) | (with_reducible refine Kd.C_drewN ?_ _) | (with_reducible refine Kd.C_drew ?_)))
        (case side2 => exact (Kd.R_reads' HO_3.out).2.1)
        rintro e w20 ⟨v109, rfl, ho0, hb⟩
        refine ⟨_, rfl, ?_⟩
        have n0_ := Aside0.mk (Kd.R_elder' (by (with_reducible repeat (first | apply Kd.R_alloc | apply Kd.R_drewN | apply Kd.R_drew)); exact HO_3.out) (Kd.R_base ho0) hb)
        have n1_ := Aside0.mk (Kd.R_lower (Kd.R_new' ho0 (Kd.R_lt (by (with_reducible repeat (first | apply Kd.R_alloc | apply Kd.R_drewN | apply Kd.R_drew)); exact HO_3.out))) (below_size (by repeat (first | (with_reducible first | exact HB.out | apply below_alloc | apply pw_below_drewN | apply below_drew1 | refine below_set ?_ GE101.out | refine below_set ?_ GE102.out) | exact HB.out))))
        have n2_ := Aside0.mk (blk_below (g := gb101) (o := .cells #[.int .i64 a0_0, .int .i64 a0_1, .slice A0_2 l0_2.length c0_2] 29 (0, 0)) (by (with_reducible repeat (first | refine blk_drewN ?_ _ | refine blk_drew ?_ | refine blk_alloc ?_ _)); exact BK101.out) hb)
        have n3_ := Aside0.mk (blk_below (g := gb102) (o := .cells #[.int .i64 0, .int .i64 0, .slice none 0 0] 29 (0, 0)) (by (with_reducible repeat (first | refine blk_drewN ?_ _ | refine blk_drew ?_ | refine blk_alloc ?_ _)); exact BK102.out) hb)
        have n4_ := Aside0.mk (below_step (by repeat (first | (with_reducible first | exact HB.out | apply below_alloc | apply pw_below_drewN | apply below_drew1 | refine below_set ?_ GE101.out | refine below_set ?_ GE102.out) | exact HB.out)) hb)
        clear HO_3
        clear BK101
        clear BK102
        clear HB
        have HO_3 := n0_
        have HO110 := n1_
        have BK101 := n2_
        have BK102 := n3_
        have HB := n4_
        clear n0_ n1_ n2_ n3_ n4_
        (try clear hb)
        (try clear hb2)
        (try clear hk)
        (try clear hi)
        (try clear ho0)
        obtain ⟨Ao21, co21, eo21⟩ := Kd.R_slice HO110.out
        (first | subst eo21 | (injection eo21 with f1_ f2_ f3_; have f4_ := f1_.symm; have f5_ := f3_.symm; clear f1_ f2_ f3_; subst f4_; subst f5_))
        refine hK.out _ _ ⟨(blk_cell BK101.out 0).trans rfl, (blk_cell BK101.out 1).trans rfl, (blk_cell BK101.out 2).trans rfl⟩ (fun hHeld => ?_)
        clear hK K
        refine norm_ (a' := ?_) ?_ ?_
        rotate_left
        · show Act.put _ (some 35) _ = _
          simp only [Act.put, List.setIfInBounds_toArray, List.set_cons_zero, List.set_cons_succ, i64_w, i32_w]
          rfl
        refine pure_ (i := 6) (N := some 36) (v := ?_) (a' := ?_) #[true, true, true, true, true, true, true, false] rfl rfl (any_of HT_.out (by kernel_rfl)) (fun _ _ _ h => h) (Or.inl ⟨by rfl, ?_⟩) ?_ ?_
        rotate_left
        · intro w'
          go_simp
          with_reducible rfl
        rotate_left
        · simp only [Act.put, List.setIfInBounds_toArray, List.set_cons_zero, List.set_cons_succ, i64_w, i32_w]
          rfl
        refine one_ (i := 7) (N := none) #[true, true, true, true, true, true, true, true] rfl rfl (one_of HT_.out (by kernel_rfl)) (by decide) (fun K hK => ?_)
        have hs22 : w20.cell? ⟨gb102, 0, none⟩ = some (.int .i64 0) := (blk_cell BK102.out 0).trans rfl
        have hfs22 := blk_frozen BK102.out 0
        have hns22_0 := NB101_102.out
        have hms22_0 := NB102_101.out
        have hs23 : w20.cell? ⟨gb102, 1, none⟩ = some (.int .i64 0) := (blk_cell BK102.out 1).trans rfl
        have hfs23 := blk_frozen BK102.out 1
        have hns23_0 := NB101_102.out
        have hms23_0 := NB102_101.out
        have hs24 : w20.cell? ⟨gb102, 2, none⟩ = some (.slice none 0 0) := (blk_cell BK102.out 2).trans rfl
        have hfs24 := blk_frozen BK102.out 2
        have hns24_0 := NB101_102.out
        have hms24_0 := NB102_101.out
        refine skip_ (w1 := ?_) (by rfl) rfl ?_ ?_
        rotate_left
        · go_simp
          rfl
        refine hK.out _ _ ⟨((cell_far (p := ⟨gb102, _, none⟩) NB101_102.out _).trans (((cell_far (p := ⟨gb102, _, none⟩) NB101_102.out _).trans (((cell_far (p := ⟨gb102, _, none⟩) NB101_102.out _).trans (hHeld.1)))))), ((cell_far (p := ⟨gb102, _, none⟩) NB101_102.out _).trans (((cell_far (p := ⟨gb102, _, none⟩) NB101_102.out _).trans (((cell_far (p := ⟨gb102, _, none⟩) NB101_102.out _).trans (hHeld.2.1)))))), ((cell_far (p := ⟨gb102, _, none⟩) NB101_102.out _).trans (((cell_far (p := ⟨gb102, _, none⟩) NB101_102.out _).trans (((cell_far (p := ⟨gb102, _, none⟩) NB101_102.out _).trans (hHeld.2.2))))))⟩ (fun hHeld => ?_)
        clear hK K
        refine done_ (done_of HT_.out (by kernel_rfl)) ?_
        try go_wp2
        refine bodyPost_ret (results_cell_row rfl _ _ gb102 29 #[.int .i64 a0_0, .int .i64 a0_1, .slice Ao21 t108.length co21] (0, 0) _ rfl (by (with_reducible repeat (first | refine blk_drewN ?_ _ | refine blk_drew ?_ | refine blk_alloc ?_ _)); refine blk_put (cs := #[.int .i64 a0_0, .int .i64 a0_1, .slice none 0 0]) ?_ 2 _ rfl; (with_reducible repeat (first | refine blk_drewN ?_ _ | refine blk_drew ?_ | refine blk_alloc ?_ _)); refine blk_put (cs := #[.int .i64 a0_0, .int .i64 0, .slice none 0 0]) ?_ 1 _ rfl; (with_reducible repeat (first | refine blk_drewN ?_ _ | refine blk_drew ?_ | refine blk_alloc ?_ _)); refine blk_put (cs := #[.int .i64 0, .int .i64 0, .slice none 0 0]) ?_ 0 _ rfl; (with_reducible repeat (first | refine blk_drewN ?_ _ | refine blk_drew ?_ | refine blk_alloc ?_ _)); exact BK102.out) Try.underlying29 rfl (by kernel_rfl)) rfl ?_
        exact ⟨_, by first | rfl | (simp [errW_none, errW_some] <;> rfl) | (simp [*, errW_none, errW_some] <;> rfl), by (with_reducible repeat (first | apply Kd.R_alloc | apply Kd.R_drewN | apply Kd.R_drew)); exact Kd.R_mono (Kd.R_far (p := ⟨gb102, 2, none⟩) (Kd.R_far (p := ⟨gb102, 1, none⟩) (Kd.R_far (p := ⟨gb102, 0, none⟩) (Kd.R_types HO110.out BK102.out (by decide)) (fun _ hk => hk.2) (.int .i64 a0_0)) (fun _ hk => hk.2) (.int .i64 a0_1)) (fun _ hk => hk.2) (.slice Ao21 t108.length co21)) (fun _ hk => trivial), by repeat (first | (with_reducible first | exact HB.out | apply below_alloc | apply pw_below_drewN | apply below_drew1 | refine below_set ?_ GE101.out | refine below_set ?_ GE102.out) | exact HB.out)⟩
end Go.Proofs.Ythmcdiekgfgpdaa.P

namespace Go.Proofs.Ythmcdiekgfgpdaa.P
open Go.RowKit Go.Proofs.YthmcdiekgfgpdaaW.PrintWords Go.Proofs.YthmcdiekgfgpdaaW.PrintLast Go.Proofs.YthmcdiekgfgpdaaW.PrintMore
attribute [local go_sem] max2_int min2_int max_two min_two max_three min_three max_four min_four
set_option linter.unusedVariables false
set_option linter.unusedSimpArgs false
def spec_CountMirrored.l0 : Nat → Int → List (S29) → Int → Int → Option (Int × Bool)
  | 0, _, _, _, _ => none
  | k + 1, x6, x15, x16, x17 => if x17 < x16 then (if 0 ≤ x17 then (if x17 < (x15.length : Int) then ((spec_cuMirror.f k ((rd_T29 x15 x17).f0) ((rd_T29 x15 x17).f1) ((rd_T29 x15 x17).f2)).bind fun bt107 => ((spec_cuText.f k bt107.1 bt107.2.1 bt107.2.2).bind fun t112 => ((spec_cuText.f k ((rd_T29 x15 x17).f0) ((rd_T29 x15 x17).f1) ((rd_T29 x15 x17).f2)).bind fun t113 => (if t112.toList = t113.toList then (spec_CountMirrored.l0 k (wrap64 (x6 + 1)) x15 x16 (wrap64 (x17 + 1))) else (spec_CountMirrored.l0 k x6 x15 x16 (wrap64 (x17 + 1))))))) else (none)) else (none)) else (some (x6, true))
def spec_CountMirrored.f (k : Nat) (a0 : Int) (a1 : Int) : Option (Int × Bool) := (spec_ctFew.f a0 a1).bind fun t101 => (if t101 = true then ((spec_ctAll.f a0 a1).bind fun t102 => (spec_CountMirrored.l0 k 0 t102 (t102.length : Int) 0)) else (some (0, false)))
set_option maxHeartbeats 8000000 in
set_option maxRecDepth 100000 in
theorem spec_CountMirrored.calls (k : Nat) (a0 : Int) (a1 : Int) (r1 : Int) (r2 : Bool) (w : World) (h : spec_CountMirrored.f k a0 a1 = some (r1, r2)) :
    Calls Try.prog 4 #[.int .i64 a0, .int .i64 a1] w fun e w' => e = .returned (.tuple #[.int .i64 r1, .bool r2]) ∧ Below w.heap.size w w' := by
  have hu29 := Try.underlying29
  have HB := Aside0.mk (Below.refl w.heap.size w)
  have H : ((spec_ctFew.f a0 a1).bind fun t101 => (if t101 = true then ((spec_ctAll.f a0 a1).bind fun t102 => (spec_CountMirrored.l0 k 0 t102 (t102.length : Int) 0)) else (some (0, false)))) = some (r1, r2) := h
  clear h
  replace H := Option.bind_eq_some_iff.mp H
  obtain ⟨t101, A30, H⟩ := H
  replace H : (if t101 = true then ((spec_ctAll.f a0 a1).bind fun t102 => (spec_CountMirrored.l0 k 0 t102 (t102.length : Int) 0)) else (some (0, false))) = some (r1, r2) := H
  have A3 := Aside0.mk A30
  clear A30
  by_cases c4 : t101 = true
  · subst c4
    have H1 : ((spec_ctAll.f a0 a1).bind fun t102 => (spec_CountMirrored.l0 k 0 t102 (t102.length : Int) 0)) = some (r1, r2) := by rw [if_pos rfl] at H; exact H
    clear H
    have H := H1
    clear H1
    replace H := Option.bind_eq_some_iff.mp H
    obtain ⟨t102, A50, H⟩ := H
    replace H : (spec_CountMirrored.l0 k 0 t102 (t102.length : Int) 0) = some (r1, r2) := H
    have A5 := Aside0.mk A50
    clear A50
    have H' := Aside0.mk H
    clear H
    go_enter Try.func4, Try.ntmps4
    go_wp2_with (first | ((with_reducible refine gate_callee (f := 6) rfl ?_); refine goesL_ (some 11) rfl rfl Try.func6 (by kernel_rfl) rfl #[.int .i64 a0, .int .i64 a1] rfl (by (try simp only [List.map_toArray, List.map_cons, List.map_nil]); first | done | rfl | (simp only [List.length_drop, List.length_take]; rfl)) ?_; (with_reducible refine (spec_ctFew.calls a0 a1 true _ A3.out).mono ?_); rintro e w' ⟨rfl, ⟨nd, rfl⟩⟩; refine ⟨_, rfl, ?_⟩) | ((with_reducible refine gate_callee (f := 7) rfl ?_); refine goesL_ (some 15) rfl rfl Try.func7 (by kernel_rfl) rfl #[.int .i64 a0, .int .i64 a1] rfl (by (try simp only [List.map_toArray, List.map_cons, List.map_nil]); first | done | rfl | (simp only [List.length_drop, List.length_take]; rfl)) ?_; (with_reducible refine (spec_ctAll.calls a0 a1 t102 _ A5.out).mono ?_); rintro e w6 ⟨v103, rfl, ho0, hb⟩; refine ⟨_, rfl, ?_⟩; have n0_ := Aside0.mk (Kd.S_lower ho0 (below_size (by repeat (first | (with_reducible first | exact HB.out | apply below_alloc | apply pw_below_drewN | apply below_drew1) | exact HB.out)))); have n1_ := Aside0.mk (below_step (by repeat (first | (with_reducible first | exact HB.out | apply below_alloc | apply pw_below_drewN | apply below_drew1) | exact HB.out)) hb); clear HB; have HO104 := n0_; have HB := n1_; clear n0_ n1_; (try clear hb); (try clear hb2); (try clear hk); (try clear hi); (try clear ho0); obtain ⟨Ao7, co7, eo7⟩ := Kd.S_slice HO104.out; subst eo7))
    go_loopg [6, 17] k (fun kq v6 v17 w' => ∃ (x6_1 : Int) (x17_1 : Int), v6 = .int .i64 x6_1 ∧ v17 = .int .i64 x17_1 ∧ Aside0 (spec_CountMirrored.l0 kq x6_1 t102 (t102.length : Int) x17_1 = some (r1, r2)) ∧ Aside0 (kq ≤ k) ∧ Aside0 (Kd.S k29 29 w' w.heap.size (fun _ => True) (.slice Ao7 t102.length co7) t102) ∧ Aside0 (Below w.heap.size w w'))
    case atStart => exact ⟨(0), (0), (by first | rfl | (simp; done) | (simp [*]; done)), (by first | rfl | (simp; done) | (simp [*]; done)), H', ⟨Nat.le_refl _⟩, ⟨by (with_reducible repeat (first | apply Kd.S_alloc | apply Kd.S_drewN | apply Kd.S_drew)); exact HO104.out⟩, ⟨by repeat (first | (with_reducible first | exact HB.out | apply below_alloc | apply pw_below_drewN | apply below_drew1) | exact HB.out)⟩⟩
    case round =>
      clear H'
      try clear p2
      try clear c4
      try clear c6
      try clear c7
      obtain ⟨x6_1, x17_1, rfl, rfl, HA, HK1, HO_15, HB⟩ := hrel
      cases gk with
      | zero => exact absurd HA.out (by simp [spec_CountMirrored.l0])
      | succ k1 =>
        have H := HA.out
        clear HA
        simp only [spec_CountMirrored.l0] at H
        by_cases c8 : x17_1 < (t102.length : Int)
        · rw [if_pos c8] at H
          have c8b0 : decide (x17_1 < (t102.length : Int)) = true := decide_eq_true c8
          clear c8
          by_cases c9 : 0 ≤ x17_1
          · rw [if_pos c9] at H
            have c9b0 : decide (0 ≤ x17_1) = true := decide_eq_true c9
            clear c9
            by_cases c10 : x17_1 < (t102.length : Int)
            · rw [if_pos c10] at H
              have c10b0 : decide (x17_1 < (t102.length : Int)) = true := decide_eq_true c10
              clear c10
              replace H := Option.bind_eq_some_iff.mp H
              obtain ⟨⟨t107, t108, t109⟩, A110, H⟩ := H
              replace H : ((spec_cuText.f k1 t107 t108 t109).bind fun t112 => ((spec_cuText.f k1 ((rd_T29 t102 x17_1).f0) ((rd_T29 t102 x17_1).f1) ((rd_T29 t102 x17_1).f2)).bind fun t113 => (if t112.toList = t113.toList then (spec_CountMirrored.l0 k1 (wrap64 (x6_1 + 1)) t102 (t102.length : Int) (wrap64 (x17_1 + 1))) else (spec_CountMirrored.l0 k1 x6_1 t102 (t102.length : Int) (wrap64 (x17_1 + 1)))))) = some (r1, r2) := H
              have A11 := Aside0.mk A110
              clear A110
              replace H := Option.bind_eq_some_iff.mp H
              obtain ⟨t112, A120, H⟩ := H
              replace H : ((spec_cuText.f k1 ((rd_T29 t102 x17_1).f0) ((rd_T29 t102 x17_1).f1) ((rd_T29 t102 x17_1).f2)).bind fun t113 => (if t112.toList = t113.toList then (spec_CountMirrored.l0 k1 (wrap64 (x6_1 + 1)) t102 (t102.length : Int) (wrap64 (x17_1 + 1))) else (spec_CountMirrored.l0 k1 x6_1 t102 (t102.length : Int) (wrap64 (x17_1 + 1))))) = some (r1, r2) := H
              have A12 := Aside0.mk A120
              clear A120
              replace H := Option.bind_eq_some_iff.mp H
              obtain ⟨t113, A130, H⟩ := H
              replace H : (if t112.toList = t113.toList then (spec_CountMirrored.l0 k1 (wrap64 (x6_1 + 1)) t102 (t102.length : Int) (wrap64 (x17_1 + 1))) else (spec_CountMirrored.l0 k1 x6_1 t102 (t102.length : Int) (wrap64 (x17_1 + 1)))) = some (r1, r2) := H
              have A13 := Aside0.mk A130
              clear A130
              by_cases c14 : t112.toList = t113.toList
              · rw [if_pos c14] at H
                have c14b0 : (t112.toList == t113.toList) = true := beq_iff_eq.mpr c14
                have c14b1 : (t112.toList != t113.toList) = false := bne_eq_false_iff_eq.mpr c14
                clear c14
                have H' := Aside0.mk H
                clear H
                have p105 : 0 ≤ (x17_1 : Int) := of_decide_eq_true (by first | (with_reducible assumption) | assumption)
                have q105 : x17_1 < (t102.length : Int) := of_decide_eq_true (by first | (with_reducible assumption) | assumption)
                obtain ⟨ad105, A105_2, c105_2, e105, hx105_0, hx105_1, hx105_2, hl105_2, hi105_2⟩ := at_T29 (Kd.S_reads' HO_15.out).2.2 x17_1 p105 q105
                cases e105
                obtain ⟨ce105, hce105, hMe105, hcc105⟩ := Kd.S_get HO_15.out z29 x17_1 p105 (by first | exact q105 | exact of_decide_eq_true (by first | (with_reducible assumption) | assumption) | (have e_ := (Kd.S_reads' HO_15.out).1; omega))
                obtain ⟨ve105_2, rfl, ge105_2⟩ := k29_openM hMe105
                have hv105_2 := hcc105 2 _ rfl
                rw [add_field _ _ 2 (by omega)] at hv105_2
                replace hv105_2 := Option.some.inj (hv105_2.symm.trans hx105_2)
                rw [hv105_2] at ge105_2
                have HL105_2 := Aside0.mk (show Kd.R k42 42 _ _ _ _ ((rd_T29 t102 x17_1).f2) from ge105_2)
                clear hv105_2 ge105_2
                clear hcc105 hce105
                have HR105_2 := Aside0.mk hi105_2
                have HC105_2 := Aside0.mk hl105_2
                clear hi105_2 hl105_2
                replace p105 := eq_true p105
                replace q105 := eq_true q105
                try go_wp2_with (first | ((with_reducible refine gate_dst (N := 8) rfl ?_); refine box_event ?hg (N := 8) ?hd (cs := #[.int .i64 0, .int .i64 0, .slice none 0 0]) (t := 29) ?hr ?_; (case hd => rfl); (case hg => rfl); (case hr => first | (go_simp; done) | (go_simp; rfl)); intro gb106 hg w15 hbox hb; have n0_ := Aside0.mk (Kd.S_below (Kd.S_elderB (by (with_reducible repeat (first | apply Kd.S_alloc | apply Kd.S_drewN | apply Kd.S_drew)); exact HO_15.out) gb106 (Nat.le_of_eq hg.symm)) hb); have n1_ := Aside0.mk (Kd.R_below (by (with_reducible repeat (first | apply Kd.R_alloc | apply Kd.R_drewN | apply Kd.R_drew)); exact HL105_2.out) hb); have n2_ := Aside0.mk (Kd.C_below (by repeat (first | (with_reducible exact HR105_2.out) | (with_reducible refine Kd.C_alloc ?_ _) | (with_reducible refine Kd.C_drewN ?_ _) | (with_reducible refine Kd.C_drew ?_) | exact HR105_2.out)) hb); have n3_ := Aside0.mk (below_step (by repeat (first | (with_reducible first | exact HB.out | apply below_alloc | apply pw_below_drewN | apply below_drew1) | exact HB.out)) hb); have n4_ := Aside0.mk (hbox); have n5_ := Aside0.mk ((by rw [hg]; exact (below_size (by repeat (first | (with_reducible first | exact HB.out | apply below_alloc | apply pw_below_drewN | apply below_drew1) | exact HB.out))) : w.heap.size ≤ gb106)); have n6_ := Aside0.mk ((by rw [hg]; exact (below_size (by repeat (first | (with_reducible first | exact HB.out | apply below_alloc | apply pw_below_drewN | apply below_drew1) | exact HB.out))) : w.heap.size ≤ gb106)); clear HO_15; clear HL105_2; clear HR105_2; clear HB; have HO_15 := n0_; have HL105_2 := n1_; have HR105_2 := n2_; have HB := n3_; have BK106 := n4_; have GW106 := n5_; have GE106 := n6_; clear n0_ n1_ n2_ n3_ n4_ n5_ n6_; clear hb hbox hg; have hcz16_0 : w15.cell? ⟨gb106, 0, none⟩ = some (.int .i64 0) := (blk_cell BK106.out 0).trans rfl; have hcz16_1 : w15.cell? ⟨gb106, 1, none⟩ = some (.int .i64 0) := (blk_cell BK106.out 1).trans rfl; have hcz16_2 : w15.cell? ⟨gb106, 2, none⟩ = some (.slice none 0 0) := (blk_cell BK106.out 2).trans rfl; have hfz16_0 := blk_frozen BK106.out 0; have hfz16_1 := blk_frozen BK106.out 1; have hfz16_2 := blk_frozen BK106.out 2))
                have n0_ : Aside0 (Kd.S k29 29 (((w15.setCell ⟨gb106, 0, none⟩ (.int .i64 ((rd_T29 t102 x17_1).f0))).setCell ⟨gb106, 1, none⟩ (.int .i64 ((rd_T29 t102 x17_1).f1))).setCell ⟨gb106, 2, none⟩ (.slice A105_2 ((rd_T29 t102 x17_1).f2).length c105_2)) w.heap.size (fun k_ => k_ ≠ gb106) (.slice (some ad105) t102.length co7) t102) := ⟨by (with_reducible repeat (first | apply Kd.S_alloc | apply Kd.S_drewN | apply Kd.S_drew)); exact Kd.S_mono (Kd.S_far (p := ⟨gb106, 2, none⟩) (Kd.S_far (p := ⟨gb106, 1, none⟩) (Kd.S_far (p := ⟨gb106, 0, none⟩) (Kd.S_mono HO_15.out (fun k_ hk => (⟨hk, hk.2⟩ : _ ∧ k_ ≠ gb106))) (fun _ hk => hk.2) (.int .i64 ((rd_T29 t102 x17_1).f0))) (fun _ hk => hk.2) (.int .i64 ((rd_T29 t102 x17_1).f1))) (fun _ hk => hk.2) (.slice A105_2 ((rd_T29 t102 x17_1).f2).length c105_2)) (fun _ hk => hk.1.2)⟩
                have n1_ : Aside0 (Kd.R k42 42 (((w15.setCell ⟨gb106, 0, none⟩ (.int .i64 ((rd_T29 t102 x17_1).f0))).setCell ⟨gb106, 1, none⟩ (.int .i64 ((rd_T29 t102 x17_1).f1))).setCell ⟨gb106, 2, none⟩ (.slice A105_2 ((rd_T29 t102 x17_1).f2).length c105_2)) w.heap.size (fun k_ => some k_ ≠ (.slice (some ad105) t102.length co7 : Value).ownBlock) (.slice A105_2 ((rd_T29 t102 x17_1).f2).length c105_2) ((rd_T29 t102 x17_1).f2)) := ⟨by (with_reducible repeat (first | apply Kd.R_alloc | apply Kd.R_drewN | apply Kd.R_drew)); exact Kd.R_mono (Kd.R_far (p := ⟨gb106, 2, none⟩) (Kd.R_far (p := ⟨gb106, 1, none⟩) (Kd.R_far (p := ⟨gb106, 0, none⟩) (Kd.R_types HL105_2.out BK106.out (by decide)) (fun _ hk => hk.2) (.int .i64 ((rd_T29 t102 x17_1).f0))) (fun _ hk => hk.2) (.int .i64 ((rd_T29 t102 x17_1).f1))) (fun _ hk => hk.2) (.slice A105_2 ((rd_T29 t102 x17_1).f2).length c105_2)) (fun _ hk => hk.1.2)⟩
                have n2_ : Aside0 ((((w15.setCell ⟨gb106, 0, none⟩ (.int .i64 ((rd_T29 t102 x17_1).f0))).setCell ⟨gb106, 1, none⟩ (.int .i64 ((rd_T29 t102 x17_1).f1))).setCell ⟨gb106, 2, none⟩ (.slice A105_2 ((rd_T29 t102 x17_1).f2).length c105_2)).heap[gb106]? = some (.cells #[.int .i64 ((rd_T29 t102 x17_1).f0), .int .i64 ((rd_T29 t102 x17_1).f1), .slice A105_2 ((rd_T29 t102 x17_1).f2).length c105_2] 29 (0, 0))) := ⟨by (with_reducible repeat (first | refine blk_drewN ?_ _ | refine blk_drew ?_ | refine blk_alloc ?_ _)); refine blk_put (cs := #[.int .i64 ((rd_T29 t102 x17_1).f0), .int .i64 ((rd_T29 t102 x17_1).f1), .slice none 0 0]) ?_ 2 _ rfl; (with_reducible repeat (first | refine blk_drewN ?_ _ | refine blk_drew ?_ | refine blk_alloc ?_ _)); refine blk_put (cs := #[.int .i64 ((rd_T29 t102 x17_1).f0), .int .i64 0, .slice none 0 0]) ?_ 1 _ rfl; (with_reducible repeat (first | refine blk_drewN ?_ _ | refine blk_drew ?_ | refine blk_alloc ?_ _)); refine blk_put (cs := #[.int .i64 0, .int .i64 0, .slice none 0 0]) ?_ 0 _ rfl; (with_reducible repeat (first | refine blk_drewN ?_ _ | refine blk_drew ?_ | refine blk_alloc ?_ _)); exact BK106.out⟩
                have n3_ : Aside0 (Below w.heap.size w (((w15.setCell ⟨gb106, 0, none⟩ (.int .i64 ((rd_T29 t102 x17_1).f0))).setCell ⟨gb106, 1, none⟩ (.int .i64 ((rd_T29 t102 x17_1).f1))).setCell ⟨gb106, 2, none⟩ (.slice A105_2 ((rd_T29 t102 x17_1).f2).length c105_2))) := ⟨by repeat (first | (with_reducible first | exact HB.out | apply below_alloc | apply pw_below_drewN | apply below_drew1 | refine below_set ?_ GE106.out) | exact HB.out)⟩
                (try clear HO_15)
                (try clear HL105_2)
                (try clear BK106)
                (try clear HB)
                generalize (((w15.setCell ⟨gb106, 0, none⟩ (.int .i64 ((rd_T29 t102 x17_1).f0))).setCell ⟨gb106, 1, none⟩ (.int .i64 ((rd_T29 t102 x17_1).f1))).setCell ⟨gb106, 2, none⟩ (.slice A105_2 ((rd_T29 t102 x17_1).f2).length c105_2)) = w17 at n0_ n1_ n2_ n3_ ⊢
                have HO_15 := n0_
                have HL105_2 := n1_
                have BK106 := n2_
                have HB := n3_
                clear n0_ n1_ n2_ n3_
                have n0_ := Aside0.mk (Kd.S_drew HO_15.out)
                have n1_ := Aside0.mk (Kd.R_drew HL105_2.out)
                have n2_ := Aside0.mk (blk_drew BK106.out)
                have n3_ := Aside0.mk (below_drew1 HB.out)
                clear HO_15
                clear HL105_2
                clear BK106
                clear HB
                have HO_15 := n0_
                have HL105_2 := n1_
                have BK106 := n2_
                have HB := n3_
                clear n0_ n1_ n2_ n3_
                refine start_ (n := 6) (S := fun w' => w'.cell? ⟨gb106, 0, none⟩ = some (.int .i64 ((rd_T29 t102 x17_1).f0)) ∧ w'.cell? ⟨gb106, 1, none⟩ = some (.int .i64 ((rd_T29 t102 x17_1).f1)) ∧ w'.cell? ⟨gb106, 2, none⟩ = some (.slice A105_2 ((rd_T29 t102 x17_1).f2).length c105_2)) (ds := []) #[false, false, false, false, false, false] (by kernel_rfl) rfl rfl ⟨(blk_cell BK106.out 0).trans rfl, (blk_cell BK106.out 1).trans rfl, (blk_cell BK106.out 2).trans rfl⟩ (fun hHeld => ?_)
                generalize w17.drew = w18 at HO_15 HL105_2 BK106 HB hHeld ⊢
                refine take_ (i := 0) (N := some 21) (v := ?_) (a' := ?_) #[true, false, false, false, false, false] rfl rfl (by kernel_rfl) (fun _ _ _ h => h) (Or.inl ⟨by rfl, ?_⟩) hHeld ?_ ?_
                rotate_left
                · rintro w' ⟨s0, s1, s2⟩
                  go_simp
                  with_reducible rfl
                rotate_left
                · simp only [Act.put, List.setIfInBounds_toArray, List.set_cons_zero, List.set_cons_succ, i64_w, i32_w]
                  rfl
                refine take_ (i := 3) (N := some 24) (v := ?_) (a' := ?_) #[true, false, false, true, false, false] rfl rfl (by kernel_rfl) (fun _ _ _ h => h) (Or.inl ⟨by rfl, ?_⟩) hHeld ?_ ?_
                rotate_left
                · rintro w' ⟨s0, s1, s2⟩
                  go_simp
                  with_reducible rfl
                rotate_left
                · simp only [Act.put, List.setIfInBounds_toArray, List.set_cons_zero, List.set_cons_succ, i64_w, i32_w]
                  rfl
                refine one_ (i := 1) (N := some 22) #[true, true, false, true, false, false] rfl rfl (by kernel_rfl) (by decide) (fun K hK => ?_)
                refine goes_ Try.func9 (by kernel_rfl) rfl #[.agg #[.int .i64 ((rd_T29 t102 x17_1).f0), .int .i64 ((rd_T29 t102 x17_1).f1), .slice A105_2 ((rd_T29 t102 x17_1).f2).length c105_2]] (by rfl) rfl rfl (by (try simp only [List.map_toArray, List.map_cons, List.map_nil]); first | done | rfl | (simp only [List.length_drop, List.length_take]; rfl)) ?_
                with_reducible refine (spec_cuMirror.calls k1 ((rd_T29 t102 x17_1).f0) ((rd_T29 t102 x17_1).f1) _ _ ((rd_T29 t102 x17_1).f2) t107 t108 t109 _ ?side1 ?side2 A11.out).mono ?_
                (case side1 => repeat (first | exact ((Kd.R_reads' (by (with_reducible repeat (first | apply Kd.R_alloc | apply Kd.R_drewN | apply Kd.R_drew)); exact HL105_2.out)).2.2) | (with_reducible refine Kd.C_alloc ?_ _) | (with_reducible refine Kd.C_drewN ?_ _) | (with_reducible refine Kd.C_drew ?_)))
                (case side2 => exact HC105_2.out)
                rintro e w19 ⟨v110, rfl, ho0, hb⟩
                refine ⟨_, rfl, ?_⟩
                have n0_ := Aside0.mk (Kd.S_elder' (by (with_reducible repeat (first | apply Kd.S_alloc | apply Kd.S_drewN | apply Kd.S_drew)); exact HO_15.out) (Kd.R_base ho0) hb)
                have n1_ := Aside0.mk (Kd.R_elder' (by (with_reducible repeat (first | apply Kd.R_alloc | apply Kd.R_drewN | apply Kd.R_drew)); exact HL105_2.out) (Kd.R_base ho0) hb)
                have n2_ := Aside0.mk (Kd.R_lower (Kd.R_new' ho0 (Kd.R_lt (by (with_reducible repeat (first | apply Kd.R_alloc | apply Kd.R_drewN | apply Kd.R_drew)); exact HL105_2.out))) (below_size (by repeat (first | (with_reducible first | exact HB.out | apply below_alloc | apply pw_below_drewN | apply below_drew1 | refine below_set ?_ GE106.out) | exact HB.out))))
                have n3_ := Aside0.mk (blk_below (g := gb106) (o := .cells #[.int .i64 ((rd_T29 t102 x17_1).f0), .int .i64 ((rd_T29 t102 x17_1).f1), .slice A105_2 ((rd_T29 t102 x17_1).f2).length c105_2] 29 (0, 0)) (by (with_reducible repeat (first | refine blk_drewN ?_ _ | refine blk_drew ?_ | refine blk_alloc ?_ _)); exact BK106.out) hb)
                have n4_ := Aside0.mk (below_step (by repeat (first | (with_reducible first | exact HB.out | apply below_alloc | apply pw_below_drewN | apply below_drew1 | refine below_set ?_ GE106.out) | exact HB.out)) hb)
                clear HO_15
                clear HL105_2
                clear BK106
                clear HB
                have HO_15 := n0_
                have HL105_2 := n1_
                have HO111 := n2_
                have BK106 := n3_
                have HB := n4_
                clear n0_ n1_ n2_ n3_ n4_
                (try clear hb)
                (try clear hb2)
                (try clear hk)
                (try clear hi)
                (try clear ho0)
                obtain ⟨Ao20, co20, eo20⟩ := Kd.R_slice HO111.out
                (first | subst eo20 | (injection eo20 with f1_ f2_ f3_; have f4_ := f1_.symm; have f5_ := f3_.symm; clear f1_ f2_ f3_; subst f4_; subst f5_))
                refine hK.out _ _ ⟨(blk_cell BK106.out 0).trans rfl, (blk_cell BK106.out 1).trans rfl, (blk_cell BK106.out 2).trans rfl⟩ (fun hHeld => ?_)
                clear hK K
                refine norm_ (a' := ?_) ?_ ?_
                rotate_left
                · show Act.put _ (some 22) _ = _
                  simp only [Act.put, List.setIfInBounds_toArray, List.set_cons_zero, List.set_cons_succ, i64_w, i32_w]
                  rfl
                refine one_ (i := 2) (N := some 23) #[true, true, true, true, false, false] rfl rfl (by kernel_rfl) (by decide) (fun K hK => ?_)
                refine goes_ Try.func8 (by kernel_rfl) rfl #[.agg #[.int .i64 t107, .int .i64 t108, .slice Ao20 t109.length co20]] (by rfl) rfl rfl (by (try simp only [List.map_toArray, List.map_cons, List.map_nil]); first | done | rfl | (simp only [List.length_drop, List.length_take]; rfl)) ?_
                with_reducible refine (spec_cuText.calls k1 t107 t108 _ _ t109 t112 _ ?side1 ?side2 A12.out).mono ?_
                (case side1 => repeat (first | exact (Kd.R_reads' HO111.out).2.2 | (with_reducible refine Kd.C_alloc ?_ _) | (with_reducible refine Kd.C_drewN ?_ _) | (with_reducible refine Kd.C_drew ?_)))
                (case side2 => exact (Kd.R_reads' HO111.out).2.1)
                rintro e w21 ⟨rfl, hb⟩
                refine ⟨_, rfl, ?_⟩
                have n0_ := Aside0.mk (Kd.S_below (by (with_reducible repeat (first | apply Kd.S_alloc | apply Kd.S_drewN | apply Kd.S_drew)); exact HO_15.out) hb)
                have n1_ := Aside0.mk (Kd.R_below (by (with_reducible repeat (first | apply Kd.R_alloc | apply Kd.R_drewN | apply Kd.R_drew)); exact HL105_2.out) hb)
                have n2_ := Aside0.mk (Kd.R_below (by (with_reducible repeat (first | apply Kd.R_alloc | apply Kd.R_drewN | apply Kd.R_drew)); exact HO111.out) hb)
                have n3_ := Aside0.mk (blk_below (g := gb106) (o := .cells #[.int .i64 ((rd_T29 t102 x17_1).f0), .int .i64 ((rd_T29 t102 x17_1).f1), .slice A105_2 ((rd_T29 t102 x17_1).f2).length c105_2] 29 (0, 0)) (by (with_reducible repeat (first | refine blk_drewN ?_ _ | refine blk_drew ?_ | refine blk_alloc ?_ _)); exact BK106.out) hb)
                have n4_ := Aside0.mk (below_step (by repeat (first | (with_reducible first | exact HB.out | apply below_alloc | apply pw_below_drewN | apply below_drew1 | refine below_set ?_ GE106.out) | exact HB.out)) hb)
                clear HO_15
                clear HL105_2
                clear HO111
                clear BK106
                clear HB
                have HO_15 := n0_
                have HL105_2 := n1_
                have HO111 := n2_
                have BK106 := n3_
                have HB := n4_
                clear n0_ n1_ n2_ n3_ n4_
                (try clear hb)
                (try clear hb2)
                (try clear hk)
                (try clear hi)
                refine hK.out _ _ ⟨(blk_cell BK106.out 0).trans rfl, (blk_cell BK106.out 1).trans rfl, (blk_cell BK106.out 2).trans rfl⟩ (fun hHeld => ?_)
                clear hK K
                refine norm_ (a' := ?_) ?_ ?_
                rotate_left
                · show Act.put _ (some 23) _ = _
                  simp only [Act.put, List.setIfInBounds_toArray, List.set_cons_zero, List.set_cons_succ, i64_w, i32_w]
                  rfl
                refine one_ (i := 4) (N := some 25) #[true, true, true, true, true, false] rfl rfl (by kernel_rfl) (by decide) (fun K hK => ?_)
                refine goes_ Try.func8 (by kernel_rfl) rfl #[.agg #[.int .i64 ((rd_T29 t102 x17_1).f0), .int .i64 ((rd_T29 t102 x17_1).f1), .slice A105_2 ((rd_T29 t102 x17_1).f2).length c105_2]] (by rfl) rfl rfl (by (try simp only [List.map_toArray, List.map_cons, List.map_nil]); first | done | rfl | (simp only [List.length_drop, List.length_take]; rfl)) ?_
                with_reducible refine (spec_cuText.calls k1 ((rd_T29 t102 x17_1).f0) ((rd_T29 t102 x17_1).f1) _ _ ((rd_T29 t102 x17_1).f2) t113 _ ?side1 ?side2 A13.out).mono ?_
                (case side1 => repeat (first | exact ((Kd.R_reads' (by (with_reducible repeat (first | apply Kd.R_alloc | apply Kd.R_drewN | apply Kd.R_drew)); exact HL105_2.out)).2.2) | (with_reducible refine Kd.C_alloc ?_ _) | (with_reducible refine Kd.C_drewN ?_ _) | (with_reducible refine Kd.C_drew ?_)))
                (case side2 => exact HC105_2.out)
                rintro e w22 ⟨rfl, hb⟩
                refine ⟨_, rfl, ?_⟩
                have n0_ := Aside0.mk (Kd.S_below (by (with_reducible repeat (first | apply Kd.S_alloc | apply Kd.S_drewN | apply Kd.S_drew)); exact HO_15.out) hb)
                have n1_ := Aside0.mk (Kd.R_below (by (with_reducible repeat (first | apply Kd.R_alloc | apply Kd.R_drewN | apply Kd.R_drew)); exact HL105_2.out) hb)
                have n2_ := Aside0.mk (Kd.R_below (by (with_reducible repeat (first | apply Kd.R_alloc | apply Kd.R_drewN | apply Kd.R_drew)); exact HO111.out) hb)
                have n3_ := Aside0.mk (blk_below (g := gb106) (o := .cells #[.int .i64 ((rd_T29 t102 x17_1).f0), .int .i64 ((rd_T29 t102 x17_1).f1), .slice A105_2 ((rd_T29 t102 x17_1).f2).length c105_2] 29 (0, 0)) (by (with_reducible repeat (first | refine blk_drewN ?_ _ | refine blk_drew ?_ | refine blk_alloc ?_ _)); exact BK106.out) hb)
                have n4_ := Aside0.mk (below_step (by repeat (first | (with_reducible first | exact HB.out | apply below_alloc | apply pw_below_drewN | apply below_drew1 | refine below_set ?_ GE106.out) | exact HB.out)) hb)
                clear HO_15
                clear HL105_2
                clear HO111
                clear BK106
                clear HB
                have HO_15 := n0_
                have HL105_2 := n1_
                have HO111 := n2_
                have BK106 := n3_
                have HB := n4_
                clear n0_ n1_ n2_ n3_ n4_
                (try clear hb)
                (try clear hb2)
                (try clear hk)
                (try clear hi)
                refine hK.out _ _ ⟨(blk_cell BK106.out 0).trans rfl, (blk_cell BK106.out 1).trans rfl, (blk_cell BK106.out 2).trans rfl⟩ (fun hHeld => ?_)
                clear hK K
                refine norm_ (a' := ?_) ?_ ?_
                rotate_left
                · show Act.put _ (some 25) _ = _
                  simp only [Act.put, List.setIfInBounds_toArray, List.set_cons_zero, List.set_cons_succ, i64_w, i32_w]
                  rfl
                refine pure_ (i := 5) (N := some 26) (v := ?_) (a' := ?_) #[true, true, true, true, true, true] rfl rfl (by kernel_rfl) (fun _ _ _ h => h) (Or.inl ⟨by rfl, ?_⟩) ?_ ?_
                rotate_left
                · intro w'
                  go_simp
                  with_reducible rfl
                rotate_left
                · simp only [Act.put, List.setIfInBounds_toArray, List.set_cons_zero, List.set_cons_succ, i64_w, i32_w]
                  rfl
                refine done_ (by kernel_rfl) ?_
                try go_wp2
                go_roundg k1
                case measure => have := HK1.out; omega
                case rel => exact ⟨(wrap64 (x6_1 + 1)), (wrap64 (x17_1 + 1)), (by first | rfl | (simp; done) | (simp [*]; done)), (by first | rfl | (simp; done) | (simp [*]; done)), H', ⟨by have := HK1.out; omega⟩, ⟨by (with_reducible repeat (first | apply Kd.S_alloc | apply Kd.S_drewN | apply Kd.S_drew)); exact Kd.S_mono HO_15.out (fun _ hk => trivial)⟩, ⟨by repeat (first | (with_reducible first | exact HB.out | apply below_alloc | apply pw_below_drewN | apply below_drew1 | refine below_set ?_ GE106.out) | exact HB.out)⟩⟩
              · rw [if_neg c14] at H
                have c14b0 : (t112.toList == t113.toList) = false := beq_eq_false_iff_ne.mpr c14
                have c14b1 : (t112.toList != t113.toList) = true := bne_iff_ne.mpr c14
                have H' := Aside0.mk H
                clear H
                have p105 : 0 ≤ (x17_1 : Int) := of_decide_eq_true (by first | (with_reducible assumption) | assumption)
                have q105 : x17_1 < (t102.length : Int) := of_decide_eq_true (by first | (with_reducible assumption) | assumption)
                obtain ⟨ad105, A105_2, c105_2, e105, hx105_0, hx105_1, hx105_2, hl105_2, hi105_2⟩ := at_T29 (Kd.S_reads' HO_15.out).2.2 x17_1 p105 q105
                cases e105
                obtain ⟨ce105, hce105, hMe105, hcc105⟩ := Kd.S_get HO_15.out z29 x17_1 p105 (by first | exact q105 | exact of_decide_eq_true (by first | (with_reducible assumption) | assumption) | (have e_ := (Kd.S_reads' HO_15.out).1; omega))
                obtain ⟨ve105_2, rfl, ge105_2⟩ := k29_openM hMe105
                have hv105_2 := hcc105 2 _ rfl
                rw [add_field _ _ 2 (by omega)] at hv105_2
                replace hv105_2 := Option.some.inj (hv105_2.symm.trans hx105_2)
                rw [hv105_2] at ge105_2
                have HL105_2 := Aside0.mk (show Kd.R k42 42 _ _ _ _ ((rd_T29 t102 x17_1).f2) from ge105_2)
                clear hv105_2 ge105_2
                clear hcc105 hce105
                have HR105_2 := Aside0.mk hi105_2
                have HC105_2 := Aside0.mk hl105_2
                clear hi105_2 hl105_2
                replace p105 := eq_true p105
                replace q105 := eq_true q105
                try go_wp2_with (first | ((with_reducible refine gate_dst (N := 8) rfl ?_); refine box_event ?hg (N := 8) ?hd (cs := #[.int .i64 0, .int .i64 0, .slice none 0 0]) (t := 29) ?hr ?_; (case hd => rfl); (case hg => rfl); (case hr => first | (go_simp; done) | (go_simp; rfl)); intro gb106 hg w23 hbox hb; have n0_ := Aside0.mk (Kd.S_below (Kd.S_elderB (by (with_reducible repeat (first | apply Kd.S_alloc | apply Kd.S_drewN | apply Kd.S_drew)); exact HO_15.out) gb106 (Nat.le_of_eq hg.symm)) hb); have n1_ := Aside0.mk (Kd.R_below (by (with_reducible repeat (first | apply Kd.R_alloc | apply Kd.R_drewN | apply Kd.R_drew)); exact HL105_2.out) hb); have n2_ := Aside0.mk (Kd.C_below (by repeat (first | (with_reducible exact HR105_2.out) | (with_reducible refine Kd.C_alloc ?_ _) | (with_reducible refine Kd.C_drewN ?_ _) | (with_reducible refine Kd.C_drew ?_) | exact HR105_2.out)) hb); have n3_ := Aside0.mk (below_step (by repeat (first | (with_reducible first | exact HB.out | apply below_alloc | apply pw_below_drewN | apply below_drew1) | exact HB.out)) hb); have n4_ := Aside0.mk (hbox); have n5_ := Aside0.mk ((by rw [hg]; exact (below_size (by repeat (first | (with_reducible first | exact HB.out | apply below_alloc | apply pw_below_drewN | apply below_drew1) | exact HB.out))) : w.heap.size ≤ gb106)); have n6_ := Aside0.mk ((by rw [hg]; exact (below_size (by repeat (first | (with_reducible first | exact HB.out | apply below_alloc | apply pw_below_drewN | apply below_drew1) | exact HB.out))) : w.heap.size ≤ gb106)); clear HO_15; clear HL105_2; clear HR105_2; clear HB; have HO_15 := n0_; have HL105_2 := n1_; have HR105_2 := n2_; have HB := n3_; have BK106 := n4_; have GW106 := n5_; have GE106 := n6_; clear n0_ n1_ n2_ n3_ n4_ n5_ n6_; clear hb hbox hg; have hcz24_0 : w23.cell? ⟨gb106, 0, none⟩ = some (.int .i64 0) := (blk_cell BK106.out 0).trans rfl; have hcz24_1 : w23.cell? ⟨gb106, 1, none⟩ = some (.int .i64 0) := (blk_cell BK106.out 1).trans rfl; have hcz24_2 : w23.cell? ⟨gb106, 2, none⟩ = some (.slice none 0 0) := (blk_cell BK106.out 2).trans rfl; have hfz24_0 := blk_frozen BK106.out 0; have hfz24_1 := blk_frozen BK106.out 1; have hfz24_2 := blk_frozen BK106.out 2))
                have n0_ : Aside0 (Kd.S k29 29 (((w23.setCell ⟨gb106, 0, none⟩ (.int .i64 ((rd_T29 t102 x17_1).f0))).setCell ⟨gb106, 1, none⟩ (.int .i64 ((rd_T29 t102 x17_1).f1))).setCell ⟨gb106, 2, none⟩ (.slice A105_2 ((rd_T29 t102 x17_1).f2).length c105_2)) w.heap.size (fun k_ => k_ ≠ gb106) (.slice (some ad105) t102.length co7) t102) := ⟨by (with_reducible repeat (first | apply Kd.S_alloc | apply Kd.S_drewN | apply Kd.S_drew)); exact Kd.S_mono (Kd.S_far (p := ⟨gb106, 2, none⟩) (Kd.S_far (p := ⟨gb106, 1, none⟩) (Kd.S_far (p := ⟨gb106, 0, none⟩) (Kd.S_mono HO_15.out (fun k_ hk => (⟨hk, hk.2⟩ : _ ∧ k_ ≠ gb106))) (fun _ hk => hk.2) (.int .i64 ((rd_T29 t102 x17_1).f0))) (fun _ hk => hk.2) (.int .i64 ((rd_T29 t102 x17_1).f1))) (fun _ hk => hk.2) (.slice A105_2 ((rd_T29 t102 x17_1).f2).length c105_2)) (fun _ hk => hk.1.2)⟩
                have n1_ : Aside0 (Kd.R k42 42 (((w23.setCell ⟨gb106, 0, none⟩ (.int .i64 ((rd_T29 t102 x17_1).f0))).setCell ⟨gb106, 1, none⟩ (.int .i64 ((rd_T29 t102 x17_1).f1))).setCell ⟨gb106, 2, none⟩ (.slice A105_2 ((rd_T29 t102 x17_1).f2).length c105_2)) w.heap.size (fun k_ => some k_ ≠ (.slice (some ad105) t102.length co7 : Value).ownBlock) (.slice A105_2 ((rd_T29 t102 x17_1).f2).length c105_2) ((rd_T29 t102 x17_1).f2)) := ⟨by (with_reducible repeat (first | apply Kd.R_alloc | apply Kd.R_drewN | apply Kd.R_drew)); exact Kd.R_mono (Kd.R_far (p := ⟨gb106, 2, none⟩) (Kd.R_far (p := ⟨gb106, 1, none⟩) (Kd.R_far (p := ⟨gb106, 0, none⟩) (Kd.R_types HL105_2.out BK106.out (by decide)) (fun _ hk => hk.2) (.int .i64 ((rd_T29 t102 x17_1).f0))) (fun _ hk => hk.2) (.int .i64 ((rd_T29 t102 x17_1).f1))) (fun _ hk => hk.2) (.slice A105_2 ((rd_T29 t102 x17_1).f2).length c105_2)) (fun _ hk => hk.1.2)⟩
                have n2_ : Aside0 ((((w23.setCell ⟨gb106, 0, none⟩ (.int .i64 ((rd_T29 t102 x17_1).f0))).setCell ⟨gb106, 1, none⟩ (.int .i64 ((rd_T29 t102 x17_1).f1))).setCell ⟨gb106, 2, none⟩ (.slice A105_2 ((rd_T29 t102 x17_1).f2).length c105_2)).heap[gb106]? = some (.cells #[.int .i64 ((rd_T29 t102 x17_1).f0), .int .i64 ((rd_T29 t102 x17_1).f1), .slice A105_2 ((rd_T29 t102 x17_1).f2).length c105_2] 29 (0, 0))) := ⟨by (with_reducible repeat (first | refine blk_drewN ?_ _ | refine blk_drew ?_ | refine blk_alloc ?_ _)); refine blk_put (cs := #[.int .i64 ((rd_T29 t102 x17_1).f0), .int .i64 ((rd_T29 t102 x17_1).f1), .slice none 0 0]) ?_ 2 _ rfl; (with_reducible repeat (first | refine blk_drewN ?_ _ | refine blk_drew ?_ | refine blk_alloc ?_ _)); refine blk_put (cs := #[.int .i64 ((rd_T29 t102 x17_1).f0), .int .i64 0, .slice none 0 0]) ?_ 1 _ rfl; (with_reducible repeat (first | refine blk_drewN ?_ _ | refine blk_drew ?_ | refine blk_alloc ?_ _)); refine blk_put (cs := #[.int .i64 0, .int .i64 0, .slice none 0 0]) ?_ 0 _ rfl; (with_reducible repeat (first | refine blk_drewN ?_ _ | refine blk_drew ?_ | refine blk_alloc ?_ _)); exact BK106.out⟩
                have n3_ : Aside0 (Below w.heap.size w (((w23.setCell ⟨gb106, 0, none⟩ (.int .i64 ((rd_T29 t102 x17_1).f0))).setCell ⟨gb106, 1, none⟩ (.int .i64 ((rd_T29 t102 x17_1).f1))).setCell ⟨gb106, 2, none⟩ (.slice A105_2 ((rd_T29 t102 x17_1).f2).length c105_2))) := ⟨by repeat (first | (with_reducible first | exact HB.out | apply below_alloc | apply pw_below_drewN | apply below_drew1 | refine below_set ?_ GE106.out) | exact HB.out)⟩
                (try clear HO_15)
                (try clear HL105_2)
                (try clear BK106)
                (try clear HB)
                generalize (((w23.setCell ⟨gb106, 0, none⟩ (.int .i64 ((rd_T29 t102 x17_1).f0))).setCell ⟨gb106, 1, none⟩ (.int .i64 ((rd_T29 t102 x17_1).f1))).setCell ⟨gb106, 2, none⟩ (.slice A105_2 ((rd_T29 t102 x17_1).f2).length c105_2)) = w25 at n0_ n1_ n2_ n3_ ⊢
                have HO_15 := n0_
                have HL105_2 := n1_
                have BK106 := n2_
                have HB := n3_
                clear n0_ n1_ n2_ n3_
                have n0_ := Aside0.mk (Kd.S_drew HO_15.out)
                have n1_ := Aside0.mk (Kd.R_drew HL105_2.out)
                have n2_ := Aside0.mk (blk_drew BK106.out)
                have n3_ := Aside0.mk (below_drew1 HB.out)
                clear HO_15
                clear HL105_2
                clear BK106
                clear HB
                have HO_15 := n0_
                have HL105_2 := n1_
                have BK106 := n2_
                have HB := n3_
                clear n0_ n1_ n2_ n3_
                refine start_ (n := 6) (S := fun w' => w'.cell? ⟨gb106, 0, none⟩ = some (.int .i64 ((rd_T29 t102 x17_1).f0)) ∧ w'.cell? ⟨gb106, 1, none⟩ = some (.int .i64 ((rd_T29 t102 x17_1).f1)) ∧ w'.cell? ⟨gb106, 2, none⟩ = some (.slice A105_2 ((rd_T29 t102 x17_1).f2).length c105_2)) (ds := []) #[false, false, false, false, false, false] (by kernel_rfl) rfl rfl ⟨(blk_cell BK106.out 0).trans rfl, (blk_cell BK106.out 1).trans rfl, (blk_cell BK106.out 2).trans rfl⟩ (fun hHeld => ?_)
                generalize w25.drew = w26 at HO_15 HL105_2 BK106 HB hHeld ⊢
                refine take_ (i := 0) (N := some 21) (v := ?_) (a' := ?_) #[true, false, false, false, false, false] rfl rfl (by kernel_rfl) (fun _ _ _ h => h) (Or.inl ⟨by rfl, ?_⟩) hHeld ?_ ?_
                rotate_left
                · rintro w' ⟨s0, s1, s2⟩
                  go_simp
                  with_reducible rfl
                rotate_left
                · simp only [Act.put, List.setIfInBounds_toArray, List.set_cons_zero, List.set_cons_succ, i64_w, i32_w]
                  rfl
                refine take_ (i := 3) (N := some 24) (v := ?_) (a' := ?_) #[true, false, false, true, false, false] rfl rfl (by kernel_rfl) (fun _ _ _ h => h) (Or.inl ⟨by rfl, ?_⟩) hHeld ?_ ?_
                rotate_left
                · rintro w' ⟨s0, s1, s2⟩
                  go_simp
                  with_reducible rfl
                rotate_left
                · simp only [Act.put, List.setIfInBounds_toArray, List.set_cons_zero, List.set_cons_succ, i64_w, i32_w]
                  rfl
                refine one_ (i := 1) (N := some 22) #[true, true, false, true, false, false] rfl rfl (by kernel_rfl) (by decide) (fun K hK => ?_)
                refine goes_ Try.func9 (by kernel_rfl) rfl #[.agg #[.int .i64 ((rd_T29 t102 x17_1).f0), .int .i64 ((rd_T29 t102 x17_1).f1), .slice A105_2 ((rd_T29 t102 x17_1).f2).length c105_2]] (by rfl) rfl rfl (by (try simp only [List.map_toArray, List.map_cons, List.map_nil]); first | done | rfl | (simp only [List.length_drop, List.length_take]; rfl)) ?_
                with_reducible refine (spec_cuMirror.calls k1 ((rd_T29 t102 x17_1).f0) ((rd_T29 t102 x17_1).f1) _ _ ((rd_T29 t102 x17_1).f2) t107 t108 t109 _ ?side1 ?side2 A11.out).mono ?_
                (case side1 => repeat (first | exact ((Kd.R_reads' (by (with_reducible repeat (first | apply Kd.R_alloc | apply Kd.R_drewN | apply Kd.R_drew)); exact HL105_2.out)).2.2) | (with_reducible refine Kd.C_alloc ?_ _) | (with_reducible refine Kd.C_drewN ?_ _) | (with_reducible refine Kd.C_drew ?_)))
                (case side2 => exact HC105_2.out)
                rintro e w27 ⟨v110, rfl, ho0, hb⟩
                refine ⟨_, rfl, ?_⟩
                have n0_ := Aside0.mk (Kd.S_elder' (by (with_reducible repeat (first | apply Kd.S_alloc | apply Kd.S_drewN | apply Kd.S_drew)); exact HO_15.out) (Kd.R_base ho0) hb)
                have n1_ := Aside0.mk (Kd.R_elder' (by (with_reducible repeat (first | apply Kd.R_alloc | apply Kd.R_drewN | apply Kd.R_drew)); exact HL105_2.out) (Kd.R_base ho0) hb)
                have n2_ := Aside0.mk (Kd.R_lower (Kd.R_new' ho0 (Kd.R_lt (by (with_reducible repeat (first | apply Kd.R_alloc | apply Kd.R_drewN | apply Kd.R_drew)); exact HL105_2.out))) (below_size (by repeat (first | (with_reducible first | exact HB.out | apply below_alloc | apply pw_below_drewN | apply below_drew1 | refine below_set ?_ GE106.out) | exact HB.out))))
                have n3_ := Aside0.mk (blk_below (g := gb106) (o := .cells #[.int .i64 ((rd_T29 t102 x17_1).f0), .int .i64 ((rd_T29 t102 x17_1).f1), .slice A105_2 ((rd_T29 t102 x17_1).f2).length c105_2] 29 (0, 0)) (by (with_reducible repeat (first | refine blk_drewN ?_ _ | refine blk_drew ?_ | refine blk_alloc ?_ _)); exact BK106.out) hb)
                have n4_ := Aside0.mk (below_step (by repeat (first | (with_reducible first | exact HB.out | apply below_alloc | apply pw_below_drewN | apply below_drew1 | refine below_set ?_ GE106.out) | exact HB.out)) hb)
                clear HO_15
                clear HL105_2
                clear BK106
                clear HB
                have HO_15 := n0_
                have HL105_2 := n1_
                have HO111 := n2_
                have BK106 := n3_
                have HB := n4_
                clear n0_ n1_ n2_ n3_ n4_
                (try clear hb)
                (try clear hb2)
                (try clear hk)
                (try clear hi)
                (try clear ho0)
                obtain ⟨Ao28, co28, eo28⟩ := Kd.R_slice HO111.out
                (first | subst eo28 | (injection eo28 with f1_ f2_ f3_; have f4_ := f1_.symm; have f5_ := f3_.symm; clear f1_ f2_ f3_; subst f4_; subst f5_))
                refine hK.out _ _ ⟨(blk_cell BK106.out 0).trans rfl, (blk_cell BK106.out 1).trans rfl, (blk_cell BK106.out 2).trans rfl⟩ (fun hHeld => ?_)
                clear hK K
                refine norm_ (a' := ?_) ?_ ?_
                rotate_left
                · show Act.put _ (some 22) _ = _
                  simp only [Act.put, List.setIfInBounds_toArray, List.set_cons_zero, List.set_cons_succ, i64_w, i32_w]
                  rfl
                refine one_ (i := 2) (N := some 23) #[true, true, true, true, false, false] rfl rfl (by kernel_rfl) (by decide) (fun K hK => ?_)
                refine goes_ Try.func8 (by kernel_rfl) rfl #[.agg #[.int .i64 t107, .int .i64 t108, .slice Ao28 t109.length co28]] (by rfl) rfl rfl (by (try simp only [List.map_toArray, List.map_cons, List.map_nil]); first | done | rfl | (simp only [List.length_drop, List.length_take]; rfl)) ?_
                with_reducible refine (spec_cuText.calls k1 t107 t108 _ _ t109 t112 _ ?side1 ?side2 A12.out).mono ?_
                (case side1 => repeat (first | exact (Kd.R_reads' HO111.out).2.2 | (with_reducible refine Kd.C_alloc ?_ _) | (with_reducible refine Kd.C_drewN ?_ _) | (with_reducible refine Kd.C_drew ?_)))
                (case side2 => exact (Kd.R_reads' HO111.out).2.1)
                rintro e w29 ⟨rfl, hb⟩
                refine ⟨_, rfl, ?_⟩
                have n0_ := Aside0.mk (Kd.S_below (by (with_reducible repeat (first | apply Kd.S_alloc | apply Kd.S_drewN | apply Kd.S_drew)); exact HO_15.out) hb)
                have n1_ := Aside0.mk (Kd.R_below (by (with_reducible repeat (first | apply Kd.R_alloc | apply Kd.R_drewN | apply Kd.R_drew)); exact HL105_2.out) hb)
                have n2_ := Aside0.mk (Kd.R_below (by (with_reducible repeat (first | apply Kd.R_alloc | apply Kd.R_drewN | apply Kd.R_drew)); exact HO111.out) hb)
                have n3_ := Aside0.mk (blk_below (g := gb106) (o := .cells #[.int .i64 ((rd_T29 t102 x17_1).f0), .int .i64 ((rd_T29 t102 x17_1).f1), .slice A105_2 ((rd_T29 t102 x17_1).f2).length c105_2] 29 (0, 0)) (by (with_reducible repeat (first | refine blk_drewN ?_ _ | refine blk_drew ?_ | refine blk_alloc ?_ _)); exact BK106.out) hb)
                have n4_ := Aside0.mk (below_step (by repeat (first | (with_reducible first | exact HB.out | apply below_alloc | apply pw_below_drewN | apply below_drew1 | refine below_set ?_ GE106.out) | exact HB.out)) hb)
                clear HO_15
                clear HL105_2
                clear HO111
                clear BK106
                clear HB
                have HO_15 := n0_
                have HL105_2 := n1_
                have HO111 := n2_
                have BK106 := n3_
                have HB := n4_
                clear n0_ n1_ n2_ n3_ n4_
                (try clear hb)
                (try clear hb2)
                (try clear hk)
                (try clear hi)
                refine hK.out _ _ ⟨(blk_cell BK106.out 0).trans rfl, (blk_cell BK106.out 1).trans rfl, (blk_cell BK106.out 2).trans rfl⟩ (fun hHeld => ?_)
                clear hK K
                refine norm_ (a' := ?_) ?_ ?_
                rotate_left
                · show Act.put _ (some 23) _ = _
                  simp only [Act.put, List.setIfInBounds_toArray, List.set_cons_zero, List.set_cons_succ, i64_w, i32_w]
                  rfl
                refine one_ (i := 4) (N := some 25) #[true, true, true, true, true, false] rfl rfl (by kernel_rfl) (by decide) (fun K hK => ?_)
                refine goes_ Try.func8 (by kernel_rfl) rfl #[.agg #[.int .i64 ((rd_T29 t102 x17_1).f0), .int .i64 ((rd_T29 t102 x17_1).f1), .slice A105_2 ((rd_T29 t102 x17_1).f2).length c105_2]] (by rfl) rfl rfl (by (try simp only [List.map_toArray, List.map_cons, List.map_nil]); first | done | rfl | (simp only [List.length_drop, List.length_take]; rfl)) ?_
                with_reducible refine (spec_cuText.calls k1 ((rd_T29 t102 x17_1).f0) ((rd_T29 t102 x17_1).f1) _ _ ((rd_T29 t102 x17_1).f2) t113 _ ?side1 ?side2 A13.out).mono ?_
                (case side1 => repeat (first | exact ((Kd.R_reads' (by (with_reducible repeat (first | apply Kd.R_alloc | apply Kd.R_drewN | apply Kd.R_drew)); exact HL105_2.out)).2.2) | (with_reducible refine Kd.C_alloc ?_ _) | (with_reducible refine Kd.C_drewN ?_ _) | (with_reducible refine Kd.C_drew ?_)))
                (case side2 => exact HC105_2.out)
                rintro e w30 ⟨rfl, hb⟩
                refine ⟨_, rfl, ?_⟩
                have n0_ := Aside0.mk (Kd.S_below (by (with_reducible repeat (first | apply Kd.S_alloc | apply Kd.S_drewN | apply Kd.S_drew)); exact HO_15.out) hb)
                have n1_ := Aside0.mk (Kd.R_below (by (with_reducible repeat (first | apply Kd.R_alloc | apply Kd.R_drewN | apply Kd.R_drew)); exact HL105_2.out) hb)
                have n2_ := Aside0.mk (Kd.R_below (by (with_reducible repeat (first | apply Kd.R_alloc | apply Kd.R_drewN | apply Kd.R_drew)); exact HO111.out) hb)
                have n3_ := Aside0.mk (blk_below (g := gb106) (o := .cells #[.int .i64 ((rd_T29 t102 x17_1).f0), .int .i64 ((rd_T29 t102 x17_1).f1), .slice A105_2 ((rd_T29 t102 x17_1).f2).length c105_2] 29 (0, 0)) (by (with_reducible repeat (first | refine blk_drewN ?_ _ | refine blk_drew ?_ | refine blk_alloc ?_ _)); exact BK106.out) hb)
                have n4_ := Aside0.mk (below_step (by repeat (first | (with_reducible first | exact HB.out | apply below_alloc | apply pw_below_drewN | apply below_drew1 | refine below_set ?_ GE106.out) | exact HB.out)) hb)
                clear HO_15
                clear HL105_2
                clear HO111
                clear BK106
                clear HB
                have HO_15 := n0_
                have HL105_2 := n1_
                have HO111 := n2_
                have BK106 := n3_
                have HB := n4_
                clear n0_ n1_ n2_ n3_ n4_
                (try clear hb)
                (try clear hb2)
                (try clear hk)
                (try clear hi)
                refine hK.out _ _ ⟨(blk_cell BK106.out 0).trans rfl, (blk_cell BK106.out 1).trans rfl, (blk_cell BK106.out 2).trans rfl⟩ (fun hHeld => ?_)
                clear hK K
                refine norm_ (a' := ?_) ?_ ?_
                rotate_left
                · show Act.put _ (some 25) _ = _
                  simp only [Act.put, List.setIfInBounds_toArray, List.set_cons_zero, List.set_cons_succ, i64_w, i32_w]
                  rfl
                refine pure_ (i := 5) (N := some 26) (v := ?_) (a' := ?_) #[true, true, true, true, true, true] rfl rfl (by kernel_rfl) (fun _ _ _ h => h) (Or.inl ⟨by rfl, ?_⟩) ?_ ?_
                rotate_left
                · intro w'
                  go_simp
                  with_reducible rfl
                rotate_left
                · simp only [Act.put, List.setIfInBounds_toArray, List.set_cons_zero, List.set_cons_succ, i64_w, i32_w]
                  rfl
                refine done_ (by kernel_rfl) ?_
                try go_wp2
                go_roundg k1
                case measure => have := HK1.out; omega
                case rel => exact ⟨(x6_1), (wrap64 (x17_1 + 1)), (by first | rfl | (simp; done) | (simp [*]; done)), (by first | rfl | (simp; done) | (simp [*]; done)), H', ⟨by have := HK1.out; omega⟩, ⟨by (with_reducible repeat (first | apply Kd.S_alloc | apply Kd.S_drewN | apply Kd.S_drew)); exact Kd.S_mono HO_15.out (fun _ hk => trivial)⟩, ⟨by repeat (first | (with_reducible first | exact HB.out | apply below_alloc | apply pw_below_drewN | apply below_drew1 | refine below_set ?_ GE106.out) | exact HB.out)⟩⟩
            · rw [if_neg c10] at H
              exact absurd H (by simp)
          · rw [if_neg c9] at H
            exact absurd H (by simp)
        · rw [if_neg c8] at H
          have c8b0 : decide (x17_1 < (t102.length : Int)) = false := decide_eq_false c8
          clear c8
          simp only [Option.some.injEq, Prod.mk.injEq] at H
          obtain ⟨rfl, rfl⟩ := H
          go_wp2
          go_ret2
          exact ⟨by first | rfl | (simp [errW_none, errW_some] <;> rfl) | (simp [*, errW_none, errW_some] <;> rfl), by repeat (first | (with_reducible first | exact HB.out | apply below_alloc | apply pw_below_drewN | apply below_drew1) | exact HB.out)⟩
  · replace c4 := Bool.eq_false_iff.mpr c4
    subst c4
    have H1 : (some (0, false)) = some (r1, r2) := by rw [if_neg (show ¬ (false = true) by decide)] at H; exact H
    clear H
    have H := H1
    clear H1
    simp only [Option.some.injEq, Prod.mk.injEq] at H
    obtain ⟨rfl, rfl⟩ := H
    go_enter Try.func4, Try.ntmps4
    go_wp2_with (first | ((with_reducible refine gate_callee (f := 6) rfl ?_); refine goesL_ (some 11) rfl rfl Try.func6 (by kernel_rfl) rfl #[.int .i64 a0, .int .i64 a1] rfl (by (try simp only [List.map_toArray, List.map_cons, List.map_nil]); first | done | rfl | (simp only [List.length_drop, List.length_take]; rfl)) ?_; (with_reducible refine (spec_ctFew.calls a0 a1 false _ A3.out).mono ?_); rintro e w' ⟨rfl, ⟨nd, rfl⟩⟩; refine ⟨_, rfl, ?_⟩))
    go_ret2
    exact ⟨by first | rfl | (simp [errW_none, errW_some] <;> rfl) | (simp [*, errW_none, errW_some] <;> rfl), by repeat (first | (with_reducible first | exact HB.out | apply below_alloc | apply pw_below_drewN | apply below_drew1) | exact HB.out)⟩
end Go.Proofs.Ythmcdiekgfgpdaa.P

namespace Go.Proofs.Ythmcdiekgfgpdaa.P
open Go.RowKit Go.Proofs.YthmcdiekgfgpdaaW.PrintWords Go.Proofs.YthmcdiekgfgpdaaW.PrintLast Go.Proofs.YthmcdiekgfgpdaaW.PrintMore
attribute [local go_sem] max2_int min2_int max_two min_two max_three min_three max_four min_four
set_option linter.unusedVariables false
set_option linter.unusedSimpArgs false
def impl_within.f (a0 : Int) (a1 : Int) (a2 : Int) : Option (Bool) := if a1 ≤ a0 then (some (decide (a0 ≤ a2))) else (some false)
set_option maxHeartbeats 8000000 in
set_option maxRecDepth 100000 in
theorem impl_within.calls (a0 : Int) (a1 : Int) (a2 : Int) (r : Bool) (w : World) (h : impl_within.f a0 a1 a2 = some r) :
    Calls Try.prog 43 #[.int .i64 a0, .int .i64 a1, .int .i64 a2] w fun e w' => e = .returned (.bool r) ∧ Drawn0 w w' := by
  have H : (if a1 ≤ a0 then (some (decide (a0 ≤ a2))) else (some false)) = some r := h
  clear h
  by_cases c4 : a1 ≤ a0
  · rw [if_pos c4] at H
    have c4b0 : decide (a1 ≤ a0) = true := decide_eq_true c4
    clear c4
    obtain rfl := Option.some.inj H
    go_enter Try.func43, Try.ntmps43
    go_wp2
    go_ret
    exact ⟨by first | rfl | (simp; done) | (simp [*]; done), by repeat (first | exact Drawn0.refl _ | apply Drawn0.step)⟩
  · rw [if_neg c4] at H
    have c4b0 : decide (a1 ≤ a0) = false := decide_eq_false c4
    clear c4
    obtain rfl := Option.some.inj H
    go_enter Try.func43, Try.ntmps43
    go_wp2
    go_ret
    exact ⟨by first | rfl | (simp; done) | (simp [*]; done), by repeat (first | exact Drawn0.refl _ | apply Drawn0.step)⟩
end Go.Proofs.Ythmcdiekgfgpdaa.P

namespace Go.Proofs.Ythmcdiekgfgpdaa.P
open Go.RowKit Go.Proofs.YthmcdiekgfgpdaaW.PrintWords Go.Proofs.YthmcdiekgfgpdaaW.PrintLast Go.Proofs.YthmcdiekgfgpdaaW.PrintMore
attribute [local go_sem] max2_int min2_int max_two min_two max_three min_three max_four min_four
set_option linter.unusedVariables false
set_option linter.unusedSimpArgs false
def impl_isCounted.f (a0 : Int) (a1 : Int) : Option (Bool) := (impl_within.f a0 1 6).bind fun t101 => (if t101 = true then ((impl_within.f a1 1 6).bind fun t102 => (some t102)) else (some false))
set_option maxHeartbeats 8000000 in
set_option maxRecDepth 100000 in
theorem impl_isCounted.calls (a0 : Int) (a1 : Int) (r : Bool) (w : World) (h : impl_isCounted.f a0 a1 = some r) :
    Calls Try.prog 36 #[.int .i64 a0, .int .i64 a1] w fun e w' => e = .returned (.bool r) ∧ Drawn0 w w' := by
  have H : ((impl_within.f a0 1 6).bind fun t101 => (if t101 = true then ((impl_within.f a1 1 6).bind fun t102 => (some t102)) else (some false))) = some r := h
  clear h
  replace H := Option.bind_eq_some_iff.mp H
  obtain ⟨t101, A30, H⟩ := H
  replace H : (if t101 = true then ((impl_within.f a1 1 6).bind fun t102 => (some t102)) else (some false)) = some r := H
  have A3 := Aside0.mk A30
  clear A30
  by_cases c4 : t101 = true
  · subst c4
    have H1 : ((impl_within.f a1 1 6).bind fun t102 => (some t102)) = some r := by rw [if_pos rfl] at H; exact H
    clear H
    have H := H1
    clear H1
    replace H := Option.bind_eq_some_iff.mp H
    obtain ⟨t102, A50, H⟩ := H
    replace H : (some t102) = some r := H
    have A5 := Aside0.mk A50
    clear A50
    obtain rfl := Option.some.inj H
    go_enter Try.func36, Try.ntmps36
    go_wp2_with (first | ((with_reducible refine gate_callee (f := 43) rfl ?_); refine goesL_ (some 6) rfl rfl Try.func43 (by kernel_rfl) rfl #[.int .i64 a0, .int .i64 1, .int .i64 6] rfl (by (try simp only [List.map_toArray, List.map_cons, List.map_nil]); first | done | rfl | (simp only [List.length_drop, List.length_take]; rfl)) ?_; (with_reducible refine (impl_within.calls a0 1 6 true _ A3.out).mono ?_); rintro e w' ⟨rfl, ⟨nd, rfl⟩⟩; refine ⟨_, rfl, ?_⟩) | (go_at_call 43; (with_reducible refine (impl_within.calls a1 1 6 t102 _ A5.out).mono ?_); rintro e w' ⟨rfl, ⟨nd, rfl⟩⟩))
    go_ret
    exact ⟨by first | rfl | (simp; done) | (simp [*]; done), by repeat (first | exact Drawn0.refl _ | apply Drawn0.step)⟩
  · replace c4 := Bool.eq_false_iff.mpr c4
    subst c4
    have H1 : (some false) = some r := by rw [if_neg (show ¬ (false = true) by decide)] at H; exact H
    clear H
    have H := H1
    clear H1
    obtain rfl := Option.some.inj H
    go_enter Try.func36, Try.ntmps36
    go_wp2_with (first | ((with_reducible refine gate_callee (f := 43) rfl ?_); refine goesL_ (some 6) rfl rfl Try.func43 (by kernel_rfl) rfl #[.int .i64 a0, .int .i64 1, .int .i64 6] rfl (by (try simp only [List.map_toArray, List.map_cons, List.map_nil]); first | done | rfl | (simp only [List.length_drop, List.length_take]; rfl)) ?_; (with_reducible refine (impl_within.calls a0 1 6 false _ A3.out).mono ?_); rintro e w' ⟨rfl, ⟨nd, rfl⟩⟩; refine ⟨_, rfl, ?_⟩))
    go_ret
    exact ⟨by first | rfl | (simp; done) | (simp [*]; done), by repeat (first | exact Drawn0.refl _ | apply Drawn0.step)⟩
end Go.Proofs.Ythmcdiekgfgpdaa.P

namespace Go.Proofs.Ythmcdiekgfgpdaa.P
open Go.RowKit Go.Proofs.YthmcdiekgfgpdaaW.PrintWords Go.Proofs.YthmcdiekgfgpdaaW.PrintLast Go.Proofs.YthmcdiekgfgpdaaW.PrintMore
attribute [local go_sem] max2_int min2_int max_two min_two max_three min_three max_four min_four
set_option linter.unusedVariables false
set_option linter.unusedSimpArgs false
def impl_isListed.f (a0 : Int) (a1 : Int) : Option (Bool) := (impl_isCounted.f a0 a1).bind fun t101 => (if t101 = true then (some (decide ((wrap64 (a0 * a1)) ≤ 16))) else (some false))
set_option maxHeartbeats 8000000 in
set_option maxRecDepth 100000 in
theorem impl_isListed.calls (a0 : Int) (a1 : Int) (r : Bool) (w : World) (h : impl_isListed.f a0 a1 = some r) :
    Calls Try.prog 31 #[.int .i64 a0, .int .i64 a1] w fun e w' => e = .returned (.bool r) ∧ Drawn0 w w' := by
  have H : ((impl_isCounted.f a0 a1).bind fun t101 => (if t101 = true then (some (decide ((wrap64 (a0 * a1)) ≤ 16))) else (some false))) = some r := h
  clear h
  replace H := Option.bind_eq_some_iff.mp H
  obtain ⟨t101, A30, H⟩ := H
  replace H : (if t101 = true then (some (decide ((wrap64 (a0 * a1)) ≤ 16))) else (some false)) = some r := H
  have A3 := Aside0.mk A30
  clear A30
  by_cases c4 : t101 = true
  · subst c4
    have H1 : (some (decide ((wrap64 (a0 * a1)) ≤ 16))) = some r := by rw [if_pos rfl] at H; exact H
    clear H
    have H := H1
    clear H1
    obtain rfl := Option.some.inj H
    go_enter Try.func31, Try.ntmps31
    go_wp2_with (first | ((with_reducible refine gate_callee (f := 36) rfl ?_); refine goesL_ (some 7) rfl rfl Try.func36 (by kernel_rfl) rfl #[.int .i64 a0, .int .i64 a1] rfl (by (try simp only [List.map_toArray, List.map_cons, List.map_nil]); first | done | rfl | (simp only [List.length_drop, List.length_take]; rfl)) ?_; (with_reducible refine (impl_isCounted.calls a0 a1 true _ A3.out).mono ?_); rintro e w' ⟨rfl, ⟨nd, rfl⟩⟩; refine ⟨_, rfl, ?_⟩))
    go_ret
    exact ⟨by first | rfl | (simp; done) | (simp [*]; done), by repeat (first | exact Drawn0.refl _ | apply Drawn0.step)⟩
  · replace c4 := Bool.eq_false_iff.mpr c4
    subst c4
    have H1 : (some false) = some r := by rw [if_neg (show ¬ (false = true) by decide)] at H; exact H
    clear H
    have H := H1
    clear H1
    obtain rfl := Option.some.inj H
    go_enter Try.func31, Try.ntmps31
    go_wp2_with (first | ((with_reducible refine gate_callee (f := 36) rfl ?_); refine goesL_ (some 7) rfl rfl Try.func36 (by kernel_rfl) rfl #[.int .i64 a0, .int .i64 a1] rfl (by (try simp only [List.map_toArray, List.map_cons, List.map_nil]); first | done | rfl | (simp only [List.length_drop, List.length_take]; rfl)) ?_; (with_reducible refine (impl_isCounted.calls a0 a1 false _ A3.out).mono ?_); rintro e w' ⟨rfl, ⟨nd, rfl⟩⟩; refine ⟨_, rfl, ?_⟩))
    go_ret
    exact ⟨by first | rfl | (simp; done) | (simp [*]; done), by repeat (first | exact Drawn0.refl _ | apply Drawn0.step)⟩
end Go.Proofs.Ythmcdiekgfgpdaa.P

namespace Go.Proofs.Ythmcdiekgfgpdaa.P
open Go.RowKit Go.Proofs.YthmcdiekgfgpdaaW.PrintWords Go.Proofs.YthmcdiekgfgpdaaW.PrintLast Go.Proofs.YthmcdiekgfgpdaaW.PrintMore
attribute [local go_sem] max2_int min2_int max_two min_two max_three min_three max_four min_four
set_option linter.unusedVariables false
set_option linter.unusedSimpArgs false
open Go.Proofs.Ythmcdiekgfgpdaa.T
def MinTo (f : List Int) (k : Nat) (m : Int) : Prop := (∃ c, c < k ∧ ht f c = m) ∧ ∀ c, c < k → m ≤ ht f c
theorem MinTo.low {f : List Int} {m : Int} (hne : 0 < f.length) (h : MinTo f f.length m) : m = ht f (low f) := by
  have L := low_spec f (fun e => by simp [e] at hne)
  obtain ⟨⟨c, hc, e⟩, h2⟩ := h
  have h3 := L.le c hc
  have h4 := h2 _ L.lt
  omega
theorem MinTo.next {f : List Int} {k : Nat} {m : Int} (h : MinTo f k m) : MinTo f (k + 1) (if ht f k < m then ht f k else m) := by
  obtain ⟨⟨c, hc, e⟩, h2⟩ := h
  split
  · rename_i hl
    exact ⟨⟨k, by omega, rfl⟩, fun d hd => by
      by_cases e1 : d = k
      · subst e1; omega
      · have := h2 d (by omega); omega⟩
  · rename_i hl
    exact ⟨⟨c, by omega, e⟩, fun d hd => by
      by_cases e1 : d = k
      · subst e1; omega
      · exact h2 d (by omega)⟩
set_option maxHeartbeats 1000000 in
theorem slices_Min_int (f : List Int) (G : Nat) (w : World) (hcol : ∀ i, i < f.length → w.cell? ⟨G, i, none⟩ = some (.int .i64 (ht f i))) (hne : 0 < f.length) (hn : f.length ≤ 1000) :
    Calls Try.prog 55 #[.slice (some ⟨G, 0, none⟩) f.length f.length] w fun e w' => e = .returned (.int .i64 (ht f (low f))) ∧ w = w' := by
  have HC := Aside0.mk hcol
  have h0 : w.cell? ⟨G, 0, none⟩ = some (.int .i64 (ht f 0)) := hcol 0 hne
  have HM : Aside0 (MinTo f 1 (ht f 0)) := ⟨⟨⟨0, by omega, rfl⟩, fun c hc => by rw [show c = 0 by omega]; omega⟩⟩
  clear hcol
  generalize ht f 0 = m0 at h0 HM
  have hz : decide (f.length < 1) = false := decide_eq_false (by omega)
  have hq := eq_true hne
  go_enter Try.func55, Try.ntmps55
  go_wp2
  go_loopg [3, 4] f.length (fun kq v3 v4 wc => ∃ (k : Nat) (m : Int), k ≤ f.length ∧ f.length - k ≤ kq ∧ v3 = .int .i64 m ∧ v4 = .int .i64 k ∧ Aside0 (MinTo f k m) ∧ wc = w)
  case atStart => exact ⟨1, m0, by omega, by omega, rfl, rfl, HM, rfl⟩
  case round =>
    clear HM
    obtain ⟨k, m, hk, hkq, rfl, rfl, HM, rfl⟩ := hrel
    by_cases hlt : k < f.length
    · have hlz : decide (k < f.length) = true := decide_eq_true hlt
      have hc := HC.out k hlt
      have HN := Aside0.mk HM.out.next
      generalize ht f k = y at hc HN
      by_cases c : y < m
      · rw [if_pos c] at HN
        go_wp2
        go_roundg (f.length - (k + 1))
        case measure => omega
        case rel => exact ⟨k + 1, y, by omega, by omega, by first | trivial | rfl, by go_num, HN, by first | trivial | rfl⟩
      · rw [if_neg c] at HN
        go_wp2
        go_roundg (f.length - (k + 1))
        case measure => omega
        case rel => exact ⟨k + 1, m, by omega, by omega, by first | trivial | rfl, by go_num, HN, by first | trivial | rfl⟩
    · have hlz : decide (k < f.length) = false := decide_eq_false hlt
      have hm := MinTo.low hne (by rw [show f.length = k by omega]; exact HM.out)
      have HMM := Aside0.mk hm
      clear hm
      go_wp2
      go_ret
      exact ⟨by rw [← HMM.out]; rfl, rfl⟩
end Go.Proofs.Ythmcdiekgfgpdaa.P

namespace Go.Proofs.Ythmcdiekgfgpdaa.P
open Go.RowKit Go.Proofs.YthmcdiekgfgpdaaW.PrintWords Go.Proofs.YthmcdiekgfgpdaaW.PrintLast Go.Proofs.YthmcdiekgfgpdaaW.PrintMore
attribute [local go_sem] max2_int min2_int max_two min_two max_three min_three max_four min_four
set_option linter.unusedVariables false
set_option linter.unusedSimpArgs false
theorem bit_any (b : Bool) (w : World) : Calls Try.prog 20 #[.bool b] w fun e w' => e = .returned (.int .i64 (if b = true then 1 else 0)) ∧ w' = w := by
  cases b
  · go_enter Try.func20, Try.ntmps20
    go_wp2
    go_ret
    exact ⟨rfl, rfl⟩
  · go_enter Try.func20, Try.ntmps20
    go_wp2
    go_ret
    exact ⟨rfl, rfl⟩
open Go.Proofs.Ythmcdiekgfgpdaa.T
structure Fil (w : World) (F G : Nat) (H most : Int) (f : List Int) (vS each : Value) : Prop where
  own : w.heap[F]? = some (.cells #[.int .i64 f.length, .int .i64 H, .slice (some ⟨G, 0, none⟩) f.length f.length, vS, .int .i64 most, each] 66 (0, 0))
  cols : w.heap[G]? = some (.cells (f.map (Value.int .i64)).toArray 3 (0, 0))
theorem Fil.col {w : World} {F G : Nat} {H most : Int} {f : List Int} {vS each : Value} (h : Fil w F G H most f vS each) (i : Nat) (hi : i < f.length) : w.cell? ⟨G, i, none⟩ = some (.int .i64 (ht f i)) := by
  rw [blk_cell h.cols i]
  simp [ht, hi]
theorem Fil.below {w w' : World} {F G : Nat} {H most : Int} {f : List Int} {vS each : Value} (h : Fil w F G H most f vS each) (hb : Below w.heap.size w w') : Fil w' F G H most f vS each :=
  ⟨blk_below h.own hb, blk_below h.cols hb⟩
theorem deepAt_bd {h : Int} {f : List Int} {x : Nat} (h0 : 0 ≤ h) (hx : x < f.length) (hf : ∀ c, c < f.length → 0 ≤ ht f c ∧ ht f c ≤ h) : 0 ≤ deepAt h f x ∧ deepAt h f x ≤ h := by
  have := hf x hx
  unfold deepAt
  simp only
  split <;> split <;> omega
theorem extra_bd {h : Int} {f : List Int} {x : Nat} (hx : x < f.length) (hf : ∀ c, c < f.length → 0 ≤ ht f c ∧ ht f c ≤ h) (hh : h ≤ 1000) : 0 ≤ extra h f x ∧ extra h f x ≤ 1000 := by
  have h0 := hf x hx
  have hd := deepAt_bd (by omega) hx hf
  have hr := runAt_pos f x hx
  unfold extra
  have : (deepAt h f x + (runAt f x : Int) - 1) / (runAt f x : Int) ≤ 1000 := Int.ediv_le_of_le_mul (by omega) (by
    have : (1000 : Int) * 1 ≤ 1000 * (runAt f x : Int) := by omega
    have h2 : ((runAt f x : Int) - 1) * 999 ≥ 0 := Int.mul_nonneg (by omega) (by omega)
    omega)
  omega
theorem extra_form {H : Int} {f : List Int} {x r : Nat} {dp : Int} (hr : runAt f x = r) (hd : deepAt H f x = dp) : extra H f x = max 1 ((dp + (r : Int) - 1) / (r : Int)) - 1 := by unfold extra; rw [hr, hd]
theorem pop_len (y : Int) : ∀ st : List Int, (pop y st).length ≤ st.length
  | [] => Nat.le_refl _
  | z :: st => by
    simp only [pop]
    split
    · exact Nat.le_trans (pop_len y st) (by simp)
    · exact Nat.le_refl _
def pushB (y : Int) : List Int → Bool
  | [] => true
  | z :: _ => decide (y < z)
set_option maxHeartbeats 4000000 in
set_option maxRecDepth 100000 in
theorem filler_least (w : World) (F G : Nat) (H most : Int) (f : List Int) (vS each : Value) (hF : Fil w F G H most f vS each) (hn : f.length ≤ 1000) (hH : H ≤ 1000) (hf : ∀ c, c < f.length → 0 ≤ ht f c ∧ ht f c ≤ H) :
    Calls Try.prog 56 #[.pointer (some ⟨F, 0, none⟩)] w fun e w' => e = .returned (.int .i64 (least H f)) ∧ Below w.heap.size w w' := by
  have HF := Aside0.mk hF
  have Hf := Aside0.mk hf
  have HL : Aside0 (leastL H f (f.length + 1) 0 0 [] = least H f) := ⟨rfl⟩
  clear hF hf
  go_enter Try.func56, Try.ntmps56
  go_wp2
  go_loopg [3, 4, 5] f.length (fun kq v3 v4 v5 wc => ∃ (x : Nat) (many : Int) (st : List Int), x ≤ f.length ∧ f.length - x ≤ kq ∧ v3 = .int .i64 many ∧ v5 = .int .i64 x ∧ 0 ≤ many ∧ many ≤ 2001 * x ∧ Aside0 (∃ m, f.length - x < m ∧ leastL H f m x many st = least H f) ∧ Aside0 (st.length ≤ x) ∧ Aside0 (Kd.R (Kd.int .i64) 3 wc w.heap.size (fun _ => True) v4 st.reverse) ∧ Aside0 (Below w.heap.size w wc))
  case atStart => exact ⟨0, 0, [], by omega, by omega, rfl, rfl, by omega, by omega, ⟨⟨f.length + 1, by omega, HL.out⟩⟩, ⟨by simp⟩, ⟨⟨fun _ _ => trivial, [], World.ownsRow_lit (base := w.heap.size) (e := 3) (size := 1) w #[] 0 (Nat.le_refl _) (by simp [maxLen]) (by simp), Reps.none _ _⟩⟩, ⟨(Below.refl _ _).alloc (Nat.le_refl _) _⟩⟩
  case round =>
    clear HL
    obtain ⟨x, many, st, hx, hkq, rfl, rfl, hm0, hm1, HM, HST, HR, HB⟩ := hrel
    have HFr := Aside0.mk (HF.out.below HB.out)
    have c0 := blk_cell HFr.out.own 0
    have c1 := blk_cell HFr.out.own 1
    have c2 := blk_cell HFr.out.own 2
    simp only [List.getElem?_toArray, List.getElem?_cons_zero, List.getElem?_cons_succ] at c0 c1 c2
    by_cases hlt : x < f.length
    · have hlz : decide (x < f.length) = true := decide_eq_true hlt
      have hcx := HFr.out.col x hlt
      have hrp := runAt_pos f x hlt
      have hrl := runAt_le f x (by omega)
      have hrun : ∃ r, runAt f x = r := ⟨_, rfl⟩
      obtain ⟨r, hr⟩ := hrun
      have HRN := Aside0.mk hr
      rw [hr] at hrp hrl
      clear hr
      obtain ⟨y, hy⟩ : ∃ y, ht f x = y := ⟨_, rfl⟩
      have HY := Aside0.mk hy
      rw [hy] at hcx
      have hyb := Hf.out x hlt
      rw [hy] at hyb
      clear hy
      obtain ⟨wo, rfl⟩ : ∃ wo : World, wo = wr := ⟨_, rfl⟩
      go_upto_block 2 with (fail)
      go_cut [6] (fun v6 wc => v6 = .int .i64 ((x + r : Nat) : Int) ∧ ∃ nd, wc = wo.drewN nd)
      case first => as_aux_lemma =>
        go_wp2_with fail
        go_loopg [6] f.length (fun kq v6 wc => ∃ (e : Nat), x ≤ e ∧ e ≤ x + r ∧ f.length - e ≤ kq ∧ v6 = .int .i64 e ∧ ∃ nd, wc = wo.drewN nd)
        case atStart => exact ⟨x, by omega, by omega, by omega, rfl, 0, rfl⟩
        case round =>
          obtain ⟨e, he0, he1, hek, rfl, nd, rfl⟩ := hrel
          by_cases hee : e < f.length
          · have hez : decide (e < f.length) = true := decide_eq_true hee
            have hce : wo.cell? ⟨G, e, none⟩ = some (.int .i64 (ht f e)) := HFr.out.col e hee
            by_cases he2 : e < x + r
            · have h1 : ht f e = y := by
                have := runAt_eq f x (e - x) (by rw [HRN.out]; omega)
                rw [show x + (e - x) = e by omega, HY.out] at this
                exact this
              rw [h1] at hce
              clear h1
              go_wp2_with fail
              go_quiet (fail)
              go_wp2
              go_roundg (f.length - (e + 1))
              case measure => omega
              case rel => exact ⟨e + 1, by omega, by omega, by omega, by go_num, _, by first | rfl | exact World.drewN_drewN _ _ _⟩
            · have h1 : (ht f e == y) = false := by
                have := runAt_end f x (by rw [HRN.out]; omega)
                rw [HRN.out, show x + r = e by omega, HY.out] at this
                simpa using this
              generalize ht f e = ye at hce h1
              go_wp2_with fail
              go_quiet (fail)
              go_wp2
              go_meet
              case rel => exact ⟨by rw [show e = x + r by omega], _, World.drewN_drewN _ _ _⟩
          · have hez : decide (e < f.length) = false := decide_eq_false hee
            go_wp2_with fail
            go_quiet (fail)
            go_wp2
            go_meet
            case rel => exact ⟨by rw [show e = x + r by omega], _, World.drewN_drewN _ _ _⟩
      case rest =>
        obtain ⟨rfl, nd, rfl⟩ := hcut
        go_wp2_with fail
        go_quiet (fail)
        go_upto_if 54 with (fail)
        go_cut [7] (fun v7 wc => v7 = .int .i64 (if 0 < x then min (H - y) (max 0 (ht f (x - 1) - y)) else H - y) ∧ ∃ nd, wc = wo.drewN nd)
        case first => as_aux_lemma =>
          by_cases c1 : 0 < x
          · have c1z : decide (0 < x) = true := decide_eq_true c1
            have hcp : wo.cell? ⟨G, x - 1, none⟩ = some (.int .i64 (ht f (x - 1))) := HFr.out.col (x - 1) (by omega)
            have hpb := Hf.out (x - 1) (by omega)
            have HX := Aside0.mk c1
            obtain ⟨yp, hyp⟩ : ∃ yp, ht f (x - 1) = yp := ⟨_, rfl⟩
            have HYP := Aside0.mk hyp
            rw [hyp] at hcp hpb
            clear hyp
            go_wp2_with fail
            go_quiet (fail)
            go_wp2_with fail
            all_goals
              go_meet
              case rel => exact ⟨congrArg (Value.int .i64) (by rw [if_pos HX.out, HYP.out]; omega), _, by first | rfl | exact World.drewN_drewN _ _ _⟩
          · have c1z : decide (0 < x) = false := decide_eq_false c1
            have HX := Aside0.mk c1
            go_wp2_with fail
            go_meet
            case rel => exact ⟨congrArg (Value.int .i64) (by rw [if_neg HX.out]), _, by first | rfl | exact World.drewN_drewN _ _ _⟩
        case rest =>
          obtain ⟨rfl, nd, rfl⟩ := hcut
          obtain ⟨d1, hd1⟩ : ∃ d1, (if 0 < x then min (H - y) (max 0 (ht f (x - 1) - y)) else H - y) = d1 := ⟨_, rfl⟩
          have HD1 := Aside0.mk hd1
          have hd1b : 0 ≤ d1 ∧ d1 ≤ H := by rw [← hd1]; split <;> omega
          rw [hd1]
          clear hd1
          go_upto_if 79 with (fail)
          go_cut [7] (fun v7 wc => v7 = .int .i64 (deepAt H f x) ∧ ∃ nd, wc = wo.drewN nd)
          case first => as_aux_lemma =>
            by_cases c1 : x + r < f.length
            · have c1z : decide (x + r < f.length) = true := decide_eq_true c1
              have c1y : (x : Int) + (r : Int) < (f.length : Int) := by omega
              have hcp : wo.cell? ⟨G, x + r, none⟩ = some (.int .i64 (ht f (x + r))) := HFr.out.col (x + r) c1
              have hpb := Hf.out (x + r) c1
              have HX := Aside0.mk c1
              obtain ⟨yp, hyp⟩ : ∃ yp, ht f (x + r) = yp := ⟨_, rfl⟩
              have HYP := Aside0.mk hyp
              rw [hyp] at hcp hpb
              clear hyp
              go_wp2_with fail
              go_quiet (fail)
              go_wp2_with fail
              all_goals
                go_meet
                case rel => exact ⟨congrArg (Value.int .i64) (by unfold deepAt; simp only; rw [HRN.out, if_pos HX.out, HY.out, HYP.out, HD1.out]; omega), _, by first | rfl | exact World.drewN_drewN _ _ _⟩
            · have c1z : decide (x + r < f.length) = false := decide_eq_false c1
              have c1y : ¬ (x : Int) + (r : Int) < (f.length : Int) := by omega
              have HX := Aside0.mk c1
              go_wp2_with fail
              go_meet
              case rel => exact ⟨congrArg (Value.int .i64) (by unfold deepAt; simp only; rw [HRN.out, if_neg HX.out, HY.out, HD1.out]), _, by first | rfl | exact World.drewN_drewN _ _ _⟩
          case rest =>
            obtain ⟨rfl, nd, rfl⟩ := hcut
            obtain ⟨dp, hdp⟩ : ∃ dp, deepAt H f x = dp := ⟨_, rfl⟩
            have HDP := Aside0.mk hdp
            have hdb : 0 ≤ dp ∧ dp ≤ H := by rw [← hdp]; exact deepAt_bd (by omega) hlt Hf.out
            rw [hdp]
            clear hdp HD1 hd1b
            have heb := extra_bd hlt Hf.out hH
            go_upto_region 12 with (fail)
            go_cut [3] (fun v3 wc => v3 = .int .i64 (many + extra H f x) ∧ wc = wo.drewN nd)
            case first => as_aux_lemma =>
              have HEB := Aside0.mk heb
              clear heb
              go_wp2_with fail
              all_goals
                go_meet
                case rel =>
                  rename_i h
                  refine ⟨congrArg (Value.int .i64) ?_, rfl⟩
                  have hf := extra_form HRN.out HDP.out
                  have hb := HEB.out
                  rw [show dp + ((x : Int) + (r : Int)) - (x : Int) - 1 = dp + r - 1 by omega, show (x : Int) + (r : Int) - (x : Int) = r by omega] at h
                  try rw [show dp + ((x : Int) + (r : Int)) - (x : Int) - 1 = dp + r - 1 by omega, show (x : Int) + (r : Int) - (x : Int) = r by omega]
                  rw [hf] at hb ⊢
                  generalize (dp + (r : Int) - 1) / (r : Int) = q at h hb ⊢
                  unfold wrap64
                  omega
            case rest =>
              obtain ⟨rfl, rfl⟩ := hcut
              go_upto_block 4 with (fail)
              go_cut [4] (fun v4 wc => Aside0 (Kd.R (Kd.int .i64) 3 wo w.heap.size (fun _ => True) v4 (pop y st).reverse) ∧ ∃ nd, wc = wo.drewN nd)
              case first => as_aux_lemma =>
                go_wp2_with fail
                go_loopg [4] st.length (fun kq v4 wc => ∃ st1 : List Int, st1.length ≤ kq ∧ Aside0 (pop y st1 = pop y st) ∧ Aside0 (st1.length ≤ x) ∧ Aside0 (Kd.R (Kd.int .i64) 3 wo w.heap.size (fun _ => True) v4 st1.reverse) ∧ ∃ nd, wc = wo.drewN nd)
                case atStart => exact ⟨st, by omega, ⟨rfl⟩, HST, HR, _, rfl⟩
                case round =>
                  obtain ⟨st1, hsk, HP, HS1, HR1, nd1, rfl⟩ := hrel
                  cases st1 with
                  | nil =>
                    obtain ⟨A, c, e⟩ := Kd.R_slice HR1.out
                    simp only [List.reverse_nil, List.length_nil] at e
                    subst e
                    go_wp2_with fail
                    go_quiet (fail)
                    go_wp2_with fail
                    go_meet
                    case rel => exact ⟨by rw [← HP.out]; exact HR1, _, by first | rfl | exact World.drewN_drewN _ _ _⟩
                  | cons z s1 =>
                    have hl1 : (z :: s1).reverse.length = s1.length + 1 := by simp
                    obtain ⟨A, c, e⟩ := Kd.R_slice HR1.out
                    rw [hl1] at e
                    subst e
                    have hl63 : s1.length + 1 ≤ 1001 := by have := HS1.out; simp at this; omega
                    obtain ⟨ad, e1, hz⟩ := Kd.at_int (Kd.R_reads' HR1.out).2.2 ((s1.length : Nat) : Int) (by omega) (by rw [hl1]; omega)
                    subst e1
                    have hz2 : rd (z :: s1).reverse ((s1.length : Nat) : Int) = z := by simp [rd]
                    rw [hz2, Int.toNat_natCast] at hz
                    have hb1 := eq_true (show (0 : Int) ≤ (s1.length : Int) by omega)
                    have hb2 := eq_true (show (s1.length : Int) < ((s1.length + 1 : Nat) : Int) by omega)
                    have hb3 := eq_true (show (s1.length : Int) < (s1.length : Int) + 1 by omega)
                    have hzo : wo.cell? (ad.add s1.length) = some (.int .i64 z) := hz
                    have hcc : s1.length + 1 ≤ c := by have := (Kd.R_reads' HR1.out).2.1; omega
                    have hcd := eq_true (show s1.length ≤ c by omega)
                    clear hz2 hl1 hz
                    have hw1 : IntKind.i64.wrap (((s1.length + 1 : Nat) : Int) - 1) = (s1.length : Int) := (i64_w _).trans (by unfold wrap64; omega)
                    have hw2 : IntKind.i64.wrap ((s1.length : Int) + 1 - 1) = (s1.length : Int) := (i64_w _).trans (by unfold wrap64; omega)
                    have hw3 : IntKind.i64.wrap (s1.length : Int) = (s1.length : Int) := (i64_w _).trans (by unfold wrap64; omega)
                    by_cases hzy : z < y
                    · go_wp2_with fail
                      go_quiet (fail)
                      go_wp2_with fail
                      clear hw1 hw2 hw3
                      go_roundg s1.length
                      case measure =>
                        clear hb1 hb2 hb3 hcd hcc
                        simp only [List.length_cons] at hsk
                        omega
                      case rel =>
                        refine ⟨s1, Nat.le_refl _, ⟨by rw [← HP.out]; simp only [pop, if_pos hzy]⟩, ⟨Nat.le_trans (by simp) HS1.out⟩, ⟨?_⟩, _, by first | rfl | exact World.drewN_drewN _ _ _⟩
                        have := Kd.R_take HR1.out (m := s1.length) (by simp)
                        rw [show (z :: s1).reverse.take s1.length = s1.reverse by simp] at this
                        exact this
                    · go_wp2_with fail
                      go_quiet (fail)
                      go_wp2_with fail
                      go_meet
                      case rel => exact ⟨by rw [← HP.out, show pop y (z :: s1) = z :: s1 by simp only [pop, if_neg (Int.not_lt.2 hzy)]]; exact HR1, _, by first | rfl | exact World.drewN_drewN _ _ _⟩
              case rest =>
                obtain ⟨HR4, nd, rfl⟩ := hcut
                obtain ⟨p, hp⟩ : ∃ p, pop y st = p := ⟨_, rfl⟩
                have HPP := Aside0.mk hp
                rw [hp] at HR4
                have HPL : Aside0 (p.length ≤ x) := ⟨by rw [← hp]; exact Nat.le_trans (pop_len _ _) HST.out⟩
                clear hp HR HST
                go_upto_region 15 with (fail)
                go_cut [154] (fun v154 wc => v154 = .bool (pushB y p) ∧ ∃ nd, wc = wo.drewN nd)
                case first => as_aux_lemma =>
                  cases p with
                  | nil =>
                    obtain ⟨A, c, e⟩ := Kd.R_slice HR4.out
                    simp only [List.reverse_nil, List.length_nil] at e
                    subst e
                    go_quiet (fail)
                    go_wp2_with fail
                    go_meet
                    case rel => exact ⟨rfl, _, by first | rfl | exact World.drewN_drewN _ _ _⟩
                  | cons z s1 =>
                    have hyz : y ≤ z := pop_head HPP.out
                    have hl1 : (z :: s1).reverse.length = s1.length + 1 := by simp
                    obtain ⟨A, c, e⟩ := Kd.R_slice HR4.out
                    rw [hl1] at e
                    subst e
                    have hl63 : s1.length + 1 ≤ 1001 := by have := HPL.out; simp at this; omega
                    obtain ⟨ad, e1, hz⟩ := Kd.at_int (Kd.R_reads' HR4.out).2.2 ((s1.length : Nat) : Int) (by omega) (by rw [hl1]; omega)
                    subst e1
                    have hz2 : rd (z :: s1).reverse ((s1.length : Nat) : Int) = z := by simp [rd]
                    rw [hz2, Int.toNat_natCast] at hz
                    have hb1 := eq_true (show (0 : Int) ≤ (s1.length : Int) by omega)
                    have hb2 := eq_true (show (s1.length : Int) < ((s1.length + 1 : Nat) : Int) by omega)
                    have hb3 := eq_true (show (s1.length : Int) < (s1.length : Int) + 1 by omega)
                    clear hz2 hl1
                    have hne : decide (s1.length + 1 = 0) = false := by simp
                    have hw1 : IntKind.i64.wrap (((s1.length + 1 : Nat) : Int) - 1) = (s1.length : Int) := (i64_w _).trans (by unfold wrap64; omega)
                    have hw2 : IntKind.i64.wrap ((s1.length : Int) + 1 - 1) = (s1.length : Int) := (i64_w _).trans (by unfold wrap64; omega)
                    have hw3 : IntKind.i64.wrap (s1.length : Int) = (s1.length : Int) := (i64_w _).trans (by unfold wrap64; omega)
                    go_quiet (fail)
                    go_wp2_with fail
                    go_meet
                    case rel => exact ⟨rfl, _, by first | rfl | exact World.drewN_drewN _ _ _⟩
                case rest =>
                  obtain ⟨rfl, nd2, rfl⟩ := hcut
                  have HMM : Aside0 (∃ m, f.length - (x + r) < m ∧ leastL H f m (x + r) (if pushB y p = true then many + extra H f x + (if y < H then 1 else 0) else many + extra H f x) (if pushB y p = true then y :: p else p) = least H f) := ⟨by
                    obtain ⟨m, hm, h⟩ := HM.out
                    obtain ⟨m, rfl⟩ : ∃ q, m = q + 1 := ⟨m - 1, by omega⟩
                    refine ⟨m, by omega, ?_⟩
                    rw [← h]
                    simp only [leastL, if_pos hlt, HY.out, HRN.out, HPP.out]
                    cases p with
                    | nil => rfl
                    | cons z s1 =>
                      by_cases c : y < z
                      · simp only [pushB, decide_eq_true c, if_pos c, if_true]
                      · have cc : decide (y < z) = false := decide_eq_false c
                        simp only [pushB, cc, if_neg c]
                        rfl⟩
                  clear HM
                  generalize pushB y p = b at HMM
                  cases b with
                  | true =>
                    rw [if_pos rfl, if_pos rfl] at HMM
                    obtain ⟨A, c, e⟩ := Kd.R_slice HR4.out
                    subst e
                    go_upto_region 17 with (first | ((with_reducible refine gate_builtin (b := .append) (xs := #[.tmp 155, .tmp 163]) rfl ?_); at_builtin; refine Kd.R_append (Kd.int .i64) (w0 := w) w.heap.size rfl (.tmp 155) (.tmp 163) 37 3 (.int .i64 0) 8 rfl Try.underlying37 info3 rfl (by decide) (by omega) (.slice A p.reverse.length c) p.reverse y [.int .i64 y] (fun _ => True) (fun _ => False) rfl rfl ?aP (fun _ hk => hk.elim) (fun _ _ => trivial) ?aO ?aB ?aS ?aL ?_; (case aP => exact rfl); (case aB => exact (by repeat (first | (with_reducible first | exact HB.out | apply below_alloc | apply pw_below_drewN | apply below_drew1) | exact HB.out))); (case aO => exact (by (with_reducible repeat (first | apply Kd.R_alloc | apply Kd.R_drewN | apply Kd.R_drew)); exact HR4.out)); (case aS => exact HB.out.size); (case aL => have := HPL.out; simp; omega); intro v71 w12 ho hb hg hat; have n0_ := Aside0.mk hb; have n1_ := Aside0.mk ho; clear ho hb hg hat HR4 c0 c1 c2 hcx))
                    have HF2 := Aside0.mk (HF.out.below n0_.out)
                    have d1 := blk_cell HF2.out.own 1
                    have d2 := blk_cell HF2.out.own 2
                    simp only [List.getElem?_toArray, List.getElem?_cons_zero, List.getElem?_cons_succ] at d1 d2
                    have hcx := HF2.out.col x hlt
                    rw [HY.out] at hcx
                    have HBT := Aside0.mk (fun b W => bit_any b W)
                    by_cases c9 : y < H
                    · have c9z : decide (y < H) = true := decide_eq_true c9
                      rw [if_pos c9] at HMM
                      go_quiet ((go_at_call 20; exact Calls.quiet_of_same (HBT.out _ _)))
                      go_wp2_with fail
                      go_roundg (f.length - (x + r))
                      case measure => omega
                      case rel =>
                        exact ⟨x + r, many + extra H f x + 1, y :: p, by omega, by omega, by first | rfl | go_num, by first | rfl | go_num, by omega, by omega, HMM, ⟨by have := HPL.out; simp only [List.length_cons]; omega⟩, ⟨by (with_reducible repeat (first | apply Kd.R_alloc | apply Kd.R_drewN | apply Kd.R_drew)); rw [List.reverse_cons]; exact n1_.out⟩, ⟨by repeat (first | (with_reducible first | exact n0_.out | apply below_alloc | apply pw_below_drewN | apply below_drew1) | exact n0_.out)⟩⟩
                    · have c9z : decide (y < H) = false := decide_eq_false c9
                      rw [if_neg c9] at HMM
                      go_quiet ((go_at_call 20; exact Calls.quiet_of_same (HBT.out _ _)))
                      go_wp2_with fail
                      go_roundg (f.length - (x + r))
                      case measure => omega
                      case rel =>
                        exact ⟨x + r, many + extra H f x + 0, y :: p, by omega, by omega, by first | rfl | go_num, by first | rfl | go_num, by omega, by omega, HMM, ⟨by have := HPL.out; simp only [List.length_cons]; omega⟩, ⟨by (with_reducible repeat (first | apply Kd.R_alloc | apply Kd.R_drewN | apply Kd.R_drew)); rw [List.reverse_cons]; exact n1_.out⟩, ⟨by repeat (first | (with_reducible first | exact n0_.out | apply below_alloc | apply pw_below_drewN | apply below_drew1) | exact n0_.out)⟩⟩
                  | false =>
                    rw [if_neg (by decide), if_neg (by decide)] at HMM
                    go_wp2_with fail
                    go_roundg (f.length - (x + r))
                    case measure => omega
                    case rel =>
                      exact ⟨x + r, many + extra H f x, p, by omega, by omega, rfl, by go_num, by omega, by omega, HMM, ⟨Nat.le_trans HPL.out (by omega)⟩, ⟨Kd.R_drewN HR4.out _⟩, ⟨pw_below_drewN HB.out _⟩⟩
    · have hlz : decide (x < f.length) = false := decide_eq_false hlt
      have hL : many = least H f := by
        obtain ⟨m, hm, h⟩ := HM.out
        obtain ⟨m, rfl⟩ : ∃ q, m = q + 1 := ⟨m - 1, by omega⟩
        simp only [leastL] at h
        rw [if_neg hlt] at h
        exact h
      have HLL := Aside0.mk hL
      clear hL
      go_wp2
      go_ret
      exact ⟨by rw [HLL.out]; rfl, HB.out⟩
end Go.Proofs.Ythmcdiekgfgpdaa.P

namespace Go.Proofs.Ythmcdiekgfgpdaa.P
open Go.RowKit Go.Proofs.YthmcdiekgfgpdaaW.PrintWords Go.Proofs.YthmcdiekgfgpdaaW.PrintLast Go.Proofs.YthmcdiekgfgpdaaW.PrintMore
attribute [local go_sem] max2_int min2_int max_two min_two max_three min_three max_four min_four
set_option linter.unusedVariables false
set_option linter.unusedSimpArgs false
def slices_Index_int_int.l0 : Nat → List Int → Int → Int → Int → Option (Int)
  | 0, _, _, _, _ => none
  | k + 1, x0, x1, x7, x8 => if x8 < x7 then (if 0 ≤ x8 then (if x8 < (x0.length : Int) then (if x1 = (rd x0 x8) then (some x8) else (slices_Index_int_int.l0 k x0 x1 x7 (wrap64 (x8 + 1)))) else (none)) else (none)) else (some (-1))
def slices_Index_int_int.f (k : Nat) (l0 : List Int) (a1 : Int) : Option (Int) := slices_Index_int_int.l0 k l0 a1 (l0.length : Int) 0
set_option maxHeartbeats 8000000 in
set_option maxRecDepth 100000 in
theorem slices_Index_int_int.calls (k : Nat) (A0 : Option Addr) (c0 : Nat) (l0 : List Int) (a1 : Int) (r : Int) (w : World) (hr0 : Kd.C (Kd.int .i64) w A0 l0.length l0) (hc0 : l0.length ≤ c0) (h : slices_Index_int_int.f k l0 a1 = some r) :
    Calls Try.prog 57 #[.slice A0 l0.length c0, .int .i64 a1] w fun e w' => e = .returned (.int .i64 r) ∧ Drawn0 w w' := by
  have HR0 := Aside0.mk hr0
  have HC0 := Aside0.mk hc0
  clear hr0 hc0
  have H : (slices_Index_int_int.l0 k l0 a1 (l0.length : Int) 0) = some r := h
  clear h
  have H' := Aside0.mk H
  clear H
  go_enter Try.func57, Try.ntmps57
  go_wp2
  go_loopg [8] k (fun kq v8 w' => ∃ (x8_1 : Int), v8 = .int .i64 x8_1 ∧ Aside0 (slices_Index_int_int.l0 kq l0 a1 (l0.length : Int) x8_1 = some r) ∧ Aside0 (kq ≤ k) ∧ Drawn0 w w')
  case atStart => exact ⟨(0), (by first | rfl | (simp; done) | (simp [*]; done)), H', ⟨Nat.le_refl _⟩, by repeat (first | exact Drawn0.refl _ | apply Drawn0.step)⟩
  case round =>
    clear H'
    try clear p2
    obtain ⟨x8_1, rfl, HA, HK1, ⟨m1, rfl⟩⟩ := hrel
    cases gk with
    | zero => exact absurd HA.out (by simp [slices_Index_int_int.l0])
    | succ k1 =>
      have H := HA.out
      clear HA
      simp only [slices_Index_int_int.l0] at H
      by_cases c3 : x8_1 < (l0.length : Int)
      · rw [if_pos c3] at H
        have c3b0 : decide (x8_1 < (l0.length : Int)) = true := decide_eq_true c3
        clear c3
        by_cases c4 : 0 ≤ x8_1
        · rw [if_pos c4] at H
          have c4b0 : decide (0 ≤ x8_1) = true := decide_eq_true c4
          clear c4
          by_cases c5 : x8_1 < (l0.length : Int)
          · rw [if_pos c5] at H
            have c5b0 : decide (x8_1 < (l0.length : Int)) = true := decide_eq_true c5
            clear c5
            by_cases c6 : a1 = (rd l0 x8_1)
            · rw [if_pos c6] at H
              have c6b0 : (a1 == (rd l0 x8_1)) = true := beq_iff_eq.mpr c6
              have c6b1 : (a1 != (rd l0 x8_1)) = false := bne_eq_false_iff_eq.mpr c6
              clear c6
              obtain rfl := Option.some.inj H
              have p101 : 0 ≤ (x8_1 : Int) := of_decide_eq_true (by first | (with_reducible assumption) | assumption)
              have q101 : x8_1 < (l0.length : Int) := of_decide_eq_true (by first | (with_reducible assumption) | assumption)
              obtain ⟨ad101, e101, hx101_0⟩ := Kd.at_int HR0.out x8_1 p101 q101
              cases e101
              replace p101 := eq_true p101
              replace q101 := eq_true q101
              go_wp2
              go_ret
              exact ⟨by first | rfl | (simp; done) | (simp [*]; done), by repeat (first | exact Drawn0.refl _ | apply Drawn0.step)⟩
            · rw [if_neg c6] at H
              have c6b0 : (a1 == (rd l0 x8_1)) = false := beq_eq_false_iff_ne.mpr c6
              have c6b1 : (a1 != (rd l0 x8_1)) = true := bne_iff_ne.mpr c6
              have H' := Aside0.mk H
              clear H
              have p101 : 0 ≤ (x8_1 : Int) := of_decide_eq_true (by first | (with_reducible assumption) | assumption)
              have q101 : x8_1 < (l0.length : Int) := of_decide_eq_true (by first | (with_reducible assumption) | assumption)
              obtain ⟨ad101, e101, hx101_0⟩ := Kd.at_int HR0.out x8_1 p101 q101
              cases e101
              replace p101 := eq_true p101
              replace q101 := eq_true q101
              go_wp2
              go_roundg k1
              case measure => have := HK1.out; omega
              case rel => exact ⟨(wrap64 (x8_1 + 1)), (by first | rfl | (simp; done) | (simp [*]; done)), H', ⟨by have := HK1.out; omega⟩, by repeat (first | exact Drawn0.refl _ | apply Drawn0.step)⟩
          · rw [if_neg c5] at H
            exact absurd H (by simp)
        · rw [if_neg c4] at H
          exact absurd H (by simp)
      · rw [if_neg c3] at H
        have c3b0 : decide (x8_1 < (l0.length : Int)) = false := decide_eq_false c3
        clear c3
        obtain rfl := Option.some.inj H
        go_wp2
        go_ret
        exact ⟨by first | rfl | (simp; done) | (simp [*]; done), by repeat (first | exact Drawn0.refl _ | apply Drawn0.step)⟩
end Go.Proofs.Ythmcdiekgfgpdaa.P

namespace Go.Proofs.Ythmcdiekgfgpdaa.T
set_option linter.unusedVariables false
section
variable {σ α : Type}
def RunQ (Q : σ → α → Prop) (step : σ → α → σ × Bool) : σ → List α → Prop
  | _, [] => True
  | s, t :: l => Q s t ∧ ((step s t).2 = true → RunQ Q step (step s t).1 l)
variable {Q : σ → α → Prop} {step : σ → α → σ × Bool}
theorem RunQ.left : ∀ {A B : List α} {s : σ}, RunQ Q step s (A ++ B) → RunQ Q step s A
  | [], _, _, _ => trivial
  | t :: A, B, s, h => ⟨h.1, fun e => RunQ.left (h.2 e)⟩
theorem RunQ.right : ∀ {A B : List α} {s s' : σ}, RunQ Q step s (A ++ B) → foldE step s A = (s', true) → RunQ Q step s' B
  | [], B, s, s', h, e => by
    simp only [foldE, Prod.mk.injEq, and_true] at e
    subst e; exact h
  | t :: A, B, s, s', h, e => by
    simp only [foldE] at e
    cases c : (step s t).2 with
    | true =>
      have e' : foldE step (step s t).1 A = (s', true) := by
        first
          | (rw [c] at e; simpa using e)
          | (split at e <;> simp_all)
      exact RunQ.right (h.2 c) e'
    | false =>
      exfalso
      first
        | (rw [c] at e; simp at e)
        | (split at e <;> simp_all)
end
end Go.Proofs.Ythmcdiekgfgpdaa.T
