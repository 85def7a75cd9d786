import Derived.Test.YtomfebfjkcdjpabDoorMFnExactCutOfWordx0
import Derived.Test.YtomfebfjkcdjpabDoorMFnExactCutOfWordx1
import Derived.Test.YtomfebfjkcdjpabDoorMFnExactCutOfWordx2
import Derived.Test.YtomfebfjkcdjpabDoorMFnExactCutOfWordx3
namespace Go.Proofs.YtomfebfjkcdjpabDoor.P
open Go.RowKit Go.Proofs.YtomfebfjkcdjpabDoorW.PrintWords Go.Proofs.YtomfebfjkcdjpabDoorW.PrintLast Go.Proofs.YtomfebfjkcdjpabDoorW.PrintMore
attribute [local go_sem] max2_int min2_int max_two min_two max_three min_three max_four min_four
set_option linter.unusedVariables false
set_option linter.unusedSimpArgs false

/-! ### laws_FnExactCutOfWord: function 3 -/
mutual
def laws_FnExactCutOfWord.j0 : Nat → ByteArray → Bool → Bool → Int → Int → List (S41) → Int → Int → List (S41) → Option (Bool)
  | 0, _, _, _, _, _, _, _, _, _ => none
  | k + 1, x0, x4, x32, x108000, x108001, x108002, x115000, x115001, x115002 => if x32 = true then (some false) else ((laws_markCut.f k x115000 x115001 x115002 1).bind fun bt116 => ((laws_heldCut.f k x115000 x115001 bt116.2 1).bind fun t118 => (if t118 < 0 then (some false) else (if t118 = bt116.1 then ((impl_CutOfWord.f x0).bind fun bt119 => ((laws_eqCut.f k bt119.1 bt119.2.1 bt119.2.2.1 x108000 x108001 x108002).bind fun t126 => (if t126 = true then (laws_FnExactCutOfWord.j1 k bt116.1 (bt119.2.2.2 != x4) x115000 x115001 bt116.2) else (laws_FnExactCutOfWord.j1 k bt116.1 true x115000 x115001 bt116.2)))) else (some false)))))
def laws_FnExactCutOfWord.j1 : Nat → Int → Bool → Int → Int → List (S41) → Option (Bool)
  | 0, _, _, _, _, _ => none
  | k + 1, x7, x57, x115000, x115001, x115002 => if x57 = true then (some false) else ((laws_heldCut.f k x115000 x115001 x115002 1).bind fun t127 => (if t127 < 0 then (some false) else (if t127 = x7 then (some true) else (some false))))
end
def laws_FnExactCutOfWord.f (k : Nat) (a0 : ByteArray) : Option (Bool) := if (a0.size : Int) > 1048576 then (some true) else ((spec_CutOfWord.f k a0).bind fun bt101 => ((impl_CutOfWord.f a0).bind fun bt108 => ((laws_eqCut.f k bt108.1 bt108.2.1 bt108.2.2.1 bt101.1 bt101.2.1 bt101.2.2.1).bind fun t115 => (if t115 = true then (laws_FnExactCutOfWord.j0 k a0 bt101.2.2.2 (bt108.2.2.2 != bt101.2.2.2) bt101.1 bt101.2.1 bt101.2.2.1 bt108.1 bt108.2.1 bt108.2.2.1) else (laws_FnExactCutOfWord.j0 k a0 bt101.2.2.2 true bt101.1 bt101.2.1 bt101.2.2.1 bt108.1 bt108.2.1 bt108.2.2.1)))))
theorem laws_FnExactCutOfWord.mono_l : ∀ k, (∀ y0 y1 y2 y3 y4 y5 y6 y7 y8, LeO (laws_FnExactCutOfWord.j0 k y0 y1 y2 y3 y4 y5 y6 y7 y8) (laws_FnExactCutOfWord.j0 (k + 1) y0 y1 y2 y3 y4 y5 y6 y7 y8)) ∧ (∀ y0 y1 y2 y3 y4, LeO (laws_FnExactCutOfWord.j1 k y0 y1 y2 y3 y4) (laws_FnExactCutOfWord.j1 (k + 1) y0 y1 y2 y3 y4))
  | 0 => ⟨fun _ _ _ _ _ _ _ _ _ r h => by simp [laws_FnExactCutOfWord.j0] at h, fun _ _ _ _ _ r h => by simp [laws_FnExactCutOfWord.j1] at h⟩
  | k + 1 => by
    obtain ⟨ih0, ih1⟩ := laws_FnExactCutOfWord.mono_l k
    refine ⟨?_, ?_⟩
    · intro y0 y1 y2 y3 y4 y5 y6 y7 y8
      unfold laws_FnExactCutOfWord.j0
      repeat' first
      | (with_reducible exact ih0 _ _ _ _ _ _ _ _ _)
      | (with_reducible exact ih1 _ _ _ _ _)
      | (with_reducible exact laws_eqCut.mono _ _ _ _ _ _ _)
      | (with_reducible exact laws_heldCut.mono _ _ _ _ _)
      | (with_reducible exact laws_markCut.mono _ _ _ _ _)
      | (with_reducible exact spec_CutOfWord.mono _ _)
      | (with_reducible exact LeO.refl _)
      | (with_reducible exact LeO.none _)
      | (with_reducible refine LeO.ite ?_ ?_)
      | (with_reducible refine LeO.bind ?_ (fun _ => ?_))
      | exact ih0 _ _ _ _ _ _ _ _ _
      | exact ih1 _ _ _ _ _
      | exact laws_eqCut.mono _ _ _ _ _ _ _
      | exact laws_heldCut.mono _ _ _ _ _
      | exact laws_markCut.mono _ _ _ _ _
      | exact spec_CutOfWord.mono _ _
      | exact LeO.none _
      | refine LeO.ite ?_ ?_
      | refine LeO.bind ?_ (fun _ => ?_)
    · intro y0 y1 y2 y3 y4
      unfold laws_FnExactCutOfWord.j1
      repeat' first
      | (with_reducible exact ih0 _ _ _ _ _ _ _ _ _)
      | (with_reducible exact ih1 _ _ _ _ _)
      | (with_reducible exact laws_eqCut.mono _ _ _ _ _ _ _)
      | (with_reducible exact laws_heldCut.mono _ _ _ _ _)
      | (with_reducible exact laws_markCut.mono _ _ _ _ _)
      | (with_reducible exact spec_CutOfWord.mono _ _)
      | (with_reducible exact LeO.refl _)
      | (with_reducible exact LeO.none _)
      | (with_reducible refine LeO.ite ?_ ?_)
      | (with_reducible refine LeO.bind ?_ (fun _ => ?_))
      | exact ih0 _ _ _ _ _ _ _ _ _
      | exact ih1 _ _ _ _ _
      | exact laws_eqCut.mono _ _ _ _ _ _ _
      | exact laws_heldCut.mono _ _ _ _ _
      | exact laws_markCut.mono _ _ _ _ _
      | exact spec_CutOfWord.mono _ _
      | exact LeO.none _
      | refine LeO.ite ?_ ?_
      | refine LeO.bind ?_ (fun _ => ?_)
theorem laws_FnExactCutOfWord.mono : ∀ a0 k, LeO (laws_FnExactCutOfWord.f k a0) (laws_FnExactCutOfWord.f (k + 1) a0) := by
  intro a0 k
  obtain ⟨ih0, ih1⟩ := laws_FnExactCutOfWord.mono_l k
  unfold laws_FnExactCutOfWord.f
  repeat' first
      | (with_reducible exact ih0 _ _ _ _ _ _ _ _ _)
      | (with_reducible exact ih1 _ _ _ _ _)
      | (with_reducible exact laws_eqCut.mono _ _ _ _ _ _ _)
      | (with_reducible exact laws_heldCut.mono _ _ _ _ _)
      | (with_reducible exact laws_markCut.mono _ _ _ _ _)
      | (with_reducible exact spec_CutOfWord.mono _ _)
      | (with_reducible exact LeO.refl _)
      | (with_reducible exact LeO.none _)
      | (with_reducible refine LeO.ite ?_ ?_)
      | (with_reducible refine LeO.bind ?_ (fun _ => ?_))
      | exact ih0 _ _ _ _ _ _ _ _ _
      | exact ih1 _ _ _ _ _
      | exact laws_eqCut.mono _ _ _ _ _ _ _
      | exact laws_heldCut.mono _ _ _ _ _
      | exact laws_markCut.mono _ _ _ _ _
      | exact spec_CutOfWord.mono _ _
      | exact LeO.none _
      | refine LeO.ite ?_ ?_
      | refine LeO.bind ?_ (fun _ => ?_)
set_option maxHeartbeats 8000000 in
set_option maxRecDepth 100000 in
theorem laws_FnExactCutOfWord.calls (k : Nat) (a0 : ByteArray) (r : Bool) (w : World) (h : laws_FnExactCutOfWord.f k a0 = some r) :
    Calls Tryd.prog 3 #[.string a0] w fun e w' => e = .returned (.bool r) ∧ Below w.heap.size w w' := by
  have hu24 := Tryd.underlying24
  have HB := Aside0.mk (Below.refl w.heap.size w)
  have H : (if (a0.size : Int) > 1048576 then (some true) else ((spec_CutOfWord.f k a0).bind fun bt101 => ((impl_CutOfWord.f a0).bind fun bt108 => ((laws_eqCut.f k bt108.1 bt108.2.1 bt108.2.2.1 bt101.1 bt101.2.1 bt101.2.2.1).bind fun t115 => (if t115 = true then (laws_FnExactCutOfWord.j0 k a0 bt101.2.2.2 (bt108.2.2.2 != bt101.2.2.2) bt101.1 bt101.2.1 bt101.2.2.1 bt108.1 bt108.2.1 bt108.2.2.1) else (laws_FnExactCutOfWord.j0 k a0 bt101.2.2.2 true bt101.1 bt101.2.1 bt101.2.2.1 bt108.1 bt108.2.1 bt108.2.2.1)))))) = some r := h
  clear h
  by_cases c2 : (a0.size : Int) > 1048576
  · rw [if_pos c2] at H
    have c2b0 : decide (1048576 < (a0.size : Int)) = true := decide_eq_true c2
    have c2b1 : decide (1048576 < a0.size) = true := decide_eq_true (by omega)
    clear c2
    obtain rfl := Option.some.inj H
    go_enter Tryd.func3, Tryd.ntmps3
    go_wp2
    go_ret
    exact ⟨by first | rfl | (simp [errW_none, errW_some] <;> rfl) | (simp [*, errW_none, errW_some] <;> rfl), by repeat (first | (with_reducible first | exact HB.out | apply below_alloc | apply pw_below_drewN | apply below_drew1) | exact HB.out)⟩
  · rw [if_neg c2] at H
    have c2b0 : decide (1048576 < (a0.size : Int)) = false := decide_eq_false c2
    have c2b1 : decide (1048576 < a0.size) = false := decide_eq_false (by omega)
    clear c2
    replace H := Option.bind_eq_some_iff.mp H
    obtain ⟨⟨t101, t102, t103, t106⟩, A30, H⟩ := H
    replace H : ((impl_CutOfWord.f a0).bind fun bt108 => ((laws_eqCut.f k bt108.1 bt108.2.1 bt108.2.2.1 t101 t102 t103).bind fun t115 => (if t115 = true then (laws_FnExactCutOfWord.j0 k a0 t106 (bt108.2.2.2 != t106) t101 t102 t103 bt108.1 bt108.2.1 bt108.2.2.1) else (laws_FnExactCutOfWord.j0 k a0 t106 true t101 t102 t103 bt108.1 bt108.2.1 bt108.2.2.1)))) = some r := H
    have A3 := Aside0.mk A30
    clear A30
    replace H := Option.bind_eq_some_iff.mp H
    obtain ⟨⟨t108, t109, t110, t113⟩, A40, H⟩ := H
    replace H : ((laws_eqCut.f k t108 t109 t110 t101 t102 t103).bind fun t115 => (if t115 = true then (laws_FnExactCutOfWord.j0 k a0 t106 (t113 != t106) t101 t102 t103 t108 t109 t110) else (laws_FnExactCutOfWord.j0 k a0 t106 true t101 t102 t103 t108 t109 t110))) = some r := H
    have A4 := Aside0.mk A40
    clear A40
    have HC5 := Aside0.mk H
    clear H
    go_enter Tryd.func3, Tryd.ntmps3
    go_upto_region 5 with (first | ((with_reducible refine gate_callee (f := 4) rfl ?_); refine goesL_ (some 16) rfl rfl Tryd.func4 (by kernel_rfl) rfl #[.string a0] rfl (by (try simp only [List.map_toArray, List.map_cons, List.map_nil]); first | done | rfl | (simp only [List.length_drop, List.length_take]; rfl)) ?_; (with_reducible refine (spec_CutOfWord.calls k a0 t101 t102 t103 t106 _ A3.out).mono ?_); rintro e w6 ⟨v104, rfl, ho0, hb⟩; refine ⟨_, rfl, ?_⟩; have n0_ := Aside0.mk (Kd.R_lower ho0 (below_size (by repeat (first | (with_reducible first | exact HB.out | apply below_alloc | apply pw_below_drewN | apply below_drew1) | exact HB.out)))); have n1_ := Aside0.mk (below_step (by repeat (first | (with_reducible first | exact HB.out | apply below_alloc | apply pw_below_drewN | apply below_drew1) | exact HB.out)) hb); clear HB; have HO105 := n0_; have HB := n1_; clear n0_ n1_; (try clear hb); (try clear hb2); (try clear hk); (try clear hi); (try clear ho0)) | ((with_reducible refine gate_dst (N := 3) rfl ?_); refine box_event ?hg (N := 3) ?hd (cs := #[.int .i64 0, .int .i64 0, .slice none 0 0]) (t := 24) ?hr ?_; (case hd => rfl); (case hg => rfl); (case hr => first | (go_simp; done) | (go_simp; rfl)); intro gb107 hg w7 hbox hb; have n0_ := Aside0.mk (Kd.R_below (by (with_reducible repeat (first | apply Kd.R_alloc | apply Kd.R_drewN | apply Kd.R_drew)); exact HO105.out) hb); have n1_ := Aside0.mk (below_step (by repeat (first | (with_reducible first | exact HB.out | apply below_alloc | apply pw_below_drewN | apply below_drew1) | exact HB.out)) hb); have n2_ := Aside0.mk (hbox); have n3_ := Aside0.mk ((by rw [hg]; exact (below_size (by repeat (first | (with_reducible first | exact HB.out | apply below_alloc | apply pw_below_drewN | apply below_drew1) | exact HB.out))) : w.heap.size ≤ gb107)); have n4_ := Aside0.mk ((by rw [hg]; exact (below_size (by repeat (first | (with_reducible first | exact HB.out | apply below_alloc | apply pw_below_drewN | apply below_drew1) | exact HB.out))) : w.heap.size ≤ gb107)); clear HO105; clear HB; have HO105 := n0_; have HB := n1_; have BK107 := n2_; have GW107 := n3_; have GE107 := n4_; clear n0_ n1_ n2_ n3_ n4_; clear hb hbox hg; have hcz8_0 : w7.cell? ⟨gb107, 0, none⟩ = some (.int .i64 0) := (blk_cell BK107.out 0).trans rfl; have hcz8_1 : w7.cell? ⟨gb107, 1, none⟩ = some (.int .i64 0) := (blk_cell BK107.out 1).trans rfl; have hcz8_2 : w7.cell? ⟨gb107, 2, none⟩ = some (.slice none 0 0) := (blk_cell BK107.out 2).trans rfl; have hfz8_0 := blk_frozen BK107.out 0; have hfz8_1 := blk_frozen BK107.out 1; have hfz8_2 := blk_frozen BK107.out 2; obtain ⟨Ao9, co9, eo9⟩ := Kd.R_slice HO105.out; subst eo9) | ((with_reducible refine gate_callee (f := 5) rfl ?_); refine goesL_ (some 21) rfl rfl Tryd.func5 (by kernel_rfl) rfl #[.string a0] rfl (by (try simp only [List.map_toArray, List.map_cons, List.map_nil]); first | done | rfl | (simp only [List.length_drop, List.length_take]; rfl)) ?_; (with_reducible refine (impl_CutOfWord.calls a0 t108 t109 t110 t113 _ A4.out).mono ?_); rintro e w10 ⟨v111, rfl, ho0, hb⟩; refine ⟨_, rfl, ?_⟩; have n0_ := Aside0.mk (Kd.R_elder' (by (with_reducible repeat (first | apply Kd.R_alloc | apply Kd.R_drewN | apply Kd.R_drew)); exact (Kd.R_mono (Kd.R_far (p := ⟨gb107, 2, none⟩) (Kd.R_far (p := ⟨gb107, 1, none⟩) (Kd.R_far (p := ⟨gb107, 0, none⟩) (Kd.R_types HO105.out BK107.out (by decide)) (fun _ hk => hk.2) (.int .i64 t101)) (fun _ hk => hk.2) (.int .i64 t102)) (fun _ hk => hk.2) (.slice Ao9 t103.length co9)) (fun _ h_ => h_.1))) (Kd.R_base ho0) hb); have n1_ := Aside0.mk (Kd.R_lower (Kd.R_new' ho0 (Kd.R_lt (by (with_reducible repeat (first | apply Kd.R_alloc | apply Kd.R_drewN | apply Kd.R_drew)); exact (Kd.R_mono (Kd.R_far (p := ⟨gb107, 2, none⟩) (Kd.R_far (p := ⟨gb107, 1, none⟩) (Kd.R_far (p := ⟨gb107, 0, none⟩) (Kd.R_types HO105.out BK107.out (by decide)) (fun _ hk => hk.2) (.int .i64 t101)) (fun _ hk => hk.2) (.int .i64 t102)) (fun _ hk => hk.2) (.slice Ao9 t103.length co9)) (fun _ h_ => h_.1))))) (below_size (by repeat (first | (with_reducible first | exact HB.out | apply below_alloc | apply pw_below_drewN | apply below_drew1 | refine below_set ?_ GE107.out) | exact HB.out)))); have n2_ := Aside0.mk (blk_below (g := gb107) (o := .cells #[.int .i64 t101, .int .i64 t102, .slice Ao9 t103.length co9] 24 (0, 0)) (by (with_reducible repeat (first | refine blk_drewN ?_ _ | refine blk_drew ?_ | refine blk_alloc ?_ _)); refine blk_put (cs := #[.int .i64 t101, .int .i64 t102, .slice none 0 0]) ?_ 2 _ rfl; (with_reducible repeat (first | refine blk_drewN ?_ _ | refine blk_drew ?_ | refine blk_alloc ?_ _)); refine blk_put (cs := #[.int .i64 t101, .int .i64 0, .slice none 0 0]) ?_ 1 _ rfl; (with_reducible repeat (first | refine blk_drewN ?_ _ | refine blk_drew ?_ | refine blk_alloc ?_ _)); refine blk_put (cs := #[.int .i64 0, .int .i64 0, .slice none 0 0]) ?_ 0 _ rfl; (with_reducible repeat (first | refine blk_drewN ?_ _ | refine blk_drew ?_ | refine blk_alloc ?_ _)); exact BK107.out) hb); have n3_ := Aside0.mk (below_step (by repeat (first | (with_reducible first | exact HB.out | apply below_alloc | apply pw_below_drewN | apply below_drew1 | refine below_set ?_ GE107.out) | exact HB.out)) hb); clear HO105; clear BK107; clear HB; have HO105 := n0_; have HO112 := n1_; have BK107 := n2_; have HB := n3_; clear n0_ n1_ n2_ n3_; (try clear hb); (try clear hb2); (try clear hk); (try clear hi); (try clear ho0)) | ((with_reducible refine gate_dst (N := 5) rfl ?_); refine box_event ?hg (N := 5) ?hd (cs := #[.int .i64 0, .int .i64 0, .slice none 0 0]) (t := 24) ?hr ?_; (case hd => rfl); (case hg => rfl); (case hr => first | (go_simp; done) | (go_simp; rfl)); intro gb114 hg w11 hbox hb; have n0_ := Aside0.mk (Kd.R_below (by (with_reducible repeat (first | apply Kd.R_alloc | apply Kd.R_drewN | apply Kd.R_drew)); exact HO105.out) hb); have n1_ := Aside0.mk (Kd.R_below (by (with_reducible repeat (first | apply Kd.R_alloc | apply Kd.R_drewN | apply Kd.R_drew)); exact HO112.out) hb); have n2_ := Aside0.mk (blk_below (g := gb107) (o := .cells #[.int .i64 t101, .int .i64 t102, .slice Ao9 t103.length co9] 24 (0, 0)) (by (with_reducible repeat (first | refine blk_drewN ?_ _ | refine blk_drew ?_ | refine blk_alloc ?_ _)); exact BK107.out) hb); have n3_ := Aside0.mk (below_step (by repeat (first | (with_reducible first | exact HB.out | apply below_alloc | apply pw_below_drewN | apply below_drew1 | refine below_set ?_ GE107.out) | exact HB.out)) hb); have n4_ := Aside0.mk (hbox); have n5_ := Aside0.mk ((by rw [hg]; exact (below_size (by repeat (first | (with_reducible first | exact HB.out | apply below_alloc | apply pw_below_drewN | apply below_drew1 | refine below_set ?_ GE107.out) | exact HB.out))) : w.heap.size ≤ gb114)); have n6_ := Aside0.mk ((by rw [hg]; exact (below_size (by repeat (first | (with_reducible first | exact HB.out | apply below_alloc | apply pw_below_drewN | apply below_drew1 | refine below_set ?_ GE107.out) | exact HB.out))) : w.heap.size ≤ gb114)); have n7_ := Aside0.mk ((by rw [hg]; exact Nat.ne_of_lt (blk_lt (g := gb107) (o := .cells #[.int .i64 t101, .int .i64 t102, .slice Ao9 t103.length co9] 24 (0, 0)) (by (with_reducible repeat (first | refine blk_drewN ?_ _ | refine blk_drew ?_ | refine blk_alloc ?_ _)); exact BK107.out)) : gb107 ≠ gb114)); have n8_ := Aside0.mk ((by rw [hg]; exact Nat.ne_of_gt (blk_lt (g := gb107) (o := .cells #[.int .i64 t101, .int .i64 t102, .slice Ao9 t103.length co9] 24 (0, 0)) (by (with_reducible repeat (first | refine blk_drewN ?_ _ | refine blk_drew ?_ | refine blk_alloc ?_ _)); exact BK107.out)) : gb114 ≠ gb107)); clear HO105; clear HO112; clear BK107; clear HB; have HO105 := n0_; have HO112 := n1_; have BK107 := n2_; have HB := n3_; have BK114 := n4_; have GW114 := n5_; have GE114 := n6_; have NB107_114 := n7_; have NB114_107 := n8_; clear n0_ n1_ n2_ n3_ n4_ n5_ n6_ n7_ n8_; clear hb hbox hg; have hnb12 := NB114_107.out; have hnc12 := NB107_114.out; have hcz13_0 : w11.cell? ⟨gb114, 0, none⟩ = some (.int .i64 0) := (blk_cell BK114.out 0).trans rfl; have hcz13_1 : w11.cell? ⟨gb114, 1, none⟩ = some (.int .i64 0) := (blk_cell BK114.out 1).trans rfl; have hcz13_2 : w11.cell? ⟨gb114, 2, none⟩ = some (.slice none 0 0) := (blk_cell BK114.out 2).trans rfl; have hfz13_0 := blk_frozen BK114.out 0; have hfz13_1 := blk_frozen BK114.out 1; have hfz13_2 := blk_frozen BK114.out 2; obtain ⟨Ao14, co14, eo14⟩ := Kd.R_slice HO112.out; subst eo14))
    (try simp only [Act.put, List.setIfInBounds_toArray, List.set_cons_zero, List.set_cons_succ])
    go_cut [32] (fun v32 wc => ∃ (kq : Nat) (x32_4 : Bool), v32 = .bool x32_4 ∧ Aside0 (laws_FnExactCutOfWord.j0 kq a0 t106 x32_4 t101 t102 t103 t108 t109 t110 = some r) ∧ Aside0 (kq ≤ k) ∧ Aside0 (Kd.R k41 41 wc w.heap.size (fun k_ => some k_ ≠ ((.slice Ao14 t110.length co14) : Value).ownBlock) (.slice Ao9 t103.length co9) t103) ∧ Aside0 (Kd.R k41 41 wc w.heap.size (fun k_ => some k_ ≠ ((.slice Ao9 t103.length co9) : Value).ownBlock) (.slice Ao14 t110.length co14) t110) ∧ Aside0 (wc.heap[gb107]? = some (.cells #[.int .i64 t101, .int .i64 t102, (.slice Ao9 t103.length co9)] 24 (0, 0))) ∧ Aside0 (wc.heap[gb114]? = some (.cells #[.int .i64 t108, .int .i64 t109, (.slice Ao14 t110.length co14)] 24 (0, 0))) ∧ Aside0 (Below w.heap.size w wc))
    case first =>
      have H := HC5.out
      clear HC5
      replace H := Option.bind_eq_some_iff.mp H
      obtain ⟨t115, A150, H⟩ := H
      replace H : (if t115 = true then (laws_FnExactCutOfWord.j0 k a0 t106 (t113 != t106) t101 t102 t103 t108 t109 t110) else (laws_FnExactCutOfWord.j0 k a0 t106 true t101 t102 t103 t108 t109 t110)) = some r := H
      have A15 := Aside0.mk A150
      clear A150
      by_cases c16 : t115 = true
      · subst c16
        have H1 : (laws_FnExactCutOfWord.j0 k a0 t106 (t113 != t106) t101 t102 t103 t108 t109 t110) = some r := by rw [if_pos rfl] at H; exact H
        clear H
        have H := H1
        clear H1
        have H' := Aside0.mk H
        clear H
        have hnb17 := NB114_107.out
        have hnc17 := NB107_114.out
        have hcz18_0 : w11.cell? ⟨gb114, 0, none⟩ = some (.int .i64 0) := (blk_cell BK114.out 0).trans rfl
        have hcz18_1 : w11.cell? ⟨gb114, 1, none⟩ = some (.int .i64 0) := (blk_cell BK114.out 1).trans rfl
        have hcz18_2 : w11.cell? ⟨gb114, 2, none⟩ = some (.slice none 0 0) := (blk_cell BK114.out 2).trans rfl
        have hfz18_0 := blk_frozen BK114.out 0
        have hfz18_1 := blk_frozen BK114.out 1
        have hfz18_2 := blk_frozen BK114.out 2
        have hcz19_0 : w11.cell? ⟨gb107, 0, none⟩ = some (.int .i64 t101) := (blk_cell BK107.out 0).trans rfl
        have hcz19_1 : w11.cell? ⟨gb107, 1, none⟩ = some (.int .i64 t102) := (blk_cell BK107.out 1).trans rfl
        have hcz19_2 : w11.cell? ⟨gb107, 2, none⟩ = some (.slice Ao9 t103.length co9) := (blk_cell BK107.out 2).trans rfl
        have hfz19_0 := blk_frozen BK107.out 0
        have hfz19_1 := blk_frozen BK107.out 1
        have hfz19_2 := blk_frozen BK107.out 2
        go_wp2_with (first | ((with_reducible refine gate_callee (f := 6) rfl ?_); refine goesL_ (some 26) rfl rfl Tryd.func6 (by kernel_rfl) rfl #[.agg #[.int .i64 t108, .int .i64 t109, .slice Ao14 t110.length co14], .agg #[.int .i64 t101, .int .i64 t102, .slice Ao9 t103.length co9]] rfl (by (try simp only [List.map_toArray, List.map_cons, List.map_nil]); first | done | rfl | (simp only [List.length_drop, List.length_take]; rfl)) ?_; (with_reducible refine (laws_eqCut.calls k t108 t109 _ _ t110 t101 t102 _ _ t103 true _ ?side1 ?side2 ?side3 ?side4 A15.out).mono ?_); (case side1 => refine (Kd.R_reads' (e := 41) (base := w.heap.size) (ok := fun k_ => (True ∧ some k_ ≠ (.slice Ao9 t103.length co9 : Value).ownBlock)) (n := t110.length) (c := co14) ?_).2.2; exact (by (with_reducible repeat (first | apply Kd.R_alloc | apply Kd.R_drewN | apply Kd.R_drew)); exact (Kd.R_mono (Kd.R_far (p := ⟨gb114, 2, none⟩) (Kd.R_far (p := ⟨gb114, 1, none⟩) (Kd.R_far (p := ⟨gb114, 0, none⟩) (Kd.R_types HO112.out BK114.out (by decide)) (fun _ hk => hk.2) (.int .i64 t108)) (fun _ hk => hk.2) (.int .i64 t109)) (fun _ hk => hk.2) (.slice Ao14 t110.length co14)) (fun _ h_ => h_.1)))); (case side2 => exact (Kd.R_reads' HO112.out).2.1); (case side3 => refine (Kd.R_reads' (e := 41) (base := w.heap.size) (ok := fun k_ => (True ∧ some k_ ≠ (.slice Ao14 t110.length co14 : Value).ownBlock)) (n := t103.length) (c := co9) ?_).2.2; exact (by (with_reducible repeat (first | apply Kd.R_alloc | apply Kd.R_drewN | apply Kd.R_drew)); exact (Kd.R_mono (Kd.R_far (p := ⟨gb114, 2, none⟩) (Kd.R_far (p := ⟨gb114, 1, none⟩) (Kd.R_far (p := ⟨gb114, 0, none⟩) (Kd.R_types HO105.out BK114.out (by decide)) (fun _ hk => hk.2) (.int .i64 t108)) (fun _ hk => hk.2) (.int .i64 t109)) (fun _ hk => hk.2) (.slice Ao14 t110.length co14)) (fun _ h_ => h_.1)))); (case side4 => exact (Kd.R_reads' HO105.out).2.1); rintro e w20 ⟨rfl, hb⟩; refine ⟨_, rfl, ?_⟩; have n0_ := Aside0.mk (Kd.R_below (by (with_reducible repeat (first | apply Kd.R_alloc | apply Kd.R_drewN | apply Kd.R_drew)); exact (Kd.R_mono (Kd.R_far (p := ⟨gb114, 2, none⟩) (Kd.R_far (p := ⟨gb114, 1, none⟩) (Kd.R_far (p := ⟨gb114, 0, none⟩) (Kd.R_types HO105.out BK114.out (by decide)) (fun _ hk => hk.2) (.int .i64 t108)) (fun _ hk => hk.2) (.int .i64 t109)) (fun _ hk => hk.2) (.slice Ao14 t110.length co14)) (fun _ h_ => h_.1))) hb); have n1_ := Aside0.mk (Kd.R_below (by (with_reducible repeat (first | apply Kd.R_alloc | apply Kd.R_drewN | apply Kd.R_drew)); exact (Kd.R_mono (Kd.R_far (p := ⟨gb114, 2, none⟩) (Kd.R_far (p := ⟨gb114, 1, none⟩) (Kd.R_far (p := ⟨gb114, 0, none⟩) (Kd.R_types HO112.out BK114.out (by decide)) (fun _ hk => hk.2) (.int .i64 t108)) (fun _ hk => hk.2) (.int .i64 t109)) (fun _ hk => hk.2) (.slice Ao14 t110.length co14)) (fun _ h_ => h_.1))) hb); have n2_ := Aside0.mk (blk_below (g := gb107) (o := .cells #[.int .i64 t101, .int .i64 t102, .slice Ao9 t103.length co9] 24 (0, 0)) (by (with_reducible repeat (first | refine blk_drewN ?_ _ | refine blk_drew ?_ | refine blk_alloc ?_ _)); refine blk_far ?_ NB107_114.out _; (with_reducible repeat (first | refine blk_drewN ?_ _ | refine blk_drew ?_ | refine blk_alloc ?_ _)); refine blk_far ?_ NB107_114.out _; (with_reducible repeat (first | refine blk_drewN ?_ _ | refine blk_drew ?_ | refine blk_alloc ?_ _)); refine blk_far ?_ NB107_114.out _; (with_reducible repeat (first | refine blk_drewN ?_ _ | refine blk_drew ?_ | refine blk_alloc ?_ _)); exact BK107.out) hb); have n3_ := Aside0.mk (blk_below (g := gb114) (o := .cells #[.int .i64 t108, .int .i64 t109, .slice Ao14 t110.length co14] 24 (0, 0)) (by (with_reducible repeat (first | refine blk_drewN ?_ _ | refine blk_drew ?_ | refine blk_alloc ?_ _)); refine blk_put (cs := #[.int .i64 t108, .int .i64 t109, .slice none 0 0]) ?_ 2 _ rfl; (with_reducible repeat (first | refine blk_drewN ?_ _ | refine blk_drew ?_ | refine blk_alloc ?_ _)); refine blk_put (cs := #[.int .i64 t108, .int .i64 0, .slice none 0 0]) ?_ 1 _ rfl; (with_reducible repeat (first | refine blk_drewN ?_ _ | refine blk_drew ?_ | refine blk_alloc ?_ _)); refine blk_put (cs := #[.int .i64 0, .int .i64 0, .slice none 0 0]) ?_ 0 _ rfl; (with_reducible repeat (first | refine blk_drewN ?_ _ | refine blk_drew ?_ | refine blk_alloc ?_ _)); exact BK114.out) hb); have n4_ := Aside0.mk (below_step (by repeat (first | (with_reducible first | exact HB.out | apply below_alloc | apply pw_below_drewN | apply below_drew1 | refine below_set ?_ GE107.out | refine below_set ?_ GE114.out) | exact HB.out)) hb); clear HO105; clear HO112; clear BK107; clear BK114; clear HB; have HO105 := n0_; have HO112 := n1_; have BK107 := n2_; have BK114 := n3_; have HB := n4_; clear n0_ n1_ n2_ n3_ n4_; (try clear hb); (try clear hb2); (try clear hk); (try clear hi)))
        go_meet
        case rel => exact ⟨_, ((t113 != t106)), (by first | rfl | (simp; done) | (simp [*]; done)), H', ⟨by first | omega | exact Nat.le_refl _⟩, ⟨by (with_reducible repeat (first | apply Kd.R_alloc | apply Kd.R_drewN | apply Kd.R_drew)); exact Kd.R_mono HO105.out (fun _ hk => hk.2)⟩, ⟨by (with_reducible repeat (first | apply Kd.R_alloc | apply Kd.R_drewN | apply Kd.R_drew)); exact Kd.R_mono HO112.out (fun _ hk => hk.2)⟩, ⟨by (with_reducible repeat (first | refine blk_drewN ?_ _ | refine blk_drew ?_ | refine blk_alloc ?_ _)); exact BK107.out⟩, ⟨by (with_reducible repeat (first | refine blk_drewN ?_ _ | refine blk_drew ?_ | refine blk_alloc ?_ _)); exact BK114.out⟩, ⟨by repeat (first | (with_reducible first | exact HB.out | apply below_alloc | apply pw_below_drewN | apply below_drew1 | refine below_set ?_ GE107.out | refine below_set ?_ GE114.out) | exact HB.out)⟩⟩
      · replace c16 := Bool.eq_false_iff.mpr c16
        subst c16
        have H1 : (laws_FnExactCutOfWord.j0 k a0 t106 true t101 t102 t103 t108 t109 t110) = some r := by rw [if_neg (show ¬ (false = true) by decide)] at H; exact H
        clear H
        have H := H1
        clear H1
        have H' := Aside0.mk H
        clear H
        have hnb21 := NB114_107.out
        have hnc21 := NB107_114.out
        have hcz22_0 : w11.cell? ⟨gb114, 0, none⟩ = some (.int .i64 0) := (blk_cell BK114.out 0).trans rfl
        have hcz22_1 : w11.cell? ⟨gb114, 1, none⟩ = some (.int .i64 0) := (blk_cell BK114.out 1).trans rfl
        have hcz22_2 : w11.cell? ⟨gb114, 2, none⟩ = some (.slice none 0 0) := (blk_cell BK114.out 2).trans rfl
        have hfz22_0 := blk_frozen BK114.out 0
        have hfz22_1 := blk_frozen BK114.out 1
        have hfz22_2 := blk_frozen BK114.out 2
        have hcz23_0 : w11.cell? ⟨gb107, 0, none⟩ = some (.int .i64 t101) := (blk_cell BK107.out 0).trans rfl
        have hcz23_1 : w11.cell? ⟨gb107, 1, none⟩ = some (.int .i64 t102) := (blk_cell BK107.out 1).trans rfl
        have hcz23_2 : w11.cell? ⟨gb107, 2, none⟩ = some (.slice Ao9 t103.length co9) := (blk_cell BK107.out 2).trans rfl
        have hfz23_0 := blk_frozen BK107.out 0
        have hfz23_1 := blk_frozen BK107.out 1
        have hfz23_2 := blk_frozen BK107.out 2
        go_wp2_with (first | ((with_reducible refine gate_callee (f := 6) rfl ?_); refine goesL_ (some 26) rfl rfl Tryd.func6 (by kernel_rfl) rfl #[.agg #[.int .i64 t108, .int .i64 t109, .slice Ao14 t110.length co14], .agg #[.int .i64 t101, .int .i64 t102, .slice Ao9 t103.length co9]] rfl (by (try simp only [List.map_toArray, List.map_cons, List.map_nil]); first | done | rfl | (simp only [List.length_drop, List.length_take]; rfl)) ?_; (with_reducible refine (laws_eqCut.calls k t108 t109 _ _ t110 t101 t102 _ _ t103 false _ ?side1 ?side2 ?side3 ?side4 A15.out).mono ?_); (case side1 => refine (Kd.R_reads' (e := 41) (base := w.heap.size) (ok := fun k_ => (True ∧ some k_ ≠ (.slice Ao9 t103.length co9 : Value).ownBlock)) (n := t110.length) (c := co14) ?_).2.2; exact (by (with_reducible repeat (first | apply Kd.R_alloc | apply Kd.R_drewN | apply Kd.R_drew)); exact (Kd.R_mono (Kd.R_far (p := ⟨gb114, 2, none⟩) (Kd.R_far (p := ⟨gb114, 1, none⟩) (Kd.R_far (p := ⟨gb114, 0, none⟩) (Kd.R_types HO112.out BK114.out (by decide)) (fun _ hk => hk.2) (.int .i64 t108)) (fun _ hk => hk.2) (.int .i64 t109)) (fun _ hk => hk.2) (.slice Ao14 t110.length co14)) (fun _ h_ => h_.1)))); (case side2 => exact (Kd.R_reads' HO112.out).2.1); (case side3 => refine (Kd.R_reads' (e := 41) (base := w.heap.size) (ok := fun k_ => (True ∧ some k_ ≠ (.slice Ao14 t110.length co14 : Value).ownBlock)) (n := t103.length) (c := co9) ?_).2.2; exact (by (with_reducible repeat (first | apply Kd.R_alloc | apply Kd.R_drewN | apply Kd.R_drew)); exact (Kd.R_mono (Kd.R_far (p := ⟨gb114, 2, none⟩) (Kd.R_far (p := ⟨gb114, 1, none⟩) (Kd.R_far (p := ⟨gb114, 0, none⟩) (Kd.R_types HO105.out BK114.out (by decide)) (fun _ hk => hk.2) (.int .i64 t108)) (fun _ hk => hk.2) (.int .i64 t109)) (fun _ hk => hk.2) (.slice Ao14 t110.length co14)) (fun _ h_ => h_.1)))); (case side4 => exact (Kd.R_reads' HO105.out).2.1); rintro e w24 ⟨rfl, hb⟩; refine ⟨_, rfl, ?_⟩; have n0_ := Aside0.mk (Kd.R_below (by (with_reducible repeat (first | apply Kd.R_alloc | apply Kd.R_drewN | apply Kd.R_drew)); exact (Kd.R_mono (Kd.R_far (p := ⟨gb114, 2, none⟩) (Kd.R_far (p := ⟨gb114, 1, none⟩) (Kd.R_far (p := ⟨gb114, 0, none⟩) (Kd.R_types HO105.out BK114.out (by decide)) (fun _ hk => hk.2) (.int .i64 t108)) (fun _ hk => hk.2) (.int .i64 t109)) (fun _ hk => hk.2) (.slice Ao14 t110.length co14)) (fun _ h_ => h_.1))) hb); have n1_ := Aside0.mk (Kd.R_below (by (with_reducible repeat (first | apply Kd.R_alloc | apply Kd.R_drewN | apply Kd.R_drew)); exact (Kd.R_mono (Kd.R_far (p := ⟨gb114, 2, none⟩) (Kd.R_far (p := ⟨gb114, 1, none⟩) (Kd.R_far (p := ⟨gb114, 0, none⟩) (Kd.R_types HO112.out BK114.out (by decide)) (fun _ hk => hk.2) (.int .i64 t108)) (fun _ hk => hk.2) (.int .i64 t109)) (fun _ hk => hk.2) (.slice Ao14 t110.length co14)) (fun _ h_ => h_.1))) hb); have n2_ := Aside0.mk (blk_below (g := gb107) (o := .cells #[.int .i64 t101, .int .i64 t102, .slice Ao9 t103.length co9] 24 (0, 0)) (by (with_reducible repeat (first | refine blk_drewN ?_ _ | refine blk_drew ?_ | refine blk_alloc ?_ _)); refine blk_far ?_ NB107_114.out _; (with_reducible repeat (first | refine blk_drewN ?_ _ | refine blk_drew ?_ | refine blk_alloc ?_ _)); refine blk_far ?_ NB107_114.out _; (with_reducible repeat (first | refine blk_drewN ?_ _ | refine blk_drew ?_ | refine blk_alloc ?_ _)); refine blk_far ?_ NB107_114.out _; (with_reducible repeat (first | refine blk_drewN ?_ _ | refine blk_drew ?_ | refine blk_alloc ?_ _)); exact BK107.out) hb); have n3_ := Aside0.mk (blk_below (g := gb114) (o := .cells #[.int .i64 t108, .int .i64 t109, .slice Ao14 t110.length co14] 24 (0, 0)) (by (with_reducible repeat (first | refine blk_drewN ?_ _ | refine blk_drew ?_ | refine blk_alloc ?_ _)); refine blk_put (cs := #[.int .i64 t108, .int .i64 t109, .slice none 0 0]) ?_ 2 _ rfl; (with_reducible repeat (first | refine blk_drewN ?_ _ | refine blk_drew ?_ | refine blk_alloc ?_ _)); refine blk_put (cs := #[.int .i64 t108, .int .i64 0, .slice none 0 0]) ?_ 1 _ rfl; (with_reducible repeat (first | refine blk_drewN ?_ _ | refine blk_drew ?_ | refine blk_alloc ?_ _)); refine blk_put (cs := #[.int .i64 0, .int .i64 0, .slice none 0 0]) ?_ 0 _ rfl; (with_reducible repeat (first | refine blk_drewN ?_ _ | refine blk_drew ?_ | refine blk_alloc ?_ _)); exact BK114.out) hb); have n4_ := Aside0.mk (below_step (by repeat (first | (with_reducible first | exact HB.out | apply below_alloc | apply pw_below_drewN | apply below_drew1 | refine below_set ?_ GE107.out | refine below_set ?_ GE114.out) | exact HB.out)) hb); clear HO105; clear HO112; clear BK107; clear BK114; clear HB; have HO105 := n0_; have HO112 := n1_; have BK107 := n2_; have BK114 := n3_; have HB := n4_; clear n0_ n1_ n2_ n3_ n4_; (try clear hb); (try clear hb2); (try clear hk); (try clear hi)))
        go_meet
        case rel => exact ⟨_, (true), (by first | rfl | (simp; done) | (simp [*]; done)), H', ⟨by first | omega | exact Nat.le_refl _⟩, ⟨by (with_reducible repeat (first | apply Kd.R_alloc | apply Kd.R_drewN | apply Kd.R_drew)); exact Kd.R_mono HO105.out (fun _ hk => hk.2)⟩, ⟨by (with_reducible repeat (first | apply Kd.R_alloc | apply Kd.R_drewN | apply Kd.R_drew)); exact Kd.R_mono HO112.out (fun _ hk => hk.2)⟩, ⟨by (with_reducible repeat (first | refine blk_drewN ?_ _ | refine blk_drew ?_ | refine blk_alloc ?_ _)); exact BK107.out⟩, ⟨by (with_reducible repeat (first | refine blk_drewN ?_ _ | refine blk_drew ?_ | refine blk_alloc ?_ _)); exact BK114.out⟩, ⟨by repeat (first | (with_reducible first | exact HB.out | apply below_alloc | apply pw_below_drewN | apply below_drew1 | refine below_set ?_ GE107.out | refine below_set ?_ GE114.out) | exact HB.out)⟩⟩
    case rest =>
      clear HC5
      try clear c1
      try clear c2
      try clear c2b0
      try clear c2b1
      try clear p2
      try clear c3
      try clear c4
      try clear c5
      try clear c6
      try clear c12
      try clear c16
      try clear c17
      try clear c21
      try clear hcz13_0
      try clear hcz13_1
      try clear hcz13_2
      try clear hcz18_0
      try clear hcz18_1
      try clear hcz18_2
      try clear hcz19_0
      try clear hcz19_1
      try clear hcz19_2
      try clear hcz22_0
      try clear hcz22_1
      try clear hcz22_2
      try clear hcz23_0
      try clear hcz23_1
      try clear hcz23_2
      try clear hcz8_0
      try clear hcz8_1
      try clear hcz8_2
      try clear hfz13_0
      try clear hfz13_1
      try clear hfz13_2
      try clear hfz18_0
      try clear hfz18_1
      try clear hfz18_2
      try clear hfz19_0
      try clear hfz19_1
      try clear hfz19_2
      try clear hfz22_0
      try clear hfz22_1
      try clear hfz22_2
      try clear hfz23_0
      try clear hfz23_1
      try clear hfz23_2
      try clear hfz8_0
      try clear hfz8_1
      try clear hfz8_2
      obtain ⟨kq, x32_4, rfl, HA, HJ4, HO_108002, HO_115002, BK107, BK114, HB⟩ := hcut
      cases kq with
      | zero => exact absurd HA.out (by simp [laws_FnExactCutOfWord.j0])
      | succ kj4 =>
        have H := HA.out
        clear HA
        simp only [laws_FnExactCutOfWord.j0] at H
        by_cases c25 : x32_4 = true
        · subst c25
          have H1 : (some false) = some r := by rw [if_pos rfl] at H; exact H
          clear H
          have H := H1
          clear H1
          obtain rfl := Option.some.inj H
          go_wp2
          go_ret
          exact ⟨by first | rfl | (simp [errW_none, errW_some] <;> rfl) | (simp [*, errW_none, errW_some] <;> rfl), by repeat (first | (with_reducible first | exact HB.out | apply below_alloc | apply pw_below_drewN | apply below_drew1 | refine below_set ?_ GE107.out | refine below_set ?_ GE114.out) | exact HB.out)⟩
        · replace c25 := Bool.eq_false_iff.mpr c25
          subst c25
          have H1 : ((laws_markCut.f kj4 t108 t109 t110 1).bind fun bt116 => ((laws_heldCut.f kj4 t108 t109 bt116.2 1).bind fun t118 => (if t118 < 0 then (some false) else (if t118 = bt116.1 then ((impl_CutOfWord.f a0).bind fun bt119 => ((laws_eqCut.f kj4 bt119.1 bt119.2.1 bt119.2.2.1 t101 t102 t103).bind fun t126 => (if t126 = true then (laws_FnExactCutOfWord.j1 kj4 bt116.1 (bt119.2.2.2 != t106) t108 t109 bt116.2) else (laws_FnExactCutOfWord.j1 kj4 bt116.1 true t108 t109 bt116.2)))) else (some false))))) = some r := by rw [if_neg (show ¬ (false = true) by decide)] at H; exact H
          clear H
          have H := H1
          clear H1
          replace H := Option.bind_eq_some_iff.mp H
          obtain ⟨⟨t116, t117⟩, A260, H⟩ := H
          replace H : ((laws_heldCut.f kj4 t108 t109 t117 1).bind fun t118 => (if t118 < 0 then (some false) else (if t118 = t116 then ((impl_CutOfWord.f a0).bind fun bt119 => ((laws_eqCut.f kj4 bt119.1 bt119.2.1 bt119.2.2.1 t101 t102 t103).bind fun t126 => (if t126 = true then (laws_FnExactCutOfWord.j1 kj4 t116 (bt119.2.2.2 != t106) t108 t109 t117) else (laws_FnExactCutOfWord.j1 kj4 t116 true t108 t109 t117)))) else (some false)))) = some r := H
          have A26 := Aside0.mk A260
          clear A260
          replace H := Option.bind_eq_some_iff.mp H
          obtain ⟨t118, A270, H⟩ := H
          replace H : (if t118 < 0 then (some false) else (if t118 = t116 then ((impl_CutOfWord.f a0).bind fun bt119 => ((laws_eqCut.f kj4 bt119.1 bt119.2.1 bt119.2.2.1 t101 t102 t103).bind fun t126 => (if t126 = true then (laws_FnExactCutOfWord.j1 kj4 t116 (bt119.2.2.2 != t106) t108 t109 t117) else (laws_FnExactCutOfWord.j1 kj4 t116 true t108 t109 t117)))) else (some false))) = some r := H
          have A27 := Aside0.mk A270
          clear A270
          by_cases c28 : t118 < 0
          · rw [if_pos c28] at H
            have c28b0 : decide (t118 < 0) = true := decide_eq_true c28
            clear c28
            obtain rfl := Option.some.inj H
            have hnb29 := NB114_107.out
            have hnc29 := NB107_114.out
            have hcz30_0 : wc.cell? ⟨gb114, 0, none⟩ = some (.int .i64 t108) := (blk_cell BK114.out 0).trans rfl
            have hcz30_1 : wc.cell? ⟨gb114, 1, none⟩ = some (.int .i64 t109) := (blk_cell BK114.out 1).trans rfl
            have hcz30_2 : wc.cell? ⟨gb114, 2, none⟩ = some (.slice Ao14 t110.length co14) := (blk_cell BK114.out 2).trans rfl
            have hfz30_0 := blk_frozen BK114.out 0
            have hfz30_1 := blk_frozen BK114.out 1
            have hfz30_2 := blk_frozen BK114.out 2
            go_wp2_with (first | ((with_reducible refine gate_callee (f := 7) rfl ?_); refine goesL_ (some 35) rfl rfl Tryd.func7 (by kernel_rfl) rfl #[.agg #[.int .i64 t108, .int .i64 t109, .slice Ao14 t110.length co14], .int .i64 1] rfl (by (try simp only [List.map_toArray, List.map_cons, List.map_nil]); first | done | rfl | (simp only [List.length_drop, List.length_take]; rfl)) ?_; (with_reducible refine (laws_markCut.calls kj4 t108 t109 (fun k_ => some k_ = (.slice Ao14 t110.length co14 : Value).ownBlock) (.slice Ao14 t110.length co14) t110 1 t116 t117 w _ ?side1 ?side2 A26.out).mono ?_); (case side1 => repeat (first | (with_reducible first | exact HB.out | apply below_alloc | apply pw_below_drewN | apply below_drew1 | refine below_set ?_ GE107.out | refine below_set ?_ GE114.out) | exact HB.out)); (case side2 => exact Kd.R_tight rfl HO_115002.out); rintro e w31 ⟨rfl, hy0, hb, hkp⟩; refine ⟨_, rfl, ?_⟩; have n0_ := Aside0.mk (Kd.R_mono (ok' := fun k_ => some k_ ≠ (.slice Ao14 t110.length co14 : Value).ownBlock) (Kd.R_keptB (HO_108002.out) hkp (fun k_ hk_ hs_ => (hk_) hs_)) (fun k_ hk_ => hk_.1)); have n1_ := Aside0.mk (Kd.R_reok rfl hy0 (fun k_ e_ => HO_115002.out.1 k_ e_)); have n2_ := Aside0.mk (blk_kept (by (with_reducible repeat (first | refine blk_drewN ?_ _ | refine blk_drew ?_ | refine blk_alloc ?_ _)); exact BK107.out) hkp (fun hs_ => (fun e_ => (Kd.R_ne HO_115002.out BK107.out (by decide)) e_) hs_)); have n3_ := Aside0.mk (blk_kept (by (with_reducible repeat (first | refine blk_drewN ?_ _ | refine blk_drew ?_ | refine blk_alloc ?_ _)); exact BK114.out) hkp (fun hs_ => (fun e_ => (Kd.R_ne HO_115002.out BK114.out (by decide)) e_) hs_)); have n4_ := Aside0.mk (hb); clear HO_108002; clear HO_115002; clear BK107; clear BK114; clear HB; have HO_108002 := n0_; have HO_115002 := n1_; have BK107 := n2_; have BK114 := n3_; have HB := n4_; clear n0_ n1_ n2_ n3_ n4_; (try clear hb); (try clear hkp); (try clear hy0); have hcz32_0 : w31.cell? ⟨gb114, 0, none⟩ = some (.int .i64 t108) := (blk_cell BK114.out 0).trans rfl; have hcz32_1 : w31.cell? ⟨gb114, 1, none⟩ = some (.int .i64 t109) := (blk_cell BK114.out 1).trans rfl; have hcz32_2 : w31.cell? ⟨gb114, 2, none⟩ = some (.slice Ao14 t110.length co14) := (blk_cell BK114.out 2).trans rfl; have hfz32_0 := blk_frozen BK114.out 0; have hfz32_1 := blk_frozen BK114.out 1; have hfz32_2 := blk_frozen BK114.out 2) | ((with_reducible refine gate_callee (f := 8) rfl ?_); refine goesL_ (some 38) rfl rfl Tryd.func8 (by kernel_rfl) rfl #[.agg #[.int .i64 t108, .int .i64 t109, .slice Ao14 t117.length co14], .int .i64 1] rfl (by (try simp only [List.map_toArray, List.map_cons, List.map_nil]); first | done | (rw [show t117.length = t110.length from (Kd.R_reads' HO_115002.out).1.symm] <;> rfl) | rfl | (simp only [List.length_drop, List.length_take]; rfl)) ?_; (with_reducible refine (laws_heldCut.calls kj4 t108 t109 _ _ t117 1 t118 _ ?side1 ?side2 A27.out).mono ?_); (case side1 => repeat (first | exact (Kd.R_reads' HO_115002.out).2.2 | (with_reducible refine Kd.C_alloc ?_ _) | (with_reducible refine Kd.C_drewN ?_ _) | (with_reducible refine Kd.C_drew ?_))); (case side2 => rw [show t117.length = t110.length from (Kd.R_reads' HO_115002.out).1.symm]; exact (Kd.R_reads' HO_115002.out).2.1); rintro e w33 ⟨rfl, hb⟩; refine ⟨_, rfl, ?_⟩; have n0_ := Aside0.mk (Kd.R_below (by (with_reducible repeat (first | apply Kd.R_alloc | apply Kd.R_drewN | apply Kd.R_drew)); exact HO_108002.out) hb); have n1_ := Aside0.mk (Kd.R_below (by (with_reducible repeat (first | apply Kd.R_alloc | apply Kd.R_drewN | apply Kd.R_drew)); exact HO_115002.out) hb); have n2_ := Aside0.mk (blk_below (g := gb107) (o := .cells #[.int .i64 t101, .int .i64 t102, .slice Ao9 t103.length co9] 24 (0, 0)) (by (with_reducible repeat (first | refine blk_drewN ?_ _ | refine blk_drew ?_ | refine blk_alloc ?_ _)); exact BK107.out) hb); have n3_ := Aside0.mk (blk_below (g := gb114) (o := .cells #[.int .i64 t108, .int .i64 t109, .slice Ao14 t110.length co14] 24 (0, 0)) (by (with_reducible repeat (first | refine blk_drewN ?_ _ | refine blk_drew ?_ | refine blk_alloc ?_ _)); exact BK114.out) hb); have n4_ := Aside0.mk (below_step (by repeat (first | (with_reducible first | exact HB.out | apply below_alloc | apply pw_below_drewN | apply below_drew1 | refine below_set ?_ GE107.out | refine below_set ?_ GE114.out) | exact HB.out)) hb); clear HO_108002; clear HO_115002; clear BK107; clear BK114; clear HB; have HO_108002 := n0_; have HO_115002 := n1_; have BK107 := n2_; have BK114 := n3_; have HB := n4_; clear n0_ n1_ n2_ n3_ n4_; (try clear hb); (try clear hb2); (try clear hk); (try clear hi)))
            go_ret
            exact ⟨by first | rfl | (simp [errW_none, errW_some] <;> rfl) | (simp [*, errW_none, errW_some] <;> rfl), by repeat (first | (with_reducible first | exact HB.out | apply below_alloc | apply pw_below_drewN | apply below_drew1 | refine below_set ?_ GE107.out | refine below_set ?_ GE114.out) | exact HB.out)⟩
          · rw [if_neg c28] at H
            have c28b0 : decide (t118 < 0) = false := decide_eq_false c28
            clear c28
            by_cases c34 : t118 = t116
            · rw [if_pos c34] at H
              have c34b0 : (t118 == t116) = true := beq_iff_eq.mpr c34
              have c34b1 : (t118 != t116) = false := bne_eq_false_iff_eq.mpr c34
              clear c34
              replace H := Option.bind_eq_some_iff.mp H
              obtain ⟨⟨t119, t120, t121, t124⟩, A350, H⟩ := H
              replace H : ((laws_eqCut.f kj4 t119 t120 t121 t101 t102 t103).bind fun t126 => (if t126 = true then (laws_FnExactCutOfWord.j1 kj4 t116 (t124 != t106) t108 t109 t117) else (laws_FnExactCutOfWord.j1 kj4 t116 true t108 t109 t117))) = some r := H
              have A35 := Aside0.mk A350
              clear A350
              have HC36 := Aside0.mk H
              clear H
              have hnb37 := NB114_107.out
              have hnc37 := NB107_114.out
              have hcz38_0 : wc.cell? ⟨gb114, 0, none⟩ = some (.int .i64 t108) := (blk_cell BK114.out 0).trans rfl
              have hcz38_1 : wc.cell? ⟨gb114, 1, none⟩ = some (.int .i64 t109) := (blk_cell BK114.out 1).trans rfl
              have hcz38_2 : wc.cell? ⟨gb114, 2, none⟩ = some (.slice Ao14 t110.length co14) := (blk_cell BK114.out 2).trans rfl
              have hfz38_0 := blk_frozen BK114.out 0
              have hfz38_1 := blk_frozen BK114.out 1
              have hfz38_2 := blk_frozen BK114.out 2
              go_upto_region 16 with (first | ((with_reducible refine gate_callee (f := 7) rfl ?_); refine goesL_ (some 35) rfl rfl Tryd.func7 (by kernel_rfl) rfl #[.agg #[.int .i64 t108, .int .i64 t109, .slice Ao14 t110.length co14], .int .i64 1] rfl (by (try simp only [List.map_toArray, List.map_cons, List.map_nil]); first | done | rfl | (simp only [List.length_drop, List.length_take]; rfl)) ?_; (with_reducible refine (laws_markCut.calls kj4 t108 t109 (fun k_ => some k_ = (.slice Ao14 t110.length co14 : Value).ownBlock) (.slice Ao14 t110.length co14) t110 1 t116 t117 w _ ?side1 ?side2 A26.out).mono ?_); (case side1 => repeat (first | (with_reducible first | exact HB.out | apply below_alloc | apply pw_below_drewN | apply below_drew1 | refine below_set ?_ GE107.out | refine below_set ?_ GE114.out) | exact HB.out)); (case side2 => exact Kd.R_tight rfl HO_115002.out); rintro e w39 ⟨rfl, hy0, hb, hkp⟩; refine ⟨_, rfl, ?_⟩; have n0_ := Aside0.mk (Kd.R_mono (ok' := fun k_ => some k_ ≠ (.slice Ao14 t110.length co14 : Value).ownBlock) (Kd.R_keptB (HO_108002.out) hkp (fun k_ hk_ hs_ => (hk_) hs_)) (fun k_ hk_ => hk_.1)); have n1_ := Aside0.mk (Kd.R_reok rfl hy0 (fun k_ e_ => HO_115002.out.1 k_ e_)); have n2_ := Aside0.mk (blk_kept (by (with_reducible repeat (first | refine blk_drewN ?_ _ | refine blk_drew ?_ | refine blk_alloc ?_ _)); exact BK107.out) hkp (fun hs_ => (fun e_ => (Kd.R_ne HO_115002.out BK107.out (by decide)) e_) hs_)); have n3_ := Aside0.mk (blk_kept (by (with_reducible repeat (first | refine blk_drewN ?_ _ | refine blk_drew ?_ | refine blk_alloc ?_ _)); exact BK114.out) hkp (fun hs_ => (fun e_ => (Kd.R_ne HO_115002.out BK114.out (by decide)) e_) hs_)); have n4_ := Aside0.mk (hb); clear HO_108002; clear HO_115002; clear BK107; clear BK114; clear HB; have HO_108002 := n0_; have HO_115002 := n1_; have BK107 := n2_; have BK114 := n3_; have HB := n4_; clear n0_ n1_ n2_ n3_ n4_; (try clear hb); (try clear hkp); (try clear hy0); have hcz40_0 : w39.cell? ⟨gb114, 0, none⟩ = some (.int .i64 t108) := (blk_cell BK114.out 0).trans rfl; have hcz40_1 : w39.cell? ⟨gb114, 1, none⟩ = some (.int .i64 t109) := (blk_cell BK114.out 1).trans rfl; have hcz40_2 : w39.cell? ⟨gb114, 2, none⟩ = some (.slice Ao14 t110.length co14) := (blk_cell BK114.out 2).trans rfl; have hfz40_0 := blk_frozen BK114.out 0; have hfz40_1 := blk_frozen BK114.out 1; have hfz40_2 := blk_frozen BK114.out 2) | ((with_reducible refine gate_callee (f := 8) rfl ?_); refine goesL_ (some 38) rfl rfl Tryd.func8 (by kernel_rfl) rfl #[.agg #[.int .i64 t108, .int .i64 t109, .slice Ao14 t117.length co14], .int .i64 1] rfl (by (try simp only [List.map_toArray, List.map_cons, List.map_nil]); first | done | (rw [show t117.length = t110.length from (Kd.R_reads' HO_115002.out).1.symm] <;> rfl) | rfl | (simp only [List.length_drop, List.length_take]; rfl)) ?_; (with_reducible refine (laws_heldCut.calls kj4 t108 t109 _ _ t117 1 t118 _ ?side1 ?side2 A27.out).mono ?_); (case side1 => repeat (first | exact (Kd.R_reads' HO_115002.out).2.2 | (with_reducible refine Kd.C_alloc ?_ _) | (with_reducible refine Kd.C_drewN ?_ _) | (with_reducible refine Kd.C_drew ?_))); (case side2 => rw [show t117.length = t110.length from (Kd.R_reads' HO_115002.out).1.symm]; exact (Kd.R_reads' HO_115002.out).2.1); rintro e w41 ⟨rfl, hb⟩; refine ⟨_, rfl, ?_⟩; have n0_ := Aside0.mk (Kd.R_below (by (with_reducible repeat (first | apply Kd.R_alloc | apply Kd.R_drewN | apply Kd.R_drew)); exact HO_108002.out) hb); have n1_ := Aside0.mk (Kd.R_below (by (with_reducible repeat (first | apply Kd.R_alloc | apply Kd.R_drewN | apply Kd.R_drew)); exact HO_115002.out) hb); have n2_ := Aside0.mk (blk_below (g := gb107) (o := .cells #[.int .i64 t101, .int .i64 t102, .slice Ao9 t103.length co9] 24 (0, 0)) (by (with_reducible repeat (first | refine blk_drewN ?_ _ | refine blk_drew ?_ | refine blk_alloc ?_ _)); exact BK107.out) hb); have n3_ := Aside0.mk (blk_below (g := gb114) (o := .cells #[.int .i64 t108, .int .i64 t109, .slice Ao14 t110.length co14] 24 (0, 0)) (by (with_reducible repeat (first | refine blk_drewN ?_ _ | refine blk_drew ?_ | refine blk_alloc ?_ _)); exact BK114.out) hb); have n4_ := Aside0.mk (below_step (by repeat (first | (with_reducible first | exact HB.out | apply below_alloc | apply pw_below_drewN | apply below_drew1 | refine below_set ?_ GE107.out | refine below_set ?_ GE114.out) | exact HB.out)) hb); clear HO_108002; clear HO_115002; clear BK107; clear BK114; clear HB; have HO_108002 := n0_; have HO_115002 := n1_; have BK107 := n2_; have BK114 := n3_; have HB := n4_; clear n0_ n1_ n2_ n3_ n4_; (try clear hb); (try clear hb2); (try clear hk); (try clear hi)) | ((with_reducible refine gate_callee (f := 5) rfl ?_); refine goesL_ (some 46) rfl rfl Tryd.func5 (by kernel_rfl) rfl #[.string a0] rfl (by (try simp only [List.map_toArray, List.map_cons, List.map_nil]); first | done | rfl | (simp only [List.length_drop, List.length_take]; rfl)) ?_; (with_reducible refine (impl_CutOfWord.calls a0 t119 t120 t121 t124 _ A35.out).mono ?_); rintro e w42 ⟨v122, rfl, ho0, hb⟩; refine ⟨_, rfl, ?_⟩; have n0_ := Aside0.mk (Kd.R_elder' (by (with_reducible repeat (first | apply Kd.R_alloc | apply Kd.R_drewN | apply Kd.R_drew)); exact HO_108002.out) (Kd.R_base ho0) hb); have n1_ := Aside0.mk (Kd.R_elder' (by (with_reducible repeat (first | apply Kd.R_alloc | apply Kd.R_drewN | apply Kd.R_drew)); exact HO_115002.out) (Kd.R_base ho0) hb); have n2_ := Aside0.mk (Kd.R_lower (Kd.R_new' (Kd.R_new' ho0 (Kd.R_lt (by (with_reducible repeat (first | apply Kd.R_alloc | apply Kd.R_drewN | apply Kd.R_drew)); exact HO_108002.out))) (Kd.R_lt (by (with_reducible repeat (first | apply Kd.R_alloc | apply Kd.R_drewN | apply Kd.R_drew)); exact HO_115002.out))) (below_size (by repeat (first | (with_reducible first | exact HB.out | apply below_alloc | apply pw_below_drewN | apply below_drew1 | refine below_set ?_ GE107.out | refine below_set ?_ GE114.out) | exact HB.out)))); have n3_ := Aside0.mk (blk_below (g := gb107) (o := .cells #[.int .i64 t101, .int .i64 t102, .slice Ao9 t103.length co9] 24 (0, 0)) (by (with_reducible repeat (first | refine blk_drewN ?_ _ | refine blk_drew ?_ | refine blk_alloc ?_ _)); exact BK107.out) hb); have n4_ := Aside0.mk (blk_below (g := gb114) (o := .cells #[.int .i64 t108, .int .i64 t109, .slice Ao14 t110.length co14] 24 (0, 0)) (by (with_reducible repeat (first | refine blk_drewN ?_ _ | refine blk_drew ?_ | refine blk_alloc ?_ _)); exact BK114.out) hb); have n5_ := Aside0.mk (below_step (by repeat (first | (with_reducible first | exact HB.out | apply below_alloc | apply pw_below_drewN | apply below_drew1 | refine below_set ?_ GE107.out | refine below_set ?_ GE114.out) | exact HB.out)) hb); clear HO_108002; clear HO_115002; clear BK107; clear BK114; clear HB; have HO_108002 := n0_; have HO_115002 := n1_; have HO123 := n2_; have BK107 := n3_; have BK114 := n4_; have HB := n5_; clear n0_ n1_ n2_ n3_ n4_ n5_; (try clear hb); (try clear hb2); (try clear hk); (try clear hi); (try clear ho0)) | ((with_reducible refine gate_dst (N := 9) rfl ?_); refine box_event ?hg (N := 9) ?hd (cs := #[.int .i64 0, .int .i64 0, .slice none 0 0]) (t := 24) ?hr ?_; (case hd => rfl); (case hg => rfl); (case hr => first | (go_simp; done) | (go_simp; rfl)); intro gb125 hg w43 hbox hb; have n0_ := Aside0.mk (Kd.R_below (by (with_reducible repeat (first | apply Kd.R_alloc | apply Kd.R_drewN | apply Kd.R_drew)); exact HO_108002.out) hb); have n1_ := Aside0.mk (Kd.R_below (by (with_reducible repeat (first | apply Kd.R_alloc | apply Kd.R_drewN | apply Kd.R_drew)); exact HO_115002.out) hb); have n2_ := Aside0.mk (Kd.R_below (by (with_reducible repeat (first | apply Kd.R_alloc | apply Kd.R_drewN | apply Kd.R_drew)); exact HO123.out) hb); have n3_ := Aside0.mk (blk_below (g := gb107) (o := .cells #[.int .i64 t101, .int .i64 t102, .slice Ao9 t103.length co9] 24 (0, 0)) (by (with_reducible repeat (first | refine blk_drewN ?_ _ | refine blk_drew ?_ | refine blk_alloc ?_ _)); exact BK107.out) hb); have n4_ := Aside0.mk (blk_below (g := gb114) (o := .cells #[.int .i64 t108, .int .i64 t109, .slice Ao14 t110.length co14] 24 (0, 0)) (by (with_reducible repeat (first | refine blk_drewN ?_ _ | refine blk_drew ?_ | refine blk_alloc ?_ _)); exact BK114.out) hb); have n5_ := Aside0.mk (below_step (by repeat (first | (with_reducible first | exact HB.out | apply below_alloc | apply pw_below_drewN | apply below_drew1 | refine below_set ?_ GE107.out | refine below_set ?_ GE114.out) | exact HB.out)) hb); have n6_ := Aside0.mk (hbox); have n7_ := Aside0.mk ((by rw [hg]; exact (below_size (by repeat (first | (with_reducible first | exact HB.out | apply below_alloc | apply pw_below_drewN | apply below_drew1 | refine below_set ?_ GE107.out | refine below_set ?_ GE114.out) | exact HB.out))) : w.heap.size ≤ gb125)); have n8_ := Aside0.mk ((by rw [hg]; exact (below_size (by repeat (first | (with_reducible first | exact HB.out | apply below_alloc | apply pw_below_drewN | apply below_drew1 | refine below_set ?_ GE107.out | refine below_set ?_ GE114.out) | exact HB.out))) : w.heap.size ≤ gb125)); have n9_ := Aside0.mk ((by rw [hg]; exact Nat.ne_of_lt (blk_lt (g := gb107) (o := .cells #[.int .i64 t101, .int .i64 t102, .slice Ao9 t103.length co9] 24 (0, 0)) (by (with_reducible repeat (first | refine blk_drewN ?_ _ | refine blk_drew ?_ | refine blk_alloc ?_ _)); exact BK107.out)) : gb107 ≠ gb125)); have n10_ := Aside0.mk ((by rw [hg]; exact Nat.ne_of_gt (blk_lt (g := gb107) (o := .cells #[.int .i64 t101, .int .i64 t102, .slice Ao9 t103.length co9] 24 (0, 0)) (by (with_reducible repeat (first | refine blk_drewN ?_ _ | refine blk_drew ?_ | refine blk_alloc ?_ _)); exact BK107.out)) : gb125 ≠ gb107)); have n11_ := Aside0.mk ((by rw [hg]; exact Nat.ne_of_lt (blk_lt (g := gb114) (o := .cells #[.int .i64 t108, .int .i64 t109, .slice Ao14 t110.length co14] 24 (0, 0)) (by (with_reducible repeat (first | refine blk_drewN ?_ _ | refine blk_drew ?_ | refine blk_alloc ?_ _)); exact BK114.out)) : gb114 ≠ gb125)); have n12_ := Aside0.mk ((by rw [hg]; exact Nat.ne_of_gt (blk_lt (g := gb114) (o := .cells #[.int .i64 t108, .int .i64 t109, .slice Ao14 t110.length co14] 24 (0, 0)) (by (with_reducible repeat (first | refine blk_drewN ?_ _ | refine blk_drew ?_ | refine blk_alloc ?_ _)); exact BK114.out)) : gb125 ≠ gb114)); clear HO_108002; clear HO_115002; clear HO123; clear BK107; clear BK114; clear HB; have HO_108002 := n0_; have HO_115002 := n1_; have HO123 := n2_; have BK107 := n3_; have BK114 := n4_; have HB := n5_; have BK125 := n6_; have GW125 := n7_; have GE125 := n8_; have NB107_125 := n9_; have NB125_107 := n10_; have NB114_125 := n11_; have NB125_114 := n12_; clear n0_ n1_ n2_ n3_ n4_ n5_ n6_ n7_ n8_ n9_ n10_ n11_ n12_; clear hb hbox hg; have hnb44 := NB125_107.out; have hnc44 := NB107_125.out; have hnb45 := NB125_114.out; have hnc45 := NB114_125.out; have hcz46_0 : w43.cell? ⟨gb125, 0, none⟩ = some (.int .i64 0) := (blk_cell BK125.out 0).trans rfl; have hcz46_1 : w43.cell? ⟨gb125, 1, none⟩ = some (.int .i64 0) := (blk_cell BK125.out 1).trans rfl; have hcz46_2 : w43.cell? ⟨gb125, 2, none⟩ = some (.slice none 0 0) := (blk_cell BK125.out 2).trans rfl; have hfz46_0 := blk_frozen BK125.out 0; have hfz46_1 := blk_frozen BK125.out 1; have hfz46_2 := blk_frozen BK125.out 2; obtain ⟨Ao47, co47, eo47⟩ := Kd.R_slice HO123.out; subst eo47))
              (try simp only [Act.put, List.setIfInBounds_toArray, List.set_cons_zero, List.set_cons_succ])
              go_cut [57] (fun v57 wc => ∃ (kq : Nat) (x57_35 : Bool), v57 = .bool x57_35 ∧ Aside0 (laws_FnExactCutOfWord.j1 kq t116 x57_35 t108 t109 t117 = some r) ∧ Aside0 (kq ≤ kj4) ∧ Aside0 (Kd.R k41 41 wc w.heap.size (fun k_ => some k_ ≠ ((.slice Ao14 t110.length co14) : Value).ownBlock ∧ some k_ ≠ ((.slice Ao47 t121.length co47) : Value).ownBlock) (.slice Ao9 t103.length co9) t103) ∧ Aside0 (Kd.R k41 41 wc w.heap.size (fun k_ => some k_ ≠ ((.slice Ao9 t103.length co9) : Value).ownBlock ∧ some k_ ≠ ((.slice Ao47 t121.length co47) : Value).ownBlock) (.slice Ao14 t110.length co14) t117) ∧ Aside0 (Kd.R k41 41 wc w.heap.size (fun k_ => some k_ ≠ ((.slice Ao9 t103.length co9) : Value).ownBlock ∧ some k_ ≠ ((.slice Ao14 t110.length co14) : Value).ownBlock) (.slice Ao47 t121.length co47) t121) ∧ Aside0 (wc.heap[gb107]? = some (.cells #[.int .i64 t101, .int .i64 t102, (.slice Ao9 t103.length co9)] 24 (0, 0))) ∧ Aside0 (wc.heap[gb114]? = some (.cells #[.int .i64 t108, .int .i64 t109, (.slice Ao14 t110.length co14)] 24 (0, 0))) ∧ Aside0 (wc.heap[gb125]? = some (.cells #[.int .i64 t119, .int .i64 t120, (.slice Ao47 t121.length co47)] 24 (0, 0))) ∧ Aside0 (Below w.heap.size w wc))
              case first =>
                have H := HC36.out
                clear HC36
                replace H := Option.bind_eq_some_iff.mp H
                obtain ⟨t126, A480, H⟩ := H
                replace H : (if t126 = true then (laws_FnExactCutOfWord.j1 kj4 t116 (t124 != t106) t108 t109 t117) else (laws_FnExactCutOfWord.j1 kj4 t116 true t108 t109 t117)) = some r := H
                have A48 := Aside0.mk A480
                clear A480
                by_cases c49 : t126 = true
                · subst c49
                  have H1 : (laws_FnExactCutOfWord.j1 kj4 t116 (t124 != t106) t108 t109 t117) = some r := by rw [if_pos rfl] at H; exact H
                  clear H
                  have H := H1
                  clear H1
                  have H' := Aside0.mk H
                  clear H
                  have hnb50 := NB125_107.out
                  have hnc50 := NB107_125.out
                  have hnb51 := NB125_114.out
                  have hnc51 := NB114_125.out
                  have hcz52_0 : w43.cell? ⟨gb125, 0, none⟩ = some (.int .i64 0) := (blk_cell BK125.out 0).trans rfl
                  have hcz52_1 : w43.cell? ⟨gb125, 1, none⟩ = some (.int .i64 0) := (blk_cell BK125.out 1).trans rfl
                  have hcz52_2 : w43.cell? ⟨gb125, 2, none⟩ = some (.slice none 0 0) := (blk_cell BK125.out 2).trans rfl
                  have hfz52_0 := blk_frozen BK125.out 0
                  have hfz52_1 := blk_frozen BK125.out 1
                  have hfz52_2 := blk_frozen BK125.out 2
                  have hnb53 := NB107_114.out
                  have hnc53 := NB114_107.out
                  have hcz54_0 : w43.cell? ⟨gb107, 0, none⟩ = some (.int .i64 t101) := (blk_cell BK107.out 0).trans rfl
                  have hcz54_1 : w43.cell? ⟨gb107, 1, none⟩ = some (.int .i64 t102) := (blk_cell BK107.out 1).trans rfl
                  have hcz54_2 : w43.cell? ⟨gb107, 2, none⟩ = some (.slice Ao9 t103.length co9) := (blk_cell BK107.out 2).trans rfl
                  have hfz54_0 := blk_frozen BK107.out 0
                  have hfz54_1 := blk_frozen BK107.out 1
                  have hfz54_2 := blk_frozen BK107.out 2
                  go_wp2_with (first | ((with_reducible refine gate_callee (f := 6) rfl ?_); refine goesL_ (some 51) rfl rfl Tryd.func6 (by kernel_rfl) rfl #[.agg #[.int .i64 t119, .int .i64 t120, .slice Ao47 t121.length co47], .agg #[.int .i64 t101, .int .i64 t102, .slice Ao9 t103.length co9]] rfl (by (try simp only [List.map_toArray, List.map_cons, List.map_nil]); first | done | rfl | (simp only [List.length_drop, List.length_take]; rfl)) ?_; (with_reducible refine (laws_eqCut.calls kj4 t119 t120 _ _ t121 t101 t102 _ _ t103 true _ ?side1 ?side2 ?side3 ?side4 A48.out).mono ?_); (case side1 => refine (Kd.R_reads' (e := 41) (base := w.heap.size) (ok := fun k_ => ((True ∧ some k_ ≠ (.slice Ao9 t103.length co9 : Value).ownBlock) ∧ some k_ ≠ (.slice Ao14 t110.length co14 : Value).ownBlock)) (n := t121.length) (c := co47) ?_).2.2; exact (by (with_reducible repeat (first | apply Kd.R_alloc | apply Kd.R_drewN | apply Kd.R_drew)); exact (Kd.R_mono (Kd.R_far (p := ⟨gb125, 2, none⟩) (Kd.R_far (p := ⟨gb125, 1, none⟩) (Kd.R_far (p := ⟨gb125, 0, none⟩) (Kd.R_types HO123.out BK125.out (by decide)) (fun _ hk => hk.2) (.int .i64 t119)) (fun _ hk => hk.2) (.int .i64 t120)) (fun _ hk => hk.2) (.slice Ao47 t121.length co47)) (fun _ h_ => h_.1)))); (case side2 => exact (Kd.R_reads' HO123.out).2.1); (case side3 => refine (Kd.R_reads' (e := 41) (base := w.heap.size) (ok := fun k_ => (some k_ ≠ (.slice Ao14 t110.length co14 : Value).ownBlock ∧ some k_ ≠ (.slice Ao47 t121.length co47 : Value).ownBlock)) (n := t103.length) (c := co9) ?_).2.2; exact (by (with_reducible repeat (first | apply Kd.R_alloc | apply Kd.R_drewN | apply Kd.R_drew)); exact (Kd.R_mono (Kd.R_far (p := ⟨gb125, 2, none⟩) (Kd.R_far (p := ⟨gb125, 1, none⟩) (Kd.R_far (p := ⟨gb125, 0, none⟩) (Kd.R_types HO_108002.out BK125.out (by decide)) (fun _ hk => hk.2) (.int .i64 t119)) (fun _ hk => hk.2) (.int .i64 t120)) (fun _ hk => hk.2) (.slice Ao47 t121.length co47)) (fun _ h_ => h_.1)))); (case side4 => exact (Kd.R_reads' HO_108002.out).2.1); rintro e w55 ⟨rfl, hb⟩; refine ⟨_, rfl, ?_⟩; have n0_ := Aside0.mk (Kd.R_below (by (with_reducible repeat (first | apply Kd.R_alloc | apply Kd.R_drewN | apply Kd.R_drew)); exact (Kd.R_mono (Kd.R_far (p := ⟨gb125, 2, none⟩) (Kd.R_far (p := ⟨gb125, 1, none⟩) (Kd.R_far (p := ⟨gb125, 0, none⟩) (Kd.R_types HO_108002.out BK125.out (by decide)) (fun _ hk => hk.2) (.int .i64 t119)) (fun _ hk => hk.2) (.int .i64 t120)) (fun _ hk => hk.2) (.slice Ao47 t121.length co47)) (fun _ h_ => h_.1))) hb); have n1_ := Aside0.mk (Kd.R_below (by (with_reducible repeat (first | apply Kd.R_alloc | apply Kd.R_drewN | apply Kd.R_drew)); exact (Kd.R_mono (Kd.R_far (p := ⟨gb125, 2, none⟩) (Kd.R_far (p := ⟨gb125, 1, none⟩) (Kd.R_far (p := ⟨gb125, 0, none⟩) (Kd.R_types HO_115002.out BK125.out (by decide)) (fun _ hk => hk.2) (.int .i64 t119)) (fun _ hk => hk.2) (.int .i64 t120)) (fun _ hk => hk.2) (.slice Ao47 t121.length co47)) (fun _ h_ => h_.1))) hb); have n2_ := Aside0.mk (Kd.R_below (by (with_reducible repeat (first | apply Kd.R_alloc | apply Kd.R_drewN | apply Kd.R_drew)); exact (Kd.R_mono (Kd.R_far (p := ⟨gb125, 2, none⟩) (Kd.R_far (p := ⟨gb125, 1, none⟩) (Kd.R_far (p := ⟨gb125, 0, none⟩) (Kd.R_types HO123.out BK125.out (by decide)) (fun _ hk => hk.2) (.int .i64 t119)) (fun _ hk => hk.2) (.int .i64 t120)) (fun _ hk => hk.2) (.slice Ao47 t121.length co47)) (fun _ h_ => h_.1))) hb); have n3_ := Aside0.mk (blk_below (g := gb107) (o := .cells #[.int .i64 t101, .int .i64 t102, .slice Ao9 t103.length co9] 24 (0, 0)) (by (with_reducible repeat (first | refine blk_drewN ?_ _ | refine blk_drew ?_ | refine blk_alloc ?_ _)); refine blk_far ?_ NB107_125.out _; (with_reducible repeat (first | refine blk_drewN ?_ _ | refine blk_drew ?_ | refine blk_alloc ?_ _)); refine blk_far ?_ NB107_125.out _; (with_reducible repeat (first | refine blk_drewN ?_ _ | refine blk_drew ?_ | refine blk_alloc ?_ _)); refine blk_far ?_ NB107_125.out _; (with_reducible repeat (first | refine blk_drewN ?_ _ | refine blk_drew ?_ | refine blk_alloc ?_ _)); exact BK107.out) hb); have n4_ := Aside0.mk (blk_below (g := gb114) (o := .cells #[.int .i64 t108, .int .i64 t109, .slice Ao14 t110.length co14] 24 (0, 0)) (by (with_reducible repeat (first | refine blk_drewN ?_ _ | refine blk_drew ?_ | refine blk_alloc ?_ _)); refine blk_far ?_ NB114_125.out _; (with_reducible repeat (first | refine blk_drewN ?_ _ | refine blk_drew ?_ | refine blk_alloc ?_ _)); refine blk_far ?_ NB114_125.out _; (with_reducible repeat (first | refine blk_drewN ?_ _ | refine blk_drew ?_ | refine blk_alloc ?_ _)); refine blk_far ?_ NB114_125.out _; (with_reducible repeat (first | refine blk_drewN ?_ _ | refine blk_drew ?_ | refine blk_alloc ?_ _)); exact BK114.out) hb); have n5_ := Aside0.mk (blk_below (g := gb125) (o := .cells #[.int .i64 t119, .int .i64 t120, .slice Ao47 t121.length co47] 24 (0, 0)) (by (with_reducible repeat (first | refine blk_drewN ?_ _ | refine blk_drew ?_ | refine blk_alloc ?_ _)); refine blk_put (cs := #[.int .i64 t119, .int .i64 t120, .slice none 0 0]) ?_ 2 _ rfl; (with_reducible repeat (first | refine blk_drewN ?_ _ | refine blk_drew ?_ | refine blk_alloc ?_ _)); refine blk_put (cs := #[.int .i64 t119, .int .i64 0, .slice none 0 0]) ?_ 1 _ rfl; (with_reducible repeat (first | refine blk_drewN ?_ _ | refine blk_drew ?_ | refine blk_alloc ?_ _)); refine blk_put (cs := #[.int .i64 0, .int .i64 0, .slice none 0 0]) ?_ 0 _ rfl; (with_reducible repeat (first | refine blk_drewN ?_ _ | refine blk_drew ?_ | refine blk_alloc ?_ _)); exact BK125.out) hb); have n6_ := Aside0.mk (below_step (by repeat (first | (with_reducible first | exact HB.out | apply below_alloc | apply pw_below_drewN | apply below_drew1 | refine below_set ?_ GE107.out | refine below_set ?_ GE114.out | refine below_set ?_ GE125.out) | exact HB.out)) hb); clear HO_108002; clear HO_115002; clear HO123; clear BK107; clear BK114; clear BK125; clear HB; have HO_108002 := n0_; have HO_115002 := n1_; have HO123 := n2_; have BK107 := n3_; have BK114 := n4_; have BK125 := n5_; have HB := n6_; clear n0_ n1_ n2_ n3_ n4_ n5_ n6_; (try clear hb); (try clear hb2); (try clear hk); (try clear hi)))
                  go_meet
                  case rel => exact ⟨_, ((t124 != t106)), (by first | rfl | (simp; done) | (simp [*]; done)), H', ⟨by have := HJ4.out; first | omega | exact Nat.le_refl _⟩, ⟨by (with_reducible repeat (first | apply Kd.R_alloc | apply Kd.R_drewN | apply Kd.R_drew)); exact HO_108002.out⟩, ⟨by (with_reducible repeat (first | apply Kd.R_alloc | apply Kd.R_drewN | apply Kd.R_drew)); exact HO_115002.out⟩, ⟨by (with_reducible repeat (first | apply Kd.R_alloc | apply Kd.R_drewN | apply Kd.R_drew)); exact Kd.R_mono HO123.out (fun _ hk => ⟨hk.1.2, hk.2⟩)⟩, ⟨by (with_reducible repeat (first | refine blk_drewN ?_ _ | refine blk_drew ?_ | refine blk_alloc ?_ _)); exact BK107.out⟩, ⟨by (with_reducible repeat (first | refine blk_drewN ?_ _ | refine blk_drew ?_ | refine blk_alloc ?_ _)); exact BK114.out⟩, ⟨by (with_reducible repeat (first | refine blk_drewN ?_ _ | refine blk_drew ?_ | refine blk_alloc ?_ _)); exact BK125.out⟩, ⟨by repeat (first | (with_reducible first | exact HB.out | apply below_alloc | apply pw_below_drewN | apply below_drew1 | refine below_set ?_ GE107.out | refine below_set ?_ GE114.out | refine below_set ?_ GE125.out) | exact HB.out)⟩⟩
                · replace c49 := Bool.eq_false_iff.mpr c49
                  subst c49
                  have H1 : (laws_FnExactCutOfWord.j1 kj4 t116 true t108 t109 t117) = some r := by rw [if_neg (show ¬ (false = true) by decide)] at H; exact H
                  clear H
                  have H := H1
                  clear H1
                  have H' := Aside0.mk H
                  clear H
                  have hnb56 := NB125_107.out
                  have hnc56 := NB107_125.out
                  have hnb57 := NB125_114.out
                  have hnc57 := NB114_125.out
                  have hcz58_0 : w43.cell? ⟨gb125, 0, none⟩ = some (.int .i64 0) := (blk_cell BK125.out 0).trans rfl
                  have hcz58_1 : w43.cell? ⟨gb125, 1, none⟩ = some (.int .i64 0) := (blk_cell BK125.out 1).trans rfl
                  have hcz58_2 : w43.cell? ⟨gb125, 2, none⟩ = some (.slice none 0 0) := (blk_cell BK125.out 2).trans rfl
                  have hfz58_0 := blk_frozen BK125.out 0
                  have hfz58_1 := blk_frozen BK125.out 1
                  have hfz58_2 := blk_frozen BK125.out 2
                  have hnb59 := NB107_114.out
                  have hnc59 := NB114_107.out
                  have hcz60_0 : w43.cell? ⟨gb107, 0, none⟩ = some (.int .i64 t101) := (blk_cell BK107.out 0).trans rfl
                  have hcz60_1 : w43.cell? ⟨gb107, 1, none⟩ = some (.int .i64 t102) := (blk_cell BK107.out 1).trans rfl
                  have hcz60_2 : w43.cell? ⟨gb107, 2, none⟩ = some (.slice Ao9 t103.length co9) := (blk_cell BK107.out 2).trans rfl
                  have hfz60_0 := blk_frozen BK107.out 0
                  have hfz60_1 := blk_frozen BK107.out 1
                  have hfz60_2 := blk_frozen BK107.out 2
                  go_wp2_with (first | ((with_reducible refine gate_callee (f := 6) rfl ?_); refine goesL_ (some 51) rfl rfl Tryd.func6 (by kernel_rfl) rfl #[.agg #[.int .i64 t119, .int .i64 t120, .slice Ao47 t121.length co47], .agg #[.int .i64 t101, .int .i64 t102, .slice Ao9 t103.length co9]] rfl (by (try simp only [List.map_toArray, List.map_cons, List.map_nil]); first | done | rfl | (simp only [List.length_drop, List.length_take]; rfl)) ?_; (with_reducible refine (laws_eqCut.calls kj4 t119 t120 _ _ t121 t101 t102 _ _ t103 false _ ?side1 ?side2 ?side3 ?side4 A48.out).mono ?_); (case side1 => refine (Kd.R_reads' (e := 41) (base := w.heap.size) (ok := fun k_ => ((True ∧ some k_ ≠ (.slice Ao9 t103.length co9 : Value).ownBlock) ∧ some k_ ≠ (.slice Ao14 t110.length co14 : Value).ownBlock)) (n := t121.length) (c := co47) ?_).2.2; exact (by (with_reducible repeat (first | apply Kd.R_alloc | apply Kd.R_drewN | apply Kd.R_drew)); exact (Kd.R_mono (Kd.R_far (p := ⟨gb125, 2, none⟩) (Kd.R_far (p := ⟨gb125, 1, none⟩) (Kd.R_far (p := ⟨gb125, 0, none⟩) (Kd.R_types HO123.out BK125.out (by decide)) (fun _ hk => hk.2) (.int .i64 t119)) (fun _ hk => hk.2) (.int .i64 t120)) (fun _ hk => hk.2) (.slice Ao47 t121.length co47)) (fun _ h_ => h_.1)))); (case side2 => exact (Kd.R_reads' HO123.out).2.1); (case side3 => refine (Kd.R_reads' (e := 41) (base := w.heap.size) (ok := fun k_ => (some k_ ≠ (.slice Ao14 t110.length co14 : Value).ownBlock ∧ some k_ ≠ (.slice Ao47 t121.length co47 : Value).ownBlock)) (n := t103.length) (c := co9) ?_).2.2; exact (by (with_reducible repeat (first | apply Kd.R_alloc | apply Kd.R_drewN | apply Kd.R_drew)); exact (Kd.R_mono (Kd.R_far (p := ⟨gb125, 2, none⟩) (Kd.R_far (p := ⟨gb125, 1, none⟩) (Kd.R_far (p := ⟨gb125, 0, none⟩) (Kd.R_types HO_108002.out BK125.out (by decide)) (fun _ hk => hk.2) (.int .i64 t119)) (fun _ hk => hk.2) (.int .i64 t120)) (fun _ hk => hk.2) (.slice Ao47 t121.length co47)) (fun _ h_ => h_.1)))); (case side4 => exact (Kd.R_reads' HO_108002.out).2.1); rintro e w61 ⟨rfl, hb⟩; refine ⟨_, rfl, ?_⟩; have n0_ := Aside0.mk (Kd.R_below (by (with_reducible repeat (first | apply Kd.R_alloc | apply Kd.R_drewN | apply Kd.R_drew)); exact (Kd.R_mono (Kd.R_far (p := ⟨gb125, 2, none⟩) (Kd.R_far (p := ⟨gb125, 1, none⟩) (Kd.R_far (p := ⟨gb125, 0, none⟩) (Kd.R_types HO_108002.out BK125.out (by decide)) (fun _ hk => hk.2) (.int .i64 t119)) (fun _ hk => hk.2) (.int .i64 t120)) (fun _ hk => hk.2) (.slice Ao47 t121.length co47)) (fun _ h_ => h_.1))) hb); have n1_ := Aside0.mk (Kd.R_below (by (with_reducible repeat (first | apply Kd.R_alloc | apply Kd.R_drewN | apply Kd.R_drew)); exact (Kd.R_mono (Kd.R_far (p := ⟨gb125, 2, none⟩) (Kd.R_far (p := ⟨gb125, 1, none⟩) (Kd.R_far (p := ⟨gb125, 0, none⟩) (Kd.R_types HO_115002.out BK125.out (by decide)) (fun _ hk => hk.2) (.int .i64 t119)) (fun _ hk => hk.2) (.int .i64 t120)) (fun _ hk => hk.2) (.slice Ao47 t121.length co47)) (fun _ h_ => h_.1))) hb); have n2_ := Aside0.mk (Kd.R_below (by (with_reducible repeat (first | apply Kd.R_alloc | apply Kd.R_drewN | apply Kd.R_drew)); exact (Kd.R_mono (Kd.R_far (p := ⟨gb125, 2, none⟩) (Kd.R_far (p := ⟨gb125, 1, none⟩) (Kd.R_far (p := ⟨gb125, 0, none⟩) (Kd.R_types HO123.out BK125.out (by decide)) (fun _ hk => hk.2) (.int .i64 t119)) (fun _ hk => hk.2) (.int .i64 t120)) (fun _ hk => hk.2) (.slice Ao47 t121.length co47)) (fun _ h_ => h_.1))) hb); have n3_ := Aside0.mk (blk_below (g := gb107) (o := .cells #[.int .i64 t101, .int .i64 t102, .slice Ao9 t103.length co9] 24 (0, 0)) (by (with_reducible repeat (first | refine blk_drewN ?_ _ | refine blk_drew ?_ | refine blk_alloc ?_ _)); refine blk_far ?_ NB107_125.out _; (with_reducible repeat (first | refine blk_drewN ?_ _ | refine blk_drew ?_ | refine blk_alloc ?_ _)); refine blk_far ?_ NB107_125.out _; (with_reducible repeat (first | refine blk_drewN ?_ _ | refine blk_drew ?_ | refine blk_alloc ?_ _)); refine blk_far ?_ NB107_125.out _; (with_reducible repeat (first | refine blk_drewN ?_ _ | refine blk_drew ?_ | refine blk_alloc ?_ _)); exact BK107.out) hb); have n4_ := Aside0.mk (blk_below (g := gb114) (o := .cells #[.int .i64 t108, .int .i64 t109, .slice Ao14 t110.length co14] 24 (0, 0)) (by (with_reducible repeat (first | refine blk_drewN ?_ _ | refine blk_drew ?_ | refine blk_alloc ?_ _)); refine blk_far ?_ NB114_125.out _; (with_reducible repeat (first | refine blk_drewN ?_ _ | refine blk_drew ?_ | refine blk_alloc ?_ _)); refine blk_far ?_ NB114_125.out _; (with_reducible repeat (first | refine blk_drewN ?_ _ | refine blk_drew ?_ | refine blk_alloc ?_ _)); refine blk_far ?_ NB114_125.out _; (with_reducible repeat (first | refine blk_drewN ?_ _ | refine blk_drew ?_ | refine blk_alloc ?_ _)); exact BK114.out) hb); have n5_ := Aside0.mk (blk_below (g := gb125) (o := .cells #[.int .i64 t119, .int .i64 t120, .slice Ao47 t121.length co47] 24 (0, 0)) (by (with_reducible repeat (first | refine blk_drewN ?_ _ | refine blk_drew ?_ | refine blk_alloc ?_ _)); refine blk_put (cs := #[.int .i64 t119, .int .i64 t120, .slice none 0 0]) ?_ 2 _ rfl; (with_reducible repeat (first | refine blk_drewN ?_ _ | refine blk_drew ?_ | refine blk_alloc ?_ _)); refine blk_put (cs := #[.int .i64 t119, .int .i64 0, .slice none 0 0]) ?_ 1 _ rfl; (with_reducible repeat (first | refine blk_drewN ?_ _ | refine blk_drew ?_ | refine blk_alloc ?_ _)); refine blk_put (cs := #[.int .i64 0, .int .i64 0, .slice none 0 0]) ?_ 0 _ rfl; (with_reducible repeat (first | refine blk_drewN ?_ _ | refine blk_drew ?_ | refine blk_alloc ?_ _)); exact BK125.out) hb); have n6_ := Aside0.mk (below_step (by repeat (first | (with_reducible first | exact HB.out | apply below_alloc | apply pw_below_drewN | apply below_drew1 | refine below_set ?_ GE107.out | refine below_set ?_ GE114.out | refine below_set ?_ GE125.out) | exact HB.out)) hb); clear HO_108002; clear HO_115002; clear HO123; clear BK107; clear BK114; clear BK125; clear HB; have HO_108002 := n0_; have HO_115002 := n1_; have HO123 := n2_; have BK107 := n3_; have BK114 := n4_; have BK125 := n5_; have HB := n6_; clear n0_ n1_ n2_ n3_ n4_ n5_ n6_; (try clear hb); (try clear hb2); (try clear hk); (try clear hi)))
                  go_meet
                  case rel => exact ⟨_, (true), (by first | rfl | (simp; done) | (simp [*]; done)), H', ⟨by have := HJ4.out; first | omega | exact Nat.le_refl _⟩, ⟨by (with_reducible repeat (first | apply Kd.R_alloc | apply Kd.R_drewN | apply Kd.R_drew)); exact HO_108002.out⟩, ⟨by (with_reducible repeat (first | apply Kd.R_alloc | apply Kd.R_drewN | apply Kd.R_drew)); exact HO_115002.out⟩, ⟨by (with_reducible repeat (first | apply Kd.R_alloc | apply Kd.R_drewN | apply Kd.R_drew)); exact Kd.R_mono HO123.out (fun _ hk => ⟨hk.1.2, hk.2⟩)⟩, ⟨by (with_reducible repeat (first | refine blk_drewN ?_ _ | refine blk_drew ?_ | refine blk_alloc ?_ _)); exact BK107.out⟩, ⟨by (with_reducible repeat (first | refine blk_drewN ?_ _ | refine blk_drew ?_ | refine blk_alloc ?_ _)); exact BK114.out⟩, ⟨by (with_reducible repeat (first | refine blk_drewN ?_ _ | refine blk_drew ?_ | refine blk_alloc ?_ _)); exact BK125.out⟩, ⟨by repeat (first | (with_reducible first | exact HB.out | apply below_alloc | apply pw_below_drewN | apply below_drew1 | refine below_set ?_ GE107.out | refine below_set ?_ GE114.out | refine below_set ?_ GE125.out) | exact HB.out)⟩⟩
              case rest =>
                clear HC36
                try clear c1
                try clear c2
                try clear c2b0
                try clear c2b1
                try clear p2
                try clear c3
                try clear c4
                try clear c5
                try clear c6
                try clear c7
                try clear c8
                try clear c12
                try clear c16
                try clear c17
                try clear c21
                try clear c25
                try clear c28
                try clear c28b0
                try clear c29
                try clear c34
                try clear c34b0
                try clear c34b1
                try clear c37
                try clear c44
                try clear c45
                try clear c49
                try clear c50
                try clear c51
                try clear c53
                try clear c56
                try clear c57
                try clear c59
                try clear hcz13_0
                try clear hcz13_1
                try clear hcz13_2
                try clear hcz18_0
                try clear hcz18_1
                try clear hcz18_2
                try clear hcz19_0
                try clear hcz19_1
                try clear hcz19_2
                try clear hcz22_0
                try clear hcz22_1
                try clear hcz22_2
                try clear hcz23_0
                try clear hcz23_1
                try clear hcz23_2
                try clear hcz30_0
                try clear hcz30_1
                try clear hcz30_2
                try clear hcz32_0
                try clear hcz32_1
                try clear hcz32_2
                try clear hcz38_0
                try clear hcz38_1
                try clear hcz38_2
                try clear hcz40_0
                try clear hcz40_1
                try clear hcz40_2
                try clear hcz46_0
                try clear hcz46_1
                try clear hcz46_2
                try clear hcz52_0
                try clear hcz52_1
                try clear hcz52_2
                try clear hcz54_0
                try clear hcz54_1
                try clear hcz54_2
                try clear hcz58_0
                try clear hcz58_1
                try clear hcz58_2
                try clear hcz60_0
                try clear hcz60_1
                try clear hcz60_2
                try clear hcz8_0
                try clear hcz8_1
                try clear hcz8_2
                try clear hfz13_0
                try clear hfz13_1
                try clear hfz13_2
                try clear hfz18_0
                try clear hfz18_1
                try clear hfz18_2
                try clear hfz19_0
                try clear hfz19_1
                try clear hfz19_2
                try clear hfz22_0
                try clear hfz22_1
                try clear hfz22_2
                try clear hfz23_0
                try clear hfz23_1
                try clear hfz23_2
                try clear hfz30_0
                try clear hfz30_1
                try clear hfz30_2
                try clear hfz32_0
                try clear hfz32_1
                try clear hfz32_2
                try clear hfz38_0
                try clear hfz38_1
                try clear hfz38_2
                try clear hfz40_0
                try clear hfz40_1
                try clear hfz40_2
                try clear hfz46_0
                try clear hfz46_1
                try clear hfz46_2
                try clear hfz52_0
                try clear hfz52_1
                try clear hfz52_2
                try clear hfz54_0
                try clear hfz54_1
                try clear hfz54_2
                try clear hfz58_0
                try clear hfz58_1
                try clear hfz58_2
                try clear hfz60_0
                try clear hfz60_1
                try clear hfz60_2
                try clear hfz8_0
                try clear hfz8_1
                try clear hfz8_2
                try clear p2
                obtain ⟨kq, x57_35, rfl, HA, HJ35, HO_108002, HO_115002, HO_126002, BK107, BK114, BK125, HB⟩ := hcut
                have hl115002_35 := (Kd.R_reads' HO_115002.out).1
                rw [hl115002_35] at HO_115002
                (try simp only [hl115002_35])
                (try simp only [hl115002_35] at BK107)
                (try simp only [hl115002_35] at BK114)
                (try simp only [hl115002_35] at BK125)
                (try simp only [hl115002_35] at HO_108002)
                (try simp only [hl115002_35] at HO_126002)
                cases kq with
                | zero => exact absurd HA.out (by simp [laws_FnExactCutOfWord.j1])
                | succ kj35 =>
                  have H := HA.out
                  clear HA
                  simp only [laws_FnExactCutOfWord.j1] at H
                  by_cases c62 : x57_35 = true
                  · subst c62
                    have H1 : (some false) = some r := by rw [if_pos rfl] at H; exact H
                    clear H
                    have H := H1
                    clear H1
                    obtain rfl := Option.some.inj H
                    go_wp2
                    go_ret
                    exact ⟨by first | rfl | (simp [errW_none, errW_some] <;> rfl) | (simp [*, errW_none, errW_some] <;> rfl), by repeat (first | (with_reducible first | exact HB.out | apply below_alloc | apply pw_below_drewN | apply below_drew1 | refine below_set ?_ GE107.out | refine below_set ?_ GE114.out | refine below_set ?_ GE125.out) | exact HB.out)⟩
                  · replace c62 := Bool.eq_false_iff.mpr c62
                    subst c62
                    have H1 : ((laws_heldCut.f kj35 t108 t109 t117 1).bind fun t127 => (if t127 < 0 then (some false) else (if t127 = t116 then (some true) else (some false)))) = some r := by rw [if_neg (show ¬ (false = true) by decide)] at H; exact H
                    clear H
                    have H := H1
                    clear H1
                    replace H := Option.bind_eq_some_iff.mp H
                    obtain ⟨t127, A630, H⟩ := H
                    replace H : (if t127 < 0 then (some false) else (if t127 = t116 then (some true) else (some false))) = some r := H
                    have A63 := Aside0.mk A630
                    clear A630
                    by_cases c64 : t127 < 0
                    · rw [if_pos c64] at H
                      have c64b0 : decide (t127 < 0) = true := decide_eq_true c64
                      clear c64
                      obtain rfl := Option.some.inj H
                      have hnb65 := NB114_107.out
                      have hnc65 := NB107_114.out
                      have hnb66 := NB114_125.out
                      have hnc66 := NB125_114.out
                      have hcz67_0 : wc.cell? ⟨gb114, 0, none⟩ = some (.int .i64 t108) := (blk_cell BK114.out 0).trans rfl
                      have hcz67_1 : wc.cell? ⟨gb114, 1, none⟩ = some (.int .i64 t109) := (blk_cell BK114.out 1).trans rfl
                      have hcz67_2 : wc.cell? ⟨gb114, 2, none⟩ = some (.slice Ao14 t117.length co14) := (blk_cell BK114.out 2).trans rfl
                      have hfz67_0 := blk_frozen BK114.out 0
                      have hfz67_1 := blk_frozen BK114.out 1
                      have hfz67_2 := blk_frozen BK114.out 2
                      go_wp2_with (first | ((with_reducible refine gate_callee (f := 8) rfl ?_); refine goesL_ (some 60) rfl rfl Tryd.func8 (by kernel_rfl) rfl #[.agg #[.int .i64 t108, .int .i64 t109, .slice Ao14 t117.length co14], .int .i64 1] rfl (by (try simp only [List.map_toArray, List.map_cons, List.map_nil]); first | done | rfl | (simp only [List.length_drop, List.length_take]; rfl)) ?_; (with_reducible refine (laws_heldCut.calls kj35 t108 t109 _ _ t117 1 t127 _ ?side1 ?side2 A63.out).mono ?_); (case side1 => repeat (first | exact (Kd.R_reads' HO_115002.out).2.2 | (with_reducible refine Kd.C_alloc ?_ _) | (with_reducible refine Kd.C_drewN ?_ _) | (with_reducible refine Kd.C_drew ?_))); (case side2 => exact (Kd.R_reads' HO_115002.out).2.1); rintro e w68 ⟨rfl, hb⟩; refine ⟨_, rfl, ?_⟩; have n0_ := Aside0.mk (Kd.R_below (by (with_reducible repeat (first | apply Kd.R_alloc | apply Kd.R_drewN | apply Kd.R_drew)); exact HO_108002.out) hb); have n1_ := Aside0.mk (Kd.R_below (by (with_reducible repeat (first | apply Kd.R_alloc | apply Kd.R_drewN | apply Kd.R_drew)); exact HO_115002.out) hb); have n2_ := Aside0.mk (Kd.R_below (by (with_reducible repeat (first | apply Kd.R_alloc | apply Kd.R_drewN | apply Kd.R_drew)); exact HO_126002.out) hb); have n3_ := Aside0.mk (blk_below (g := gb107) (o := .cells #[.int .i64 t101, .int .i64 t102, .slice Ao9 t103.length co9] 24 (0, 0)) (by (with_reducible repeat (first | refine blk_drewN ?_ _ | refine blk_drew ?_ | refine blk_alloc ?_ _)); exact BK107.out) hb); have n4_ := Aside0.mk (blk_below (g := gb114) (o := .cells #[.int .i64 t108, .int .i64 t109, .slice Ao14 t117.length co14] 24 (0, 0)) (by (with_reducible repeat (first | refine blk_drewN ?_ _ | refine blk_drew ?_ | refine blk_alloc ?_ _)); exact BK114.out) hb); have n5_ := Aside0.mk (blk_below (g := gb125) (o := .cells #[.int .i64 t119, .int .i64 t120, .slice Ao47 t121.length co47] 24 (0, 0)) (by (with_reducible repeat (first | refine blk_drewN ?_ _ | refine blk_drew ?_ | refine blk_alloc ?_ _)); exact BK125.out) hb); have n6_ := Aside0.mk (below_step (by repeat (first | (with_reducible first | exact HB.out | apply below_alloc | apply pw_below_drewN | apply below_drew1 | refine below_set ?_ GE107.out | refine below_set ?_ GE114.out | refine below_set ?_ GE125.out) | exact HB.out)) hb); clear HO_108002; clear HO_115002; clear HO_126002; clear BK107; clear BK114; clear BK125; clear HB; have HO_108002 := n0_; have HO_115002 := n1_; have HO_126002 := n2_; have BK107 := n3_; have BK114 := n4_; have BK125 := n5_; have HB := n6_; clear n0_ n1_ n2_ n3_ n4_ n5_ n6_; (try clear hb); (try clear hb2); (try clear hk); (try clear hi)))
                      go_ret
                      exact ⟨by first | rfl | (simp [errW_none, errW_some] <;> rfl) | (simp [*, errW_none, errW_some] <;> rfl), by repeat (first | (with_reducible first | exact HB.out | apply below_alloc | apply pw_below_drewN | apply below_drew1 | refine below_set ?_ GE107.out | refine below_set ?_ GE114.out | refine below_set ?_ GE125.out) | exact HB.out)⟩
                    · rw [if_neg c64] at H
                      have c64b0 : decide (t127 < 0) = false := decide_eq_false c64
                      clear c64
                      by_cases c69 : t127 = t116
                      · rw [if_pos c69] at H
                        have c69b0 : (t127 == t116) = true := beq_iff_eq.mpr c69
                        have c69b1 : (t127 != t116) = false := bne_eq_false_iff_eq.mpr c69
                        clear c69
                        obtain rfl := Option.some.inj H
                        have hnb70 := NB114_107.out
                        have hnc70 := NB107_114.out
                        have hnb71 := NB114_125.out
                        have hnc71 := NB125_114.out
                        have hcz72_0 : wc.cell? ⟨gb114, 0, none⟩ = some (.int .i64 t108) := (blk_cell BK114.out 0).trans rfl
                        have hcz72_1 : wc.cell? ⟨gb114, 1, none⟩ = some (.int .i64 t109) := (blk_cell BK114.out 1).trans rfl
                        have hcz72_2 : wc.cell? ⟨gb114, 2, none⟩ = some (.slice Ao14 t117.length co14) := (blk_cell BK114.out 2).trans rfl
                        have hfz72_0 := blk_frozen BK114.out 0
                        have hfz72_1 := blk_frozen BK114.out 1
                        have hfz72_2 := blk_frozen BK114.out 2
                        go_wp2_with (first | ((with_reducible refine gate_callee (f := 8) rfl ?_); refine goesL_ (some 60) rfl rfl Tryd.func8 (by kernel_rfl) rfl #[.agg #[.int .i64 t108, .int .i64 t109, .slice Ao14 t117.length co14], .int .i64 1] rfl (by (try simp only [List.map_toArray, List.map_cons, List.map_nil]); first | done | rfl | (simp only [List.length_drop, List.length_take]; rfl)) ?_; (with_reducible refine (laws_heldCut.calls kj35 t108 t109 _ _ t117 1 t127 _ ?side1 ?side2 A63.out).mono ?_); (case side1 => repeat (first | exact (Kd.R_reads' HO_115002.out).2.2 | (with_reducible refine Kd.C_alloc ?_ _) | (with_reducible refine Kd.C_drewN ?_ _) | (with_reducible refine Kd.C_drew ?_))); (case side2 => exact (Kd.R_reads' HO_115002.out).2.1); rintro e w73 ⟨rfl, hb⟩; refine ⟨_, rfl, ?_⟩; have n0_ := Aside0.mk (Kd.R_below (by (with_reducible repeat (first | apply Kd.R_alloc | apply Kd.R_drewN | apply Kd.R_drew)); exact HO_108002.out) hb); have n1_ := Aside0.mk (Kd.R_below (by (with_reducible repeat (first | apply Kd.R_alloc | apply Kd.R_drewN | apply Kd.R_drew)); exact HO_115002.out) hb); have n2_ := Aside0.mk (Kd.R_below (by (with_reducible repeat (first | apply Kd.R_alloc | apply Kd.R_drewN | apply Kd.R_drew)); exact HO_126002.out) hb); have n3_ := Aside0.mk (blk_below (g := gb107) (o := .cells #[.int .i64 t101, .int .i64 t102, .slice Ao9 t103.length co9] 24 (0, 0)) (by (with_reducible repeat (first | refine blk_drewN ?_ _ | refine blk_drew ?_ | refine blk_alloc ?_ _)); exact BK107.out) hb); have n4_ := Aside0.mk (blk_below (g := gb114) (o := .cells #[.int .i64 t108, .int .i64 t109, .slice Ao14 t117.length co14] 24 (0, 0)) (by (with_reducible repeat (first | refine blk_drewN ?_ _ | refine blk_drew ?_ | refine blk_alloc ?_ _)); exact BK114.out) hb); have n5_ := Aside0.mk (blk_below (g := gb125) (o := .cells #[.int .i64 t119, .int .i64 t120, .slice Ao47 t121.length co47] 24 (0, 0)) (by (with_reducible repeat (first | refine blk_drewN ?_ _ | refine blk_drew ?_ | refine blk_alloc ?_ _)); exact BK125.out) hb); have n6_ := Aside0.mk (below_step (by repeat (first | (with_reducible first | exact HB.out | apply below_alloc | apply pw_below_drewN | apply below_drew1 | refine below_set ?_ GE107.out | refine below_set ?_ GE114.out | refine below_set ?_ GE125.out) | exact HB.out)) hb); clear HO_108002; clear HO_115002; clear HO_126002; clear BK107; clear BK114; clear BK125; clear HB; have HO_108002 := n0_; have HO_115002 := n1_; have HO_126002 := n2_; have BK107 := n3_; have BK114 := n4_; have BK125 := n5_; have HB := n6_; clear n0_ n1_ n2_ n3_ n4_ n5_ n6_; (try clear hb); (try clear hb2); (try clear hk); (try clear hi)))
                        go_ret
                        exact ⟨by first | rfl | (simp [errW_none, errW_some] <;> rfl) | (simp [*, errW_none, errW_some] <;> rfl), by repeat (first | (with_reducible first | exact HB.out | apply below_alloc | apply pw_below_drewN | apply below_drew1 | refine below_set ?_ GE107.out | refine below_set ?_ GE114.out | refine below_set ?_ GE125.out) | exact HB.out)⟩
                      · rw [if_neg c69] at H
                        have c69b0 : (t127 == t116) = false := beq_eq_false_iff_ne.mpr c69
                        have c69b1 : (t127 != t116) = true := bne_iff_ne.mpr c69
                        obtain rfl := Option.some.inj H
                        have hnb74 := NB114_107.out
                        have hnc74 := NB107_114.out
                        have hnb75 := NB114_125.out
                        have hnc75 := NB125_114.out
                        have hcz76_0 : wc.cell? ⟨gb114, 0, none⟩ = some (.int .i64 t108) := (blk_cell BK114.out 0).trans rfl
                        have hcz76_1 : wc.cell? ⟨gb114, 1, none⟩ = some (.int .i64 t109) := (blk_cell BK114.out 1).trans rfl
                        have hcz76_2 : wc.cell? ⟨gb114, 2, none⟩ = some (.slice Ao14 t117.length co14) := (blk_cell BK114.out 2).trans rfl
                        have hfz76_0 := blk_frozen BK114.out 0
                        have hfz76_1 := blk_frozen BK114.out 1
                        have hfz76_2 := blk_frozen BK114.out 2
                        go_wp2_with (first | ((with_reducible refine gate_callee (f := 8) rfl ?_); refine goesL_ (some 60) rfl rfl Tryd.func8 (by kernel_rfl) rfl #[.agg #[.int .i64 t108, .int .i64 t109, .slice Ao14 t117.length co14], .int .i64 1] rfl (by (try simp only [List.map_toArray, List.map_cons, List.map_nil]); first | done | rfl | (simp only [List.length_drop, List.length_take]; rfl)) ?_; (with_reducible refine (laws_heldCut.calls kj35 t108 t109 _ _ t117 1 t127 _ ?side1 ?side2 A63.out).mono ?_); (case side1 => repeat (first | exact (Kd.R_reads' HO_115002.out).2.2 | (with_reducible refine Kd.C_alloc ?_ _) | (with_reducible refine Kd.C_drewN ?_ _) | (with_reducible refine Kd.C_drew ?_))); (case side2 => exact (Kd.R_reads' HO_115002.out).2.1); rintro e w77 ⟨rfl, hb⟩; refine ⟨_, rfl, ?_⟩; have n0_ := Aside0.mk (Kd.R_below (by (with_reducible repeat (first | apply Kd.R_alloc | apply Kd.R_drewN | apply Kd.R_drew)); exact HO_108002.out) hb); have n1_ := Aside0.mk (Kd.R_below (by (with_reducible repeat (first | apply Kd.R_alloc | apply Kd.R_drewN | apply Kd.R_drew)); exact HO_115002.out) hb); have n2_ := Aside0.mk (Kd.R_below (by (with_reducible repeat (first | apply Kd.R_alloc | apply Kd.R_drewN | apply Kd.R_drew)); exact HO_126002.out) hb); have n3_ := Aside0.mk (blk_below (g := gb107) (o := .cells #[.int .i64 t101, .int .i64 t102, .slice Ao9 t103.length co9] 24 (0, 0)) (by (with_reducible repeat (first | refine blk_drewN ?_ _ | refine blk_drew ?_ | refine blk_alloc ?_ _)); exact BK107.out) hb); have n4_ := Aside0.mk (blk_below (g := gb114) (o := .cells #[.int .i64 t108, .int .i64 t109, .slice Ao14 t117.length co14] 24 (0, 0)) (by (with_reducible repeat (first | refine blk_drewN ?_ _ | refine blk_drew ?_ | refine blk_alloc ?_ _)); exact BK114.out) hb); have n5_ := Aside0.mk (blk_below (g := gb125) (o := .cells #[.int .i64 t119, .int .i64 t120, .slice Ao47 t121.length co47] 24 (0, 0)) (by (with_reducible repeat (first | refine blk_drewN ?_ _ | refine blk_drew ?_ | refine blk_alloc ?_ _)); exact BK125.out) hb); have n6_ := Aside0.mk (below_step (by repeat (first | (with_reducible first | exact HB.out | apply below_alloc | apply pw_below_drewN | apply below_drew1 | refine below_set ?_ GE107.out | refine below_set ?_ GE114.out | refine below_set ?_ GE125.out) | exact HB.out)) hb); clear HO_108002; clear HO_115002; clear HO_126002; clear BK107; clear BK114; clear BK125; clear HB; have HO_108002 := n0_; have HO_115002 := n1_; have HO_126002 := n2_; have BK107 := n3_; have BK114 := n4_; have BK125 := n5_; have HB := n6_; clear n0_ n1_ n2_ n3_ n4_ n5_ n6_; (try clear hb); (try clear hb2); (try clear hk); (try clear hi)))
                        go_ret
                        exact ⟨by first | rfl | (simp [errW_none, errW_some] <;> rfl) | (simp [*, errW_none, errW_some] <;> rfl), by repeat (first | (with_reducible first | exact HB.out | apply below_alloc | apply pw_below_drewN | apply below_drew1 | refine below_set ?_ GE107.out | refine below_set ?_ GE114.out | refine below_set ?_ GE125.out) | exact HB.out)⟩
            · rw [if_neg c34] at H
              have c34b0 : (t118 == t116) = false := beq_eq_false_iff_ne.mpr c34
              have c34b1 : (t118 != t116) = true := bne_iff_ne.mpr c34
              obtain rfl := Option.some.inj H
              have hnb78 := NB114_107.out
              have hnc78 := NB107_114.out
              have hcz79_0 : wc.cell? ⟨gb114, 0, none⟩ = some (.int .i64 t108) := (blk_cell BK114.out 0).trans rfl
              have hcz79_1 : wc.cell? ⟨gb114, 1, none⟩ = some (.int .i64 t109) := (blk_cell BK114.out 1).trans rfl
              have hcz79_2 : wc.cell? ⟨gb114, 2, none⟩ = some (.slice Ao14 t110.length co14) := (blk_cell BK114.out 2).trans rfl
              have hfz79_0 := blk_frozen BK114.out 0
              have hfz79_1 := blk_frozen BK114.out 1
              have hfz79_2 := blk_frozen BK114.out 2
              go_wp2_with (first | ((with_reducible refine gate_callee (f := 7) rfl ?_); refine goesL_ (some 35) rfl rfl Tryd.func7 (by kernel_rfl) rfl #[.agg #[.int .i64 t108, .int .i64 t109, .slice Ao14 t110.length co14], .int .i64 1] rfl (by (try simp only [List.map_toArray, List.map_cons, List.map_nil]); first | done | rfl | (simp only [List.length_drop, List.length_take]; rfl)) ?_; (with_reducible refine (laws_markCut.calls kj4 t108 t109 (fun k_ => some k_ = (.slice Ao14 t110.length co14 : Value).ownBlock) (.slice Ao14 t110.length co14) t110 1 t116 t117 w _ ?side1 ?side2 A26.out).mono ?_); (case side1 => repeat (first | (with_reducible first | exact HB.out | apply below_alloc | apply pw_below_drewN | apply below_drew1 | refine below_set ?_ GE107.out | refine below_set ?_ GE114.out) | exact HB.out)); (case side2 => exact Kd.R_tight rfl HO_115002.out); rintro e w80 ⟨rfl, hy0, hb, hkp⟩; refine ⟨_, rfl, ?_⟩; have n0_ := Aside0.mk (Kd.R_mono (ok' := fun k_ => some k_ ≠ (.slice Ao14 t110.length co14 : Value).ownBlock) (Kd.R_keptB (HO_108002.out) hkp (fun k_ hk_ hs_ => (hk_) hs_)) (fun k_ hk_ => hk_.1)); have n1_ := Aside0.mk (Kd.R_reok rfl hy0 (fun k_ e_ => HO_115002.out.1 k_ e_)); have n2_ := Aside0.mk (blk_kept (by (with_reducible repeat (first | refine blk_drewN ?_ _ | refine blk_drew ?_ | refine blk_alloc ?_ _)); exact BK107.out) hkp (fun hs_ => (fun e_ => (Kd.R_ne HO_115002.out BK107.out (by decide)) e_) hs_)); have n3_ := Aside0.mk (blk_kept (by (with_reducible repeat (first | refine blk_drewN ?_ _ | refine blk_drew ?_ | refine blk_alloc ?_ _)); exact BK114.out) hkp (fun hs_ => (fun e_ => (Kd.R_ne HO_115002.out BK114.out (by decide)) e_) hs_)); have n4_ := Aside0.mk (hb); clear HO_108002; clear HO_115002; clear BK107; clear BK114; clear HB; have HO_108002 := n0_; have HO_115002 := n1_; have BK107 := n2_; have BK114 := n3_; have HB := n4_; clear n0_ n1_ n2_ n3_ n4_; (try clear hb); (try clear hkp); (try clear hy0); have hcz81_0 : w80.cell? ⟨gb114, 0, none⟩ = some (.int .i64 t108) := (blk_cell BK114.out 0).trans rfl; have hcz81_1 : w80.cell? ⟨gb114, 1, none⟩ = some (.int .i64 t109) := (blk_cell BK114.out 1).trans rfl; have hcz81_2 : w80.cell? ⟨gb114, 2, none⟩ = some (.slice Ao14 t110.length co14) := (blk_cell BK114.out 2).trans rfl; have hfz81_0 := blk_frozen BK114.out 0; have hfz81_1 := blk_frozen BK114.out 1; have hfz81_2 := blk_frozen BK114.out 2) | ((with_reducible refine gate_callee (f := 8) rfl ?_); refine goesL_ (some 38) rfl rfl Tryd.func8 (by kernel_rfl) rfl #[.agg #[.int .i64 t108, .int .i64 t109, .slice Ao14 t117.length co14], .int .i64 1] rfl (by (try simp only [List.map_toArray, List.map_cons, List.map_nil]); first | done | (rw [show t117.length = t110.length from (Kd.R_reads' HO_115002.out).1.symm] <;> rfl) | rfl | (simp only [List.length_drop, List.length_take]; rfl)) ?_; (with_reducible refine (laws_heldCut.calls kj4 t108 t109 _ _ t117 1 t118 _ ?side1 ?side2 A27.out).mono ?_); (case side1 => repeat (first | exact (Kd.R_reads' HO_115002.out).2.2 | (with_reducible refine Kd.C_alloc ?_ _) | (with_reducible refine Kd.C_drewN ?_ _) | (with_reducible refine Kd.C_drew ?_))); (case side2 => rw [show t117.length = t110.length from (Kd.R_reads' HO_115002.out).1.symm]; exact (Kd.R_reads' HO_115002.out).2.1); rintro e w82 ⟨rfl, hb⟩; refine ⟨_, rfl, ?_⟩; have n0_ := Aside0.mk (Kd.R_below (by (with_reducible repeat (first | apply Kd.R_alloc | apply Kd.R_drewN | apply Kd.R_drew)); exact HO_108002.out) hb); have n1_ := Aside0.mk (Kd.R_below (by (with_reducible repeat (first | apply Kd.R_alloc | apply Kd.R_drewN | apply Kd.R_drew)); exact HO_115002.out) hb); have n2_ := Aside0.mk (blk_below (g := gb107) (o := .cells #[.int .i64 t101, .int .i64 t102, .slice Ao9 t103.length co9] 24 (0, 0)) (by (with_reducible repeat (first | refine blk_drewN ?_ _ | refine blk_drew ?_ | refine blk_alloc ?_ _)); exact BK107.out) hb); have n3_ := Aside0.mk (blk_below (g := gb114) (o := .cells #[.int .i64 t108, .int .i64 t109, .slice Ao14 t110.length co14] 24 (0, 0)) (by (with_reducible repeat (first | refine blk_drewN ?_ _ | refine blk_drew ?_ | refine blk_alloc ?_ _)); exact BK114.out) hb); have n4_ := Aside0.mk (below_step (by repeat (first | (with_reducible first | exact HB.out | apply below_alloc | apply pw_below_drewN | apply below_drew1 | refine below_set ?_ GE107.out | refine below_set ?_ GE114.out) | exact HB.out)) hb); clear HO_108002; clear HO_115002; clear BK107; clear BK114; clear HB; have HO_108002 := n0_; have HO_115002 := n1_; have BK107 := n2_; have BK114 := n3_; have HB := n4_; clear n0_ n1_ n2_ n3_ n4_; (try clear hb); (try clear hb2); (try clear hk); (try clear hi)))
              go_ret
              exact ⟨by first | rfl | (simp [errW_none, errW_some] <;> rfl) | (simp [*, errW_none, errW_some] <;> rfl), by repeat (first | (with_reducible first | exact HB.out | apply below_alloc | apply pw_below_drewN | apply below_drew1 | refine below_set ?_ GE107.out | refine below_set ?_ GE114.out) | exact HB.out)⟩

/-- THE ONE PURE STATEMENT of laws_FnExactCutOfWord: yours. -/
def laws_FnExactCutOfWord.Pure : Prop := ∀ (a0 : ByteArray), a0.size ≤ 140737488351232 → ∃ k, laws_FnExactCutOfWord.f k a0 = some true
theorem laws_FnExactCutOfWord.walk (P : laws_FnExactCutOfWord.Pure) (a0 : ByteArray) (w : World) (w0 : a0.size ≤ 140737488351232) :
    Calls Tryd.prog 3 #[.string a0] w fun e w' => e = .returned (.bool true) ∧ Below w.heap.size w w' := by
  obtain ⟨k, h⟩ := P a0 w0
  refine (laws_FnExactCutOfWord.calls k a0 true w h).mono ?_
  rintro e w' ⟨rfl, hd⟩
  exact ⟨rfl, hd⟩

end Go.Proofs.YtomfebfjkcdjpabDoor.P

namespace Go.Proofs.YtomfebfjkcdjpabDoor.Pure
set_option linter.unusedVariables false
set_option linter.unusedSimpArgs false
open Go.RowKit Go.Proofs.YtomfebfjkcdjpabDoor.P Go.Proofs.YtomfebfjkcdjpabDoorW.PrintWords Go.Proofs.YtomfebfjkcdjpabDoorW.PrintLast Go.Proofs.YtomfebfjkcdjpabDoorW.PrintMore Go.Proofs.YtomfebfjkcdjpabDoor.Aid Go.Proofs.YtomfebfjkcdjpabDoor.T
/-- the cut of squares, if they are one -/
def cutV (W H : Int) (l : List Sq) : Int × Int × List Sq × Bool := if isCutB W H (srt l) = true then (W, H, srt l, true) else (0, 0, [], false)
theorem cutOf_f (W H : Int) (l : List Sq) (h0 : 0 < l.length) (h1 : l.length ≤ 1000000) (hk : l.all okQ = true) : impl_cutOf.f W H l = some (cutV W H l) := by
  unfold impl_cutOf.f cutV
  rw [if_pos ⟨h0, h1, hk⟩]
  split <;> rfl
theorem cutV_len (W H : Int) (l : List Sq) : (cutV W H l).2.2.1.length ≤ 30 := by
  unfold cutV
  by_cases h : isCutB W H (srt l) = true
  · rw [if_pos h]
    rw [isCutB_good] at h
    exact (goodB_iff.1 h).len
  · rw [if_neg h]; simp
theorem cuMake_ev (W H : Int) (l : List Sq) (h1 : l.length ≤ 500000) : Ev (fun k => spec_cuMake.f k W H l) (cutV W H l) := by
  unfold spec_cuMake.f
  by_cases hl : (l.length : Int) > 30
  · refine ev_pos hl (ev_some ?_)
    unfold cutV
    rw [if_neg]
    intro h
    rw [isCutB_good] at h
    have := (goodB_iff.1 h).len
    rw [(srt_perm l).length_eq] at this
    omega
  · refine ev_neg hl (ev_bind (a := srt l) ⟨0, fun k _ => if_pos h1⟩ (ev_bind (cuGood_ev W H (srt l) (by rw [(srt_perm l).length_eq]; omega)) ?_))
    unfold cutV
    rw [isCutB_good]
    by_cases h : goodB W H (srt l) = true
    · simp only [if_pos h]; exact ev_some rfl
    · simp only [if_neg h]; exact ev_some rfl
end Go.Proofs.YtomfebfjkcdjpabDoor.Pure

namespace Go.Proofs.YtomfebfjkcdjpabDoor.Pure
set_option linter.unusedVariables false
set_option linter.unusedSimpArgs false
open Go.RowKit Go.Proofs.YtomfebfjkcdjpabDoor.P Go.Proofs.YtomfebfjkcdjpabDoorW.PrintWords Go.Proofs.YtomfebfjkcdjpabDoorW.PrintLast Go.Proofs.YtomfebfjkcdjpabDoorW.PrintMore Go.Proofs.YtomfebfjkcdjpabDoor.Aid Go.Proofs.YtomfebfjkcdjpabDoor.T
def buC (c : Int) : Bool := decide (c = 98) || decide (c = 117)
theorem buAll_bytes (s : ByteArray) : buAll s = (bytesOf s).all buC := by
  unfold buAll bytesOf
  rw [List.all_map]
  congr 1
  funext b
  have e : ∀ x : UInt8, (b == x) = decide ((b.toNat : Int) = (x.toNat : Int)) := fun x => by
    by_cases c : b = x
    · subst c; simp
    · rw [beq_eq_false_iff_ne.2 c, decide_eq_false]
      intro h
      exact c (UInt8.toNat_inj.1 (by omega))
  rw [e, e]
  rfl
theorem isWord_f (s : ByteArray) : impl_isWord.f s = some (decide (s.size ≤ 20) && buAll s) := rfl
theorem bytes_drop (s : ByteArray) (i : Nat) (hi : i < s.size) : (bytesOf s).drop i = bt s (i : Int) :: (bytesOf s).drop (i + 1) := by
  have hl := bytesOf_length s
  have hb := rd_bytesOf s (i : Int)
  have hg : (bytesOf s).getD i 0 = bt s (i : Int) := by rw [← hb]; unfold rd; rw [Int.toNat_natCast]
  rw [List.drop_eq_getElem_cons (by omega), ← hg, List.getD_eq_getElem?_getD, List.getElem?_eq_getElem (by omega)]
  rfl
theorem raWord_l (s : ByteArray) (hs : s.size ≤ 1000000) : ∀ (d i : Nat), i + d = s.size → Ev (fun k => spec_raWord.l0 k s (i : Int)) (((bytesOf s).drop i).all buC)
  | 0, i, hd => by
    refine Ev.step (fun _ => spec_raWord.l0.eq_2 ..) (ev_neg (by omega) (ev_some ?_))
    rw [List.drop_eq_nil_of_le (by rw [bytesOf_length]; omega)]; rfl
  | d + 1, i, hd => by
    have ih := raWord_l s hs d (i + 1) (by omega)
    rw [bytes_drop s i (by omega), List.all_cons]
    refine Ev.step (fun _ => spec_raWord.l0.eq_2 ..) (ev_pos (by omega) (ev_pos (by omega) ?_))
    rw [w64 (e := (i : Int) + 1) (by omega) (by omega)]
    by_cases c1 : bt s (i : Int) = 98
    · refine ev_pos c1 ?_
      have : buC (bt s (i : Int)) = true := by unfold buC; rw [decide_eq_true c1]; rfl
      rw [this, Bool.true_and]
      exact ih
    · refine ev_neg c1 ?_
      by_cases c2 : bt s (i : Int) = 117
      · refine ev_pos c2 ?_
        have : buC (bt s (i : Int)) = true := by unfold buC; rw [decide_eq_true c2]; simp
        rw [this, Bool.true_and]
        exact ih
      · refine ev_neg c2 (ev_some ?_)
        have : buC (bt s (i : Int)) = false := by unfold buC; rw [decide_eq_false c1, decide_eq_false c2]; rfl
        rw [this]
        rfl
theorem raWord_ev (s : ByteArray) : Ev (fun k => spec_raWord.f k s) (decide (s.size ≤ 20) && buAll s) := by
  by_cases c : s.size ≤ 20
  · rw [decide_eq_true c, Bool.true_and, buAll_bytes]
    have := raWord_l s (by omega) s.size 0 (by omega)
    rw [List.drop_zero] at this
    exact ev_neg (by omega) this
  · rw [decide_eq_false c]
    exact ev_pos (by omega) (ev_some rfl)
theorem raRatio_l (s : ByteArray) (hs : s.size ≤ 1000000) : ∀ (d i : Nat) (w h : Int) (o : List Sq), i + d = s.size → Ev (fun k => spec_raRatio.l0 k s w h (i : Int)) ((putsL ((bytesOf s).drop i) w h o).1, (putsL ((bytesOf s).drop i) w h o).2.1)
  | 0, i, w, h, o, hd => by
    rw [List.drop_eq_nil_of_le (by rw [bytesOf_length]; omega)]
    exact Ev.step (fun _ => spec_raRatio.l0.eq_2 ..) (ev_neg (by omega) (ev_some rfl))
  | d + 1, i, w, h, o, hd => by
    rw [bytes_drop s i (by omega)]
    refine Ev.step (fun _ => spec_raRatio.l0.eq_2 ..) (ev_pos (by omega) (ev_pos (by omega) ?_))
    rw [w64 (e := (i : Int) + 1) (by omega) (by omega)]
    simp only [putsL]
    by_cases c : bt s (i : Int) = 98
    · rw [if_pos c]
      exact ev_pos c (raRatio_l s hs d (i + 1) _ _ _ (by omega))
    · rw [if_neg c]
      exact ev_neg c (raRatio_l s hs d (i + 1) _ _ _ (by omega))
theorem raRatio_ev (s : ByteArray) (hs : s.size ≤ 1000000) : Ev (fun k => spec_raRatio.f k s) ((putsL (bytesOf s) 1 1 [⟨0, 0, 1⟩]).1, (putsL (bytesOf s) 1 1 [⟨0, 0, 1⟩]).2.1) := by
  have := raRatio_l s hs s.size 0 1 1 [⟨0, 0, 1⟩] (by omega)
  rw [List.drop_zero] at this
  exact this
theorem puts_f (s : ByteArray) (hs : s.size ≤ 1000000000) : impl_puts.f s = some (putsL (bytesOf s) 1 1 [⟨0, 0, 1⟩]) := by
  unfold impl_puts.f
  rw [if_pos hs]
end Go.Proofs.YtomfebfjkcdjpabDoor.Pure

namespace Go.Proofs.YtomfebfjkcdjpabDoor.Pure
set_option linter.unusedVariables false
set_option linter.unusedSimpArgs false
open Go.RowKit Go.Proofs.YtomfebfjkcdjpabDoor.P Go.Proofs.YtomfebfjkcdjpabDoorW.PrintWords Go.Proofs.YtomfebfjkcdjpabDoorW.PrintLast Go.Proofs.YtomfebfjkcdjpabDoorW.PrintMore Go.Proofs.YtomfebfjkcdjpabDoor.Aid Go.Proofs.YtomfebfjkcdjpabDoor.T
theorem raSquares_l (s : ByteArray) (hs : s.size ≤ 1000000) : ∀ (d i : Nat) (w h : Int) (o : List Sq), i + d = s.size → o.length ≤ i + 1 → Ev (fun k => spec_raSquares.l0 k s o w h (i : Int)) (putsL ((bytesOf s).drop i) w h o).2.2
  | 0, i, w, h, o, hd, ho => by
    rw [List.drop_eq_nil_of_le (by rw [bytesOf_length]; omega)]
    exact Ev.step (fun _ => spec_raSquares.l0.eq_2 ..) (ev_neg (by omega) (ev_some rfl))
  | d + 1, i, w, h, o, hd, ho => by
    rw [bytes_drop s i (by omega)]
    refine Ev.step (fun _ => spec_raSquares.l0.eq_2 ..) (ev_pos (by omega) (ev_pos (by omega) ?_))
    rw [w64 (e := (i : Int) + 1) (by omega) (by omega)]
    simp only [putsL]
    by_cases c : bt s (i : Int) = 98
    · rw [if_pos c]
      exact ev_pos c (ev_pos (by omega) (raSquares_l s hs d (i + 1) _ _ _ (by omega) (by simp; omega)))
    · rw [if_neg c]
      exact ev_neg c (ev_pos (by omega) (raSquares_l s hs d (i + 1) _ _ _ (by omega) (by simp; omega)))
theorem puts_pos : ∀ (l : List Int) (w h m : Int) (o : List Sq), 1 ≤ w → w ≤ m → 1 ≤ h → h ≤ m → 2 ^ l.length * m ≤ 2 ^ 40 → (∀ q ∈ o, 1 ≤ q.f2) → ∀ q ∈ (putsL l w h o).2.2, 1 ≤ q.f2
  | [], w, h, m, o, _, _, _, _, _, ho => ho
  | c :: l, w, h, m, o, h1, h2, h3, h4, h5, ho => by
    rw [List.length_cons, Int.pow_succ, Int.mul_assoc] at h5
    have hp : (1 : Int) ≤ 2 ^ l.length := by
      have := Nat.one_le_two_pow (n := l.length)
      have e : ((2 ^ l.length : Nat) : Int) = (2 : Int) ^ l.length := by simp
      omega
    have hm : 2 * m ≤ 2 ^ 40 := by
      have : 1 * (2 * m) ≤ 2 ^ l.length * (2 * m) := Int.mul_le_mul_of_nonneg_right hp (by omega)
      omega
    simp only [putsL]
    split
    · rw [w64 (by omega) (by omega)]
      exact puts_pos l (w + h) h (2 * m) _ (by omega) (by omega) (by omega) (by omega) h5 (fun q hq => by
        rcases List.mem_append.1 hq with hq | hq
        · exact ho q hq
        · rw [List.mem_singleton.1 hq]; exact h3)
    · rw [w64 (by omega) (by omega)]
      exact puts_pos l w (h + w) (2 * m) _ (by omega) (by omega) (by omega) (by omega) h5 (fun q hq => by
        rcases List.mem_append.1 hq with hq | hq
        · exact ho q hq
        · rw [List.mem_singleton.1 hq]; exact h1)
theorem puts_len : ∀ (l : List Int) (w h : Int) (o : List Sq), (putsL l w h o).2.2.length = o.length + l.length
  | [], w, h, o => by simp [putsL]
  | c :: l, w, h, o => by
    simp only [putsL]
    split <;> rw [puts_len l] <;> simp <;> omega
end Go.Proofs.YtomfebfjkcdjpabDoor.Pure

namespace Go.Proofs.YtomfebfjkcdjpabDoor.Pure
set_option linter.unusedVariables false
set_option linter.unusedSimpArgs false
open Go.RowKit Go.Proofs.YtomfebfjkcdjpabDoor.P Go.Proofs.YtomfebfjkcdjpabDoorW.PrintWords Go.Proofs.YtomfebfjkcdjpabDoorW.PrintLast Go.Proofs.YtomfebfjkcdjpabDoorW.PrintMore Go.Proofs.YtomfebfjkcdjpabDoor.Aid Go.Proofs.YtomfebfjkcdjpabDoor.T
theorem eqSquareS_refl_l (l : List Sq) (hl : l.length ≤ 9223372036854775807) : ∀ (d i : Nat), i + d = l.length → Ev (fun k => laws_eqSquareS.l0 k l l i) true
  | 0, i, hd => Ev.step (fun _ => laws_eqSquareS.l0.eq_2 ..) (ev_neg (by omega) (ev_some rfl))
  | d + 1, i, hd => Ev.step (fun _ => laws_eqSquareS.l0.eq_2 ..) (ev_pos (by omega) (ev_pos (by omega) (ev_pos (by omega) (by
      refine ev_call (a := true) (by unfold laws_eqSquare.f; simp) (ev_pos rfl ?_)
      rw [w64 (by omega) (by omega)]
      exact eqSquareS_refl_l l hl d (i + 1) (by omega)))))
theorem eqSquareS_refl (l : List Sq) (hl : l.length ≤ 9223372036854775807) : Ev (fun k => laws_eqSquareS.f k l l) true := ev_pos rfl (eqSquareS_refl_l l hl l.length 0 (by omega))
theorem eqCut_refl (a b : Int) (l : List Sq) (hl : l.length ≤ 9223372036854775807) : Ev (fun k => laws_eqCut.f k a b l a b l) true :=
  ev_pos rfl (ev_pos rfl (ev_bind (eqSquareS_refl l hl) (ev_pos rfl (ev_some rfl))))
end Go.Proofs.YtomfebfjkcdjpabDoor.Pure

namespace Go.Proofs.YtomfebfjkcdjpabDoor.Pure
set_option linter.unusedVariables false
set_option linter.unusedSimpArgs false
open Go.RowKit Go.Proofs.YtomfebfjkcdjpabDoor.P Go.Proofs.YtomfebfjkcdjpabDoorW.PrintWords Go.Proofs.YtomfebfjkcdjpabDoorW.PrintLast Go.Proofs.YtomfebfjkcdjpabDoorW.PrintMore Go.Proofs.YtomfebfjkcdjpabDoor.Aid Go.Proofs.YtomfebfjkcdjpabDoor.T
/-- the marks from m on -/
def mkS (m : Int) : Nat → List Sq
  | 0 => []
  | n + 1 => ⟨m, m + 1, m + 2⟩ :: mkS (m + 3) n
theorem mkS_length : ∀ (n : Nat) (m : Int), (mkS m n).length = n
  | 0, m => rfl
  | n + 1, m => by simp only [mkS, List.length_cons, mkS_length n]
theorem set_at (pre : List Sq) (q x : Sq) (rest : List Sq) : (pre ++ q :: rest).set pre.length x = pre ++ x :: rest := by
  rw [List.set_append_right _ _ (Nat.le_refl _), Nat.sub_self, List.set_cons_zero]
theorem nq_at (pre : List Sq) (q : Sq) (rest : List Sq) : nq (pre ++ q :: rest) pre.length = q := by
  unfold nq
  rw [List.getD_eq_getElem?_getD, List.getElem?_append_right (Nat.le_refl _), Nat.sub_self]
  rfl
theorem markE_l : ∀ (rest pre : List Sq) (m : Int), (pre ++ rest).length ≤ 1048576 → 0 ≤ m → m + 3 * (rest.length : Int) ≤ 1000000000000000 → Ev (fun k => laws_markSquareS.l0 k (pre ++ rest) m pre.length) (m + 3 * (rest.length : Int), pre ++ mkS m rest.length)
  | [], pre, m, hl, h0, hm => Ev.step (fun _ => laws_markSquareS.l0.eq_2 ..) (ev_neg (by simp) (ev_some (by simp [mkS])))
  | q :: rest, pre, m, hl, h0, hm => by
    simp only [List.length_append, List.length_cons] at hl hm
    have ih := markE_l rest (pre ++ [⟨m, m + 1, m + 2⟩]) (m + 3) (by simp; omega) (by omega) (by omega)
    refine Ev.step (fun _ => laws_markSquareS.l0.eq_2 ..) (ev_pos (by simp; omega) (ev_pos (by omega) ?_))
    simp only [Option.bind_some, Int.toNat_natCast, rdq, nq_at, set_at]
    rw [w64 (e := m + 1) (by omega) (by omega), w64 (e := m + 1 + 1) (by omega) (by omega), w64 (e := m + 1 + 1 + 1) (by omega) (by omega), w64 (e := (pre.length : Int) + 1) (by omega) (by omega)]
    rw [List.append_assoc] at ih
    simp only [List.singleton_append, List.length_append, List.length_cons, List.length_nil, Nat.zero_add] at ih
    rw [show m + 1 + 1 + 1 = m + 3 by omega, show m + 1 + 1 = m + 2 by omega, show (pre.length : Int) + 1 = ((pre.length + 1 : Nat) : Int) by omega]
    rw [List.append_assoc] at ih
    simp only [List.singleton_append] at ih
    simp only [List.length_cons, mkS]
    rw [show m + 3 * ((rest.length + 1 : Nat) : Int) = m + 3 + 3 * (rest.length : Int) by omega]
    exact ih
theorem markE (a b : Int) (l : List Sq) (m : Int) (hl : l.length ≤ 1048576) (h0 : 0 ≤ m) (hm : m + 3 * (l.length : Int) ≤ 1000000000000000) : Ev (fun k => laws_markCut.f k a b l m) (m + 3 * (l.length : Int), mkS m l.length) := by
  have := markE_l l [] m (by simpa using hl) h0 hm
  simp only [List.nil_append] at this
  exact ev_bind (a := (m + 3 * (l.length : Int), mkS m l.length)) this (ev_some rfl)
theorem heldE_l : ∀ (n : Nat) (pre : List Sq) (m : Int), pre.length + n ≤ 1048576 → 0 ≤ m → m + 3 * (n : Int) ≤ 1000000000000000 → Ev (fun k => laws_heldSquareS.l0 k (pre ++ mkS m n) m pre.length) (m + 3 * (n : Int))
  | 0, pre, m, hl, h0, hm => Ev.step (fun _ => laws_heldSquareS.l0.eq_2 ..) (ev_neg (by simp [mkS]) (ev_some (by simp)))
  | n + 1, pre, m, hl, h0, hm => by
    have ih := heldE_l n (pre ++ [⟨m, m + 1, m + 2⟩]) (m + 3) (by simp; omega) (by omega) (by omega)
    refine Ev.step (fun _ => laws_heldSquareS.l0.eq_2 ..) (ev_pos (by simp [mkS, mkS_length]; omega) (ev_pos (by omega) ?_))
    simp only [mkS, rdq, nq_at]
    rw [w64 (e := m + 1) (by omega) (by omega), w64 (e := m + 1 + 1) (by omega) (by omega), w64 (e := m + 1 + 1 + 1) (by omega) (by omega), w64 (e := (pre.length : Int) + 1) (by omega) (by omega)]
    refine ev_pos (by first | rfl | trivial) (ev_pos (by first | rfl | trivial) (ev_pos (by first | omega | trivial) ?_))
    rw [List.append_assoc] at ih
    simp only [List.singleton_append, List.length_append, List.length_cons, List.length_nil, Nat.zero_add] at ih
    rw [show m + 1 + 1 + 1 = m + 3 by omega, show (pre.length : Int) + 1 = ((pre.length + 1 : Nat) : Int) by omega, show m + 3 * ((n + 1 : Nat) : Int) = m + 3 + 3 * (n : Int) by omega]
    exact ih
theorem heldE (a b : Int) (n : Nat) (m : Int) (hl : n ≤ 1048576) (h0 : 0 ≤ m) (hm : m + 3 * (n : Int) ≤ 1000000000000000) : Ev (fun k => laws_heldCut.f k a b (mkS m n) m) (m + 3 * (n : Int)) := by
  have := heldE_l n [] m (by simpa using hl) h0 hm
  simp only [List.nil_append] at this
  exact ev_bind (a := m + 3 * (n : Int)) this (ev_neg (by omega) (ev_some rfl))
end Go.Proofs.YtomfebfjkcdjpabDoor.Pure

namespace Go.Proofs.YtomfebfjkcdjpabDoor.Pure
set_option linter.unusedVariables false
set_option linter.unusedSimpArgs false
open Go.RowKit Go.Proofs.YtomfebfjkcdjpabDoor.P Go.Proofs.YtomfebfjkcdjpabDoorW.PrintWords Go.Proofs.YtomfebfjkcdjpabDoorW.PrintLast Go.Proofs.YtomfebfjkcdjpabDoorW.PrintMore Go.Proofs.YtomfebfjkcdjpabDoor.Aid Go.Proofs.YtomfebfjkcdjpabDoor.T
theorem puts_ok : ∀ (l : List Int) (w h m : Int) (o : List Sq), 1 ≤ w → w ≤ m → 1 ≤ h → h ≤ m → 2 ^ l.length * m ≤ 2 ^ 40 → (∀ q ∈ o, okQ q = true) → ∀ q ∈ (putsL l w h o).2.2, okQ q = true
  | [], w, h, m, o, _, _, _, _, _, ho => ho
  | c :: l, w, h, m, o, h1, h2, h3, h4, h5, ho => by
    rw [List.length_cons, Int.pow_succ, Int.mul_assoc] at h5
    have hp : (1 : Int) ≤ 2 ^ l.length := by
      have := Nat.one_le_two_pow (n := l.length)
      have e : ((2 ^ l.length : Nat) : Int) = (2 : Int) ^ l.length := by simp
      omega
    have hm : 2 * m ≤ 2 ^ 40 := by
      have : 1 * (2 * m) ≤ 2 ^ l.length * (2 * m) := Int.mul_le_mul_of_nonneg_right hp (by omega)
      omega
    simp only [putsL]
    split
    · rw [w64 (by omega) (by omega)]
      exact puts_ok l (w + h) h (2 * m) _ (by omega) (by omega) (by omega) (by omega) h5 (fun q hq => by
        rcases List.mem_append.1 hq with hq | hq
        · exact ho q hq
        · rw [List.mem_singleton.1 hq]; exact okQ_iff.2 (by simp only; omega))
    · rw [w64 (by omega) (by omega)]
      exact puts_ok l w (h + w) (2 * m) _ (by omega) (by omega) (by omega) (by omega) h5 (fun q hq => by
        rcases List.mem_append.1 hq with hq | hq
        · exact ho q hq
        · rw [List.mem_singleton.1 hq]; exact okQ_iff.2 (by simp only; omega))
theorem cutOfWord_both (s : ByteArray) (hs : s.size ≤ 1048576) : ∃ r : Int × Int × List Sq × Bool, r.2.2.1.length ≤ 30 ∧ Ev (fun k => spec_CutOfWord.f k s) r ∧ impl_CutOfWord.f s = some r := by
  have hi := isWord_f s
  have hw := raWord_ev s
  cases b : (decide (s.size ≤ 20) && buAll s) with
  | false =>
    rw [b] at hi hw
    refine ⟨(0, 0, [], false), by simp, ev_bind hw (ev_neg (by simp) (ev_some rfl)), ?_⟩
    unfold impl_CutOfWord.f
    rw [hi]; rfl
  | true =>
    rw [b] at hi hw
    have h20 : s.size ≤ 20 := by
      rw [Bool.and_eq_true, decide_eq_true_eq] at b
      exact b.1
    have hp := puts_f s (by omega)
    have hsq := raSquares_l s (by omega) s.size 0 1 1 [⟨0, 0, 1⟩] (by omega) (by simp)
    rw [List.drop_zero] at hsq
    have hra := raRatio_ev s (by omega)
    have hbl := bytesOf_length s
    have hok := puts_ok (bytesOf s) 1 1 1 [⟨0, 0, 1⟩] (by omega) (by omega) (by omega) (by omega) (by
      rw [Int.mul_one]
      have := Nat.pow_le_pow_right (n := 2) (by omega) (show (bytesOf s).length ≤ 40 by omega)
      have e : ((2 ^ (bytesOf s).length : Nat) : Int) = (2 : Int) ^ (bytesOf s).length := by simp
      omega) (fun q hq => by rw [List.mem_singleton.1 hq]; decide)
    have hlen := puts_len (bytesOf s) 1 1 [⟨0, 0, 1⟩]
    obtain ⟨⟨x, y, o⟩, hxy⟩ : ∃ t, putsL (bytesOf s) 1 1 [⟨0, 0, 1⟩] = t := ⟨_, rfl⟩
    rw [hxy] at hp hsq hok hlen hra
    simp only [List.length_cons, List.length_nil] at hsq hok hlen hra
    refine ⟨cutV x y o, cutV_len x y o, ev_bind hw (ev_pos rfl (ev_bind hra (ev_bind hsq (ev_bind (cuMake_ev x y o (by omega)) (ev_some rfl))))), ?_⟩
    unfold impl_CutOfWord.f
    rw [hi]
    simp only [Option.bind_some, if_true]
    rw [hp, Option.bind_some, cutOf_f x y o (by omega) (by omega) (List.all_eq_true.2 hok)]
    rfl
theorem FnExactCutOfWord : laws_FnExactCutOfWord.Pure := by
  intro s _
  by_cases c : (s.size : Int) > 1048576
  · exact ev_at (ev_pos c (ev_some rfl))
  · obtain ⟨⟨r1, r2, r3, r4⟩, hl, h1, h2⟩ := cutOfWord_both s (by omega)
    simp only at hl
    refine ev_at (ev_neg c (ev_bind h1 (ev_call h2 (ev_bind (eqCut_refl r1 r2 r3 (by omega)) (ev_pos rfl ?_)))))
    refine Ev.step (fun _ => laws_FnExactCutOfWord.j0.eq_2 ..) (ev_neg (by simp) ?_)
    refine ev_bind (markE r1 r2 r3 1 (by omega) (by omega) (by omega)) (ev_bind (heldE r1 r2 r3.length 1 (by omega) (by omega) (by omega)) (ev_neg (by omega) (ev_pos rfl ?_)))
    refine ev_call h2 (ev_bind (eqCut_refl r1 r2 r3 (by omega)) (ev_pos rfl ?_))
    refine Ev.step (fun _ => laws_FnExactCutOfWord.j1.eq_2 ..) (ev_neg (by simp) ?_)
    exact ev_bind (heldE r1 r2 r3.length 1 (by omega) (by omega) (by omega)) (ev_neg (by omega) (ev_pos rfl (ev_some rfl)))
end Go.Proofs.YtomfebfjkcdjpabDoor.Pure
