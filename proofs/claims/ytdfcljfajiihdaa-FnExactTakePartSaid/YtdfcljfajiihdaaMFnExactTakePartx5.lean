import Derived.Test.YtdfcljfajiihdaaMFnExactTakePartx0
import Derived.Test.YtdfcljfajiihdaaMFnExactTakePartx1
import Derived.Test.YtdfcljfajiihdaaMFnExactTakePartx2
import Derived.Test.YtdfcljfajiihdaaMFnExactTakePartx3
import Derived.Test.YtdfcljfajiihdaaMFnExactTakePartx4
import Derived.Shelf.Abstract
import Derived.Lib.SliceRun
import Derived.Sort.Lot0
import Derived.Test.YtdfcljfajiihdaaWKept
import Derived.Laws.IdiomCopy
import Derived.Sort.LotA
import Derived.Sort.WalkA
import Derived.Shelf.SlicesQ.Load
import Derived.BigRegion
import Derived.Deep.DeepCutAuto
import Derived.Deep.RegionLaw
import Derived.Deep.CutRange
namespace Go.Proofs.Ytdfcljfajiihdaa.P
open Go.RowKit Go.Proofs.YtdfcljfajiihdaaW.PrintWords Go.Proofs.YtdfcljfajiihdaaW.PrintLast Go.Proofs.Ytdfcljfajiihdaa.Wm
attribute [local go_sem] max2_int min2_int max_two min_two
set_option linter.unusedVariables false
set_option linter.unusedSimpArgs false
open Go.Proofs.Ytdfcljfajiihdaa.T Go.Proofs.Ytdfcljfajiihdaa.LawAid
def laws_FnExactTakePart.Pure : Prop := ∀ (a0_0 a0_1 : Int) (l0_2 : List S88) (l1 : List Int), (Lit.int .i64 a0_0).wf = true → (Lit.int .i64 a0_1).wf = true → l0_2.length ≤ maxLen → (∀ q ∈ l0_2, RowAid.wfq q) → l1.length ≤ maxLen → l1.length * 8 ≤ 140737488351232 → (∀ x ∈ l1, (Lit.int .i64 x).wf = true) → (l1.length ≤ 1048576 → ∃ z0, (laws_szCut.f a0_0 a0_1 l0_2 1048576 = some (z0)) ∧ (z0 < 0 ∨ ∃ (r1 : Int) (r2 : Int) (r3 : List Sq) (r4 : Bool) (m1 : Int) (ym1 : List Sq) (m2 : Int) (ym2 : List Int) (m3 : Int) (ym3 : List Sq), (∃ k, laws_toCut.f k a0_0 a0_1 l0_2 = some (a0_0, a0_1, l0_2)) ∧ (∃ k, laws_toIntS.f k l1 = some (l1)) ∧ (∃ k, spec_TakePart.f k a0_0 a0_1 l0_2 l1 = some (r1, r2, r3, r4)) ∧ (∃ k, impl_TakePart.f k a0_0 a0_1 l0_2 l1 = some (r1, r2, r3, r4)) ∧ (∃ k, laws_eqCut.f k r1 r2 r3 r1 r2 r3 = some (true)) ∧ (∃ k, laws_eqCut.f k a0_0 a0_1 l0_2 a0_0 a0_1 l0_2 = some (true)) ∧ (∃ k, laws_eqIntS.f k l1 l1 = some (true)) ∧ (∃ k, laws_markCut.f k a0_0 a0_1 l0_2 1 = some (m1, ym1)) ∧ (∃ k, laws_markIntS.f k l1 m1 = some (m2, ym2)) ∧ (∃ k, laws_markCut.f k r1 r2 r3 1 = some (m3, ym3)) ∧ (∃ k, laws_heldCut.f k r1 r2 ym3 1 = some (m3)) ∧ ¬ m1 < 0 ∧ ¬ m2 < 0 ∧ ¬ m3 < 0))
set_option maxHeartbeats 8000000 in
set_option maxRecDepth 100000 in
theorem laws_FnExactTakePart.walk (P : laws_FnExactTakePart.Pure) (a0_0 a0_1 : Int) (A0_2 : Option Addr) (c0_2 : Nat) (l0_2 : List S88) (A1 : Option Addr) (c1 : Nat) (l1 : List Int) (w : World) (u0_0 : (Lit.int .i64 a0_0).wf = true) (u0_1 : (Lit.int .i64 a0_1).wf = true) (u0_2 : l0_2.length ≤ maxLen) (u0_3 : ∀ q ∈ l0_2, RowAid.wfq q) (u1_0 : l1.length ≤ maxLen) (u1_1 : l1.length * 8 ≤ 140737488351232) (u1_2 : ∀ x ∈ l1, (Lit.int .i64 x).wf = true) (hr0_2 : Kd.C k88 w A0_2 l0_2.length l0_2) (hc0_2 : l0_2.length ≤ c0_2) (hr1 : Kd.C (Kd.int .i64) w A1 l1.length l1) (hc1 : l1.length ≤ c1) :
    Calls Try.prog 6 #[.agg #[.int .i64 a0_0, .int .i64 a0_1, .slice A0_2 l0_2.length c0_2], .slice A1 l1.length c1] w fun e w' => e = .returned (.bool true) ∧ Below w.heap.size w w' := by
  have HR0 := Aside0.mk hr0_2
  have HC0 := Aside0.mk hc0_2
  clear hr0_2 hc0_2
  have hup0 := Try.underlying33
  have HR1 := Aside0.mk hr1
  have HC1 := Aside0.mk hc1
  clear hr1 hc1
  have hui := Try.underlying37
  have P := P a0_0 a0_1 l0_2 l1 u0_0 u0_1 u0_2 u0_3 u1_0 u1_1 u1_2
  clear u0_0 u0_1 u0_2 u0_3 u1_0 u1_1 u1_2
  by_cases hn : (l1.length : Int) > 1048576
  · have b1 : decide (1048576 < (l1.length : Int)) = true := decide_eq_true hn
    have b2 : decide (1048576 < l1.length) = true := decide_eq_true (by omega)
    clear hn P
    go_enter Try.func6, Try.ntmps6
    have HS1 := Aside0.mk (hs_start (Below.refl w.heap.size w))
    have HS2 := Aside0.mk (hs_box (W := w) (cs := #[.int .i64 a0_0, .int .i64 a0_1, .slice A0_2 l0_2.length c0_2]) (t := 33) w.heap.size rfl HS1.out)
    clear HS1
    go_wp2_with fail
    go_ret
    exact ⟨rfl, (HS2.out _ (Below.refl _ _)).2⟩
  have b1 : decide (1048576 < (l1.length : Int)) = false := decide_eq_false hn
  have b2 : decide (1048576 < l1.length) = false := decide_eq_false (by omega)
  replace P := P (by omega)
  clear hn
  obtain ⟨z0, g1, P⟩ := P
  have G1 := Aside0.mk g1
  clear g1
  by_cases hz : z0 < 0
  · have bz0 := decide_eq_true hz
    clear hz P
    go_enter Try.func6, Try.ntmps6
    have HS1 := Aside0.mk (hs_start (Below.refl w.heap.size w))
    have HS2 := Aside0.mk (hs_box (W := w) (cs := #[.int .i64 a0_0, .int .i64 a0_1, .slice A0_2 l0_2.length c0_2]) (t := 33) w.heap.size rfl HS1.out)
    clear HS1
    obtain ⟨x1a, x1b, x1c⟩ := blk3 (HS2.out _ (Below.refl _ _)).1
    go_wp2_with fail
    refine (laws_szCut.calls (a0_0 := a0_0) (a0_1 := a0_1) (l0_2 := l0_2) (a1 := 1048576) (hr0_2 := Kd.C_below HR0.out (HS2.out _ (Below.refl _ _)).2) (hc0_2 := HC0.out) (w := _) (h := G1.out)).mono ?_
    rintro e w1 ⟨rfl, hb⟩
    have HS3 := Aside0.mk (hs_step hb HS2.out)
    clear HS2
    clear hb
    clear x1a x1b x1c
    go_wp2_with fail
    go_ret
    exact ⟨rfl, (HS3.out _ (Below.refl _ _)).2⟩
  replace P := P.resolve_left hz
  have bz0 := decide_eq_false hz
  clear hz
  obtain ⟨r1, r2, r3, r4, m1, ym1, m2, ym2, m3, ym3, g2, g3, g4, g5, g6, g7, g8, g9, g10, g11, g12, pm1, pm2, pm3⟩ := P
  have G2 := Aside0.mk g2
  have G3 := Aside0.mk g3
  have G4 := Aside0.mk g4
  have G5 := Aside0.mk g5
  have G6 := Aside0.mk g6
  have G7 := Aside0.mk g7
  have G8 := Aside0.mk g8
  have G9 := Aside0.mk g9
  have G10 := Aside0.mk g10
  have G11 := Aside0.mk g11
  have G12 := Aside0.mk g12
  have bm1 := decide_eq_false pm1
  have bm2 := decide_eq_false pm2
  have bm3 := decide_eq_false pm3
  clear g2 g3 g4 g5 g6 g7 g8 g9 g10 g11 g12 pm1 pm2 pm3
  go_enter Try.func6, Try.ntmps6
  have HS1 := Aside0.mk (hs_start (Below.refl w.heap.size w))
  have HS2 := Aside0.mk (hs_box (W := w) (cs := #[.int .i64 a0_0, .int .i64 a0_1, .slice A0_2 l0_2.length c0_2]) (t := 33) w.heap.size rfl HS1.out)
  clear HS1
  obtain ⟨x1a, x1b, x1c⟩ := blk3 (HS2.out _ (Below.refl _ _)).1
  go_wp2_with fail
  refine (laws_szCut.calls (a0_0 := a0_0) (a0_1 := a0_1) (l0_2 := l0_2) (a1 := 1048576) (hr0_2 := Kd.C_below HR0.out (HS2.out _ (Below.refl _ _)).2) (hc0_2 := HC0.out) (w := _) (h := G1.out)).mono ?_
  rintro e w1 ⟨rfl, hb⟩
  have HS3 := Aside0.mk (hs_step hb HS2.out)
  clear HS2
  clear hb
  clear x1a x1b x1c
  obtain ⟨x2a, x2b, x2c⟩ := blk3 (HS3.out _ (Below.refl _ _)).1
  go_wp2_with fail
  refine (laws_toCut.calls (k := _) (a0_0 := a0_0) (a0_1 := a0_1) (l0_2 := l0_2) (hr0_2 := Kd.C_below HR0.out (HS3.out _ (Below.refl _ _)).2) (hc0_2 := HC0.out) (w := _) (h := G2.out.choose_spec)).mono ?_
  rintro e w2 ⟨vw20, rfl, ho0, hb⟩
  replace ho0 := row_tight rfl ho0 (HS3.out _ (Below.refl _ _)).2
  obtain ⟨Aw20, cw20, rfl⟩ := Kd.R_slice ho0
  have HS4 := Aside0.mk (hs_row ho0 (hs_step hb HS3.out))
  clear HS3
  clear hb ho0
  clear x2a x2b x2c
  go_wp2_with fail
  refine (laws_toIntS.calls (k := _) (l0 := l1) (hr0 := Kd.C_below HR1.out (HS4.out _ (Below.refl _ _)).2.2) (hc0 := HC1.out) (w := _) (h := G3.out.choose_spec)).mono ?_
  rintro e w3 ⟨vw30, rfl, ho0, hb⟩
  have NEw30_w20 := Aside0.mk (ne_new (HS4.out _ (Below.refl _ _)).1 ho0)
  replace ho0 := row_tight rfl ho0 (HS4.out _ (Below.refl _ _)).2.2
  obtain ⟨Aw30, cw30, rfl⟩ := Kd.R_slice ho0
  have HS5 := Aside0.mk (hs_row ho0 (hs_step hb HS4.out))
  clear HS4
  clear hb ho0
  go_wp2_with fail
  refine (spec_TakePart.calls (k := _) (a0_0 := a0_0) (a0_1 := a0_1) (l0_2 := l0_2) (l1 := l1) (hr0_2 := (Kd.R_reads' (HS5.out _ (Below.refl _ _)).2.1).2.2) (hc0_2 := (Kd.R_reads' (HS5.out _ (Below.refl _ _)).2.1).2.1) (hr1 := (Kd.R_reads' (HS5.out _ (Below.refl _ _)).1).2.2) (hc1 := (Kd.R_reads' (HS5.out _ (Below.refl _ _)).1).2.1) (w := _) (h := G4.out.choose_spec)).mono ?_
  rintro e w4 ⟨vw40, rfl, ho0, hb⟩
  have NEw40_w20 := Aside0.mk (ne_new (HS5.out _ (Below.refl _ _)).2.1 ho0)
  have NEw40_w30 := Aside0.mk (ne_new (HS5.out _ (Below.refl _ _)).1 ho0)
  replace ho0 := row_tight rfl ho0 (HS5.out _ (Below.refl _ _)).2.2.2
  obtain ⟨Aw40, cw40, rfl⟩ := Kd.R_slice ho0
  have HS6 := Aside0.mk (hs_row ho0 (hs_step hb HS5.out))
  clear HS5
  clear hb ho0
  have HS7 := Aside0.mk (hs_box (W := w4) (cs := #[.int .i64 r1, .int .i64 r2, .slice Aw40 r3.length cw40]) (t := 37) w4.heap.size rfl HS6.out)
  clear HS6
  have HS8 := Aside0.mk (fun V hV => And.intro (HS7.out V hV).1 (And.intro (HS7.out V hV).2.1 (And.intro (HS7.out V hV).2.2.2.2.1 ((HS7.out V hV).2.2.2.2.2))))
  clear HS7
  obtain ⟨x3a, x3b, x3c⟩ := blk3 (HS8.out _ (Below.refl _ _)).2.2.1
  go_wp2_with fail
  refine (laws_toCut.calls (k := _) (a0_0 := a0_0) (a0_1 := a0_1) (l0_2 := l0_2) (hr0_2 := Kd.C_below HR0.out (HS8.out _ (Below.refl _ _)).2.2.2) (hc0_2 := HC0.out) (w := _) (h := G2.out.choose_spec)).mono ?_
  rintro e w5 ⟨vw50, rfl, ho0, hb⟩
  have NEw50_w40 := Aside0.mk (ne_new (HS8.out _ (Below.refl _ _)).2.1 ho0)
  replace ho0 := row_tight rfl ho0 (HS8.out _ (Below.refl _ _)).2.2.2
  obtain ⟨Aw50, cw50, rfl⟩ := Kd.R_slice ho0
  have HS9 := Aside0.mk (hs_row ho0 (hs_step hb HS8.out))
  clear HS8
  clear hb ho0
  clear x3a x3b x3c
  have HS10 := Aside0.mk (hs_box (W := w5) (cs := #[.int .i64 a0_0, .int .i64 a0_1, .slice Aw50 l0_2.length cw50]) (t := 37) w5.heap.size rfl HS9.out)
  clear HS9
  go_wp2_with fail
  refine (laws_toIntS.calls (k := _) (l0 := l1) (hr0 := Kd.C_below HR1.out (HS10.out _ (Below.refl _ _)).2.2.2.2.2) (hc0 := HC1.out) (w := _) (h := G3.out.choose_spec)).mono ?_
  rintro e w6 ⟨vw60, rfl, ho0, hb⟩
  have NEw60_w40 := Aside0.mk (ne_new (HS10.out _ (Below.refl _ _)).2.2.2.1 ho0)
  have NEw60_w50 := Aside0.mk (ne_new (HS10.out _ (Below.refl _ _)).2.1 ho0)
  replace ho0 := row_tight rfl ho0 (HS10.out _ (Below.refl _ _)).2.2.2.2.2
  obtain ⟨Aw60, cw60, rfl⟩ := Kd.R_slice ho0
  have HS11 := Aside0.mk (hs_row ho0 (hs_step hb HS10.out))
  clear HS10
  clear hb ho0
  obtain ⟨x4a, x4b, x4c⟩ := blk3 (HS11.out _ (Below.refl _ _)).2.1
  go_wp2_with fail
  refine (impl_TakePart.calls (k := _) (a0_0 := a0_0) (a0_1 := a0_1) (l0_2 := l0_2) (l1 := l1) (hr0_2 := (Kd.R_reads' (HS11.out _ (Below.refl _ _)).2.2.1).2.2) (hc0_2 := (Kd.R_reads' (HS11.out _ (Below.refl _ _)).2.2.1).2.1) (hr1 := (Kd.R_reads' (HS11.out _ (Below.refl _ _)).1).2.2) (hc1 := (Kd.R_reads' (HS11.out _ (Below.refl _ _)).1).2.1) (w := _) (h := G5.out.choose_spec)).mono ?_
  rintro e w7 ⟨vw70, rfl, ho0, hb⟩
  have NEw70_w40 := Aside0.mk (ne_new (HS11.out _ (Below.refl _ _)).2.2.2.2.1 ho0)
  have NEw70_w50 := Aside0.mk (ne_new (HS11.out _ (Below.refl _ _)).2.2.1 ho0)
  have NEw70_w60 := Aside0.mk (ne_new (HS11.out _ (Below.refl _ _)).1 ho0)
  replace ho0 := row_tight rfl ho0 (HS11.out _ (Below.refl _ _)).2.2.2.2.2.2
  obtain ⟨Aw70, cw70, rfl⟩ := Kd.R_slice ho0
  have HS12 := Aside0.mk (hs_row ho0 (hs_step hb HS11.out))
  clear HS11
  clear hb ho0
  clear x4a x4b x4c
  have HS13 := Aside0.mk (hs_box (W := w7) (cs := #[.int .i64 r1, .int .i64 r2, .slice Aw70 r3.length cw70]) (t := 37) w7.heap.size rfl HS12.out)
  clear HS12
  obtain ⟨x5a, x5b, x5c⟩ := blk3 (HS13.out _ (Below.refl _ _)).1
  obtain ⟨x6a, x6b, x6c⟩ := blk3 (HS13.out _ (Below.refl _ _)).2.2.2.2.2.1
  go_wp2_with fail
  refine (laws_eqCut.calls (k := _) (a0_0 := r1) (a0_1 := r2) (l0_2 := r3) (a1_0 := r1) (a1_1 := r2) (l1_2 := r3) (hr0_2 := (Kd.R_reads' (HS13.out _ (Below.refl _ _)).2.1).2.2) (hc0_2 := (Kd.R_reads' (HS13.out _ (Below.refl _ _)).2.1).2.1) (hr1_2 := (Kd.R_reads' (HS13.out _ (Below.refl _ _)).2.2.2.2.2.2.1).2.2) (hc1_2 := (Kd.R_reads' (HS13.out _ (Below.refl _ _)).2.2.2.2.2.2.1).2.1) (w := _) (h := G6.out.choose_spec)).mono ?_
  rintro e w8 ⟨rfl, hb⟩
  have HS14 := Aside0.mk (hs_step hb HS13.out)
  clear HS13
  clear hb
  clear x5a x5b x5c x6a x6b x6c
  go_wp2_with fail
  have HS15 := Aside0.mk (hs_drew HS14.out)
  clear HS14
  refine start_ (n := 5) (S := fun w' => w'.cell? ⟨w5.heap.size, 0, none⟩ = some (.int .i64 a0_0) ∧ w'.cell? ⟨w5.heap.size, 1, none⟩ = some (.int .i64 a0_1) ∧ w'.cell? ⟨w5.heap.size, 2, none⟩ = some (.slice Aw50 l0_2.length cw50) ∧ w'.cell? ⟨w.heap.size, 0, none⟩ = some (.int .i64 a0_0) ∧ w'.cell? ⟨w.heap.size, 1, none⟩ = some (.int .i64 a0_1) ∧ w'.cell? ⟨w.heap.size, 2, none⟩ = some (.slice A0_2 l0_2.length c0_2)) (ds := []) #[false, false, false, false, false] (by kernel_rfl) rfl rfl ⟨(blk_cell (HS15.out _ (Below.refl _ _)).2.2.2.1 0).trans rfl, (blk_cell (HS15.out _ (Below.refl _ _)).2.2.2.1 1).trans rfl, (blk_cell (HS15.out _ (Below.refl _ _)).2.2.2.1 2).trans rfl, (blk_cell (HS15.out _ (Below.refl _ _)).2.2.2.2.2.2.2.1 0).trans rfl, (blk_cell (HS15.out _ (Below.refl _ _)).2.2.2.2.2.2.2.1 1).trans rfl, (blk_cell (HS15.out _ (Below.refl _ _)).2.2.2.2.2.2.2.1 2).trans rfl⟩ (fun hHeld => ?_)
  generalize w8.drew = w9 at HS15 hHeld ⊢
  refine take_ (i := 0) (N := some 52) (v := ?_) (a' := ?_) #[true, false, false, false, false] rfl rfl (by kernel_rfl) (fun _ _ _ h => h) (Or.inl ⟨by rfl, ?_⟩) hHeld ?_ ?_
  rotate_left
  · rintro w' ⟨s0, s1, s2, s3, s4, s5⟩
    go_simp
    with_reducible rfl
  rotate_left
  · simp only [Act.put, List.setIfInBounds_toArray, List.set_cons_zero, List.set_cons_succ, i64_w, i32_w]
    rfl
  refine take_ (i := 1) (N := some 53) (v := ?_) (a' := ?_) #[true, true, false, false, false] rfl rfl (by kernel_rfl) (fun _ _ _ h => h) (Or.inl ⟨by rfl, ?_⟩) hHeld ?_ ?_
  rotate_left
  · rintro w' ⟨s0, s1, s2, s3, s4, s5⟩
    go_simp
    with_reducible rfl
  rotate_left
  · simp only [Act.put, List.setIfInBounds_toArray, List.set_cons_zero, List.set_cons_succ, i64_w, i32_w]
    rfl
  refine one_ (i := 2) (N := some 54) #[true, true, true, false, false] rfl rfl (by kernel_rfl) (by decide) (fun K hK => ?_)
  refine goes_ Try.func18 (by kernel_rfl) rfl #[.agg #[.int .i64 a0_0, .int .i64 a0_1, .slice A0_2 l0_2.length c0_2]] (by rfl) rfl rfl (by (try simp only [List.map_toArray, List.map_cons, List.map_nil]); first | done | rfl) ?_
  with_reducible refine (laws_toCut.calls (k := _) (a0_0 := a0_0) (a0_1 := a0_1) (l0_2 := l0_2) (hr0_2 := Kd.C_below HR0.out (HS15.out _ (Below.refl _ _)).2.2.2.2.2.2.2.2) (hc0_2 := HC0.out) (w := _) (h := G2.out.choose_spec)).mono ?_
  rintro e w10 ⟨vw100, rfl, ho0, hb⟩
  have NEw100_w40 := Aside0.mk (ne_new (HS15.out _ (Below.refl _ _)).2.2.2.2.2.2.1 ho0)
  have NEw100_w50 := Aside0.mk (ne_new (HS15.out _ (Below.refl _ _)).2.2.2.2.1 ho0)
  have NEw100_w60 := Aside0.mk (ne_new (HS15.out _ (Below.refl _ _)).2.2.1 ho0)
  have NEw100_w70 := Aside0.mk (ne_new (HS15.out _ (Below.refl _ _)).2.1 ho0)
  replace ho0 := row_tight rfl ho0 (HS15.out _ (Below.refl _ _)).2.2.2.2.2.2.2.2
  obtain ⟨Aw100, cw100, rfl⟩ := Kd.R_slice ho0
  have HS16 := Aside0.mk (hs_row ho0 (hs_step hb HS15.out))
  clear HS15
  clear hb ho0
  refine ⟨_, rfl, ?_⟩
  refine hK.out _ _ ⟨(blk_cell (HS16.out _ (Below.refl _ _)).2.2.2.2.1 0).trans rfl, (blk_cell (HS16.out _ (Below.refl _ _)).2.2.2.2.1 1).trans rfl, (blk_cell (HS16.out _ (Below.refl _ _)).2.2.2.2.1 2).trans rfl, (blk_cell (HS16.out _ (Below.refl _ _)).2.2.2.2.2.2.2.2.1 0).trans rfl, (blk_cell (HS16.out _ (Below.refl _ _)).2.2.2.2.2.2.2.2.1 1).trans rfl, (blk_cell (HS16.out _ (Below.refl _ _)).2.2.2.2.2.2.2.2.1 2).trans rfl⟩ (fun hHeld => ?_)
  clear hK K
  refine norm_ (a' := ?_) ?_ ?_
  rotate_left
  · show Act.put _ (some 54) _ = _
    simp only [Act.put, List.setIfInBounds_toArray, List.set_cons_zero, List.set_cons_succ, i64_w, i32_w]
    rfl
  refine one_ (i := 3) (N := some 55) #[true, true, true, true, false] rfl rfl (by kernel_rfl) (by decide) (fun K hK => ?_)
  refine goes_ Try.func20 (by kernel_rfl) rfl #[.agg #[.int .i64 a0_0, .int .i64 a0_1, .slice Aw50 l0_2.length cw50], .agg #[.int .i64 a0_0, .int .i64 a0_1, .slice Aw100 l0_2.length cw100]] (by rfl) rfl rfl (by (try simp only [List.map_toArray, List.map_cons, List.map_nil]); first | done | rfl) ?_
  with_reducible refine (laws_eqCut.calls (k := _) (a0_0 := a0_0) (a0_1 := a0_1) (l0_2 := l0_2) (a1_0 := a0_0) (a1_1 := a0_1) (l1_2 := l0_2) (hr0_2 := (Kd.R_reads' (HS16.out _ (Below.refl _ _)).2.2.2.2.2.1).2.2) (hc0_2 := (Kd.R_reads' (HS16.out _ (Below.refl _ _)).2.2.2.2.2.1).2.1) (hr1_2 := (Kd.R_reads' (HS16.out _ (Below.refl _ _)).1).2.2) (hc1_2 := (Kd.R_reads' (HS16.out _ (Below.refl _ _)).1).2.1) (w := _) (h := G7.out.choose_spec)).mono ?_
  rintro e w11 ⟨rfl, hb⟩
  have HS17 := Aside0.mk (hs_step hb HS16.out)
  clear HS16
  clear hb
  refine ⟨_, rfl, ?_⟩
  refine hK.out _ _ ⟨(blk_cell (HS17.out _ (Below.refl _ _)).2.2.2.2.1 0).trans rfl, (blk_cell (HS17.out _ (Below.refl _ _)).2.2.2.2.1 1).trans rfl, (blk_cell (HS17.out _ (Below.refl _ _)).2.2.2.2.1 2).trans rfl, (blk_cell (HS17.out _ (Below.refl _ _)).2.2.2.2.2.2.2.2.1 0).trans rfl, (blk_cell (HS17.out _ (Below.refl _ _)).2.2.2.2.2.2.2.2.1 1).trans rfl, (blk_cell (HS17.out _ (Below.refl _ _)).2.2.2.2.2.2.2.2.1 2).trans rfl⟩ (fun hHeld => ?_)
  clear hK K
  refine norm_ (a' := ?_) ?_ ?_
  rotate_left
  · show Act.put _ (some 55) _ = _
    simp only [Act.put, List.setIfInBounds_toArray, List.set_cons_zero, List.set_cons_succ, i64_w, i32_w]
    rfl
  refine pure_ (i := 4) (N := some 56) (v := ?_) (a' := ?_) #[true, true, true, true, true] rfl rfl (by kernel_rfl) (fun _ _ _ h => h) (Or.inl ⟨by rfl, ?_⟩) ?_ ?_
  rotate_left
  · intro w'
    go_simp
    with_reducible rfl
  rotate_left
  · simp only [Act.put, List.setIfInBounds_toArray, List.set_cons_zero, List.set_cons_succ, i64_w, i32_w]
    rfl
  refine done_ (by kernel_rfl) ?_
  clear hHeld
  have HS18 := Aside0.mk (fun V hV => And.intro (HS17.out V hV).2.1 (And.intro (HS17.out V hV).2.2.1 (And.intro (HS17.out V hV).2.2.2.1 (And.intro (HS17.out V hV).2.2.2.2.1 (And.intro (HS17.out V hV).2.2.2.2.2.1 (And.intro (HS17.out V hV).2.2.2.2.2.2.1 (And.intro (HS17.out V hV).2.2.2.2.2.2.2.1 (And.intro (HS17.out V hV).2.2.2.2.2.2.2.2.1 ((HS17.out V hV).2.2.2.2.2.2.2.2.2)))))))))
  clear HS17
  go_wp2_with fail
  refine (laws_toIntS.calls (k := _) (l0 := l1) (hr0 := Kd.C_below HR1.out (HS18.out _ (Below.refl _ _)).2.2.2.2.2.2.2.2) (hc0 := HC1.out) (w := _) (h := G3.out.choose_spec)).mono ?_
  rintro e w12 ⟨vw120, rfl, ho0, hb⟩
  have NEw120_w40 := Aside0.mk (ne_new (HS18.out _ (Below.refl _ _)).2.2.2.2.2.2.1 ho0)
  have NEw120_w50 := Aside0.mk (ne_new (HS18.out _ (Below.refl _ _)).2.2.2.2.1 ho0)
  have NEw120_w60 := Aside0.mk (ne_new (HS18.out _ (Below.refl _ _)).2.2.1 ho0)
  have NEw120_w70 := Aside0.mk (ne_new (HS18.out _ (Below.refl _ _)).2.1 ho0)
  replace ho0 := row_tight rfl ho0 (HS18.out _ (Below.refl _ _)).2.2.2.2.2.2.2.2
  obtain ⟨Aw120, cw120, rfl⟩ := Kd.R_slice ho0
  have HS19 := Aside0.mk (hs_row ho0 (hs_step hb HS18.out))
  clear HS18
  clear hb ho0
  go_wp2_with fail
  refine (laws_eqIntS.calls (k := _) (l0 := l1) (l1 := l1) (hr0 := (Kd.R_reads' (HS19.out _ (Below.refl _ _)).2.2.2.1).2.2) (hc0 := (Kd.R_reads' (HS19.out _ (Below.refl _ _)).2.2.2.1).2.1) (hr1 := (Kd.R_reads' (HS19.out _ (Below.refl _ _)).1).2.2) (hc1 := (Kd.R_reads' (HS19.out _ (Below.refl _ _)).1).2.1) (w := _) (h := G8.out.choose_spec)).mono ?_
  rintro e w13 ⟨rfl, hb⟩
  have HS20 := Aside0.mk (hs_step hb.below HS19.out)
  clear HS19
  clear hb
  have HS21 := Aside0.mk (fun V hV => And.intro (HS20.out V hV).2.1 (And.intro (HS20.out V hV).2.2.1 (And.intro (HS20.out V hV).2.2.2.1 (And.intro (HS20.out V hV).2.2.2.2.1 (And.intro (HS20.out V hV).2.2.2.2.2.1 (And.intro (HS20.out V hV).2.2.2.2.2.2.1 (And.intro (HS20.out V hV).2.2.2.2.2.2.2.1 (And.intro (HS20.out V hV).2.2.2.2.2.2.2.2.1 ((HS20.out V hV).2.2.2.2.2.2.2.2.2)))))))))
  clear HS20
  obtain ⟨x7a, x7b, x7c⟩ := blk3 (HS21.out _ (Below.refl _ _)).2.2.2.1
  go_wp2_with fail
  refine (laws_markCut.calls _ a0_0 a0_1 (fun k_ => some k_ = (.slice Aw50 l0_2.length cw50 : Value).ownBlock) (.slice Aw50 l0_2.length cw50) l0_2 1 _ _ w _ (HS21.out _ (Below.refl _ _)).2.2.2.2.2.2.2.2 (HS21.out _ (Below.refl _ _)).2.2.2.2.1 G9.out.choose_spec).mono ?_
  rintro e w14 ⟨rfl, ho, hb, hk⟩
  have HLNw14 : Aside0 (l0_2.length = ym1.length) := ⟨(Kd.R_reads' ho).1⟩
  replace ho := Kd.R_tight rfl ho
  have HS22 := Aside0.mk (hs_blk (box_away (HS21.out _ (Below.refl _ _)).1 (HS21.out _ (Below.refl _ _)).2.2.2.2.1 (by decide) hk) (hs_row (row_away (HS21.out _ (Below.refl _ _)).2.1 hk NEw70_w50.out) (hs_row (row_away (HS21.out _ (Below.refl _ _)).2.2.1 hk NEw60_w50.out) (hs_blk (box_away (HS21.out _ (Below.refl _ _)).2.2.2.1 (HS21.out _ (Below.refl _ _)).2.2.2.2.1 (by decide) hk) (hs_row ho (hs_blk (box_away (HS21.out _ (Below.refl _ _)).2.2.2.2.2.1 (HS21.out _ (Below.refl _ _)).2.2.2.2.1 (by decide) hk) (hs_row (row_away' (HS21.out _ (Below.refl _ _)).2.2.2.2.2.2.1 hk NEw50_w40.out) (hs_blk (box_away (HS21.out _ (Below.refl _ _)).2.2.2.2.2.2.2.1 (HS21.out _ (Below.refl _ _)).2.2.2.2.1 (by decide) hk) (hs_start hb)))))))))
  clear HS21
  clear ho hb hk
  clear x7a x7b x7c
  go_wp2_with fail
  refine (laws_markIntS.calls _ (fun k_ => some k_ = (.slice Aw60 l1.length cw60 : Value).ownBlock) (.slice Aw60 l1.length cw60) l1 m1 _ _ w _ (HS22.out _ (Below.refl _ _)).2.2.2.2.2.2.2.2 (HS22.out _ (Below.refl _ _)).2.2.1 G10.out.choose_spec).mono ?_
  rintro e w15 ⟨rfl, ho, hb, hk⟩
  have HLNw15 : Aside0 (l1.length = ym2.length) := ⟨(Kd.R_reads' ho).1⟩
  replace ho := Kd.R_tight rfl ho
  have HS23 := Aside0.mk (hs_blk (box_away (HS22.out _ (Below.refl _ _)).1 (HS22.out _ (Below.refl _ _)).2.2.1 (by decide) hk) (hs_row (row_away (HS22.out _ (Below.refl _ _)).2.1 hk NEw70_w60.out) (hs_row ho (hs_blk (box_away (HS22.out _ (Below.refl _ _)).2.2.2.1 (HS22.out _ (Below.refl _ _)).2.2.1 (by decide) hk) (hs_row (row_away' (HS22.out _ (Below.refl _ _)).2.2.2.2.1 hk NEw60_w50.out) (hs_blk (box_away (HS22.out _ (Below.refl _ _)).2.2.2.2.2.1 (HS22.out _ (Below.refl _ _)).2.2.1 (by decide) hk) (hs_row (row_away' (HS22.out _ (Below.refl _ _)).2.2.2.2.2.2.1 hk NEw60_w40.out) (hs_blk (box_away (HS22.out _ (Below.refl _ _)).2.2.2.2.2.2.2.1 (HS22.out _ (Below.refl _ _)).2.2.1 (by decide) hk) (hs_start hb)))))))))
  clear HS22
  clear ho hb hk
  obtain ⟨x8a, x8b, x8c⟩ := blk3 (HS23.out _ (Below.refl _ _)).1
  obtain ⟨x9a, x9b, x9c⟩ := blk3 (HS23.out _ (Below.refl _ _)).2.2.2.2.2.1
  go_wp2_with fail
  refine (laws_eqCut.calls (k := _) (a0_0 := r1) (a0_1 := r2) (l0_2 := r3) (a1_0 := r1) (a1_1 := r2) (l1_2 := r3) (hr0_2 := (Kd.R_reads' (HS23.out _ (Below.refl _ _)).2.1).2.2) (hc0_2 := (Kd.R_reads' (HS23.out _ (Below.refl _ _)).2.1).2.1) (hr1_2 := (Kd.R_reads' (HS23.out _ (Below.refl _ _)).2.2.2.2.2.2.1).2.2) (hc1_2 := (Kd.R_reads' (HS23.out _ (Below.refl _ _)).2.2.2.2.2.2.1).2.1) (w := _) (h := G6.out.choose_spec)).mono ?_
  rintro e w16 ⟨rfl, hb⟩
  have HS24 := Aside0.mk (hs_step hb HS23.out)
  clear HS23
  clear hb
  clear x8a x8b x8c x9a x9b x9c
  obtain ⟨x10a, x10b, x10c⟩ := blk3 (HS24.out _ (Below.refl _ _)).1
  go_wp2_with fail
  refine (laws_markCut.calls _ r1 r2 (fun k_ => some k_ = (.slice Aw70 r3.length cw70 : Value).ownBlock) (.slice Aw70 r3.length cw70) r3 1 _ _ w _ (HS24.out _ (Below.refl _ _)).2.2.2.2.2.2.2.2 (HS24.out _ (Below.refl _ _)).2.1 G11.out.choose_spec).mono ?_
  rintro e w17 ⟨rfl, ho, hb, hk⟩
  have HLNw17 : Aside0 (r3.length = ym3.length) := ⟨(Kd.R_reads' ho).1⟩
  replace ho := Kd.R_tight rfl ho
  have HS25 := Aside0.mk (hs_blk (box_away (HS24.out _ (Below.refl _ _)).1 (HS24.out _ (Below.refl _ _)).2.1 (by decide) hk) (hs_row ho (hs_row (row_away' (HS24.out _ (Below.refl _ _)).2.2.1 hk NEw70_w60.out) (hs_blk (box_away (HS24.out _ (Below.refl _ _)).2.2.2.1 (HS24.out _ (Below.refl _ _)).2.1 (by decide) hk) (hs_row (row_away' (HS24.out _ (Below.refl _ _)).2.2.2.2.1 hk NEw70_w50.out) (hs_blk (box_away (HS24.out _ (Below.refl _ _)).2.2.2.2.2.1 (HS24.out _ (Below.refl _ _)).2.1 (by decide) hk) (hs_row (row_away' (HS24.out _ (Below.refl _ _)).2.2.2.2.2.2.1 hk NEw70_w40.out) (hs_blk (box_away (HS24.out _ (Below.refl _ _)).2.2.2.2.2.2.2.1 (HS24.out _ (Below.refl _ _)).2.1 (by decide) hk) (hs_start hb)))))))))
  clear HS24
  clear ho hb hk
  clear x10a x10b x10c
  obtain ⟨x11a, x11b, x11c⟩ := blk3 (HS25.out _ (Below.refl _ _)).1
  go_wp2_with fail
  have hc := laws_heldCut.calls (k := _) (a0_0 := r1) (a0_1 := r2) (l0_2 := ym3) (a1 := 1) (hr0_2 := (Kd.R_reads' (HS25.out _ (Below.refl _ _)).2.1).2.2) (hc0_2 := (by rw [← HLNw17.out]; exact (Kd.R_reads' (HS25.out _ (Below.refl _ _)).2.1).2.1)) (w := w17) (h := G12.out.choose_spec)
  rw [← HLNw17.out] at hc
  refine (hc).mono ?_
  rintro e w18 ⟨rfl, hb⟩
  have HS26 := Aside0.mk (hs_step hb HS25.out)
  clear HS25
  clear hb
  clear x11a x11b x11c
  clear hc
  obtain ⟨x12a, x12b, x12c⟩ := blk3 (HS26.out _ (Below.refl _ _)).2.2.2.2.2.2.2.1
  go_wp2_with fail
  refine (laws_toCut.calls (k := _) (a0_0 := a0_0) (a0_1 := a0_1) (l0_2 := l0_2) (hr0_2 := Kd.C_below HR0.out (HS26.out _ (Below.refl _ _)).2.2.2.2.2.2.2.2) (hc0_2 := HC0.out) (w := _) (h := G2.out.choose_spec)).mono ?_
  rintro e w19 ⟨vw190, rfl, ho0, hb⟩
  have NEw190_w40 := Aside0.mk (ne_new (HS26.out _ (Below.refl _ _)).2.2.2.2.2.2.1 ho0)
  have NEw190_w50 := Aside0.mk (ne_new (HS26.out _ (Below.refl _ _)).2.2.2.2.1 ho0)
  have NEw190_w60 := Aside0.mk (ne_new (HS26.out _ (Below.refl _ _)).2.2.1 ho0)
  have NEw190_w70 := Aside0.mk (ne_new (HS26.out _ (Below.refl _ _)).2.1 ho0)
  replace ho0 := row_tight rfl ho0 (HS26.out _ (Below.refl _ _)).2.2.2.2.2.2.2.2
  obtain ⟨Aw190, cw190, rfl⟩ := Kd.R_slice ho0
  have HS27 := Aside0.mk (hs_row ho0 (hs_step hb HS26.out))
  clear HS26
  clear hb ho0
  clear x12a x12b x12c
  go_wp2_with fail
  refine (laws_toIntS.calls (k := _) (l0 := l1) (hr0 := Kd.C_below HR1.out (HS27.out _ (Below.refl _ _)).2.2.2.2.2.2.2.2.2) (hc0 := HC1.out) (w := _) (h := G3.out.choose_spec)).mono ?_
  rintro e w20 ⟨vw200, rfl, ho0, hb⟩
  have NEw200_w40 := Aside0.mk (ne_new (HS27.out _ (Below.refl _ _)).2.2.2.2.2.2.2.1 ho0)
  have NEw200_w50 := Aside0.mk (ne_new (HS27.out _ (Below.refl _ _)).2.2.2.2.2.1 ho0)
  have NEw200_w60 := Aside0.mk (ne_new (HS27.out _ (Below.refl _ _)).2.2.2.1 ho0)
  have NEw200_w70 := Aside0.mk (ne_new (HS27.out _ (Below.refl _ _)).2.2.1 ho0)
  have NEw200_w190 := Aside0.mk (ne_new (HS27.out _ (Below.refl _ _)).1 ho0)
  replace ho0 := row_tight rfl ho0 (HS27.out _ (Below.refl _ _)).2.2.2.2.2.2.2.2.2
  obtain ⟨Aw200, cw200, rfl⟩ := Kd.R_slice ho0
  have HS28 := Aside0.mk (hs_row ho0 (hs_step hb HS27.out))
  clear HS27
  clear hb ho0
  go_wp2_with fail
  refine (impl_TakePart.calls (k := _) (a0_0 := a0_0) (a0_1 := a0_1) (l0_2 := l0_2) (l1 := l1) (hr0_2 := (Kd.R_reads' (HS28.out _ (Below.refl _ _)).2.1).2.2) (hc0_2 := (Kd.R_reads' (HS28.out _ (Below.refl _ _)).2.1).2.1) (hr1 := (Kd.R_reads' (HS28.out _ (Below.refl _ _)).1).2.2) (hc1 := (Kd.R_reads' (HS28.out _ (Below.refl _ _)).1).2.1) (w := _) (h := G5.out.choose_spec)).mono ?_
  rintro e w21 ⟨vw210, rfl, ho0, hb⟩
  have NEw210_w40 := Aside0.mk (ne_new (HS28.out _ (Below.refl _ _)).2.2.2.2.2.2.2.2.1 ho0)
  have NEw210_w50 := Aside0.mk (ne_new (HS28.out _ (Below.refl _ _)).2.2.2.2.2.2.1 ho0)
  have NEw210_w60 := Aside0.mk (ne_new (HS28.out _ (Below.refl _ _)).2.2.2.2.1 ho0)
  have NEw210_w70 := Aside0.mk (ne_new (HS28.out _ (Below.refl _ _)).2.2.2.1 ho0)
  have NEw210_w190 := Aside0.mk (ne_new (HS28.out _ (Below.refl _ _)).2.1 ho0)
  have NEw210_w200 := Aside0.mk (ne_new (HS28.out _ (Below.refl _ _)).1 ho0)
  replace ho0 := row_tight rfl ho0 (HS28.out _ (Below.refl _ _)).2.2.2.2.2.2.2.2.2.2
  obtain ⟨Aw210, cw210, rfl⟩ := Kd.R_slice ho0
  have HS29 := Aside0.mk (hs_row ho0 (hs_step hb HS28.out))
  clear HS28
  clear hb ho0
  have HS30 := Aside0.mk (hs_box (W := w21) (cs := #[.int .i64 r1, .int .i64 r2, .slice Aw210 r3.length cw210]) (t := 37) w21.heap.size rfl HS29.out)
  clear HS29
  have HS31 := Aside0.mk (fun V hV => And.intro (HS30.out V hV).1 (And.intro (HS30.out V hV).2.1 (And.intro (HS30.out V hV).2.2.2.2.1 (And.intro (HS30.out V hV).2.2.2.2.2.1 (And.intro (HS30.out V hV).2.2.2.2.2.2.1 (And.intro (HS30.out V hV).2.2.2.2.2.2.2.1 (And.intro (HS30.out V hV).2.2.2.2.2.2.2.2.1 (And.intro (HS30.out V hV).2.2.2.2.2.2.2.2.2.1 (And.intro (HS30.out V hV).2.2.2.2.2.2.2.2.2.2.1 (And.intro (HS30.out V hV).2.2.2.2.2.2.2.2.2.2.2.1 ((HS30.out V hV).2.2.2.2.2.2.2.2.2.2.2.2)))))))))))
  clear HS30
  obtain ⟨x13a, x13b, x13c⟩ := blk3 (HS31.out _ (Below.refl _ _)).1
  obtain ⟨x14a, x14b, x14c⟩ := blk3 (HS31.out _ (Below.refl _ _)).2.2.2.2.2.2.2.1
  go_wp2_with fail
  refine (laws_eqCut.calls (k := _) (a0_0 := r1) (a0_1 := r2) (l0_2 := r3) (a1_0 := r1) (a1_1 := r2) (l1_2 := r3) (hr0_2 := (Kd.R_reads' (HS31.out _ (Below.refl _ _)).2.1).2.2) (hc0_2 := (Kd.R_reads' (HS31.out _ (Below.refl _ _)).2.1).2.1) (hr1_2 := (Kd.R_reads' (HS31.out _ (Below.refl _ _)).2.2.2.2.2.2.2.2.1).2.2) (hc1_2 := (Kd.R_reads' (HS31.out _ (Below.refl _ _)).2.2.2.2.2.2.2.2.1).2.1) (w := _) (h := G6.out.choose_spec)).mono ?_
  rintro e w22 ⟨rfl, hb⟩
  have HS32 := Aside0.mk (hs_step hb HS31.out)
  clear HS31
  clear hb
  clear x13a x13b x13c x14a x14b x14c
  obtain ⟨x15a, x15b, x15c⟩ := blk3 (HS32.out _ (Below.refl _ _)).2.2.1
  go_wp2_with fail
  have hc := laws_heldCut.calls (k := _) (a0_0 := r1) (a0_1 := r2) (l0_2 := ym3) (a1 := 1) (hr0_2 := (Kd.R_reads' (HS32.out _ (Below.refl _ _)).2.2.2.1).2.2) (hc0_2 := (by rw [← HLNw17.out]; exact (Kd.R_reads' (HS32.out _ (Below.refl _ _)).2.2.2.1).2.1)) (w := w22) (h := G12.out.choose_spec)
  rw [← HLNw17.out] at hc
  refine (hc).mono ?_
  rintro e w23 ⟨rfl, hb⟩
  have HS33 := Aside0.mk (hs_step hb HS32.out)
  clear HS32
  clear hb
  clear x15a x15b x15c
  clear hc
  go_wp2_with fail
  go_ret
  exact ⟨rfl, (HS33.out _ (Below.refl _ _)).2.2.2.2.2.2.2.2.2.2⟩
end Go.Proofs.Ytdfcljfajiihdaa.P

namespace Go.Proofs.Ytdfcljfajiihdaa.P
end Go.Proofs.Ytdfcljfajiihdaa.P

namespace Go.Proofs.Ytdfcljfajiihdaa.P
open Go.RowKit Go.Proofs.YtdfcljfajiihdaaW.PrintWords Go.Proofs.YtdfcljfajiihdaaW.PrintLast Go.Proofs.Ytdfcljfajiihdaa.Wm
attribute [local go_sem] max2_int min2_int max_two min_two
set_option linter.unusedVariables false
set_option linter.unusedSimpArgs false
end Go.Proofs.Ytdfcljfajiihdaa.P

namespace Go.Proofs.Ytdfcljfajiihdaa.P
open Go.RowKit Go.Proofs.YtdfcljfajiihdaaW.PrintWords Go.Proofs.YtdfcljfajiihdaaW.PrintLast Go.Proofs.Ytdfcljfajiihdaa.Wm
attribute [local go_sem] max2_int min2_int max_two min_two
set_option linter.unusedVariables false
set_option linter.unusedSimpArgs false
end Go.Proofs.Ytdfcljfajiihdaa.P

namespace Go.Proofs.Ytdfcljfajiihdaa.Pure
set_option linter.unusedVariables false
set_option linter.unusedSimpArgs false
open Go.RowKit Go.Proofs.Ytdfcljfajiihdaa.P Go.Proofs.YtdfcljfajiihdaaW.PrintWords Go.Proofs.YtdfcljfajiihdaaW.PrintLast Go.Proofs.Ytdfcljfajiihdaa.Aid
theorem l1In_f (n lo hi : Int) : spec_l1In.f n lo hi = some (inR n lo hi) := by
  unfold spec_l1In.f inR; by_cases c : lo ≤ n <;> simp [c]
theorem within_f (n lo hi : Int) : impl_within.f n lo hi = some (inR n lo hi) := by
  unfold impl_within.f inR; by_cases c : lo ≤ n <;> simp [c]
theorem l1Most_f (a b : Int) : spec_l1Most.f a b = some (max a b) := by
  unfold spec_l1Most.f; split <;> simp <;> omega
theorem l1Least_f (a b : Int) : spec_l1Least.f a b = some (min a b) := by
  unfold spec_l1Least.f; split <;> simp <;> omega
end Go.Proofs.Ytdfcljfajiihdaa.Pure

namespace Go.Proofs.Ytdfcljfajiihdaa.Pure
set_option linter.unusedVariables false
set_option linter.unusedSimpArgs false
open Go.RowKit Go.Proofs.Ytdfcljfajiihdaa.P Go.Proofs.YtdfcljfajiihdaaW.PrintWords Go.Proofs.YtdfcljfajiihdaaW.PrintLast Go.Proofs.Ytdfcljfajiihdaa.Wm Go.Proofs.Ytdfcljfajiihdaa.Aid Go.Proofs.Ytdfcljfajiihdaa.T
theorem rdq (l : List Sq) (i : Nat) : rd_T56 l (i : Int) = nq l i := by unfold rd_T56 nq; rw [Int.toNat_natCast]; rfl
end Go.Proofs.Ytdfcljfajiihdaa.Pure

namespace Go.Proofs.Ytdfcljfajiihdaa.Pure
set_option linter.unusedVariables false
set_option linter.unusedSimpArgs false
open Go.RowKit Go.Proofs.Ytdfcljfajiihdaa.P Go.Proofs.YtdfcljfajiihdaaW.PrintWords Go.Proofs.YtdfcljfajiihdaaW.PrintLast Go.Proofs.Ytdfcljfajiihdaa.Wm Go.Proofs.Ytdfcljfajiihdaa.Aid Go.Proofs.Ytdfcljfajiihdaa.T
theorem apart_ovl (a b : Sq) (ha : inBox 500 500 a) (hb : inBox 500 500 b) : ovl a b = false ↔ Apart a b := by
  unfold inBox at ha hb
  unfold ovl Apart
  rw [w64 (by omega) (by omega), w64 (by omega) (by omega), w64 (by omega) (by omega), w64 (by omega) (by omega), Bool.eq_false_iff]
  simp only [ne_eq, Bool.and_eq_true, decide_eq_true_eq]
  constructor <;> intro h h' <;> exact h (by omega)
theorem inBox_mono {W H W' H' : Int} {q : Sq} (h : inBox W H q) (hw : W ≤ W') (hh : H ≤ H') : inBox W' H' q := by unfold inBox at *; omega
theorem lt_cmpP (a b : Sq) (ha : inBox 500 500 a) (hb : inBox 500 500 b) : cmpP a b < 0 ↔ Lt a b := by
  unfold inBox at ha hb
  unfold cmpP Lt
  split
  · rw [w64 (by omega) (by omega)]; omega
  · rw [w64 (by omega) (by omega)]; omega
theorem okAt_iff (W H : Int) (l : List Sq) (hW : 1 ≤ W ∧ W ≤ 500) (hH : 1 ≤ H ∧ H ≤ 500) (i : Nat) (hi : i < l.length) (hold : ∀ j, j < i → inBox W H (nq l j)) : okAt W H l i = true ↔ OkS W H l i := by
  unfold okAt OkS
  simp only [rdq, Bool.and_eq_true, Bool.not_eq_true']
  have hbox : (ok1 W H (nq l i) = true ∧ ok2 W (nq l i) = true ∧ ok3 H (nq l i) = true) ↔ inBox W H (nq l i) := by
    unfold ok1 ok2 ok3 inBox
    simp only [Bool.and_eq_true, decide_eq_true_eq, mn_min]
    constructor
    · rintro ⟨⟨h1, h2⟩, ⟨h3, h4⟩, h5, h6⟩
      rw [w64 (by omega) (by omega)] at h4 h6
      omega
    · intro h
      rw [w64 (by omega) (by omega), w64 (by omega) (by omega)]
      omega
  have big : ∀ {q : Sq}, inBox W H q → inBox 500 500 q := fun h => inBox_mono h hW.2 hH.2
  constructor
  · rintro ⟨⟨⟨⟨h1, h2⟩, h3⟩, h4⟩, h5⟩
    have hb := hbox.1 ⟨h1, h2, h3⟩
    refine ⟨hb, fun j hj => ⟨?_, fun e => ?_⟩⟩
    · rw [List.any_eq_false] at h5
      have := h5 (nq l j) (by rw [← nq_take l i j hj]; exact nq_mem _ _ (by simp; omega))
      exact (apart_ovl _ _ (big hb) (big (hold j hj))).1 (Bool.eq_false_iff.2 this)
    · unfold ok4 at h4
      subst e
      rw [Bool.or_eq_true, decide_eq_true_eq, decide_eq_true_eq] at h4
      rcases h4 with h4 | h4
      · cases h4
      · rw [show j + 1 - 1 = j by omega, rdq] at h4
        exact (lt_cmpP _ _ (big (hold j hj)) (big hb)).1 h4
  · rintro ⟨hb, hs⟩
    obtain ⟨h1, h2, h3⟩ := hbox.2 hb
    refine ⟨⟨⟨⟨h1, h2⟩, h3⟩, ?_⟩, ?_⟩
    · unfold ok4
      rw [Bool.or_eq_true, decide_eq_true_eq, decide_eq_true_eq]
      rcases Nat.eq_zero_or_pos i with h0 | h0
      · exact .inl h0
      · refine .inr ?_
        rw [rdq]
        exact (lt_cmpP _ _ (big (hold _ (by omega))) (big hb)).2 ((hs (i - 1) (by omega)).2 (by omega))
    · rw [List.any_eq_false]
      intro q hq
      obtain ⟨j, hj, rfl⟩ := List.getElem_of_mem hq
      rw [List.length_take] at hj
      rw [← nq_get, nq_take l i j (by omega)]
      rw [Bool.not_eq_true]
      exact (apart_ovl _ _ (big hb) (big (hold j (by omega)))).2 (hs j (by omega)).1
theorem okAt_all (W H : Int) (l : List Sq) (hW : 1 ≤ W ∧ W ≤ 500) (hH : 1 ≤ H ∧ H ≤ 500) : (∀ i, i < l.length → okAt W H l i = true) ↔ ∀ i, i < l.length → OkS W H l i := by
  constructor
  · intro h i
    induction i using Nat.strongRecOn with
    | _ i ih => exact fun hi => (okAt_iff W H l hW hH i hi (fun j hj => (ih j hj (by omega)).1)).1 (h i hi)
  · intro h i hi
    exact (okAt_iff W H l hW hH i hi (fun j hj => (h j (by omega)).1)).2 (h i hi)
theorem areaW_area (l : List Sq) : ∀ n, n ≤ l.length → l.length ≤ 30 → (∀ i, i < n → 0 ≤ (nq l i).f2 ∧ (nq l i).f2 ≤ 500) → areaW (l.take n) 0 = area (l.take n)
  | 0, _, _, _ => by simp [areaW, area]
  | n + 1, hn, hl, hb => by
    have ih := areaW_area l n (by omega) hl (fun i hi => hb i (by omega))
    have hq := sq_le (hb n (by omega)).1 (hb n (by omega)).2
    have ha := area_bd l 500 n (by omega) (fun i hi => hb i (by omega))
    rw [area_take l n (by omega), List.take_succ_eq_append_getElem (by omega), areaW_snoc, ih, ← nq_get l n (by omega), w64 (e := (nq l n).f2 * (nq l n).f2) (by omega) (by omega), w64 (by omega) (by omega)]
theorem isCutB_good (W H : Int) (l : List Sq) : isCutB W H l = goodB W H l := by
  rw [Bool.eq_iff_iff, goodB_iff, good_iff]
  unfold isCutB
  simp only [Bool.and_eq_true, decide_eq_true_eq, List.all_eq_true, List.mem_range, and_assoc]
  constructor
  · rintro ⟨h1, h2, h3, h4, h5, h6, h7⟩
    have hs := (okAt_all W H l ⟨h1, h2⟩ ⟨h3, h4⟩).1 h6
    refine ⟨h1, h2, h3, h4, h5, hs, ?_⟩
    have hb : ∀ i, i < l.length → 0 ≤ (nq l i).f2 ∧ (nq l i).f2 ≤ 500 := fun i hi => by have := (hs i hi).1; unfold inBox at this; omega
    have ha := areaW_area l l.length (Nat.le_refl _) h5 hb
    rw [List.take_length] at ha
    have hp : 0 ≤ W * H ∧ W * H ≤ 500 * 500 := ⟨Int.mul_nonneg (by omega) (by omega), Int.mul_le_mul h2 h4 (by omega) (by omega)⟩
    rw [ha, w64 (by omega) (by omega)] at h7
    exact h7
  · rintro ⟨h1, h2, h3, h4, h5, hs, h7⟩
    refine ⟨h1, h2, h3, h4, h5, (okAt_all W H l ⟨h1, h2⟩ ⟨h3, h4⟩).2 hs, ?_⟩
    have hb : ∀ i, i < l.length → 0 ≤ (nq l i).f2 ∧ (nq l i).f2 ≤ 500 := fun i hi => by have := (hs i hi).1; unfold inBox at this; omega
    have ha := areaW_area l l.length (Nat.le_refl _) h5 hb
    rw [List.take_length] at ha
    have hp : 0 ≤ W * H ∧ W * H ≤ 500 * 500 := ⟨Int.mul_nonneg (by omega) (by omega), Int.mul_le_mul h2 h4 (by omega) (by omega)⟩
    rw [ha, w64 (by omega) (by omega)]
    exact h7
theorem isCut_f (W H : Int) (l : List Sq) : impl_IsCut.f W H l = some (goodB W H l) := by unfold impl_IsCut.f; rw [isCutB_good]
def PairOk (l : List Sq) (i j : Nat) : Prop := Apart (nq l i) (nq l j) ∧ (j + 1 = i → Lt (nq l j) (nq l i))
theorem cuLess_f (a b : Sq) : spec_cuLess.f a.f0 a.f1 a.f2 b.f0 b.f1 b.f2 = some (decide (a.f1 < b.f1) || (decide (a.f1 = b.f1) && decide (a.f0 < b.f0))) := by
  unfold spec_cuLess.f
  by_cases c1 : a.f1 < b.f1
  · simp [c1]
  · by_cases c2 : a.f1 = b.f1 <;> simp [c1, c2]
theorem lt_less (a b : Sq) : (decide (a.f1 < b.f1) || (decide (a.f1 = b.f1) && decide (a.f0 < b.f0))) = true ↔ Lt a b := by
  unfold Lt; simp
section
variable (W H : Int) (l : List Sq)
theorem good_l1_step (a : Int) (i m : Nat) (hm : m < i) (hi : i < l.length) {r : Bool}
    (h : Ev (fun k => spec_cuGood.j4 k a i m l l.length i (l.take i) i m (ovl (nq l i) (nq l m)) W H l (nq l i).f0 (nq l i).f1 (nq l i).f2 (nq l m).f0 (nq l m).f1 (nq l m).f2) r) :
    Ev (fun k => spec_cuGood.l1 k a i l l.length i (l.take i) i m W H l (nq l i).f0 (nq l i).f1 (nq l i).f2) r := by
  have e : rd_T56 (l.take i) (m : Int) = nq l m := by rw [rdq, nq_take l i m hm]
  refine Ev.step (fun _ => spec_cuGood.l1.eq_2 ..) (ev_pos (by omega) (ev_pos (by omega) (ev_pos (by simp; omega) ?_)))
  simp only [e]
  unfold ovl at h
  by_cases c1 : (nq l i).f0 < wrap64 ((nq l m).f0 + (nq l m).f2)
  · refine ev_pos c1 ?_
    by_cases c2 : (nq l m).f0 < wrap64 ((nq l i).f0 + (nq l i).f2)
    · refine ev_pos c2 ?_
      by_cases c3 : (nq l i).f1 < wrap64 ((nq l m).f1 + (nq l m).f2)
      · refine ev_pos c3 ?_
        simpa [c1, c2, c3] using h
      · refine ev_neg c3 ?_
        simpa [c1, c2, c3] using h
    · refine ev_neg c2 ?_
      simpa [c1, c2] using h
  · refine ev_neg c1 ?_
    simpa [c1] using h
theorem good_pass (hl : l.length ≤ 30) (a : Int) (i : Nat) (hi : i < l.length) (hb : ∀ j, j ≤ i → inBox 500 500 (nq l j)) {r : Bool} (h : Ev (fun k => spec_cuGood.l0 k a l l.length (i + 1 : Nat) W H l) r) :
    ∀ (d m : Nat), m + d = i → (∀ j, m ≤ j → j < i → PairOk l i j) → Ev (fun k => spec_cuGood.l1 k a i l l.length i (l.take i) i m W H l (nq l i).f0 (nq l i).f1 (nq l i).f2) r
  | 0, m, hd, hp => by
    refine Ev.step (fun _ => spec_cuGood.l1.eq_2 ..) (ev_neg (by omega) ?_)
    rw [w64 (by omega) (by omega)]
    exact h
  | d + 1, m, hd, hp => by
    have ih := good_pass hl a i hi hb h d (m + 1) (by omega) (fun j h1 h2 => hp j (by omega) h2)
    obtain ⟨p1, p2⟩ := hp m (Nat.le_refl _) (by omega)
    refine good_l1_step W H l a i m (by omega) hi ?_
    rw [(apart_ovl _ _ (hb i (Nat.le_refl _)) (hb m (by omega))).2 p1]
    refine Ev.step (fun _ => spec_cuGood.j4.eq_2 ..) (ev_neg (by simp) ?_)
    rw [w64 (by omega) (by omega), w64 (by omega) (by omega)]
    by_cases c : m + 1 = i
    · refine ev_pos (by omega) (ev_call (cuLess_f (nq l m) (nq l i)) (ev_pos ((lt_less _ _).2 (p2 c)) ?_))
      exact ih
    · exact ev_neg (by omega) ih
theorem good_fail (hl : l.length ≤ 30) (a : Int) (i : Nat) (hi : i < l.length) (hb : ∀ j, j ≤ i → inBox 500 500 (nq l j)) :
    ∀ (d m : Nat), m + d = i → (∃ j, m ≤ j ∧ j < i ∧ ¬ PairOk l i j) → Ev (fun k => spec_cuGood.l1 k a i l l.length i (l.take i) i m W H l (nq l i).f0 (nq l i).f1 (nq l i).f2) false
  | 0, m, hd, hp => by obtain ⟨j, h1, h2, _⟩ := hp; omega
  | d + 1, m, hd, hp => by
    refine good_l1_step W H l a i m (by omega) hi ?_
    by_cases p1 : Apart (nq l i) (nq l m)
    · rw [(apart_ovl _ _ (hb i (Nat.le_refl _)) (hb m (by omega))).2 p1]
      refine Ev.step (fun _ => spec_cuGood.j4.eq_2 ..) (ev_neg (by simp) ?_)
      rw [w64 (by omega) (by omega), w64 (by omega) (by omega)]
      by_cases c : m + 1 = i
      · by_cases p2 : Lt (nq l m) (nq l i)
        · exfalso
          obtain ⟨j, h1, h2, h3⟩ := hp
          have : j = m := by omega
          subst this
          exact h3 ⟨p1, fun _ => p2⟩
        · refine ev_pos (by omega) (ev_call (cuLess_f (nq l m) (nq l i)) (ev_neg (fun h => p2 ((lt_less _ _).1 h)) (ev_some rfl)))
      · refine ev_neg (by omega) (good_fail hl a i hi hb d (m + 1) (by omega) ?_)
        obtain ⟨j, h1, h2, h3⟩ := hp
        refine ⟨j, ?_, h2, h3⟩
        rcases Nat.lt_or_ge m j with h | h
        · omega
        · have : j = m := by omega
          subst this
          exact absurd ⟨p1, fun h => absurd h c⟩ h3
    · have : ovl (nq l i) (nq l m) = true := by
        rw [← Bool.not_eq_false]
        intro h
        exact p1 ((apart_ovl _ _ (hb i (Nat.le_refl _)) (hb m (by omega))).1 h)
      rw [this]
      exact Ev.step (fun _ => spec_cuGood.j4.eq_2 ..) (ev_pos rfl (ev_some rfl))
theorem good_round (a : Int) (i : Nat) (hi : i < l.length) (hW : 1 ≤ W ∧ W ≤ 500) (hH : 1 ≤ H ∧ H ≤ 500) {r : Bool}
    (h : inBox W H (nq l i) → Ev (fun k => spec_cuGood.l1 k (wrap64 (a + wrap64 ((nq l i).f2 * (nq l i).f2))) i l l.length i (l.take i) i (0 : Nat) W H l (nq l i).f0 (nq l i).f1 (nq l i).f2) r) (hf : ¬ inBox W H (nq l i) → r = false) :
    Ev (fun k => spec_cuGood.l0 k a l l.length i W H l) r := by
  refine Ev.step (fun _ => spec_cuGood.l0.eq_2 ..) (ev_pos (by omega) (ev_pos (by omega) (ev_pos (by omega) ?_)))
  simp only [rdq]
  refine ev_call (l1In_f _ _ _) ?_
  by_cases c1 : inR (nq l i).f2 1 500 = true
  · refine ev_pos c1 (ev_call (l1In_f _ _ _) ?_)
    rw [inR_iff] at c1
    rw [w64 (by omega) (by omega)]
    by_cases c2 : inR (nq l i).f0 0 (W - (nq l i).f2) = true
    · refine ev_pos c2 ?_
      rw [w64 (by omega) (by omega)]
      refine ev_call (l1In_f _ _ _) ?_
      rw [inR_iff] at c2
      by_cases c3 : inR (nq l i).f1 0 (H - (nq l i).f2) = true
      · rw [c3]
        rw [inR_iff] at c3
        refine Ev.step (fun _ => spec_cuGood.j2.eq_2 ..) (ev_neg (by simp) (ev_pos (by omega) (ev_pos (by omega) ?_)))
        refine ev_call rfl ?_
        simp only [Int.toNat_natCast]
        have := h (by unfold inBox; omega)
        simpa [Nat.min_eq_left (Nat.le_of_lt hi)] using this
      · have : r = false := hf (fun hb => c3 (inR_iff.2 (by unfold inBox at hb; omega)))
        subst this
        rw [Bool.not_eq_true] at c3
        rw [c3]
        exact Ev.step (fun _ => spec_cuGood.j2.eq_2 ..) (ev_pos rfl (ev_some rfl))
    · have : r = false := hf (fun hb => c2 (inR_iff.2 (by unfold inBox at hb; omega)))
      subst this
      exact ev_neg c2 (Ev.step (fun _ => spec_cuGood.j2.eq_2 ..) (ev_pos rfl (ev_some rfl)))
  · have : r = false := hf (fun hb => c1 (inR_iff.2 (by unfold inBox at hb; omega)))
    subst this
    exact ev_neg c1 (Ev.step (fun _ => spec_cuGood.j2.eq_2 ..) (ev_pos rfl (ev_some rfl)))
theorem good_l0 (hl : l.length ≤ 30) (hW : 1 ≤ W ∧ W ≤ 500) (hH : 1 ≤ H ∧ H ≤ 500) : ∀ (d i : Nat), i + d = l.length → (∀ j, j < i → OkS W H l j) → Ev (fun k => spec_cuGood.l0 k (area (l.take i)) l l.length i W H l) (goodB W H l)
  | 0, i, hd, hs => by
    refine Ev.step (fun _ => spec_cuGood.l0.eq_2 ..) (ev_neg (by omega) (ev_some ?_))
    have hp : 0 ≤ W * H ∧ W * H ≤ 500 * 500 := ⟨Int.mul_nonneg (by omega) (by omega), Int.mul_le_mul hW.2 hH.2 (by omega) (by omega)⟩
    rw [w64 (by omega) (by omega), show i = l.length by omega, List.take_length, Bool.eq_iff_iff, goodB_iff, good_iff, beq_iff_eq]
    exact ⟨fun h => ⟨hW, hH, hl, fun j hj => hs j (by omega), h⟩, fun h => h.2.2.2.2⟩
  | d + 1, i, hd, hs => by
    have hnot : ¬ OkS W H l i → goodB W H l = false := fun h => by
      rw [Bool.eq_false_iff]
      intro hg
      rw [goodB_iff, good_iff] at hg
      exact h (hg.2.2.2.1 i (by omega))
    refine good_round W H l _ i (by omega) hW hH (fun hb => ?_) (fun hb => hnot (fun h => hb h.1))
    have hbb : ∀ j, j ≤ i → inBox 500 500 (nq l j) := fun j hj => by
      rcases Nat.lt_or_ge j i with h | h
      · exact inBox_mono (hs j h).1 hW.2 hH.2
      · rw [show j = i by omega]; exact inBox_mono hb hW.2 hH.2
    have ha := area_bd l 500 i (by omega) (fun j hj => by have := hbb j (by omega); unfold inBox at this; omega)
    have hq := hbb i (Nat.le_refl _)
    unfold inBox at hq
    have hsq := sq_le (a := (nq l i).f2) (m := 500) (by omega) (by omega)
    rw [w64 (e := (nq l i).f2 * (nq l i).f2) (by omega) (by omega), w64 (by omega) (by omega), ← area_take l i (by omega)]
    by_cases c : ∃ j, 0 ≤ j ∧ j < i ∧ ¬ PairOk l i j
    · rw [hnot (fun h => by obtain ⟨j, _, h2, h3⟩ := c; exact h3 (h.2 j h2))]
      exact good_fail W H l hl _ i (by omega) hbb i 0 (by omega) c
    · have hp : ∀ j, j < i → PairOk l i j := fun j hj => Classical.byContradiction fun h => c ⟨j, by omega, hj, h⟩
      refine good_pass W H l hl _ i (by omega) hbb ?_ i 0 (by omega) (fun j _ h => hp j h)
      exact good_l0 hl hW hH d (i + 1) (by omega) (fun j hj => by
        rcases Nat.lt_or_ge j i with h | h
        · exact hs j h
        · rw [show j = i by omega]; exact ⟨hb, hp⟩)
end
theorem cuGood_ev (W H : Int) (l : List Sq) (hlen : l.length ≤ 9223372036854775807) : Ev (fun k => spec_cuGood.f k W H l) (goodB W H l) := by
  have bad : ¬ ((1 ≤ W ∧ W ≤ 500) ∧ (1 ≤ H ∧ H ≤ 500) ∧ (1 ≤ l.length ∧ l.length ≤ 30)) → goodB W H l = false := fun h => by
    rw [Bool.eq_false_iff]
    intro hg
    rw [goodB_iff] at hg
    exact h ⟨hg.w, hg.h, hg.pos, hg.len⟩
  refine ev_call (l1In_f _ _ _) ?_
  by_cases c1 : inR W 1 500 = true
  · refine ev_pos c1 (ev_call (l1In_f _ _ _) ?_)
    by_cases c2 : inR H 1 500 = true
    · refine ev_pos c2 (ev_call (l1In_f _ _ _) ?_)
      rw [inR_iff] at c1 c2
      by_cases c3 : inR (l.length : Int) 1 30 = true
      · rw [c3]
        rw [inR_iff] at c3
        refine Ev.step (fun _ => spec_cuGood.j0.eq_2 ..) (ev_neg (by simp) ?_)
        have := good_l0 W H l (by omega) c1 c2 l.length 0 (by omega) (fun j hj => by omega)
        simpa [area] using this
      · have e := bad (fun h => c3 (inR_iff.2 (by omega)))
        rw [Bool.not_eq_true] at c3
        rw [c3, e]
        exact Ev.step (fun _ => spec_cuGood.j0.eq_2 ..) (ev_pos rfl (ev_some rfl))
    · rw [bad (fun h => c2 (inR_iff.2 h.2.1))]
      exact ev_neg c2 (Ev.step (fun _ => spec_cuGood.j0.eq_2 ..) (ev_pos rfl (ev_some rfl)))
  · rw [bad (fun h => c1 (inR_iff.2 h.1))]
    exact ev_neg c1 (Ev.step (fun _ => spec_cuGood.j0.eq_2 ..) (ev_pos rfl (ev_some rfl)))
end Go.Proofs.Ytdfcljfajiihdaa.Pure

namespace Go.Proofs.Ytdfcljfajiihdaa.P
open Go.RowKit Go.Proofs.YtdfcljfajiihdaaW.PrintWords Go.Proofs.YtdfcljfajiihdaaW.PrintLast Go.Proofs.Ytdfcljfajiihdaa.Wm
attribute [local go_sem] max2_int min2_int max_two min_two
set_option linter.unusedVariables false
set_option linter.unusedSimpArgs false
end Go.Proofs.Ytdfcljfajiihdaa.P

namespace Go.Proofs.Ytdfcljfajiihdaa.P
open Go.RowKit Go.Proofs.YtdfcljfajiihdaaW.PrintWords Go.Proofs.YtdfcljfajiihdaaW.PrintLast Go.Proofs.Ytdfcljfajiihdaa.Wm
attribute [local go_sem] max2_int min2_int max_two min_two
set_option linter.unusedVariables false
set_option linter.unusedSimpArgs false
open Go.Proofs.Ytdfcljfajiihdaa.T Go.Proofs.Ytdfcljfajiihdaa.Aid
end Go.Proofs.Ytdfcljfajiihdaa.P

namespace Go.Proofs.Ytdfcljfajiihdaa.Pure
set_option linter.unusedVariables false
set_option linter.unusedSimpArgs false
open Go.RowKit Go.Proofs.Ytdfcljfajiihdaa.P Go.Proofs.YtdfcljfajiihdaaW.PrintWords Go.Proofs.YtdfcljfajiihdaaW.PrintLast Go.Proofs.Ytdfcljfajiihdaa.Wm Go.Proofs.Ytdfcljfajiihdaa.Aid Go.Proofs.Ytdfcljfajiihdaa.T
theorem rdqL (l : List Sq) (i : Nat) : rd_T88 l (i : Int) = nq l i := by unfold rd_T88 nq; rw [Int.toNat_natCast]; rfl
theorem toSquareS_l (l : List Sq) (hl : l.length ≤ 9223372036854775807) : ∀ (d i : Nat), i + d = l.length → Ev (fun k => laws_toSquareS.l0 k l (l.take i ++ List.replicate d ⟨0, 0, 0⟩) i) l
  | 0, i, hd => Ev.step (fun _ => laws_toSquareS.l0.eq_2 ..) (ev_neg (by omega) (ev_some (by rw [show i = l.length by omega]; simp)))
  | d + 1, i, hd => Ev.step (fun _ => laws_toSquareS.l0.eq_2 ..) (ev_pos (by omega) (ev_pos (by omega) (by
      simp only [rdqL]
      refine ev_call rfl (ev_pos (by simp; omega) ?_)
      rw [w64 (by omega) (by omega)]
      have := toSquareS_l l hl d (i + 1) (by omega)
      rw [show ((i : Int) + 1) = ((i + 1 : Nat) : Int) by omega]
      have e : (l.take i ++ List.replicate (d + 1) (⟨0, 0, 0⟩ : Sq)).set (i : Int).toNat (nq l i) = l.take (i + 1) ++ List.replicate d ⟨0, 0, 0⟩ := by
        have hi : i < l.length := by omega
        simp only [Int.toNat_natCast]
        rw [List.set_append_right _ _ (by simp; omega), List.length_take, show i - min i l.length = 0 by omega, List.replicate_succ, List.set_cons_zero, List.take_succ_eq_append_getElem hi, nq_get l i hi, List.append_assoc]
        rfl
      show Ev (fun n => laws_toSquareS.l0 n l ((l.take i ++ List.replicate (d + 1) (⟨0, 0, 0⟩ : Sq)).set (i : Int).toNat (nq l i)) _) l
      rw [e]
      exact this)))
theorem toSquareS_ev (l : List Sq) (hl : l.length ≤ 1048576) : Ev (fun k => laws_toSquareS.f k l) l := by
  have := toSquareS_l l (by omega) l.length 0 (by omega)
  refine ev_pos (by omega) (ev_pos (by simp; omega) ?_)
  simp only [List.take_zero, List.nil_append] at this
  exact this
theorem toCut_ev (a b : Int) (l : List Sq) (hl : l.length ≤ 1048576) : Ev (fun k => laws_toCut.f k a b l) (a, b, l) := ev_bind (toSquareS_ev l hl) (ev_some rfl)
theorem eqSquareS_refl_l (l : List Sq) (hl : l.length ≤ 9223372036854775807) : ∀ (d i : Nat), i + d = l.length → Ev (fun k => laws_eqSquareS.l0 k l l i) true
  | 0, i, hd => Ev.step (fun _ => laws_eqSquareS.l0.eq_2 ..) (ev_neg (by omega) (ev_some rfl))
  | d + 1, i, hd => Ev.step (fun _ => laws_eqSquareS.l0.eq_2 ..) (ev_pos (by omega) (ev_pos (by omega) (ev_pos (by omega) (by
      refine ev_call (a := true) (by unfold laws_eqSquare.f; simp) (ev_pos rfl ?_)
      rw [w64 (by omega) (by omega)]
      exact eqSquareS_refl_l l hl d (i + 1) (by omega)))))
theorem eqSquareS_refl (l : List Sq) (hl : l.length ≤ 9223372036854775807) : Ev (fun k => laws_eqSquareS.f k l l) true := ev_pos rfl (eqSquareS_refl_l l hl l.length 0 (by omega))
theorem eqCut_refl (a b : Int) (l : List Sq) (hl : l.length ≤ 9223372036854775807) : Ev (fun k => laws_eqCut.f k a b l a b l) true :=
  ev_pos rfl (ev_pos rfl (ev_bind (eqSquareS_refl l hl) (ev_pos rfl (ev_some rfl))))
theorem szCut_f (a b : Int) (l : List Sq) (x : Int) (h0 : 0 ≤ x) (h1 : x ≤ 1048576) (hl : l.length ≤ 9223372036854775807) : laws_szCut.f a b l x = some (if x < l.length then -1 else x - l.length) := by
  unfold laws_szCut.f laws_szSquareS.f
  rw [w64 (by omega) (by omega)]
  by_cases c : x < l.length
  · rw [if_pos (show x - (l.length : Int) < 0 by omega), if_pos c]; rfl
  · rw [if_neg (show ¬ x - (l.length : Int) < 0 by omega), if_neg c]
    simp only [Option.bind_some]
    rw [if_neg (by omega)]
end Go.Proofs.Ytdfcljfajiihdaa.Pure

namespace Go.Proofs.Ytdfcljfajiihdaa.Pure
set_option linter.unusedVariables false
set_option linter.unusedSimpArgs false
open Go.RowKit Go.Proofs.Ytdfcljfajiihdaa.P Go.Proofs.YtdfcljfajiihdaaW.PrintWords Go.Proofs.YtdfcljfajiihdaaW.PrintLast Go.Proofs.Ytdfcljfajiihdaa.Wm Go.Proofs.Ytdfcljfajiihdaa.Aid Go.Proofs.Ytdfcljfajiihdaa.T
end Go.Proofs.Ytdfcljfajiihdaa.Pure

namespace Go.Proofs.Ytdfcljfajiihdaa.Pure
set_option linter.unusedVariables false
set_option linter.unusedSimpArgs false
open Go.RowKit Go.Proofs.Ytdfcljfajiihdaa.P Go.Proofs.YtdfcljfajiihdaaW.PrintWords Go.Proofs.YtdfcljfajiihdaaW.PrintLast Go.Proofs.Ytdfcljfajiihdaa.Wm Go.Proofs.Ytdfcljfajiihdaa.Aid Go.Proofs.Ytdfcljfajiihdaa.T
def mkS (m : Int) : Nat → List Sq
  | 0 => []
  | n + 1 => ⟨m, m + 1, m + 2⟩ :: mkS (m + 3) n
theorem mkS_length : ∀ (n : Nat) (m : Int), (mkS m n).length = n
  | 0, m => rfl
  | n + 1, m => by simp only [mkS, List.length_cons, mkS_length n]
theorem set_at (pre : List Sq) (q x : Sq) (rest : List Sq) : (pre ++ q :: rest).set pre.length x = pre ++ x :: rest := by
  rw [List.set_append_right _ _ (Nat.le_refl _), Nat.sub_self, List.set_cons_zero]
theorem nq_at (pre : List Sq) (q : Sq) (rest : List Sq) : nq (pre ++ q :: rest) pre.length = q := by
  unfold nq
  rw [List.getD_eq_getElem?_getD, List.getElem?_append_right (Nat.le_refl _), Nat.sub_self]
  rfl
theorem markE_l : ∀ (rest pre : List Sq) (m : Int), (pre ++ rest).length ≤ 1048576 → 0 ≤ m → m + 3 * (rest.length : Int) ≤ 1000000000000000 → Ev (fun k => laws_markSquareS.l0 k (pre ++ rest) m pre.length) (m + 3 * (rest.length : Int), pre ++ mkS m rest.length)
  | [], pre, m, hl, h0, hm => Ev.step (fun _ => laws_markSquareS.l0.eq_2 ..) (ev_neg (by simp) (ev_some (by simp [mkS])))
  | q :: rest, pre, m, hl, h0, hm => by
    simp only [List.length_append, List.length_cons] at hl hm
    have ih := markE_l rest (pre ++ [⟨m, m + 1, m + 2⟩]) (m + 3) (by simp; omega) (by omega) (by omega)
    refine Ev.step (fun _ => laws_markSquareS.l0.eq_2 ..) (ev_pos (by simp; omega) (ev_pos (by omega) ?_))
    simp only [Option.bind_some, Int.toNat_natCast, rdq, nq_at, set_at]
    rw [w64 (e := m + 1) (by omega) (by omega), w64 (e := m + 1 + 1) (by omega) (by omega), w64 (e := m + 1 + 1 + 1) (by omega) (by omega), w64 (e := (pre.length : Int) + 1) (by omega) (by omega)]
    rw [List.append_assoc] at ih
    simp only [List.singleton_append, List.length_append, List.length_cons, List.length_nil, Nat.zero_add] at ih
    rw [show m + 1 + 1 + 1 = m + 3 by omega, show m + 1 + 1 = m + 2 by omega, show (pre.length : Int) + 1 = ((pre.length + 1 : Nat) : Int) by omega]
    rw [List.append_assoc] at ih
    simp only [List.singleton_append] at ih
    simp only [List.length_cons, mkS]
    rw [show m + 3 * ((rest.length + 1 : Nat) : Int) = m + 3 + 3 * (rest.length : Int) by omega]
    exact ih
theorem markE (a b : Int) (l : List Sq) (m : Int) (hl : l.length ≤ 1048576) (h0 : 0 ≤ m) (hm : m + 3 * (l.length : Int) ≤ 1000000000000000) : Ev (fun k => laws_markCut.f k a b l m) (m + 3 * (l.length : Int), mkS m l.length) := by
  have := markE_l l [] m (by simpa using hl) h0 hm
  simp only [List.nil_append] at this
  exact ev_bind (a := (m + 3 * (l.length : Int), mkS m l.length)) this (ev_some rfl)
theorem heldE_l : ∀ (n : Nat) (pre : List Sq) (m : Int), pre.length + n ≤ 1048576 → 0 ≤ m → m + 3 * (n : Int) ≤ 1000000000000000 → Ev (fun k => laws_heldSquareS.l0 k (pre ++ mkS m n) m pre.length) (m + 3 * (n : Int))
  | 0, pre, m, hl, h0, hm => Ev.step (fun _ => laws_heldSquareS.l0.eq_2 ..) (ev_neg (by simp [mkS]) (ev_some (by simp)))
  | n + 1, pre, m, hl, h0, hm => by
    have ih := heldE_l n (pre ++ [⟨m, m + 1, m + 2⟩]) (m + 3) (by simp; omega) (by omega) (by omega)
    refine Ev.step (fun _ => laws_heldSquareS.l0.eq_2 ..) (ev_pos (by simp [mkS, mkS_length]; omega) (ev_pos (by omega) ?_))
    simp only [mkS, rdq, nq_at]
    rw [w64 (e := m + 1) (by omega) (by omega), w64 (e := m + 1 + 1) (by omega) (by omega), w64 (e := m + 1 + 1 + 1) (by omega) (by omega), w64 (e := (pre.length : Int) + 1) (by omega) (by omega)]
    refine ev_pos (by first | rfl | trivial) (ev_pos (by first | rfl | trivial) (ev_pos (by first | omega | trivial) ?_))
    rw [List.append_assoc] at ih
    simp only [List.singleton_append, List.length_append, List.length_cons, List.length_nil, Nat.zero_add] at ih
    rw [show m + 1 + 1 + 1 = m + 3 by omega, show (pre.length : Int) + 1 = ((pre.length + 1 : Nat) : Int) by omega, show m + 3 * ((n + 1 : Nat) : Int) = m + 3 + 3 * (n : Int) by omega]
    exact ih
theorem heldE (a b : Int) (n : Nat) (m : Int) (hl : n ≤ 1048576) (h0 : 0 ≤ m) (hm : m + 3 * (n : Int) ≤ 1000000000000000) : Ev (fun k => laws_heldCut.f k a b (mkS m n) m) (m + 3 * (n : Int)) := by
  have := heldE_l n [] m (by simpa using hl) h0 hm
  simp only [List.nil_append] at this
  exact ev_bind (a := m + 3 * (n : Int)) this (ev_neg (by omega) (ev_some rfl))
end Go.Proofs.Ytdfcljfajiihdaa.Pure

namespace Go.Proofs.Ytdfcljfajiihdaa.Pure
set_option linter.unusedVariables false
set_option linter.unusedSimpArgs false
open Go.RowKit Go.Proofs.Ytdfcljfajiihdaa.P Go.Proofs.YtdfcljfajiihdaaW.PrintWords Go.Proofs.YtdfcljfajiihdaaW.PrintLast Go.Proofs.Ytdfcljfajiihdaa.Wm Go.Proofs.Ytdfcljfajiihdaa.Aid Go.Proofs.Ytdfcljfajiihdaa.T
def idxs (p : Sq → Bool) : List Sq → Nat → List Int
  | [], _ => []
  | q :: l, i => if p q = true then (i : Int) :: idxs p l (i + 1) else idxs p l (i + 1)
def insB (x1 x2 x3 x4 : Int) (q : Sq) : Bool := !(decide (q.f0 ≥ x3) || decide (q.f1 ≥ x4) || decide (wrap64 (q.f0 + q.f2) ≤ x1) || decide (wrap64 (q.f1 + q.f2) ≤ x2))
def subS (x y : Int) (q : Sq) : Sq := ⟨wrap64 (q.f0 - x), wrap64 (q.f1 - y), q.f2⟩
theorem drop_nq (l : List Sq) (i : Nat) (hi : i < l.length) : l.drop i = nq l i :: l.drop (i + 1) := by
  rw [List.drop_eq_getElem_cons hi, nq_get l i hi]
theorem within_l (l : List Sq) (hl : l.length ≤ 1000) (x1 x2 x3 x4 : Int) (hin : ∀ q ∈ l, insB x1 x2 x3 x4 q = true → q.f0 ≥ x1 ∧ q.f1 ≥ x2 ∧ wrap64 (q.f0 + q.f2) ≤ x3 ∧ wrap64 (q.f1 + q.f2) ≤ x4) :
    ∀ (d i : Nat) (acc : List Int), i + d = l.length → acc.length ≤ i → Ev (fun k => impl_Cut_within.l0 k x1 x2 x3 x4 acc l l.length i) (acc ++ idxs (insB x1 x2 x3 x4) (l.drop i) i, true)
  | 0, i, acc, hd, ha => by
    rw [List.drop_eq_nil_of_le (by omega)]
    exact Ev.step (fun _ => impl_Cut_within.l0.eq_2 ..) (ev_neg (by omega) (ev_some (by simp [idxs])))
  | d + 1, i, acc, hd, ha => by
    have hi : i < l.length := by omega
    have hm := nq_mem l i hi
    have sk : insB x1 x2 x3 x4 (nq l i) = false → Ev (fun k => impl_Cut_within.j2 k x1 x2 x3 x4 acc i l l.length i true (nq l i).f0 (nq l i).f1 (nq l i).f2) (acc ++ idxs (insB x1 x2 x3 x4) (l.drop i) i, true) := fun hz => by
      refine Ev.step (fun _ => impl_Cut_within.j2.eq_2 ..) (ev_pos rfl ?_)
      rw [w64 (by omega) (by omega), drop_nq l i hi]
      simp only [idxs, hz]
      exact within_l l hl x1 x2 x3 x4 hin d (i + 1) acc (by omega) (by omega)
    refine Ev.step (fun _ => impl_Cut_within.l0.eq_2 ..) (ev_pos (by omega) (ev_pos (by omega) (ev_pos (by omega) ?_)))
    rw [rdq]
    by_cases c1 : (nq l i).f0 ≥ x3
    · exact ev_pos c1 (sk (by unfold insB; rw [decide_eq_true c1]; rfl))
    refine ev_neg c1 ?_
    by_cases c2 : (nq l i).f1 ≥ x4
    · exact ev_pos c2 (sk (by unfold insB; rw [decide_eq_true c2]; simp))
    refine ev_neg c2 ?_
    by_cases c3 : wrap64 ((nq l i).f0 + (nq l i).f2) ≤ x1
    · exact ev_pos c3 (sk (by unfold insB; rw [decide_eq_true c3]; simp))
    refine ev_neg c3 ?_
    by_cases c4 : wrap64 ((nq l i).f1 + (nq l i).f2) ≤ x2
    · rw [decide_eq_true c4]
      exact sk (by unfold insB; rw [decide_eq_true c4]; simp)
    rw [decide_eq_false c4]
    have hz : insB x1 x2 x3 x4 (nq l i) = true := by
      unfold insB
      rw [decide_eq_false c1, decide_eq_false c2, decide_eq_false c3, decide_eq_false c4]
      rfl
    obtain ⟨g1, g2, g3, g4⟩ := hin _ hm hz
    refine Ev.step (fun _ => impl_Cut_within.j2.eq_2 ..) (ev_neg (by simp) (ev_pos g1 (ev_pos g2 (ev_pos g3 (ev_pos g4 (ev_pos (by omega) ?_))))))
    have ih := within_l l hl x1 x2 x3 x4 hin d (i + 1) (acc ++ [(i : Int)]) (by omega) (by simp; omega)
    rw [w64 (by omega) (by omega), drop_nq l i hi]
    simp only [idxs, hz, if_true]
    rw [List.append_assoc] at ih
    exact ih
theorem idxs_bd (p : Sq → Bool) : ∀ (l : List Sq) (i : Nat), ∀ j ∈ idxs p l i, (i : Int) ≤ j ∧ j < (i : Int) + l.length
  | [], i, j, h => by simp [idxs] at h
  | q :: l, i, j, h => by
    simp only [idxs] at h
    simp only [List.length_cons]
    split at h
    · rcases List.mem_cons.1 h with e | h
      · subst e; omega
      · have := idxs_bd p l (i + 1) j h; omega
    · have := idxs_bd p l (i + 1) j h; omega
theorem idxs_len (p : Sq → Bool) : ∀ (l : List Sq) (i : Nat), (idxs p l i).length ≤ l.length
  | [], i => by simp [idxs]
  | q :: l, i => by
    have := idxs_len p l (i + 1)
    simp only [idxs]
    split <;> simp <;> omega
theorem idxs_map (p : Sq → Bool) (l : List Sq) : ∀ (d i : Nat), i + d = l.length → (idxs p (l.drop i) i).map (fun j => nq l j.toNat) = (l.drop i).filter p
  | 0, i, hd => by rw [List.drop_eq_nil_of_le (by omega)]; rfl
  | d + 1, i, hd => by
    have ih := idxs_map p l d (i + 1) (by omega)
    rw [drop_nq l i (by omega), List.filter_cons]
    simp only [idxs]
    by_cases c : p (nq l i) = true
    · rw [if_pos c, if_pos c, List.map_cons, ih, Int.toNat_natCast]
    · rw [if_neg c, if_neg c, ih]
theorem taken_l (l : List Sq) (a b x1 x2 c1 c2 : Int) (is : List Int) (hn : is.length ≤ 1000) (hb : ∀ j ∈ is, 0 ≤ j ∧ j < l.length) : ∀ (d i : Nat) (acc : List Sq), i + d = is.length → acc.length ≤ i →
    Ev (fun k => impl_Cut_taken.l0 k x1 x2 is is.length i a b l c1 c2 acc) (c1, c2, acc ++ ((is.drop i).map (fun j => nq l j.toNat)).map (subS x1 x2))
  | 0, i, acc, hd, ha => by
    rw [List.drop_eq_nil_of_le (by omega)]
    exact Ev.step (fun _ => impl_Cut_taken.l0.eq_2 ..) (ev_neg (by omega) (ev_some (by simp)))
  | d + 1, i, acc, hd, ha => by
    have hi : i < is.length := by omega
    have e1 : rd is (i : Int) = is[i] := by unfold rd; rw [Int.toNat_natCast, List.getD_eq_getElem?_getD, List.getElem?_eq_getElem hi]; rfl
    have hj := hb _ (List.getElem_mem hi)
    have e2 : rd_T56 l is[i] = nq l is[i].toNat := by
      have := rdq l is[i].toNat
      rwa [Int.toNat_of_nonneg hj.1] at this
    have ih := taken_l l a b x1 x2 c1 c2 is hn hb d (i + 1) (acc ++ [subS x1 x2 (nq l is[i].toNat)]) (by omega) (by simp; omega)
    refine Ev.step (fun _ => impl_Cut_taken.l0.eq_2 ..) (ev_pos (by omega) (ev_pos (by omega) (ev_pos (by omega) ?_)))
    rw [e1, e2]
    refine ev_pos hj.1 (ev_pos hj.2 (ev_pos (by omega) ?_))
    rw [w64 (e := (i : Int) + 1) (by omega) (by omega), List.drop_eq_getElem_cons hi, List.map_cons, List.map_cons]
    rw [List.append_assoc] at ih
    exact ih
theorem taken_ev (l : List Sq) (hl : l.length ≤ 1000) (a b x1 x2 x3 x4 : Int) (h13 : x1 < x3) (h24 : x2 < x4) (hin : ∀ q ∈ l, insB x1 x2 x3 x4 q = true → q.f0 ≥ x1 ∧ q.f1 ≥ x2 ∧ wrap64 (q.f0 + q.f2) ≤ x3 ∧ wrap64 (q.f1 + q.f2) ≤ x4) :
    Ev (fun k => impl_Cut_taken.f k a b l x1 x2 x3 x4) (wrap64 (x3 - x1), wrap64 (x4 - x2), (l.filter (insB x1 x2 x3 x4)).map (subS x1 x2)) := by
  have hw := within_l l hl x1 x2 x3 x4 hin l.length 0 [] (by omega) (by simp)
  simp only [List.drop_zero, List.nil_append] at hw
  have hm := idxs_map (insB x1 x2 x3 x4) l l.length 0 (by omega)
  simp only [List.drop_zero] at hm
  have hbd := idxs_bd (insB x1 x2 x3 x4) l 0
  have hlen := idxs_len (insB x1 x2 x3 x4) l 0
  refine ev_bind (a := (idxs (insB x1 x2 x3 x4) l 0, true)) ?_ ?_
  · refine ev_call (a := ([] : List Int)) rfl (ev_neg (by omega) ?_)
    rw [decide_eq_false (show ¬ x2 ≥ x4 by omega)]
    exact Ev.step (fun _ => impl_Cut_within.j0.eq_2 ..) (ev_neg (by simp) hw)
  · have := taken_l l a b x1 x2 (wrap64 (x3 - x1)) (wrap64 (x4 - x2)) (idxs (insB x1 x2 x3 x4) l 0) (by omega) (fun j hj => by have := hbd j hj; omega) (idxs (insB x1 x2 x3 x4) l 0).length 0 [] (by omega) (by simp)
    rw [List.drop_zero, hm, List.nil_append] at this
    exact this
end Go.Proofs.Ytdfcljfajiihdaa.Pure

namespace Go.Proofs.Ytdfcljfajiihdaa.Pure
set_option linter.unusedVariables false
set_option linter.unusedSimpArgs false
open Go.RowKit Go.Proofs.Ytdfcljfajiihdaa.P Go.Proofs.YtdfcljfajiihdaaW.PrintWords Go.Proofs.YtdfcljfajiihdaaW.PrintLast Go.Proofs.Ytdfcljfajiihdaa.Aid
theorem eqIntS_refl_l (l : List Int) (hl : l.length ≤ 9223372036854775807) : ∀ (d : Nat) (i : Int), 0 ≤ i → (l.length : Int) - i = d → Ev (fun k => laws_eqIntS.l0 k l l i) true
  | 0, i, h0, hd => Ev.step (fun _ => rfl) (ev_neg (by omega) (ev_some rfl))
  | d + 1, i, h0, hd => Ev.step (fun _ => rfl) (ev_pos (by omega) (ev_pos h0 (ev_pos (by omega) (ev_pos rfl (by
      rw [w64 (by omega) (by omega)]
      exact eqIntS_refl_l l hl d (i + 1) (by omega) (by omega))))))
theorem eqIntS_refl (l : List Int) (hl : l.length ≤ 9223372036854775807) : Ev (fun k => laws_eqIntS.f k l l) true :=
  ev_pos rfl (eqIntS_refl_l l hl l.length 0 (by omega) (by omega))
theorem toIntS_l (l : List Int) (hl : l.length ≤ 9223372036854775807) : ∀ (d i : Nat), i + d = l.length → Ev (fun k => laws_toIntS.l0 k l (l.take i ++ List.replicate d 0) i) l
  | 0, i, hd => Ev.step (fun _ => rfl) (ev_neg (by omega) (ev_some (by rw [show i = l.length by omega]; simp)))
  | d + 1, i, hd => Ev.step (fun _ => rfl) (ev_pos (by omega) (ev_pos (by omega) (ev_pos (by simp; omega) (by
      rw [w64 (by omega) (by omega)]
      have := toIntS_l l hl d (i + 1) (by omega)
      rw [show ((i : Int) + 1) = ((i + 1 : Nat) : Int) by omega]
      have e : (l.take i ++ List.replicate (d + 1) 0).set (i : Int).toNat (rd l i) = l.take (i + 1) ++ List.replicate d 0 := by
        have hi : i < l.length := by omega
        simp only [Int.toNat_natCast]
        rw [List.set_append_right _ _ (by simp; omega), List.length_take, show i - min i l.length = 0 by omega, List.replicate_succ, List.set_cons_zero, List.take_succ_eq_append_getElem hi, show rd l (i : Int) = l[i] by simp [rd, hi], List.append_assoc]
        rfl
      rw [e]
      exact this))))
theorem toIntS_ev (l : List Int) (hl : l.length * 8 ≤ 140737488351232) : Ev (fun k => laws_toIntS.f k l) l := by
  have := toIntS_l l (by omega) l.length 0 (by omega)
  refine ev_pos (by omega) (ev_pos (by simp; omega) ?_)
  simpa using this
end Go.Proofs.Ytdfcljfajiihdaa.Pure

namespace Go.Proofs.Ytdfcljfajiihdaa.P
open Go.RowKit Go.Proofs.YtdfcljfajiihdaaW.PrintWords Go.Proofs.YtdfcljfajiihdaaW.PrintLast Go.Proofs.Ytdfcljfajiihdaa.Wm
attribute [local go_sem] max2_int min2_int max_two min_two
set_option linter.unusedVariables false
set_option linter.unusedSimpArgs false
end Go.Proofs.Ytdfcljfajiihdaa.P

namespace Go.Proofs.Ytdfcljfajiihdaa.Pure
set_option linter.unusedVariables false
set_option linter.unusedSimpArgs false
open Go.RowKit Go.Proofs.Ytdfcljfajiihdaa.P Go.Proofs.YtdfcljfajiihdaaW.PrintWords Go.Proofs.YtdfcljfajiihdaaW.PrintLast Go.Proofs.Ytdfcljfajiihdaa.Aid
def marked (l : List Int) (m : Int) : Nat → List Int
  | 0 => l
  | n + 1 => (marked l m n).set n (m + n)
theorem marked_length (l : List Int) (m : Int) : ∀ n, (marked l m n).length = l.length
  | 0 => rfl
  | n + 1 => by simp only [marked, List.length_set, marked_length l m n]
theorem markIntS_l (l : List Int) (m : Int) (h0 : 0 ≤ m) (hl : m + l.length ≤ 9223372036854775807) : ∀ (d i : Nat), i + d = l.length → Ev (fun k => laws_markIntS.l0 k (marked l m i) (m + i) i) (m + l.length, marked l m l.length)
  | 0, i, hd => Ev.step (fun _ => rfl) (ev_neg (by rw [marked_length]; omega) (ev_some (by rw [show i = l.length by omega])))
  | d + 1, i, hd => Ev.step (fun _ => rfl) (ev_pos (by rw [marked_length]; omega) (ev_pos (by omega) (by
      rw [w64 (by omega) (by omega), w64 (by omega) (by omega)]
      have := markIntS_l l m h0 hl d (i + 1) (by omega)
      rw [show (m + (i : Int) + 1) = m + ((i + 1 : Nat) : Int) by omega, show ((i : Int) + 1) = ((i + 1 : Nat) : Int) by omega]
      exact this)))
theorem markIntS_ev (l : List Int) (m : Int) (h0 : 0 ≤ m) (hl : m + l.length ≤ 9223372036854775807) : Ev (fun k => laws_markIntS.f k l m) (m + l.length, marked l m l.length) := by
  have := markIntS_l l m h0 hl l.length 0 (by omega)
  simp only [marked, Int.natCast_zero, Int.add_zero] at this
  exact this
end Go.Proofs.Ytdfcljfajiihdaa.Pure

namespace Go.Proofs.Ytdfcljfajiihdaa.P
open Go.RowKit Go.Proofs.YtdfcljfajiihdaaW.PrintWords Go.Proofs.YtdfcljfajiihdaaW.PrintLast Go.Proofs.Ytdfcljfajiihdaa.Wm
attribute [local go_sem] max2_int min2_int max_two min_two
set_option linter.unusedVariables false
set_option linter.unusedSimpArgs false
open Go.Proofs.Ytdfcljfajiihdaa.T Go.Proofs.Ytdfcljfajiihdaa.Aid
end Go.Proofs.Ytdfcljfajiihdaa.P

namespace Go.Proofs.Ytdfcljfajiihdaa.T
open Go.Sort
variable {α : Type} [Inhabited α]
variable {lt : α → α → Bool}
end Go.Proofs.Ytdfcljfajiihdaa.T

namespace Go.Proofs.Ytdfcljfajiihdaa.Sk
set_option linter.unusedVariables false
set_option linter.unusedSimpArgs false
set_option linter.unusedSectionVars false
open Go Go.RowKit Go.Sort Go.Proofs Go.Proofs.Ytdfcljfajiihdaa.P Go.Proofs.Ytdfcljfajiihdaa.T Go.Proofs.YtdfcljfajiihdaaW.PrintWords Go.Proofs.YtdfcljfajiihdaaW.PrintLast Go.Proofs.Ytdfcljfajiihdaa.Wm
theorem sk_put {B : Nat} {w w1 : World} (h : Below B w w1) {p : Addr} (hp : B ≤ p.block) (u : Value) : Below B w (w1.setCell p u) :=
  ⟨h.os, h.tape, h.output, by simpa [World.setCell] using h.size, fun k hk => (Below.heap_setCell w1 p u k (by omega)).trans (h.block k hk)⟩
def encQ (q : Sq) : List Value := [.int .i64 q.f0, .int .i64 q.f1, .int .i64 q.f2]
variable {α : Type} [Inhabited α] {val : α → Sq} {base g cap : Nat} {w0 W W1 : World} {d : Array α}
structure SB (val : α → Sq) (base : Nat) (w0 : World) (g cap : Nat) (d : Array α) (W : World) : Prop where
  row : Kd.R k56 56 W base (fun k => k = g) (.slice (some ⟨g, 0, none⟩) d.size cap) (d.toList.map val)
  kept : Kept w0 W (fun k => k = g)
  be : Below base w0 W
theorem SB.ge (h : SB val base w0 g cap d W) : base ≤ g := Kd.R_base h.row g rfl
theorem SB.lt (h : SB val base w0 g cap d W) : g < W.heap.size := Kd.R_lt h.row g rfl
theorem SB.below (h : SB val base w0 g cap d W) (hb : Below W.heap.size W W1) : SB val base w0 g cap d W1 :=
  ⟨Kd.R_below h.row hb, h.kept.below hb, h.be.trans (hb.mono (Nat.le_of_lt (Nat.lt_of_le_of_lt h.ge h.lt)))⟩
theorem SB.drew (h : SB val base w0 g cap d W) : SB val base w0 g cap d W.drew := h.below (below_drew (Below.refl _ _))
theorem getD_val (d : Array α) (i : Nat) (hi : i < d.size) (z : Sq) : (d.toList.map val).getD i z = val d[i]! := by
  rw [List.getD_eq_getElem?_getD, List.getElem?_map, List.getElem?_eq_getElem (by simpa using hi)]
  simp [hi]
theorem SB.cells (h : SB val base w0 g cap d W) {i : Nat} (hi : i < d.size) :
    (W.cell? ⟨g, i * 3, none⟩ = some (.int .i64 (val d[i]!).f0) ∧ W.cell? ⟨g, i * 3 + 1, none⟩ = some (.int .i64 (val d[i]!).f1) ∧ W.cell? ⟨g, i * 3 + 2, none⟩ = some (.int .i64 (val d[i]!).f2)) ∧
    (W.frozen? ⟨g, i * 3, none⟩ = false ∧ W.frozen? ⟨g, i * 3 + 1, none⟩ = false ∧ W.frozen? ⟨g, i * 3 + 2, none⟩ = false) := by
  obtain ⟨c, hcl, hM, hcc, hfr⟩ := Kd.R_elem h.row (⟨0, 0, 0⟩ : Sq) (i : Int) (by omega) (by omega)
  obtain rfl := k56_openM hM
  simp only [Int.toNat_natCast, getD_val d i hi] at hcc hfr
  exact ⟨⟨hcc 0 _ rfl, hcc 1 _ rfl, hcc 2 _ rfl⟩, hfr 0, hfr 1, hfr 2⟩
theorem map_set (d : Array α) (i : Nat) (x : α) : (d.setIfInBounds i x).toList.map val = (d.toList.map val).set i (val x) := by
  rw [Array.toList_setIfInBounds, List.map_set]
theorem SB.set (h : SB val base w0 g cap d W) {i : Nat} (hi : i < d.size) (x : α) : SB val base w0 g cap (d.setIfInBounds i x) (W.setCells g (i * 3) (encQ (val x))) := by
  obtain ⟨c, hcl, hM, hcc, hfr⟩ := Kd.R_elem h.row (⟨0, 0, 0⟩ : Sq) (i : Int) (by omega) (by omega)
  have hc3 : c.length = 3 := hcl
  have hs := Kd.R_seg h.row (i : Int) (by omega) (by omega) (c := c) (seg := encQ (val x)) (j := 0) hcl hcc (show 3 ≤ 3 by omega) (x' := val x) (okp := fun _ => False) (by
    have e : c.take 0 ++ encQ (val x) ++ c.drop (0 + (encQ (val x)).length) = encQ (val x) := by
      rw [List.take_zero, List.nil_append, List.drop_of_length_le (by rw [hc3]; show 3 ≤ 0 + 3; omega), List.append_nil]
    rw [e]
    exact k56_mkM _ _ _ _) (fun _ h => h.elim)
  have hw : W.setCells g ((i : Int).toNat * (k56).sz + 0) (encQ (val x)) = W.setCells g (i * 3) (encQ (val x)) := by rw [Int.toNat_natCast]; rfl
  rw [hw, Int.toNat_natCast] at hs
  refine ⟨?_, Kept.of_grown hs.2 h.kept (fun k e => .inl (by injection e with e; exact e.symm)), ?_⟩
  · rw [map_set, Array.size_setIfInBounds]; exact hs.1
  · have hge := h.ge
    exact sk_put (sk_put (sk_put h.be hge _) hge _) hge _
theorem SB.st (h : SB val base w0 g cap d W) {i : Nat} (hi : i < d.size) (q : Sq) (P : Program) : Sem.run P (storeCells ⟨g, i * 3, none⟩ (encQ q) 0) W = .ok () (W.setCells g (i * 3) (encQ q)) := by
  obtain ⟨⟨l0, l1, l2⟩, f0, f1, f2⟩ := h.cells hi
  have := run_storeCells_cells (P := P) g (i * 3) (encQ q) 0 W (fun c hc => by
    have hc : c < 3 := hc
    rcases (by omega : c = 0 ∨ c = 1 ∨ c = 2) with rfl | rfl | rfl
    · rw [show i * 3 + 0 + 0 = i * 3 from rfl, l0]; rfl
    · rw [show i * 3 + 0 + 1 = i * 3 + 1 from rfl, l1]; rfl
    · rw [show i * 3 + 0 + 2 = i * 3 + 2 from rfl, l2]; rfl) (fun c hc => by
    have hc : c < 3 := hc
    rcases (by omega : c = 0 ∨ c = 1 ∨ c = 2) with rfl | rfl | rfl
    · exact f0
    · exact f1
    · exact f2) (fun v hv => by
    unfold encQ at hv
    rcases List.mem_cons.1 hv with rfl | hv
    · rfl
    · rcases List.mem_cons.1 hv with rfl | hv
      · rfl
      · rw [List.mem_singleton.1 hv]; rfl)
  exact this
end Go.Proofs.Ytdfcljfajiihdaa.Sk

namespace Go.Proofs.Ytdfcljfajiihdaa.P
open Go.RowKit Go.Proofs.YtdfcljfajiihdaaW.PrintWords Go.Proofs.YtdfcljfajiihdaaW.PrintLast Go.Proofs.Ytdfcljfajiihdaa.Wm
attribute [local go_sem] max2_int min2_int max_two min_two
set_option linter.unusedVariables false
set_option linter.unusedSimpArgs false
open Go.Proofs.Ytdfcljfajiihdaa.T Go.Proofs.Ytdfcljfajiihdaa.Aid Go.Proofs.Ytdfcljfajiihdaa.Sk Go.Proofs.Ytdfcljfajiihdaa.Gr Go.Sort
end Go.Proofs.Ytdfcljfajiihdaa.P

namespace Go.Proofs.Ytdfcljfajiihdaa.P
open Go.RowKit Go.Proofs.YtdfcljfajiihdaaW.PrintWords Go.Proofs.YtdfcljfajiihdaaW.PrintLast Go.Proofs.Ytdfcljfajiihdaa.Wm
attribute [local go_sem] max2_int min2_int max_two min_two
set_option linter.unusedVariables false
set_option linter.unusedSimpArgs false
open Go.Proofs.Ytdfcljfajiihdaa.T Go.Proofs.Ytdfcljfajiihdaa.Aid Go.Proofs.Ytdfcljfajiihdaa.Sk Go.Sort
end Go.Proofs.Ytdfcljfajiihdaa.P

namespace Go.Proofs.Ytdfcljfajiihdaa.P
open Go.RowKit Go.Proofs.YtdfcljfajiihdaaW.PrintWords Go.Proofs.YtdfcljfajiihdaaW.PrintLast Go.Proofs.Ytdfcljfajiihdaa.Wm
attribute [local go_sem] max2_int min2_int max_two min_two
set_option linter.unusedVariables false
set_option linter.unusedSimpArgs false
open Go.Proofs.Ytdfcljfajiihdaa.T Go.Proofs.Ytdfcljfajiihdaa.Aid Go.Proofs.Ytdfcljfajiihdaa.Sk Go.Sort
end Go.Proofs.Ytdfcljfajiihdaa.P

namespace Go.Proofs.Ytdfcljfajiihdaa.T
open Go.Sort
set_option linter.unusedSectionVars false
variable {α : Type} [Inhabited α] {lt : α → α → Bool}
end Go.Proofs.Ytdfcljfajiihdaa.T

namespace Go.Proofs.Ytdfcljfajiihdaa.P
open Go.RowKit Go.Proofs.YtdfcljfajiihdaaW.PrintWords Go.Proofs.YtdfcljfajiihdaaW.PrintLast Go.Proofs.Ytdfcljfajiihdaa.Wm
attribute [local go_sem] max2_int min2_int max_two min_two
set_option linter.unusedVariables false
set_option linter.unusedSimpArgs false
open Go.Proofs.Ytdfcljfajiihdaa.T Go.Proofs.Ytdfcljfajiihdaa.Aid Go.Proofs.Ytdfcljfajiihdaa.Sk Go.Proofs.Ytdfcljfajiihdaa.Gr Go.Sort
end Go.Proofs.Ytdfcljfajiihdaa.P

namespace Go.Proofs.Ytdfcljfajiihdaa.T
open Go.Sort
set_option linter.unusedSectionVars false
variable {α : Type} [Inhabited α] {lt : α → α → Bool} {L a b n : Nat} {D D' : Array α}
theorem dvd_eq {y : Nat} (h1 : L ∣ y) (h2 : L ∣ a) (h3 : y ≤ a) (h4 : a < y + L) : y = a := by
  have h := Nat.dvd_sub h2 h1
  have := Nat.eq_zero_of_dvd_of_lt h (by omega)
  omega
def AllB (lt : α → α → Bool) (L n : Nat) (D : Array α) : Prop := ∀ y, L ∣ y → SortedIn lt y (min (y + L) n) D
def LoB (lt : α → α → Bool) (L a : Nat) (D : Array α) : Prop := ∀ y, L ∣ y → y + L ≤ a → SortedIn lt y (y + L) D
def HiB (lt : α → α → Bool) (L a n : Nat) (D : Array α) : Prop := ∀ y, L ∣ y → a ≤ y → SortedIn lt y (min (y + L) n) D
theorem sorted_out {x y : Nat} (h : SortedIn lt x y D) (hp : PermIn a b D D') (ho : y ≤ a ∨ b ≤ x) : SortedIn lt x y D' := fun i j h1 h2 h3 => by
  rw [hp.2.1 i (by omega), hp.2.1 j (by omega)]; exact h i j h1 h2 h3
theorem LoB.step (h : LoB lt L a D) (hL : L ∣ a) (hp : PermIn a (a + L) D D') (hs : SortedIn lt a (a + L) D') : LoB lt L (a + L) D' := fun y hy hle => by
  by_cases c : y + L ≤ a
  · exact sorted_out (h y hy c) hp (.inl c)
  · have e := dvd_eq hy hL (by omega) (by omega)
    rw [e]; exact hs
theorem HiB.step (h : HiB lt L a n D) (hab : a ≤ b) (hp : PermIn a b D D') : HiB lt L b n D' := fun y hy hle => sorted_out (h y hy (by omega)) hp (.inr hle)
theorem AllB.hi (h : AllB lt L n D) (a : Nat) : HiB lt L a n D := fun y hy _ => h y hy
theorem LoB.zero : LoB lt L 0 D := fun y hy h i j h1 h2 h3 => by
  have : L = 0 := by omega
  omega
end Go.Proofs.Ytdfcljfajiihdaa.T

namespace Go.Proofs.Ytdfcljfajiihdaa.P
open Go.RowKit Go.Proofs.YtdfcljfajiihdaaW.PrintWords Go.Proofs.YtdfcljfajiihdaaW.PrintLast Go.Proofs.Ytdfcljfajiihdaa.Wm
attribute [local go_sem] max2_int min2_int max_two min_two
set_option linter.unusedVariables false
set_option linter.unusedSimpArgs false
open Go.Proofs.Ytdfcljfajiihdaa.T Go.Proofs.Ytdfcljfajiihdaa.Aid Go.Proofs.Ytdfcljfajiihdaa.Sk Go.Proofs.Ytdfcljfajiihdaa.Gr Go.Sort
end Go.Proofs.Ytdfcljfajiihdaa.P

namespace Go.Proofs.Ytdfcljfajiihdaa.P
open Go.RowKit Go.Proofs.YtdfcljfajiihdaaW.PrintWords Go.Proofs.YtdfcljfajiihdaaW.PrintLast Go.Proofs.Ytdfcljfajiihdaa.Wm
attribute [local go_sem] max2_int min2_int max_two min_two
set_option linter.unusedVariables false
set_option linter.unusedSimpArgs false
open Go.Proofs.Ytdfcljfajiihdaa.T Go.Proofs.Ytdfcljfajiihdaa.Aid Go.Proofs.Ytdfcljfajiihdaa.Sk Go.Proofs.Ytdfcljfajiihdaa.Gr Go.Sort
end Go.Proofs.Ytdfcljfajiihdaa.P

namespace Go.Proofs.Ytdfcljfajiihdaa.P
open Go.RowKit Go.Proofs.YtdfcljfajiihdaaW.PrintWords Go.Proofs.YtdfcljfajiihdaaW.PrintLast Go.Proofs.Ytdfcljfajiihdaa.Wm
attribute [local go_sem] max2_int min2_int max_two min_two
set_option linter.unusedVariables false
set_option linter.unusedSimpArgs false
open Go.Proofs.Ytdfcljfajiihdaa.T Go.Proofs.Ytdfcljfajiihdaa.Aid Go.Proofs.Ytdfcljfajiihdaa.Sk Go.Sort
def okQ (q : Sq) : Bool := decide (-100000000000000000 ≤ q.f0) && decide (q.f0 ≤ 100000000000000000) && decide (-100000000000000000 ≤ q.f1) && decide (q.f1 ≤ 100000000000000000)
abbrev BSq := { q : Sq // okQ q = true }
instance : Inhabited BSq := ⟨⟨⟨0, 0, 0⟩, by decide⟩⟩
end Go.Proofs.Ytdfcljfajiihdaa.P

namespace Go.Proofs.Ytdfcljfajiihdaa.Pure
set_option linter.unusedVariables false
set_option linter.unusedSimpArgs false
open Go.RowKit Go.Proofs.Ytdfcljfajiihdaa.P Go.Proofs.YtdfcljfajiihdaaW.PrintWords Go.Proofs.YtdfcljfajiihdaaW.PrintLast Go.Proofs.Ytdfcljfajiihdaa.Wm Go.Proofs.Ytdfcljfajiihdaa.Aid Go.Proofs.Ytdfcljfajiihdaa.T
def cutV (W H : Int) (l : List Sq) : Int × Int × List Sq × Bool := if isCutB W H (srt l) = true then (W, H, srt l, true) else (0, 0, [], false)
theorem cuMake_ev (W H : Int) (l : List Sq) (h1 : l.length ≤ 500000) : Ev (fun k => spec_cuMake.f k W H l) (cutV W H l) := by
  unfold spec_cuMake.f
  by_cases hl : (l.length : Int) > 30
  · refine ev_pos hl (ev_some ?_)
    unfold cutV
    rw [if_neg]
    intro h
    rw [isCutB_good] at h
    have := (goodB_iff.1 h).len
    rw [(srt_perm l).length_eq] at this
    omega
  · refine ev_neg hl (ev_bind (a := srt l) ⟨0, fun k _ => if_pos h1⟩ (ev_bind (cuGood_ev W H (srt l) (by rw [(srt_perm l).length_eq]; omega)) ?_))
    unfold cutV
    rw [isCutB_good]
    by_cases h : goodB W H (srt l) = true
    · simp only [if_pos h]; exact ev_some rfl
    · simp only [if_neg h]; exact ev_some rfl
end Go.Proofs.Ytdfcljfajiihdaa.Pure

namespace Go.Proofs.Ytdfcljfajiihdaa.T
end Go.Proofs.Ytdfcljfajiihdaa.T

namespace Go.Proofs.Ytdfcljfajiihdaa.T
def moveS (x y : Int) (s : Sq) : Sq := ⟨s.f0 + x, s.f1 + y, s.f2⟩
theorem apart_move (x y : Int) {l : List Sq} (h : l.Pairwise Apart) : (l.map (moveS x y)).Pairwise Apart := by
  rw [List.pairwise_map]
  refine h.imp ?_
  intro a b hab
  unfold Apart moveS at *; simp only; omega
end Go.Proofs.Ytdfcljfajiihdaa.T

namespace Go.Proofs.Ytdfcljfajiihdaa.Pure
set_option linter.unusedVariables false
set_option linter.unusedSimpArgs false
set_option linter.unusedSectionVars false
open Go.RowKit Go.Proofs.Ytdfcljfajiihdaa.P Go.Proofs.YtdfcljfajiihdaaW.PrintWords Go.Proofs.YtdfcljfajiihdaaW.PrintLast Go.Proofs.Ytdfcljfajiihdaa.Wm Go.Proofs.Ytdfcljfajiihdaa.Aid Go.Proofs.Ytdfcljfajiihdaa.T
def ni (l : List Int) (j : Nat) : Int := l.getD j 0
theorem ni_rd (l : List Int) (j : Nat) : rd l (j : Int) = ni l j := by unfold rd ni; rw [Int.toNat_natCast]
theorem ni_get (l : List Int) (j : Nat) (h : j < l.length) : ni l j = l[j] := by unfold ni; rw [List.getD_eq_getElem?_getD, List.getElem?_eq_getElem h]; rfl
def Ris (l : List Int) : Prop := ∀ j, 1 ≤ j → j < l.length → ni l (j - 1) < ni l j
theorem ris_lt {l : List Int} (h : Ris l) : ∀ (d i : Nat), i + d + 1 < l.length → ni l i < ni l (i + d + 1)
  | 0, i, hi => h (i + 1) (by omega) hi
  | d + 1, i, hi => Int.lt_trans (ris_lt h d i (by omega)) (h (i + d + 1 + 1) (by omega) hi)
theorem ris_ge {l : List Int} (h : Ris l) (h0 : 0 ≤ ni l 0) : ∀ i, i < l.length → (i : Int) ≤ ni l i
  | 0, _ => h0
  | i + 1, hi => by have := ris_ge h h0 i (by omega); have := h (i + 1) (by omega) hi; rw [Nat.add_sub_cancel] at this; omega
theorem ris_pair {l : List Int} (h : Ris l) : l.Pairwise (· < ·) := by
  rw [List.pairwise_iff_getElem]
  intro i j hi hj hij
  obtain ⟨d, rfl⟩ : ∃ d, j = i + d + 1 := ⟨j - i - 1, by omega⟩
  have := ris_lt h d i hj
  rwa [ni_get l i hi, ni_get l _ hj] at this
theorem rising_l (l : List Int) (hl : l.length ≤ 9000000000) : ∀ (d i : Nat), i + d = l.length → 1 ≤ i → ∃ b, Ev (fun k => impl_isRising.l0 k l i) b ∧ (b = true ↔ ∀ j, i ≤ j → j < l.length → ni l (j - 1) < ni l j)
  | 0, i, hd, h1 => ⟨true, Ev.step (fun _ => impl_isRising.l0.eq_2 ..) (ev_neg (by omega) (ev_some rfl)), by simp only [true_iff]; intro j a b; omega⟩
  | d + 1, i, hd, h1 => by
    obtain ⟨b, hb, hc⟩ := rising_l l hl d (i + 1) (by omega) (by omega)
    have e1 : wrap64 ((i : Int) - 1) = ((i - 1 : Nat) : Int) := by rw [w64 (by omega) (by omega)]; omega
    have st : ∀ {r}, Ev (fun k => if ni l i ≤ ni l (i - 1) then some false else impl_isRising.l0 k l ((i + 1 : Nat) : Int)) r → Ev (fun k => impl_isRising.l0 k l i) r := fun e => by
      refine Ev.step (fun _ => impl_isRising.l0.eq_2 ..) (ev_pos (by omega) (ev_pos (by omega) ?_))
      rw [e1]
      refine ev_pos (by omega) (ev_pos (by omega) ?_)
      rw [ni_rd, ni_rd, w64 (by omega) (by omega)]
      exact e
    by_cases c : ni l i ≤ ni l (i - 1)
    · refine ⟨false, st (ev_pos c (ev_some rfl)), ?_⟩
      simp only [Bool.false_eq_true, false_iff]
      exact fun h => absurd (h i (Nat.le_refl _) (by omega)) (by omega)
    · refine ⟨b, st (ev_neg c hb), hc.trans ⟨fun h j h1 h2 => ?_, fun h j h1 h2 => h j (by omega) h2⟩⟩
      by_cases e : j = i
      · subst e; omega
      · exact h j (by omega) h2
theorem rising_ev (l : List Int) (hl : l.length ≤ 9000000000) : ∃ b, Ev (fun k => impl_isRising.f k l) b ∧ (b = true ↔ Ris l) := by
  by_cases h0 : l.length = 0
  · refine ⟨true, Ev.step (g := fun k => impl_isRising.f k l) (fun _ => impl_isRising.l0.eq_2 ..) (ev_neg (by omega) (ev_some rfl)), ?_⟩
    simp only [true_iff]; intro j a b; omega
  · exact rising_l l hl (l.length - 1) 1 (by omega) (by omega)
theorem l1Rising_l (l : List Int) (lo hi : Int) (hl : l.length ≤ 9000000000) : ∀ (d i : Nat), i + d = l.length → ∃ b, Ev (fun k => spec_l1Rising.l0 k l lo hi l (l.length : Int) i) b ∧ (b = true ↔ ∀ j, i ≤ j → j < l.length → (lo ≤ ni l j ∧ ni l j ≤ hi) ∧ (1 ≤ j → ni l (j - 1) < ni l j))
  | 0, i, hd => ⟨true, Ev.step (fun _ => spec_l1Rising.l0.eq_2 ..) (ev_neg (by omega) (ev_some rfl)), by simp only [true_iff]; intro j a b; omega⟩
  | d + 1, i, hd => by
    obtain ⟨b, hb, hc⟩ := l1Rising_l l lo hi hl d (i + 1) (by omega)
    have st : ∀ {r}, Ev (fun k => if inR (ni l i) lo hi = true then (if (i : Int) > 0 then (if 0 ≤ wrap64 ((i : Int) - 1) then (if wrap64 ((i : Int) - 1) < (l.length : Int) then (if rd l (wrap64 ((i : Int) - 1)) ≥ ni l i then some false else spec_l1Rising.l0 k l lo hi l (l.length : Int) ((i + 1 : Nat) : Int)) else none) else none) else spec_l1Rising.l0 k l lo hi l (l.length : Int) ((i + 1 : Nat) : Int)) else some false) r → Ev (fun k => spec_l1Rising.l0 k l lo hi l (l.length : Int) i) r := fun e => by
      refine Ev.step (fun _ => spec_l1Rising.l0.eq_2 ..) (ev_pos (by omega) (ev_pos (by omega) (ev_pos (by omega) ?_)))
      rw [ni_rd]
      refine ev_call (l1In_f _ _ _) ?_
      rw [w64 (e := (i : Int) + 1) (by omega) (by omega)]
      exact e
    by_cases c1 : inR (ni l i) lo hi = true
    · have c1' := inR_iff.1 c1
      by_cases c2 : (i : Int) > 0
      · have e1 : wrap64 ((i : Int) - 1) = ((i - 1 : Nat) : Int) := by rw [w64 (by omega) (by omega)]; omega
        by_cases c3 : ni l (i - 1) ≥ ni l i
        · refine ⟨false, st (ev_pos c1 (ev_pos c2 ?_)), ?_⟩
          · rw [e1, ni_rd]; exact ev_pos (by omega) (ev_pos (by omega) (ev_pos c3 (ev_some rfl)))
          · simp only [Bool.false_eq_true, false_iff]
            exact fun h => absurd ((h i (Nat.le_refl _) (by omega)).2 (by omega)) (by omega)
        · refine ⟨b, st (ev_pos c1 (ev_pos c2 ?_)), hc.trans ⟨fun h j h1 h2 => ?_, fun h j h1 h2 => h j (by omega) h2⟩⟩
          · rw [e1, ni_rd]; exact ev_pos (by omega) (ev_pos (by omega) (ev_neg c3 hb))
          · by_cases e : j = i
            · subst e; exact ⟨c1', fun _ => by omega⟩
            · exact h j (by omega) h2
      · refine ⟨b, st (ev_pos c1 (ev_neg c2 hb)), hc.trans ⟨fun h j h1 h2 => ?_, fun h j h1 h2 => h j (by omega) h2⟩⟩
        by_cases e : j = i
        · subst e; exact ⟨c1', fun _ => by omega⟩
        · exact h j (by omega) h2
    · refine ⟨false, st (ev_neg c1 (ev_some rfl)), ?_⟩
      simp only [Bool.false_eq_true, false_iff]
      exact fun h => c1 (inR_iff.2 (h i (Nat.le_refl _) (by omega)).1)
theorem l1Rising_ev (l : List Int) (lo hi : Int) (hl : l.length ≤ 9000000000) : ∃ b, Ev (fun k => spec_l1Rising.f k l lo hi) b ∧ (b = true ↔ (∀ j, j < l.length → lo ≤ ni l j ∧ ni l j ≤ hi) ∧ Ris l) := by
  obtain ⟨b, hb, hc⟩ := l1Rising_l l lo hi hl l.length 0 (by omega)
  exact ⟨b, hb, hc.trans ⟨fun h => ⟨fun j hj => (h j (by omega) hj).1, fun j h1 hj => (h j (by omega) hj).2 h1⟩, fun h j _ hj => ⟨h.1 j hj, fun h1 => h.2 j h1 hj⟩⟩⟩
theorem equal_l (l m : List Int) (hl : l.length ≤ 9000000000) (hm : m.length = l.length) : ∀ (d i : Nat), i + d = l.length → ∃ b, Ev (fun k => slices_Equal_int_int.l0 k l m (l.length : Int) i) b ∧ (b = true ↔ ∀ j, i ≤ j → j < l.length → ni l j = ni m j)
  | 0, i, hd => ⟨true, Ev.step (fun _ => slices_Equal_int_int.l0.eq_2 ..) (ev_neg (by omega) (ev_some rfl)), by simp only [true_iff]; intro j a b; omega⟩
  | d + 1, i, hd => by
    obtain ⟨b, hb, hc⟩ := equal_l l m hl hm d (i + 1) (by omega)
    have st : ∀ {r}, Ev (fun k => if ni l i = ni m i then slices_Equal_int_int.l0 k l m (l.length : Int) ((i + 1 : Nat) : Int) else some false) r → Ev (fun k => slices_Equal_int_int.l0 k l m (l.length : Int) i) r := fun e => by
      refine Ev.step (fun _ => slices_Equal_int_int.l0.eq_2 ..) (ev_pos (by omega) (ev_pos (by omega) (ev_pos (by omega) (ev_pos (by omega) ?_))))
      rw [ni_rd, ni_rd, w64 (by omega) (by omega)]
      exact e
    by_cases c : ni l i = ni m i
    · refine ⟨b, st (ev_pos c hb), hc.trans ⟨fun h j h1 h2 => ?_, fun h j h1 h2 => h j (by omega) h2⟩⟩
      by_cases e : j = i
      · subst e; exact c
      · exact h j (by omega) h2
    · refine ⟨false, st (ev_neg c (ev_some rfl)), ?_⟩
      simp only [Bool.false_eq_true, false_iff]
      exact fun h => c (h i (Nat.le_refl _) (by omega))
theorem equal_ev (l m : List Int) (hl : l.length ≤ 9000000000) : ∃ b, Ev (fun k => slices_Equal_int_int.f k l m) b ∧ (b = true ↔ l = m) := by
  by_cases h : (l.length : Int) = (m.length : Int)
  · obtain ⟨b, hb, hc⟩ := equal_l l m hl (by omega) l.length 0 (by omega)
    refine ⟨b, ev_pos h hb, hc.trans ⟨fun h1 => ?_, fun h1 j _ _ => by rw [h1]⟩⟩
    refine List.ext_getElem (by omega) (fun j a b => ?_)
    have := h1 j (by omega) a
    rwa [ni_get l j a, ni_get m j b] at this
  · exact ⟨false, ev_neg h (ev_some rfl), by simp only [Bool.false_eq_true, false_iff]; exact fun e => h (by rw [e])⟩
theorem sorted_ext : ∀ A B : List Int, A.Pairwise (· < ·) → B.Pairwise (· < ·) → (∀ x, x ∈ A ↔ x ∈ B) → A = B
  | [], [], _, _, _ => rfl
  | [], b :: B, _, _, h => by have := (h b).2 List.mem_cons_self; cases this
  | a :: A, [], _, _, h => by have := (h a).1 List.mem_cons_self; cases this
  | a :: A, b :: B, hA, hB, h => by
    have h1 := List.pairwise_cons.1 hA
    have h2 := List.pairwise_cons.1 hB
    have e : a = b := by
      rcases List.mem_cons.1 ((h a).1 List.mem_cons_self) with e | ha
      · exact e
      · rcases List.mem_cons.1 ((h b).2 List.mem_cons_self) with e | hb
        · exact e.symm
        · have := h1.1 b hb; have := h2.1 a ha; omega
    subst e
    rw [sorted_ext A B h1.2 h2.2 (fun x => ⟨fun hx => by
      rcases List.mem_cons.1 ((h x).1 (List.mem_cons_of_mem _ hx)) with e | hb
      · have := h1.1 x hx; omega
      · exact hb, fun hx => by
      rcases List.mem_cons.1 ((h x).2 (List.mem_cons_of_mem _ hx)) with e | hb
      · have := h2.1 x hx; omega
      · exact hb⟩)]
theorem idxs_mem (p : Sq → Bool) (l : List Sq) : ∀ (d i : Nat), i + d = l.length → ∀ j : Int, j ∈ idxs p (l.drop i) i ↔ (i : Int) ≤ j ∧ j < l.length ∧ p (nq l j.toNat) = true
  | 0, i, hd, j => by rw [List.drop_eq_nil_of_le (by omega)]; simp only [idxs, List.not_mem_nil, false_iff]; omega
  | d + 1, i, hd, j => by
    have ih := idxs_mem p l d (i + 1) (by omega) j
    rw [drop_nq l i (by omega)]
    simp only [idxs]
    by_cases c : p (nq l i) = true
    · rw [if_pos c, List.mem_cons, ih]
      constructor
      · rintro (rfl | h)
        · exact ⟨by omega, by omega, by rw [Int.toNat_natCast]; exact c⟩
        · exact ⟨by omega, h.2⟩
      · rintro ⟨h1, h2, h3⟩
        by_cases e : j = i
        · exact .inl e
        · exact .inr ⟨by omega, h2, h3⟩
    · rw [if_neg c, ih]
      constructor
      · rintro ⟨h1, h2⟩; exact ⟨by omega, h2⟩
      · rintro ⟨h1, h2, h3⟩
        refine ⟨?_, h2, h3⟩
        by_cases e : j = i
        · subst e; rw [Int.toNat_natCast] at h3; exact absurd h3 c
        · omega
theorem idxs_ris (p : Sq → Bool) : ∀ (l : List Sq) (i : Nat), (idxs p l i).Pairwise (· < ·)
  | [], i => List.Pairwise.nil
  | q :: l, i => by
    simp only [idxs]
    split
    · exact List.pairwise_cons.2 ⟨fun j hj => by have := idxs_bd p l (i + 1) j hj; omega, idxs_ris p l (i + 1)⟩
    · exact idxs_ris p l (i + 1)
def conR (x1 x2 x3 x4 : Int) (q : Sq) : Prop := q.f0 ≥ x1 ∧ q.f1 ≥ x2 ∧ wrap64 (q.f0 + q.f2) ≤ x3 ∧ wrap64 (q.f1 + q.f2) ≤ x4
instance (x1 x2 x3 x4 : Int) (q : Sq) : Decidable (conR x1 x2 x3 x4 q) := by unfold conR; infer_instance
theorem within_any (l : List Sq) (hl : l.length ≤ 1000) (x1 x2 x3 x4 : Int) : ∀ (d i : Nat) (acc : List Int), i + d = l.length → acc.length ≤ i →
    ((∀ q ∈ l.drop i, insB x1 x2 x3 x4 q = true → conR x1 x2 x3 x4 q) ∧ Ev (fun k => impl_Cut_within.l0 k x1 x2 x3 x4 acc l l.length i) (acc ++ idxs (insB x1 x2 x3 x4) (l.drop i) i, true)) ∨
    ((¬ ∀ q ∈ l.drop i, insB x1 x2 x3 x4 q = true → conR x1 x2 x3 x4 q) ∧ ∃ o, Ev (fun k => impl_Cut_within.l0 k x1 x2 x3 x4 acc l l.length i) (o, false))
  | 0, i, acc, hd, ha => by
    rw [List.drop_eq_nil_of_le (by omega)]
    exact .inl ⟨(fun q hq => by cases hq), Ev.step (fun _ => impl_Cut_within.l0.eq_2 ..) (ev_neg (by omega) (ev_some (by simp [idxs])))⟩
  | d + 1, i, acc, hd, ha => by
    have hi : i < l.length := by omega
    have st : ∀ {r}, Ev (fun k => impl_Cut_within.j2 k x1 x2 x3 x4 acc i l l.length i (!insB x1 x2 x3 x4 (nq l i)) (nq l i).f0 (nq l i).f1 (nq l i).f2) r → Ev (fun k => impl_Cut_within.l0 k x1 x2 x3 x4 acc l l.length i) r := fun e => by
      refine Ev.step (fun _ => impl_Cut_within.l0.eq_2 ..) (ev_pos (by omega) (ev_pos (by omega) (ev_pos (by omega) ?_)))
      rw [rdq]
      unfold insB at e
      rw [Bool.not_not] at e
      by_cases c1 : (nq l i).f0 ≥ x3
      · rw [decide_eq_true c1] at e; exact ev_pos c1 (by simpa using e)
      refine ev_neg c1 ?_
      rw [decide_eq_false c1] at e
      by_cases c2 : (nq l i).f1 ≥ x4
      · rw [decide_eq_true c2] at e; exact ev_pos c2 (by simpa using e)
      refine ev_neg c2 ?_
      rw [decide_eq_false c2] at e
      by_cases c3 : wrap64 ((nq l i).f0 + (nq l i).f2) ≤ x1
      · rw [decide_eq_true c3] at e; exact ev_pos c3 (by simpa using e)
      refine ev_neg c3 ?_
      rw [decide_eq_false c3] at e
      simpa using e
    have hdr : ∀ q, q ∈ l.drop i ↔ q = nq l i ∨ q ∈ l.drop (i + 1) := fun q => by rw [drop_nq l i hi, List.mem_cons]
    cases hz : insB x1 x2 x3 x4 (nq l i) with
    | false =>
      rw [hz] at st
      have st2 : ∀ {r}, Ev (fun k => impl_Cut_within.l0 k x1 x2 x3 x4 acc l l.length ((i + 1 : Nat) : Int)) r → Ev (fun k => impl_Cut_within.l0 k x1 x2 x3 x4 acc l l.length i) r := fun e => st (Ev.step (fun _ => impl_Cut_within.j2.eq_2 ..) (ev_pos rfl (by rw [w64 (by omega) (by omega)]; exact e)))
      rcases within_any l hl x1 x2 x3 x4 d (i + 1) acc (by omega) (by omega) with ⟨h1, h2⟩ | ⟨h1, o, h2⟩
      · refine .inl ⟨fun q hq hp => ?_, ?_⟩
        · rcases (hdr q).1 hq with rfl | hq
          · rw [hz] at hp; cases hp
          · exact h1 q hq hp
        · rw [drop_nq l i hi]; simp only [idxs, hz]; exact st2 h2
      · exact .inr ⟨fun h => h1 (fun q hq hp => h q ((hdr q).2 (.inr hq)) hp), o, st2 h2⟩
    | true =>
      rw [hz] at st
      by_cases hc : conR x1 x2 x3 x4 (nq l i)
      · have st2 : ∀ {r}, Ev (fun k => impl_Cut_within.l0 k x1 x2 x3 x4 (acc ++ [(i : Int)]) l l.length ((i + 1 : Nat) : Int)) r → Ev (fun k => impl_Cut_within.l0 k x1 x2 x3 x4 acc l l.length i) r := fun e => st (Ev.step (fun _ => impl_Cut_within.j2.eq_2 ..) (ev_neg (by decide) (ev_pos hc.1 (ev_pos hc.2.1 (ev_pos hc.2.2.1 (ev_pos hc.2.2.2 (ev_pos (by omega) (by rw [w64 (by omega) (by omega)]; exact e))))))))
        rcases within_any l hl x1 x2 x3 x4 d (i + 1) (acc ++ [(i : Int)]) (by omega) (by simp; omega) with ⟨h1, h2⟩ | ⟨h1, o, h2⟩
        · refine .inl ⟨fun q hq hp => ?_, ?_⟩
          · rcases (hdr q).1 hq with rfl | hq
            · exact hc
            · exact h1 q hq hp
          · rw [drop_nq l i hi]; simp only [idxs, hz, if_true]
            rw [List.append_assoc] at h2
            exact st2 h2
        · exact .inr ⟨fun h => h1 (fun q hq hp => h q ((hdr q).2 (.inr hq)) hp), o, st2 h2⟩
      · refine .inr ⟨fun h => hc (h _ ((hdr _).2 (.inl rfl)) hz), [], st (Ev.step (fun _ => impl_Cut_within.j2.eq_2 ..) (ev_neg (by decide) ?_))⟩
        by_cases c1 : (nq l i).f0 ≥ x1
        · refine ev_pos c1 ?_
          by_cases c2 : (nq l i).f1 ≥ x2
          · refine ev_pos c2 ?_
            by_cases c3 : wrap64 ((nq l i).f0 + (nq l i).f2) ≤ x3
            · exact ev_pos c3 (ev_neg (fun c4 => hc ⟨c1, c2, c3, c4⟩) (ev_some rfl))
            · exact ev_neg c3 (ev_some rfl)
          · exact ev_neg c2 (ev_some rfl)
        · exact ev_neg c1 (ev_some rfl)
abbrev Bx := Int × Int × Int × Int
def bx (s : Bx) (q : Sq) : Bx := (min s.1 q.f0, min s.2.1 q.f1, max s.2.2.1 (q.f0 + q.f2), max s.2.2.2 (q.f1 + q.f2))
def boxOf (s : Bx) (Q : List Sq) : Bx := Q.foldl bx s
theorem boxOf_spec (W H : Int) : ∀ (Q : List Sq) (s : Bx), (∀ q ∈ Q, inBox W H q) → 0 ≤ s.1 → 0 ≤ s.2.1 → s.2.2.1 ≤ W → s.2.2.2 ≤ H →
    0 ≤ (boxOf s Q).1 ∧ 0 ≤ (boxOf s Q).2.1 ∧ (boxOf s Q).2.2.1 ≤ W ∧ (boxOf s Q).2.2.2 ≤ H ∧ (boxOf s Q).1 ≤ s.1 ∧ (boxOf s Q).2.1 ≤ s.2.1 ∧ s.2.2.1 ≤ (boxOf s Q).2.2.1 ∧ s.2.2.2 ≤ (boxOf s Q).2.2.2 ∧
    ∀ q ∈ Q, (boxOf s Q).1 ≤ q.f0 ∧ (boxOf s Q).2.1 ≤ q.f1 ∧ q.f0 + q.f2 ≤ (boxOf s Q).2.2.1 ∧ q.f1 + q.f2 ≤ (boxOf s Q).2.2.2
  | [], s, _, h1, h2, h3, h4 => ⟨h1, h2, h3, h4, Int.le_refl _, Int.le_refl _, Int.le_refl _, Int.le_refl _, fun q hq => by cases hq⟩
  | q :: Q, s, hb, h1, h2, h3, h4 => by
    have hq := hb q List.mem_cons_self
    unfold inBox at hq
    have ih := boxOf_spec W H Q (bx s q) (fun x hx => hb x (List.mem_cons_of_mem _ hx)) (by unfold bx; simp only; omega) (by unfold bx; simp only; omega) (by unfold bx; simp only; omega) (by unfold bx; simp only; omega)
    have e : boxOf s (q :: Q) = boxOf (bx s q) Q := rfl
    rw [e]
    generalize boxOf (bx s q) Q = t at ih
    obtain ⟨i1, i2, i3, i4, i5, i6, i7, i8, i9⟩ := ih
    unfold bx at i5 i6 i7 i8
    simp only at i5 i6 i7 i8
    refine ⟨i1, i2, i3, i4, by omega, by omega, by omega, by omega, fun x hx => ?_⟩
    rcases List.mem_cons.1 hx with rfl | hx
    · omega
    · exact i9 x hx
theorem boxOf_first (W H : Int) (q : Sq) (Q : List Sq) (hq : inBox W H q) : boxOf (W, H, 0, 0) (q :: Q) = boxOf (q.f0, q.f1, 0, 0) (q :: Q) := by
  unfold inBox at hq
  show boxOf (bx (W, H, 0, 0) q) Q = boxOf (bx (q.f0, q.f1, 0, 0) q) Q
  have : bx (W, H, 0, 0) q = bx (q.f0, q.f1, 0, 0) q := by
    unfold bx
    simp only [Prod.mk.injEq]
    refine ⟨by omega, by omega, trivial⟩
  rw [this]
def chosen (l : List Sq) (js : List Int) : List Sq := js.map (fun j => nq l j.toNat)
section
variable {W H : Int} {l : List Sq} {js : List Int} (g : T.Good W H l) (hr : ∀ j ∈ js, 0 ≤ j ∧ j < l.length)
include g hr
theorem chosen_mem {q : Sq} (hq : q ∈ chosen l js) : q ∈ l ∧ ∃ j ∈ js, nq l j.toNat = q := by
  obtain ⟨j, hj, rfl⟩ := List.mem_map.1 hq
  have := hr j hj
  exact ⟨nq_mem l _ (by omega), j, hj, rfl⟩
theorem take_yes (hp : js.Pairwise (· < ·)) (h0 : 0 < js.length) {x1 x2 x3 x4 : Int} (hb : ∀ q ∈ chosen l js, x1 ≤ q.f0 ∧ x2 ≤ q.f1 ∧ q.f0 + q.f2 ≤ x3 ∧ q.f1 + q.f2 ≤ x4) (h1 : 0 ≤ x1) (h2 : 0 ≤ x2) (h3 : x3 ≤ W) (h4 : x4 ≤ H)
    (hT : ∀ i : Nat, i < l.length → insB x1 x2 x3 x4 (nq l i) = true → (i : Int) ∈ js) :
    idxs (insB x1 x2 x3 x4) l 0 = js ∧ (∀ q ∈ l, insB x1 x2 x3 x4 q = true → conR x1 x2 x3 x4 q) ∧ l.filter (insB x1 x2 x3 x4) = chosen l js ∧ T.Good (x3 - x1) (x4 - x2) ((chosen l js).map (moveS (-x1) (-x2))) := by
  have hw := g.w
  have hh := g.h
  have hq : ∀ q ∈ l, inBox W H q := g.box
  have hin : ∀ q ∈ chosen l js, insB x1 x2 x3 x4 q = true := fun q hm => by
    have b1 := hb q hm
    have b2 := hq q (chosen_mem g hr hm).1
    unfold inBox at b2
    unfold insB
    rw [w64 (by omega) (by omega), w64 (by omega) (by omega), decide_eq_false (show ¬ q.f0 ≥ x3 by omega), decide_eq_false (show ¬ q.f1 ≥ x4 by omega), decide_eq_false (show ¬ q.f0 + q.f2 ≤ x1 by omega), decide_eq_false (show ¬ q.f1 + q.f2 ≤ x2 by omega)]
    rfl
  have hid : idxs (insB x1 x2 x3 x4) l 0 = js := by
    refine sorted_ext _ _ (idxs_ris _ l 0) hp (fun j => ?_)
    have := idxs_mem (insB x1 x2 x3 x4) l l.length 0 (by omega) j
    rw [List.drop_zero] at this
    rw [this]
    constructor
    · rintro ⟨a, b, c⟩
      have := hT j.toNat (by omega) c
      rwa [Int.toNat_of_nonneg (by omega)] at this
    · intro hj
      have := hr j hj
      exact ⟨by omega, this.2, hin _ (List.mem_map.2 ⟨j, hj, rfl⟩)⟩
  have hfil : l.filter (insB x1 x2 x3 x4) = chosen l js := by
    have := idxs_map (insB x1 x2 x3 x4) l l.length 0 (by omega)
    rw [List.drop_zero, hid] at this
    exact this.symm
  refine ⟨hid, fun q hm hi => ?_, hfil, ?_⟩
  · have hc : q ∈ chosen l js := by rw [← hfil]; exact List.mem_filter.2 ⟨hm, hi⟩
    have b1 := hb q hc
    have b2 := hq q hm
    unfold inBox at b2
    unfold conR
    rw [w64 (by omega) (by omega), w64 (by omega) (by omega)]
    exact ⟨b1.1, b1.2.1, b1.2.2.1, b1.2.2.2⟩
  · obtain ⟨j, hj⟩ : ∃ j, j ∈ js := ⟨js[0], List.getElem_mem h0⟩
    have hm : nq l j.toNat ∈ chosen l js := List.mem_map.2 ⟨j, hj, rfl⟩
    have b1 := hb _ hm
    have b2 := hq _ (chosen_mem g hr hm).1
    unfold inBox at b2
    have hsub : (chosen l js).Sublist l := by rw [← hfil]; exact List.filter_sublist
    have hbx : ∀ q ∈ (chosen l js).map (moveS (-x1) (-x2)), inBox (x3 - x1) (x4 - x2) q := fun q hm => by
      obtain ⟨s, hs, rfl⟩ := List.mem_map.1 hm
      have c1 := hb s hs
      have c2 := hq s (chosen_mem g hr hs).1
      unfold inBox at *
      unfold moveS
      simp only
      omega
    have hap := apart_move (-x1) (-x2) (g.apart.sublist hsub)
    refine ⟨by omega, by omega, by rw [List.length_map]; exact Nat.le_trans hsub.length_le g.len, hbx, hap, ?_, ?_⟩
    · rw [List.pairwise_map]
      refine (g.lt.sublist hsub).imp ?_
      intro a b hab
      unfold Lt moveS at *
      simp only
      omega
    · obtain ⟨w, hw'⟩ : ∃ w : Nat, x3 - x1 = w := ⟨(x3 - x1).toNat, by omega⟩
      obtain ⟨h, hh'⟩ : ∃ h : Nat, x4 - x2 = h := ⟨(x4 - x2).toNat, by omega⟩
      obtain ⟨Wn, hWn⟩ : ∃ n : Nat, W = n := ⟨W.toNat, by omega⟩
      obtain ⟨Hn, hHn⟩ : ∃ n : Nat, H = n := ⟨H.toNat, by omega⟩
      rw [hw', hh'] at hbx ⊢
      refine area_of_covered w h _ hbx hap (fun a b ha hb1 hb2 hb3 => ?_)
      obtain ⟨q, hql, hqh⟩ := covered Wn Hn l (by rw [← hWn, ← hHn]; exact hq) g.apart (by rw [← hWn, ← hHn]; exact g.area) (a + x1) (b + x2) (by omega) (by omega) (by omega) (by omega)
      have c2 := hq q hql
      unfold inBox at c2
      unfold Sq.has at hqh
      have hqc : q ∈ chosen l js := by
        rw [← hfil]
        refine List.mem_filter.2 ⟨hql, ?_⟩
        unfold insB
        rw [w64 (by omega) (by omega), w64 (by omega) (by omega), decide_eq_false (show ¬ q.f0 ≥ x3 by omega), decide_eq_false (show ¬ q.f1 ≥ x4 by omega), decide_eq_false (show ¬ q.f0 + q.f2 ≤ x1 by omega), decide_eq_false (show ¬ q.f1 + q.f2 ≤ x2 by omega)]
        rfl
      refine ⟨_, List.mem_map.2 ⟨q, hqc, rfl⟩, ?_⟩
      unfold Sq.has moveS
      simp only
      omega
theorem take_no {x1 x2 x3 x4 : Int} (h1 : 0 ≤ x1) (h2 : 0 ≤ x2) (h3 : x3 ≤ W) (h4 : x4 ≤ H) (gg : T.Good (x3 - x1) (x4 - x2) (srt ((chosen l js).map (moveS (-x1) (-x2))))) :
    ∀ i : Nat, i < l.length → insB x1 x2 x3 x4 (nq l i) = true → (i : Int) ∈ js := by
  intro i hi hp
  have hw := g.w
  have hh := g.h
  have gw := gg.w
  have gh := gg.h
  have hq := g.box (nq l i) (nq_mem l i hi)
  unfold inBox at hq
  unfold insB at hp
  rw [w64 (by omega) (by omega), w64 (by omega) (by omega)] at hp
  simp only [Bool.not_eq_true', Bool.or_eq_false_iff, decide_eq_false_iff_not] at hp
  obtain ⟨w, hw'⟩ : ∃ w : Nat, x3 - x1 = w := ⟨(x3 - x1).toNat, by omega⟩
  obtain ⟨h, hh'⟩ : ∃ h : Nat, x4 - x2 = h := ⟨(x4 - x2).toNat, by omega⟩
  have gb := gg.box
  have ga := gg.area
  rw [hw', hh'] at gb ga
  obtain ⟨o, ho, hoh⟩ := covered w h _ gb gg.apart ga (max (nq l i).f0 x1 - x1) (max (nq l i).f1 x2 - x2) (by omega) (by omega) (by omega) (by omega)
  obtain ⟨q, hqc, rfl⟩ := List.mem_map.1 ((srt_perm _).mem_iff.1 ho)
  obtain ⟨hql, j, hj, hjq⟩ := chosen_mem g hr hqc
  subst hjq
  have hjr := hr j hj
  unfold Sq.has moveS at hoh
  simp only at hoh
  by_cases e : i = j.toNat
  · rw [e, Int.toNat_of_nonneg hjr.1]; exact hj
  · have hap : Apart (nq l i) (nq l j.toNat) := by
      have hp2 := List.pairwise_iff_getElem.1 g.apart
      rcases Nat.lt_or_gt_of_ne e with h5 | h5
      · have := hp2 i j.toNat hi (by omega) h5
        rwa [← nq_get l i hi, ← nq_get l j.toNat (by omega)] at this
      · have := hp2 j.toNat i (by omega) hi h5
        rw [← nq_get l i hi, ← nq_get l j.toNat (by omega)] at this
        exact this.symm
    unfold Apart at hap
    omega
end
section
variable (W H : Int) (l : List Sq) (js : List Int)
theorem drop_ni (i : Nat) (hi : i < js.length) : js.drop i = ni js i :: js.drop (i + 1) := by rw [List.drop_eq_getElem_cons hi, ni_get js i hi]
theorem box_impl (g : T.Good W H l) (hr : ∀ j ∈ js, 0 ≤ j ∧ j < l.length) (hn : js.length ≤ 9000000000) {r : Int × Int × List Sq × Bool} : ∀ (d i : Nat) (s : Bx), i + d = js.length → 
    Ev (fun k => impl_TakePart.l0 k js (boxOf s (chosen l (js.drop i))).1 (boxOf s (chosen l (js.drop i))).2.1 (boxOf s (chosen l (js.drop i))).2.2.1 (boxOf s (chosen l (js.drop i))).2.2.2 js js.length (js.length : Nat) W H l) r →
    Ev (fun k => impl_TakePart.l0 k js s.1 s.2.1 s.2.2.1 s.2.2.2 js js.length i W H l) r
  | 0, i, s, hd, e => by
    obtain rfl : i = js.length := by omega
    rw [List.drop_length] at e
    exact e
  | d + 1, i, s, hd, e => by
    have hi : i < js.length := by omega
    have hm := hr (ni js i) (by rw [ni_get js i hi]; exact List.getElem_mem hi)
    have hb := g.box (nq l (ni js i).toNat) (nq_mem l _ (by omega))
    have hw := g.w
    have hh := g.h
    unfold inBox at hb
    rw [drop_ni js i hi] at e
    have ih := box_impl g hr hn d (i + 1) (bx s (nq l (ni js i).toNat)) (by omega) e
    refine Ev.step (fun _ => impl_TakePart.l0.eq_2 ..) (ev_pos (by omega) (ev_pos (by omega) (ev_pos (by omega) ?_)))
    rw [ni_rd]
    have e2 : rd_T56 l (ni js i) = nq l (ni js i).toNat := by
      have := rdq l (ni js i).toNat
      rwa [Int.toNat_of_nonneg hm.1] at this
    refine ev_pos hm.1 (ev_pos hm.2 ?_)
    rw [e2, mn_min, mn_min, mx_max, mx_max, w64 (e := (nq l (ni js i).toNat).f0 + _) (by omega) (by omega), w64 (e := (nq l (ni js i).toNat).f1 + _) (by omega) (by omega), w64 (e := (i : Int) + 1) (by omega) (by omega)]
    exact ih
theorem box_spec (g : T.Good W H l) (hr : ∀ j ∈ js, 0 ≤ j ∧ j < l.length) (hn : js.length ≤ 9000000000) {r : Int × Int × List Sq × Bool} : ∀ (d i : Nat) (s : Bx), i + d = js.length → 
    Ev (fun k => spec_TakePart.l1 k (boxOf s (chosen l (js.drop i))).1 (boxOf s (chosen l (js.drop i))).2.1 (boxOf s (chosen l (js.drop i))).2.2.1 (boxOf s (chosen l (js.drop i))).2.2.2 [] js js.length 0 W H l) r →
    Ev (fun k => spec_TakePart.l0 k js s.1 s.2.1 s.2.2.1 s.2.2.2 js js.length i W H l) r
  | 0, i, s, hd, e => by
    obtain rfl : i = js.length := by omega
    rw [List.drop_length] at e
    exact Ev.step (fun _ => spec_TakePart.l0.eq_2 ..) (ev_neg (by omega) e)
  | d + 1, i, s, hd, e => by
    have hi : i < js.length := by omega
    have hm := hr (ni js i) (by rw [ni_get js i hi]; exact List.getElem_mem hi)
    have hb := g.box (nq l (ni js i).toNat) (nq_mem l _ (by omega))
    have hw := g.w
    have hh := g.h
    unfold inBox at hb
    rw [drop_ni js i hi] at e
    have ih := box_spec g hr hn d (i + 1) (bx s (nq l (ni js i).toNat)) (by omega) e
    refine Ev.step (fun _ => spec_TakePart.l0.eq_2 ..) (ev_pos (by omega) (ev_pos (by omega) (ev_pos (by omega) ?_)))
    rw [ni_rd]
    have e2 : rd_T56 l (ni js i) = nq l (ni js i).toNat := by
      have := rdq l (ni js i).toNat
      rwa [Int.toNat_of_nonneg hm.1] at this
    refine ev_pos hm.1 (ev_pos hm.2 ?_)
    rw [e2]
    refine ev_call (l1Least_f _ _) (ev_call (l1Least_f _ _) (ev_call (l1Most_f _ _) (ev_call (l1Most_f _ _) ?_)))
    rw [w64 (e := (nq l (ni js i).toNat).f0 + _) (by omega) (by omega), w64 (e := (nq l (ni js i).toNat).f1 + _) (by omega) (by omega), w64 (e := (i : Int) + 1) (by omega) (by omega)]
    exact ih
theorem put_spec (hr : ∀ j ∈ js, 0 ≤ j ∧ j < l.length) (hn : js.length ≤ 1000000) (a b c e : Int) {r : Int × Int × List Sq × Bool} : ∀ (d i : Nat) (acc : List Sq), i + d = js.length → acc.length ≤ i →
    Ev (fun k => (spec_cuMake.f k (wrap64 (c - a)) (wrap64 (e - b)) (acc ++ (chosen l (js.drop i)).map (subS a b))).bind fun t => some (t.1, t.2.1, t.2.2.1, t.2.2.2)) r →
    Ev (fun k => spec_TakePart.l1 k a b c e acc js js.length i W H l) r
  | 0, i, acc, hd, ha, h => by
    rw [List.drop_eq_nil_of_le (by omega)] at h
    have h : Ev (fun k => (spec_cuMake.f k (wrap64 (c - a)) (wrap64 (e - b)) acc).bind fun t => some (t.1, t.2.1, t.2.2.1, t.2.2.2)) r := by simpa [chosen] using h
    exact Ev.step (fun _ => spec_TakePart.l1.eq_2 ..) (ev_neg (by omega) h)
  | d + 1, i, acc, hd, ha, h => by
    have hi : i < js.length := by omega
    have hm := hr (ni js i) (by rw [ni_get js i hi]; exact List.getElem_mem hi)
    have e2 : rd_T56 l (ni js i) = nq l (ni js i).toNat := by
      have := rdq l (ni js i).toNat
      rwa [Int.toNat_of_nonneg hm.1] at this
    have ih := put_spec hr hn a b c e d (i + 1) (acc ++ [subS a b (nq l (ni js i).toNat)]) (by omega) (by simp; omega) (r := r) (by
      rw [drop_ni js i hi] at h
      rw [List.append_assoc]
      exact h)
    refine Ev.step (fun _ => spec_TakePart.l1.eq_2 ..) (ev_pos (by omega) (ev_pos (by omega) (ev_pos (by omega) ?_)))
    rw [ni_rd]
    refine ev_pos hm.1 (ev_pos hm.2 (ev_pos (by omega) ?_))
    rw [e2, w64 (e := (i : Int) + 1) (by omega) (by omega)]
    exact ih
end
theorem takePart_both (W H : Int) (l : List Sq) (js : List Int) (hl : l.length ≤ 9223372036854775807) (hn : js.length ≤ 1048576) : ∃ r : Int × Int × List Sq × Bool, r.2.2.1.length ≤ 1000 ∧ Ev (fun k => spec_TakePart.f k W H l js) r ∧ Ev (fun k => impl_TakePart.f k W H l js) r := by
  have no1 : Ev (fun k => spec_TakePart.j0 k js true W H l) (0, 0, [], false) := Ev.step (fun _ => spec_TakePart.j0.eq_2 ..) (ev_pos rfl (ev_some rfl))
  have no2 : Ev (fun k => impl_TakePart.j0 k js true W H l) (0, 0, [], false) := Ev.step (fun _ => impl_TakePart.j0.eq_2 ..) (ev_pos rfl (ev_some rfl))
  obtain ⟨b1, e1, c1⟩ := rising_ev js (by omega)
  -- both say no, or both go on
  by_cases h0 : js.length = 0
  · refine ⟨(0, 0, [], false), by simp, ?_, ev_pos (by omega) no2⟩
    refine ev_bind (cuGood_ev W H l hl) ?_
    by_cases g : goodB W H l = true
    · exact ev_pos g (ev_pos (by omega) no1)
    · exact ev_neg g no1
  by_cases g : goodB W H l = true
  · have hg := goodB_iff.1 g
    have hll := hg.len
    have hn1 : wrap64 ((l.length : Int) - 1) = (l.length : Int) - 1 := w64 (by omega) (by omega)
    obtain ⟨b2, e2, c2⟩ := l1Rising_ev js 0 ((l.length : Int) - 1) (by omega)
    have sqo : ∀ x : Int, impl_isSquareOf.f W H l x = some (inR x 0 ((l.length : Int) - 1)) := fun x => by
      unfold impl_isSquareOf.f
      rw [isCut_f, g, Option.bind_some, if_pos rfl, within_f, Option.bind_some, hn1]
    have hlast : wrap64 ((js.length : Int) - 1) = ((js.length - 1 : Nat) : Int) := by rw [w64 (by omega) (by omega)]; omega
    have e0 : rd js 0 = ni js 0 := ni_rd js 0
    have spec1 : ∀ {r}, Ev (fun k => spec_TakePart.j0 k js (!b2) W H l) r → Ev (fun k => spec_TakePart.f k W H l js) r := fun e => ev_bind (cuGood_ev W H l hl) (ev_pos g (ev_neg (by omega) (by rw [hn1]; exact ev_bind e2 e)))
    by_cases hr : Ris js
    · have hb1 := c1.2 hr
      have impl1 : ∀ {r}, Ev (fun k => if inR (ni js 0) 0 ((l.length : Int) - 1) = true then impl_TakePart.j0 k js (!inR (ni js (js.length - 1)) 0 ((l.length : Int) - 1)) W H l else impl_TakePart.j0 k js true W H l) r → Ev (fun k => impl_TakePart.f k W H l js) r := fun e => by
        refine ev_neg (by omega) (ev_bind e1 (ev_pos hb1 (ev_pos (by omega) ?_)))
        rw [e0]
        refine ev_call (sqo _) ?_
        by_cases h1 : inR (ni js 0) 0 ((l.length : Int) - 1) = true
        · simp only [h1, if_true] at e
          refine ev_pos h1 ?_
          rw [hlast]
          refine ev_pos (by omega) (ev_pos (by omega) ?_)
          rw [ni_rd]
          exact ev_call (sqo _) e
        · rw [Bool.eq_false_iff.2 h1] at e
          rw [Bool.eq_false_iff.2 h1]
          exact e
      by_cases hall : ∀ j, j < js.length → 0 ≤ ni js j ∧ ni js j ≤ (l.length : Int) - 1
      · -- all are squares of the cut
        have hb2 : b2 = true := c2.2 ⟨hall, hr⟩
        have h1 : inR (ni js 0) 0 ((l.length : Int) - 1) = true := inR_iff.2 (hall 0 (by omega))
        have h2 : inR (ni js (js.length - 1)) 0 ((l.length : Int) - 1) = true := inR_iff.2 (hall _ (by omega))
        have hrng : ∀ j ∈ js, 0 ≤ j ∧ j < l.length := fun j hj => by
          obtain ⟨i, hi, rfl⟩ := List.getElem_of_mem hj
          have := hall i hi
          rw [ni_get js i hi] at this
          omega
        have hjl : js.length ≤ 30 := by
          have h3 := ris_ge hr (hall 0 (by omega)).1 (js.length - 1) (by omega)
          have h4 := (hall (js.length - 1) (by omega)).2
          omega
        have hq0 : chosen l js = nq l (ni js 0).toNat :: chosen l (js.drop 1) := by
          have e := drop_ni js 0 (by omega)
          rw [List.drop_zero] at e
          have e2 : chosen l js = chosen l (ni js 0 :: js.drop 1) := by rw [← e]
          exact e2
        have hm0 := hrng (ni js 0) (by rw [ni_get js 0 (by omega)]; exact List.getElem_mem _)
        have hib := hg.box _ (nq_mem l (ni js 0).toNat (by omega))
        have hbf := boxOf_first W H (nq l (ni js 0).toNat) (chosen l (js.drop 1)) hib
        rw [← hq0] at hbf
        have hbs := boxOf_spec W H (chosen l js) (W, H, 0, 0) (fun q hq => hg.box q (chosen_mem hg hrng hq).1) (by have := hg.w; simp only; omega) (by have := hg.h; simp only; omega) (by have := hg.w; simp only; omega) (by have := hg.h; simp only; omega)
        have hI := fun {r} => box_impl W H l js hg hrng (by omega) (r := r) js.length 0 (W, H, 0, 0) (by omega)
        have hS := fun {r} => box_spec W H l js hg hrng (by omega) (r := r) js.length 0 ((nq l (ni js 0).toNat).f0, (nq l (ni js 0).toNat).f1, 0, 0) (by omega)
        rw [List.drop_zero] at hI hS
        rw [← hbf] at hS
        obtain ⟨⟨x1, x2, x3, x4⟩, hbx⟩ : ∃ s, boxOf (W, H, 0, 0) (chosen l js) = s := ⟨_, rfl⟩
        rw [hbx] at hI hS hbs
        obtain ⟨k1, k2, k3, k4, _, _, _, _, k9⟩ := hbs
        simp only at k1 k2 k3 k4 k9 hI hS
        have hw := hg.w
        have hh := hg.h
        have kb := k9 _ (by rw [hq0]; exact List.mem_cons_self)
        have ib := hib
        unfold inBox at ib
        have hmv : (chosen l js).map (subS x1 x2) = (chosen l js).map (moveS (-x1) (-x2)) := List.map_congr_left (fun q hq => by
          have b1 := k9 q hq
          have b2 := hg.box q (chosen_mem hg hrng hq).1
          unfold inBox at b2
          unfold subS moveS
          rw [w64 (by omega) (by omega), w64 (by omega) (by omega)]
          rfl)
        have hclen : (chosen l js).length = js.length := by unfold chosen; rw [List.length_map]
        have hSp : Ev (fun k => spec_TakePart.f k W H l js) (cutV (x3 - x1) (x4 - x2) ((chosen l js).map (moveS (-x1) (-x2)))) := by
          refine spec1 ?_
          rw [hb2]
          refine Ev.step (fun _ => spec_TakePart.j0.eq_2 ..) (ev_neg (by decide) (ev_pos (by omega) ?_))
          rw [e0]
          have e3 : rd_T56 l (ni js 0) = nq l (ni js 0).toNat := by
            have := rdq l (ni js 0).toNat
            rwa [Int.toNat_of_nonneg hm0.1] at this
          refine ev_pos hm0.1 (ev_pos hm0.2 ?_)
          rw [e3]
          refine hS (put_spec W H l js hrng (by omega) x1 x2 x3 x4 js.length 0 [] (by omega) (by simp) ?_)
          rw [List.drop_zero, List.nil_append, hmv, w64 (e := x3 - x1) (by omega) (by omega), w64 (e := x4 - x2) (by omega) (by omega)]
          exact ev_bind (cuMake_ev (x3 - x1) (x4 - x2) _ (by rw [List.length_map, hclen]; omega)) (ev_some rfl)
        have hIm : ∀ {r}, Ev (fun k => impl_TakePart.l0 k js x1 x2 x3 x4 js (js.length : Int) (js.length : Int) W H l) r → Ev (fun k => impl_TakePart.f k W H l js) r := fun e => by
          refine impl1 (ev_pos h1 ?_)
          rw [h2]
          exact Ev.step (fun _ => impl_TakePart.j0.eq_2 ..) (ev_neg (by decide) (hI e))
        have hwin : ∀ {o : List Int × Bool}, Ev (fun k => impl_Cut_within.l0 k x1 x2 x3 x4 [] l l.length (0 : Nat)) o → Ev (fun k => impl_Cut_within.f k W H l x1 x2 x3 x4) o := fun e => ev_call (a := ([] : List Int)) rfl (ev_neg (by omega) (by
          rw [decide_eq_false (show ¬ x2 ≥ x4 by omega)]
          exact Ev.step (fun _ => impl_Cut_within.j0.eq_2 ..) (ev_neg (by simp) e)))
        by_cases hT : ∀ i : Nat, i < l.length → insB x1 x2 x3 x4 (nq l i) = true → (i : Int) ∈ js
        · obtain ⟨t1, t2, t3, t4⟩ := take_yes hg hrng (ris_pair hr) (by omega) k9 k1 k2 k3 k4 hT
          have hcv : cutV (x3 - x1) (x4 - x2) ((chosen l js).map (moveS (-x1) (-x2))) = (x3 - x1, x4 - x2, (chosen l js).map (moveS (-x1) (-x2)), true) := by
            unfold cutV
            rw [srt_id t4.lt, isCutB_good, if_pos (goodB_iff.2 t4)]
          rw [hcv] at hSp
          refine ⟨_, by simp only [List.length_map, hclen]; have := t4.len; rw [List.length_map, hclen] at this; omega, hSp, hIm (Ev.step (fun _ => impl_TakePart.l0.eq_2 ..) (ev_neg (by omega) ?_))⟩
          have hw1 := within_l l (by omega) x1 x2 x3 x4 t2 l.length 0 [] (by omega) (by simp)
          rw [List.drop_zero, List.nil_append, t1] at hw1
          obtain ⟨b3, e3, c3⟩ := equal_ev js js (by omega)
          have ht := taken_ev l (by omega) W H x1 x2 x3 x4 (by omega) (by omega) t2
          rw [t3, hmv, w64 (e := x3 - x1) (by omega) (by omega), w64 (e := x4 - x2) (by omega) (by omega)] at ht
          exact ev_bind (hwin hw1) (ev_pos rfl (ev_bind e3 (ev_pos (c3.2 rfl) (ev_bind ht (ev_some rfl)))))
        · have hcv : cutV (x3 - x1) (x4 - x2) ((chosen l js).map (moveS (-x1) (-x2))) = (0, 0, [], false) := by
            unfold cutV
            rw [isCutB_good, if_neg (fun h => hT (take_no hg hrng k1 k2 k3 k4 (goodB_iff.1 h)))]
          rw [hcv] at hSp
          refine ⟨_, by simp, hSp, hIm (Ev.step (fun _ => impl_TakePart.l0.eq_2 ..) (ev_neg (by omega) ?_))⟩
          rcases within_any l (by omega) x1 x2 x3 x4 l.length 0 [] (by omega) (by simp) with ⟨_, hw1⟩ | ⟨_, o, hw1⟩
          · rw [List.drop_zero, List.nil_append] at hw1
            have hil := idxs_len (insB x1 x2 x3 x4) l 0
            obtain ⟨b3, e3, c3⟩ := equal_ev (idxs (insB x1 x2 x3 x4) l 0) js (by omega)
            have hb3 : ¬ b3 = true := fun h => hT (fun i hi hp => by
              rw [← c3.1 h]
              have := idxs_mem (insB x1 x2 x3 x4) l l.length 0 (by omega) (i : Int)
              rw [List.drop_zero] at this
              exact this.2 ⟨by omega, by omega, by rw [Int.toNat_natCast]; exact hp⟩)
            exact ev_bind (hwin hw1) (ev_pos rfl (ev_bind e3 (ev_neg hb3 (ev_some rfl))))
          · exact ev_bind (hwin hw1) (ev_neg (by simp) (ev_some rfl))
      · have hb2 : b2 = false := by
          rw [Bool.eq_false_iff]; exact fun h => hall (c2.1 h).1
        refine ⟨(0, 0, [], false), by simp, spec1 (by rw [hb2]; exact no1), impl1 ?_⟩
        by_cases h1 : inR (ni js 0) 0 ((l.length : Int) - 1) = true
        · refine ev_pos h1 ?_
          by_cases h2 : inR (ni js (js.length - 1)) 0 ((l.length : Int) - 1) = true
          · refine absurd (fun j hj => ?_) hall
            have h1' := inR_iff.1 h1
            have h2' := inR_iff.1 h2
            have a1 : ni js 0 ≤ ni js j := by
              rcases Nat.eq_zero_or_pos j with e | e
              · rw [e]; exact Int.le_refl _
              · have := ris_lt hr (j - 1) 0 (by omega)
                rw [show 0 + (j - 1) + 1 = j by omega] at this; omega
            have a2 : ni js j ≤ ni js (js.length - 1) := by
              by_cases e : j = js.length - 1
              · rw [e]; exact Int.le_refl _
              · have := ris_lt hr (js.length - 1 - j - 1) j (by omega)
                rw [show j + (js.length - 1 - j - 1) + 1 = js.length - 1 by omega] at this; omega
            exact ⟨by omega, by omega⟩
          · rw [Bool.eq_false_iff.2 h2]; exact no2
        · exact ev_neg h1 no2
    · have hb1 : ¬ b1 = true := fun h => hr (c1.1 h)
      have hb2 : b2 = false := by
        rw [Bool.eq_false_iff]; exact fun h => hr (c2.1 h).2
      exact ⟨(0, 0, [], false), by simp, spec1 (by rw [hb2]; exact no1), ev_neg (by omega) (ev_bind e1 (ev_neg hb1 no2))⟩
  · have sqo : ∀ x : Int, impl_isSquareOf.f W H l x = some false := fun x => by
      unfold impl_isSquareOf.f
      rw [isCut_f, Bool.eq_false_iff.2 g, Option.bind_some, if_neg (by decide)]
    refine ⟨(0, 0, [], false), by simp, ev_bind (cuGood_ev W H l hl) (ev_neg g no1), ev_neg (by omega) (ev_bind e1 ?_)⟩
    by_cases hb : b1 = true
    · exact ev_pos hb (ev_pos (by omega) (ev_call (sqo _) (ev_neg (by decide) no2)))
    · exact ev_neg hb no2
theorem FnExactTakePart : laws_FnExactTakePart.Pure := by
  intro a b l js _ _ hl _ _ h8 _ hn
  unfold maxLen at hl
  obtain ⟨⟨r1, r2, r3, r4⟩, hr, h1, h2⟩ := takePart_both a b l js hl hn
  simp only at hr
  refine ⟨_, szCut_f a b l 1048576 (by omega) (by omega) hl, ?_⟩
  by_cases c : (1048576 : Int) < l.length
  · rw [if_pos c]; exact .inl (by omega)
  · rw [if_neg c]
    have hm1 := markE a b l 1 (by omega) (by omega) (by omega)
    exact .inr ⟨r1, r2, r3, r4, _, _, _, _, _, _, ev_at (toCut_ev a b l (by omega)), ev_at (toIntS_ev js h8), ev_at h1, ev_at h2, ev_at (eqCut_refl r1 r2 r3 (by omega)), ev_at (eqCut_refl a b l hl), ev_at (eqIntS_refl js (by omega)), ev_at hm1, ev_at (markIntS_ev js _ (by omega) (by omega)), ev_at (markE r1 r2 r3 1 (by omega) (by omega) (by omega)), ev_at (heldE r1 r2 r3.length 1 (by omega) (by omega) (by omega)), by omega, by omega, by omega⟩
end Go.Proofs.Ytdfcljfajiihdaa.Pure
