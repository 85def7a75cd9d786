import Derived.Test.YtnnbecckigpeeaaK
import Derived.Test.YtnnbecckigpeeaaF38
import Derived.Test.YtnnbecckigpeeaaF39
import Derived.Test.YtnnbecckigpeeaaF40
import Derived.RangeFuncNested
import Derived.RangeFuncBound
import Derived.RangeFuncCalls
import Derived.RangeFuncLeaves
import Derived.RangeFuncBox
import Derived.Shelf.Abstract
import Derived.Shelf.RegionOpen
import Derived.OwnWalkIn
import Derived.TacticsInMore
import Derived.LoopNIn
import Derived.LoopIn
import Derived.BigRegion
namespace Go.Proofs.Ytnnbecckigpeeaa.P
open Go.RowKit Go.Proofs.YtnnbecckigpeeaaW.PrintWords Go.Proofs.YtnnbecckigpeeaaW.PrintLast Go.Proofs.YtnnbecckigpeeaaW.PrintMore
attribute [local go_sem] max2_int min2_int max_two min_two max_three min_three max_four min_four
set_option linter.unusedVariables false
set_option linter.unusedSimpArgs false

/-! ### impl_RatioOfQuotients: function 18 -/
def ostep (s : Option (Int × Int)) (x : Int × Int) : Option (Int × Int) := s.bind fun s => if 1000 < wrap64 (wrap64 (x.2 * s.1) + s.2) then none else some (wrap64 (wrap64 (x.2 * s.1) + s.2), s.1)
def ofold (l : List (Int × Int)) : Option (Int × Int) := l.foldl ostep (some (1, 0))
theorem ofold_snoc (l : List (Int × Int)) (x : Int × Int) : ofold (l ++ [x]) = ostep (ofold l) x := by simp [ofold]
theorem ofold_none (l m : List (Int × Int)) (h : ofold l = none) : ofold (l ++ m) = none := by
  unfold ofold at h ⊢
  rw [List.foldl_append, h]
  induction m with
  | nil => rfl
  | cons x m ih => simpa [ostep] using ih
theorem backs_split (zs : List Int) (k : Nat) (hk : k ≤ zs.length) : ∃ m, backs zs zs.length = backs zs k ++ m := by
  refine ⟨((List.range (zs.length - k)).map (k + ·)).map fun (j : Nat) => (((zs.length : Int) - 1 - j), rd zs ((zs.length : Int) - 1 - j)), ?_⟩
  unfold backs
  rw [← List.map_append, ← List.range_add]
  congr 2
  omega
def roqOk (l0 : List Int) : Bool := (decide (1 ≤ (l0.length : Int)) && decide ((l0.length : Int) ≤ 20)) && (!(l0.any fun x => !(decide (1 ≤ x) && decide (x ≤ 1000)))) && (!(decide (1 < (l0.length : Int)) && (rd l0 ((l0.length : Int) - 1) == 1)))
def roqV : Option (Int × Int) → Int × Int × Bool
  | none => (0, 0, false)
  | some s => (s.1, s.2, true)
def impl_RatioOfQuotients.f (l0 : List Int) : Option (Int × Int × Bool) := some (if roqOk l0 = true then roqV (ofold (backs l0 l0.length)) else (0, 0, false))
theorem postM_of {F : Fence} {n : Nat} {P : Program} {fn : Func} {R : Ending → World → Prop} {a : Act} {w : World} (h : bodyPost P fn R .ret a w) : bodyPostM F n P fn R .ret a w := by
  obtain ⟨hd, v, hr, hR⟩ := h
  show LeavesInM F n P fn a.tmps R a.defers .returning w
  rw [hd]
  exact ⟨v, hr, hR⟩
theorem b0_drewN {a w : World} (h : Below a.heap.size a w) (n : Nat) : Below a.heap.size a (w.drewN n) := h.trans ((show Drawn0 w (w.drewN n) from ⟨n, rfl⟩).below.mono h.size)
theorem boxed_k {X Y : World} {row : Option Nat} {B : Nat} {t : TypeId} {v : Value} (h : Boxed X B t v) (hg : X.grownBy Y row) (hr : ∀ r, row = some r → ∃ o : Obj, X.heap[r]? = some o ∧ o.isCells = false) : Boxed Y B t v := boxed_own (β := Unit) B t (fun _ => v) () X Y row h hg hr
theorem boxed_b {X Y : World} {n B : Nat} {t : TypeId} {v : Value} (h : Boxed X B t v) (hb : Below n X Y) (hB : B < n) : Boxed Y B t v := (hb.block B hB).trans h
theorem cell_other (W : World) (b B : Nat) (u : Value) (hne : B ≠ b) : (W.setCell ⟨b, 0, none⟩ u).cell? ⟨B, 0, none⟩ = W.cell? ⟨B, 0, none⟩ := World.cell?_of_block (Below.heap_setCell _ _ _ _ hne)
theorem roq_results (W : World) (B2 B3 B4 : Nat) (r1 r2 : Int) (r3 : Bool) (tmps : Array Value) (h2 : tmps[2]? = some (.pointer (some ⟨B2, 0, none⟩))) (h3 : tmps[3]? = some (.pointer (some ⟨B3, 0, none⟩))) (h4 : tmps[4]? = some (.pointer (some ⟨B4, 0, none⟩)))
    (c2 : W.cell? ⟨B2, 0, none⟩ = some (.int .i64 r1)) (c3 : W.cell? ⟨B3, 0, none⟩ = some (.int .i64 r2)) (c4 : W.cell? ⟨B4, 0, none⟩ = some (.bool r3)) :
    (results Try.f18 tmps).run Try.prog W = .ok (.tuple #[.int .i64 r1, .int .i64 r2, .bool r3]) W := by
  simp [results, Try.f18, go_sem, h2, h3, h4, c2, c3, c4]
theorem three_cells {W : World} {B : Nat} {t1 t2 t3 : TypeId} {v1 v2 v3 : Value} (u1 u2 u3 : Value) (h1 : Boxed W B t1 v1) (h2 : Boxed W (B + 1) t2 v2) (h3 : Boxed W (B + 1 + 1) t3 v3) :
    Boxed (((W.setCell ⟨B, 0, none⟩ u1).setCell ⟨B + 1, 0, none⟩ u2).setCell ⟨B + 1 + 1, 0, none⟩ u3) B t1 u1 ∧ Boxed (((W.setCell ⟨B, 0, none⟩ u1).setCell ⟨B + 1, 0, none⟩ u2).setCell ⟨B + 1 + 1, 0, none⟩ u3) (B + 1) t2 u2 ∧ Boxed (((W.setCell ⟨B, 0, none⟩ u1).setCell ⟨B + 1, 0, none⟩ u2).setCell ⟨B + 1 + 1, 0, none⟩ u3) (B + 1 + 1) t3 u3 :=
  ⟨((h1.set u1).other (by omega) _).other (by omega) _, ((h2.other (by omega) u1).set u2).other (by omega) _, ((h3.other (by omega) u1).other (by omega) u2).set u3⟩
theorem roq_out {F : Fence} {n : Nat} {R : Ending → World → Prop} {W : World} {B : Nat} {t1 t2 t3 : TypeId} {v1 v2 v3 : Value} {r1 r2 : Int} {r3 : Bool} {tmps : Array Value} (x2 : Boxed W B t1 v1) (x3 : Boxed W (B + 1) t2 v2) (x4 : Boxed W (B + 1 + 1) t3 v3)
    (h2 : tmps[2]? = some (.pointer (some ⟨B, 0, none⟩))) (h3 : tmps[3]? = some (.pointer (some ⟨B + 1, 0, none⟩))) (h4 : tmps[4]? = some (.pointer (some ⟨B + 1 + 1, 0, none⟩)))
    (hR : R (.returned (.tuple #[.int .i64 r1, .int .i64 r2, .bool r3])) (((W.setCell ⟨B, 0, none⟩ (.int .i64 r1)).setCell ⟨B + 1, 0, none⟩ (.int .i64 r2)).setCell ⟨B + 1 + 1, 0, none⟩ (.bool r3))) :
    bodyPostM F n Try.prog Try.f18 R .ret { tmps := tmps, defers := [] } (((W.setCell ⟨B, 0, none⟩ (.int .i64 r1)).setCell ⟨B + 1, 0, none⟩ (.int .i64 r2)).setCell ⟨B + 1 + 1, 0, none⟩ (.bool r3)) := by
  obtain ⟨y2, y3, y4⟩ := three_cells (.int .i64 r1) (.int .i64 r2) (.bool r3) x2 x3 x4
  exact postM_of ⟨rfl, _, roq_results _ _ _ _ _ _ _ _ h2 h3 h4 y2.cell y3.cell y4.cell, hR⟩
theorem boxed_d {W : World} {B : Nat} {t : TypeId} {v : Value} (h : Boxed W B t v) (n : Nat) : Boxed (W.drewN n) B t v := boxed_b h (show Drawn0 W (W.drewN n) from ⟨n, rfl⟩).below h.lt
theorem roq_outM0 {F : Fence} {n : Nat} {R : Ending → World → Prop} {W : World} {B D : Nat} {t1 t2 t3 : TypeId} {r1 r2 : Int} {r3 : Bool} {tmps : Array Value} (y2 : Boxed W B t1 (.int .i64 r1)) (y3 : Boxed W (B + 1) t2 (.int .i64 r2)) (y4 : Boxed W (B + 1 + 1) t3 (.bool r3))
    (h2 : tmps[2]? = some (.pointer (some ⟨B, 0, none⟩))) (h3 : tmps[3]? = some (.pointer (some ⟨B + 1, 0, none⟩))) (h4 : tmps[4]? = some (.pointer (some ⟨B + 1 + 1, 0, none⟩))) (hK' : W.heap[D]? = some (.deferred (some [])))
    (hR : R (.returned (.tuple #[.int .i64 r1, .int .i64 r2, .bool r3])) (W.putObj D (.deferred none))) :
    bodyPostM F n Try.prog Try.f18 R .ret { tmps := tmps, defers := [{ target := .collected D, args := #[] }] } W := by
  have hr : ∀ r, some D = some r → ∃ o : Obj, W.heap[r]? = some o ∧ o.isCells = false := fun r e => by cases e; exact ⟨_, hK', rfl⟩
  have z2 := boxed_k y2 (grownBy_putObj' _ D (.deferred none)) hr
  have z3 := boxed_k y3 (grownBy_putObj' _ D (.deferred none)) hr
  have z4 := boxed_k y4 (grownBy_putObj' _ D (.deferred none)) hr
  exact ⟨by simp, .inl ⟨_, _, rfl, run_takeDeferred hK', ⟨_, roq_results _ _ _ _ _ _ _ _ h2 h3 h4 z2.cell z3.cell z4.cell, hR⟩⟩⟩
theorem keep3 (W : World) (B : Nat) (u1 u2 u3 : Value) : KeepsOthers W (((W.setCell ⟨B, 0, none⟩ u1).setCell ⟨B + 1, 0, none⟩ u2).setCell ⟨B + 1 + 1, 0, none⟩ u3) := ((KeepsOthers.setCell W ⟨B, 0, none⟩ u1).trans (KeepsOthers.setCell _ ⟨B + 1, 0, none⟩ u2)).trans (KeepsOthers.setCell _ ⟨B + 1 + 1, 0, none⟩ u3)
attribute [local go_sem] Oper.semAt_some
set_option maxRecDepth 100000 in
set_option maxHeartbeats 4000000 in
theorem impl_RatioOfQuotients.calls (A0 : Option Addr) (c0 : Nat) (l0 : List Int) (r1 : Int) (r2 : Int) (r3 : Bool) (w : World) (hr0 : Kd.C (Kd.int .i64) w A0 l0.length l0) (hc0 : l0.length ≤ c0) (h : impl_RatioOfQuotients.f l0 = some (r1, r2, r3)) :
    Calls Try.prog 18 #[.slice A0 l0.length c0] w fun e w' => e = .returned (.tuple #[.int .i64 r1, .int .i64 r2, .bool r3]) ∧ Below w.heap.size w w' := by
  have hlen := hr0.2.1
  have HI : ∀ W, Calls Try.prog 38 #[.int .i64 (l0.length : Int), .int .i64 1, .int .i64 20] W fun e w' => e = .returned (.bool (decide (1 ≤ (l0.length : Int)) && decide ((l0.length : Int) ≤ 20))) ∧ Drawn0 W w' := fun W => impl_within.calls _ 1 20 _ W (by unfold impl_within.f; by_cases c : (1 : Int) ≤ (l0.length : Int) <;> simp [c])
  have HA : ∀ W, Below w.heap.size w W → Calls Try.prog 39 #[.slice A0 l0.length c0, .int .i64 1, .int .i64 1000] W fun e w' => e = .returned (.bool (!(l0.any fun x => !(decide (1 ≤ x) && decide (x ≤ 1000))))) ∧ Below W.heap.size W w' := fun W hW => impl_areWithin.calls A0 c0 l0 1 1000 _ W (Kd.C_below hr0 hW) hc0 rfl
  have h' := Option.some.inj h
  clear h
  unfold roqOk at h'
  have HR := Aside0.mk hr0
  clear hr0
  generalize (decide (1 ≤ (l0.length : Int)) && decide ((l0.length : Int) ≤ 20)) = b1 at HI h'
  generalize (!(l0.any fun x => !(decide (1 ≤ x) && decide (x ≤ 1000)))) = b2 at HA h'
  have HI' := Aside0.mk HI
  have HA' := Aside0.mk HA
  have HH := Aside0.mk h'
  clear HI HA h'
  refine callsIn_wide (n := 5).1 ?_
  refine callsIn_of_wp_marks Try.func18 rfl trivial ?_ rfl
  refine wpIn_wide.2 ?_
  simp only [Try.ntmps18, List.size_toArray, List.length_cons, List.length_nil, Nat.reduceAdd, Nat.reduceSub, Array.replicate_succ, Array.replicate_zero, List.push_toArray, List.append_toArray, List.nil_append, List.cons_append]
  have hB3 : ∀ o1 o2 o3 : Obj, Below w.heap.size w (((w.alloc o1).alloc o2).alloc o3) := fun o1 o2 o3 => (((Below.refl _ w).alloc (Nat.le_refl _) _).alloc (by simp) _).alloc (by simp; omega) _
  have hS3 : ∀ W, Below w.heap.size w W → ∀ u1 u2 u3 : Value, Below w.heap.size w (((W.setCell ⟨w.heap.size, 0, none⟩ u1).setCell ⟨w.heap.size + 1, 0, none⟩ u2).setCell ⟨w.heap.size + 1 + 1, 0, none⟩ u3) := fun W hW u1 u2 u3 => ((hW.setCell (p := ⟨w.heap.size, 0, none⟩) (Nat.le_refl _) _).setCell (p := ⟨w.heap.size + 1, 0, none⟩) (by simp) _).setCell (p := ⟨w.heap.size + 1 + 1, 0, none⟩) (by simp; omega) _
  have HB3 := Aside0.mk hB3
  have HS3 := Aside0.mk hS3
  clear hB3 hS3
  have X2 := Aside0.mk (((Boxed.new w 3 (.int .i64 0)).alloc (.cells #[.int .i64 0] 3)).alloc (.cells #[.bool false] 4))
  have X3 := Aside0.mk ((by have := Boxed.new (w.alloc (.cells #[.int .i64 0] 3)) 3 (.int .i64 0); rw [World.size_alloc] at this; exact this : Boxed ((w.alloc (.cells #[.int .i64 0] 3)).alloc (.cells #[.int .i64 0] 3)) (w.heap.size + 1) 3 (.int .i64 0)).alloc (.cells #[.bool false] 4))
  have X4 := Aside0.mk (by have := Boxed.new ((w.alloc (.cells #[.int .i64 0] 3)).alloc (.cells #[.int .i64 0] 3)) 4 (.bool false); rw [World.size_alloc, World.size_alloc] at this; exact this : Boxed (((w.alloc (.cells #[.int .i64 0] 3)).alloc (.cells #[.int .i64 0] 3)).alloc (.cells #[.bool false] 4)) (w.heap.size + 1 + 1) 4 (.bool false))
  cases b1 with
  | false =>
    obtain ⟨rfl, rfl, rfl⟩ : (0 : Int) = r1 ∧ (0 : Int) = r2 ∧ r3 = false := by have := HH.out; simp at this; exact this
    go_wp2_with (go_at_call 38; refine (HI'.out _).mono ?_; rintro e w' ⟨rfl, ⟨nd, rfl⟩⟩)
    exact roq_out (boxed_d X2.out nd) (boxed_d X3.out nd) (boxed_d X4.out nd) rfl rfl rfl ⟨rfl, HS3.out _ (b0_drewN (HB3.out _ _ _) _) _ _ _⟩
  | true =>
    cases b2 with
    | false =>
      obtain ⟨rfl, rfl, rfl⟩ : (0 : Int) = r1 ∧ (0 : Int) = r2 ∧ r3 = false := by have := HH.out; simp at this; exact this
      go_wp2_with (first | (go_at_call 38; refine (HI'.out _).mono ?_; rintro e w' ⟨rfl, ⟨nd, rfl⟩⟩) | (go_at_call 39; refine (HA'.out _ (b0_drewN (HB3.out _ _ _) _)).mono ?_; rintro e w1 ⟨rfl, hb1⟩; have x2 := boxed_b (boxed_d X2.out nd) hb1 (boxed_d X2.out nd).lt; have x3 := boxed_b (boxed_d X3.out nd) hb1 (boxed_d X3.out nd).lt; have x4 := boxed_b (boxed_d X4.out nd) hb1 (boxed_d X4.out nd).lt; have hc2 := x2.cell; have hc3 := x3.cell; have hc4 := x4.cell; have hf2 := x2.frozen; have hf3 := x3.frozen; have hf4 := x4.frozen; have hb := (b0_drewN (HB3.out (.cells #[.int .i64 0] 3) (.cells #[.int .i64 0] 3) (.cells #[.bool false] 4)) nd).trans (hb1.mono (b0_drewN (HB3.out (.cells #[.int .i64 0] 3) (.cells #[.int .i64 0] 3) (.cells #[.bool false] 4)) nd).size); clear hb1))
      exact roq_out x2 x3 x4 rfl rfl rfl ⟨rfl, HS3.out _ hb _ _ _⟩
    | true =>
      by_cases c1 : (1 : Int) < (l0.length : Int)
      · have c1b : decide ((1 : Int) < (l0.length : Int)) = true := decide_eq_true c1
        have c1n : decide (1 < l0.length) = true := decide_eq_true (by omega)
        by_cases c2 : rd l0 ((l0.length : Int) - 1) = 1
        · have c2b : (rd l0 ((l0.length : Int) - 1) == 1) = true := by simp [c2]
          obtain ⟨rfl, rfl, rfl⟩ : (0 : Int) = r1 ∧ (0 : Int) = r2 ∧ r3 = false := by have := HH.out; rw [c1b, c2b] at this; simp at this; exact this
          generalize hq : rd l0 ((l0.length : Int) - 1) = qq at c2 c2b
          go_wp2_with (first | (go_at_call 38; refine (HI'.out _).mono ?_; rintro e w' ⟨rfl, ⟨nd, rfl⟩⟩) | (go_at_call 39; refine (HA'.out _ (b0_drewN (HB3.out _ _ _) _)).mono ?_; rintro e w1 ⟨rfl, hb1⟩; have x2 := boxed_b (boxed_d X2.out nd) hb1 (boxed_d X2.out nd).lt; have x3 := boxed_b (boxed_d X3.out nd) hb1 (boxed_d X3.out nd).lt; have x4 := boxed_b (boxed_d X4.out nd) hb1 (boxed_d X4.out nd).lt; have hc2 := x2.cell; have hc3 := x3.cell; have hc4 := x4.cell; have hf2 := x2.frozen; have hf3 := x3.frozen; have hf4 := x4.frozen; have hb := (b0_drewN (HB3.out (.cells #[.int .i64 0] 3) (.cells #[.int .i64 0] 3) (.cells #[.bool false] 4)) nd).trans (hb1.mono (b0_drewN (HB3.out (.cells #[.int .i64 0] 3) (.cells #[.int .i64 0] 3) (.cells #[.bool false] 4)) nd).size); clear hb1; obtain ⟨ad, e1, hx⟩ := Kd.at_int (Kd.C_below HR.out hb) ((l0.length : Int) - 1) (by omega) (by omega); cases e1; rw [show ((l0.length : Int) - 1).toNat = l0.length - 1 by omega] at hx; rw [hq] at hx) | (go_at_call 40; refine (callsIn_wide.1 (slices_Backward_int 3 _ _ _ _)).mono ?_; rintro e w' ⟨rfl, rfl⟩))
          exact roq_out x2 x3 x4 rfl rfl rfl ⟨rfl, HS3.out _ hb _ _ _⟩
        · have c2b : (rd l0 ((l0.length : Int) - 1) == 1) = false := by simp [c2]
          have HH2 := Aside0.mk (by have := HH.out; rw [c1b, c2b] at this; simpa using this : roqV (ofold (backs l0 l0.length)) = (r1, r2, r3))
          generalize hq : rd l0 ((l0.length : Int) - 1) = qq at c2 c2b
          go_wp2_with (first | (go_at_call 38; refine (HI'.out _).mono ?_; rintro e w' ⟨rfl, ⟨nd, rfl⟩⟩) | (go_at_call 39; refine (HA'.out _ (b0_drewN (HB3.out _ _ _) _)).mono ?_; rintro e w1 ⟨rfl, hb1⟩; have x2 := boxed_b (boxed_d X2.out nd) hb1 (boxed_d X2.out nd).lt; have x3 := boxed_b (boxed_d X3.out nd) hb1 (boxed_d X3.out nd).lt; have x4 := boxed_b (boxed_d X4.out nd) hb1 (boxed_d X4.out nd).lt; have hc2 := x2.cell; have hc3 := x3.cell; have hc4 := x4.cell; have hf2 := x2.frozen; have hf3 := x3.frozen; have hf4 := x4.frozen; have hb := (b0_drewN (HB3.out (.cells #[.int .i64 0] 3) (.cells #[.int .i64 0] 3) (.cells #[.bool false] 4)) nd).trans (hb1.mono (b0_drewN (HB3.out (.cells #[.int .i64 0] 3) (.cells #[.int .i64 0] 3) (.cells #[.bool false] 4)) nd).size); clear hb1; obtain ⟨ad, e1, hx⟩ := Kd.at_int (Kd.C_below HR.out hb) ((l0.length : Int) - 1) (by omega) (by omega); cases e1; rw [show ((l0.length : Int) - 1).toNat = l0.length - 1 by omega] at hx; rw [hq] at hx) | (go_at_call 40; refine (callsIn_wide.1 (slices_Backward_int 3 _ _ _ _)).mono ?_; rintro e w' ⟨rfl, rfl⟩))
          refine (wpIn_wide (n := 5)).1 ?_
          have hs1 := hb.size
          have b4 : Below w.heap.size w (((w1.alloc (.cells #[.int .i64 1] 3)).alloc (.cells #[.int .i64 0] 3)).alloc (.cells #[.slice (some ad) l0.length c0] 25)) := ((hb.alloc hs1 _).alloc (by simp; omega) _).alloc (by simp; omega) _
          have xA := ((Boxed.new w1 3 (.int .i64 1)).alloc (.cells #[.int .i64 0] 3)).alloc (.cells #[.slice (some ad) l0.length c0] 25)
          have xB := (by have := Boxed.new (w1.alloc (.cells #[.int .i64 1] 3)) 3 (.int .i64 0); rw [World.size_alloc] at this; exact this : Boxed ((w1.alloc (.cells #[.int .i64 1] 3)).alloc (.cells #[.int .i64 0] 3)) (w1.heap.size + 1) 3 (.int .i64 0)).alloc (.cells #[.slice (some ad) l0.length c0] 25)
          have xS := (by have := Boxed.new ((w1.alloc (.cells #[.int .i64 1] 3)).alloc (.cells #[.int .i64 0] 3)) 25 (.slice (some ad) l0.length c0); rw [World.size_alloc, World.size_alloc] at this; exact this : Boxed (((w1.alloc (.cells #[.int .i64 1] 3)).alloc (.cells #[.int .i64 0] 3)).alloc (.cells #[.slice (some ad) l0.length c0] 25)) (w1.heap.size + 1 + 1) 25 (.slice (some ad) l0.length c0))
          have l2 := x2.lt
          have l3 := x3.lt
          have l4 := x4.lt
          refine wpIn_rangeFunc_ownG rfl (by omega) (gf := 51) (lb := #[.pointer (some ⟨w1.heap.size + 1 + 1, 0, none⟩)]) rfl trivial (enters_of Try.func51 (by kernel_rfl) rfl)
            (slices_Backward_stops (5 - 1) (by omega) (w1.heap.size + 1 + 1) (some ad) c0 l0 w HR.out _ b4 xS.lt xS.cell) (fun h k => KpB.trans h k) (KpB.put b4.size xS.lt) (Below.refl _ _) (fun _ => rfl)
            (fun pre W => (Boxed W w.heap.size 3 (.int .i64 0) ∧ Boxed W (w.heap.size + 1) 3 (.int .i64 0) ∧ Boxed W (w.heap.size + 1 + 1) 4 (.bool false)) ∧ (∃ a b, ofold pre = some (a, b) ∧ Boxed W w1.heap.size 3 (.int .i64 a) ∧ Boxed W (w1.heap.size + 1) 3 (.int .i64 b)) ∧ Below w.heap.size w W)
            (fun c pre W => (c = .ret ∧ ofold pre = none) ∧ (Boxed W w.heap.size 3 (.int .i64 0) ∧ Boxed W (w.heap.size + 1) 3 (.int .i64 0) ∧ Boxed W (w.heap.size + 1 + 1) 4 (.bool false)) ∧ Below w.heap.size w W)
            (OwnFrom.and (Own.from (fun s X Y row hs hg hr => ⟨boxed_k hs.1 hg hr, boxed_k hs.2.1 hg hr, boxed_k hs.2.2 hg hr⟩) _) (OwnFrom.and (Own.from (fun s X Y row hs hg hr => by obtain ⟨a, b, e, ha, hb⟩ := hs; exact ⟨a, b, e, boxed_k ha hg hr, boxed_k hb hg hr⟩) _) (ownFrom_below (Nat.le_refl _) b4.size)))
            (fun c => OwnFrom.and (ownFrom_pure _ _) (OwnFrom.and (Own.from (fun s X Y row hs hg hr => ⟨boxed_k hs.1 hg hr, boxed_k hs.2.1 hg hr, boxed_k hs.2.2 hg hr⟩) _) (ownFrom_below (Nat.le_refl _) b4.size)))
            ⟨⟨((x2.alloc _).alloc _).alloc _, ((x3.alloc _).alloc _).alloc _, ((x4.alloc _).alloc _).alloc _⟩, ⟨1, 0, rfl, xA, xB⟩, b4⟩ ?a1 ?assign1 ?body1 ?done1 ?stop1
          case assign1 =>
            intro l x W K hK
            gi_wp2
            exact hK
          case body1 =>
            rintro l pre x W ⟨⟨y2, y3, y4⟩, ⟨a, b, he, ya, yb⟩, hB⟩ _
            have ca := ya.cell
            have cb := yb.cell
            have fa := ya.frozen
            have fb := yb.frozen
            have c2 := y2.cell
            have c3 := y3.cell
            have c4 := y4.cell
            have f2 := y2.frozen
            have f3 := y3.frozen
            have f4 := y4.frozen
            have he2 : Aside0 ( ofold (pre ++ [x]) = if 1000 < wrap64 (wrap64 (x.2 * a) + b) then none else some (wrap64 (wrap64 (x.2 * a) + b), a)) := ⟨by rw [ofold_snoc, he]; rfl⟩
            by_cases c : 1000 < wrap64 (wrap64 (x.2 * a) + b)
            · have cc : decide (1000 < wrap64 (wrap64 (x.2 * a) + b)) = true := decide_eq_true c
              gi_wp2
              have he2 := he2.out
              rw [if_pos c] at he2
              obtain ⟨z2, z3, z4⟩ := three_cells (.int .i64 0) (.int .i64 0) (.bool false) ((y2.other (B' := w1.heap.size) (by omega) (.int .i64 (wrap64 (wrap64 (x.2 * a) + b)))).other (B' := w1.heap.size + 1) (by omega) (.int .i64 a)) ((y3.other (B' := w1.heap.size) (by omega) (.int .i64 (wrap64 (wrap64 (x.2 * a) + b)))).other (B' := w1.heap.size + 1) (by omega) (.int .i64 a)) ((y4.other (B' := w1.heap.size) (by omega) (.int .i64 (wrap64 (wrap64 (x.2 * a) + b)))).other (B' := w1.heap.size + 1) (by omega) (.int .i64 a))
              exact ⟨(((KeepsOthers.setCell _ _ _).trans (KeepsOthers.setCell _ _ _)).trans (keep3 _ _ _ _ _)).from _, ⟨rfl, he2⟩, ⟨z2, z3, z4⟩, HS3.out _ ((hB.setCell (p := ⟨w1.heap.size, 0, none⟩) hs1 _).setCell (p := ⟨w1.heap.size + 1, 0, none⟩) (by simp; omega) _) _ _ _⟩
            · have cc : decide (1000 < wrap64 (wrap64 (x.2 * a) + b)) = false := decide_eq_false c
              gi_wp2
              have he2 := he2.out
              rw [if_neg (by omega)] at he2
              exact ⟨((KeepsOthers.setCell _ _ _).trans (KeepsOthers.setCell _ _ _)).from _, ⟨((Below.refl _ W).setCell (p := ⟨w1.heap.size, 0, none⟩) hs1 _).setCell (p := ⟨w1.heap.size + 1, 0, none⟩) (by simp; omega) _, (cell_other _ _ _ _ (by omega)).trans (cell_other _ _ _ _ (by omega))⟩, ⟨(y2.other (by omega) _).other (by omega) _, (y3.other (by omega) _).other (by omega) _, (y4.other (by omega) _).other (by omega) _⟩, ⟨_, _, he2, (ya.set _).other (by omega) _, (yb.other (by omega) _).set _⟩, (hB.setCell (p := ⟨w1.heap.size, 0, none⟩) hs1 _).setCell (p := ⟨w1.heap.size + 1, 0, none⟩) (by simp; omega) _⟩
          case done1 =>
            rintro D ys W hD rfl ⟨⟨y2, y3, y4⟩, ⟨a, b, he, ya, yb⟩, hB⟩ hK
            have ca := ya.cell
            have cb := yb.cell
            have c2 := y2.cell
            have c3 := y3.cell
            have c4 := y4.cell
            have f2 := y2.frozen
            have f3 := y3.frozen
            have f4 := y4.frozen
            have hv := HH2.out
            rw [he] at hv
            simp only [roqV, Prod.mk.injEq] at hv
            obtain ⟨rfl, rfl, rfl⟩ := hv
            go_wp2
            go_region
            all_goals go_wp2
            obtain ⟨z2, z3, z4⟩ := three_cells (.int .i64 a) (.int .i64 b) (.bool true) y2 y3 y4
            have hK3 := (keep3 W w.heap.size (.int .i64 a) (.int .i64 b) (.bool true)).same D _ hK rfl
            exact roq_outM0 (boxed_b z2 (Below.refl _ _).drew z2.lt) (boxed_b z3 (Below.refl _ _).drew z3.lt) (boxed_b z4 (Below.refl _ _).drew z4.lt) rfl rfl rfl hK3 ⟨rfl, (HS3.out _ hB _ _ _).drew.trans (belowK_b (w := w) (Nat.le_refl _) _ D _ _ (Nat.le_trans b4.size hD) hK3 rfl rfl)⟩
          case stop1 =>
            rintro D c pre W hD ⟨k, hk, rfl⟩ ⟨⟨rfl, hn⟩, ⟨y2, y3, y4⟩, hB⟩ hK
            have hv := HH2.out
            obtain ⟨m, hm⟩ := backs_split l0 k hk
            rw [hm, ofold_none _ _ hn] at hv
            simp only [roqV, Prod.mk.injEq] at hv
            obtain ⟨rfl, rfl, rfl⟩ := hv
            refine wpIn_wide.2 ?_
            go_wp2
            exact roq_outM0 y2 y3 y4 rfl rfl rfl hK ⟨rfl, hB.trans (belowK_b (w := w) (Nat.le_refl _) _ D _ _ (Nat.le_trans b4.size hD) hK rfl rfl)⟩
      · have c1b : decide ((1 : Int) < (l0.length : Int)) = false := decide_eq_false c1
        have c1n : decide (1 < l0.length) = false := decide_eq_false (by omega)
        have HH2 := Aside0.mk (by have := HH.out; rw [c1b] at this; simpa using this : roqV (ofold (backs l0 l0.length)) = (r1, r2, r3))
        go_wp2_with (first | (go_at_call 38; refine (HI'.out _).mono ?_; rintro e w' ⟨rfl, ⟨nd, rfl⟩⟩) | (go_at_call 39; refine (HA'.out _ (b0_drewN (HB3.out _ _ _) _)).mono ?_; rintro e w1 ⟨rfl, hb1⟩; have x2 := boxed_b (boxed_d X2.out nd) hb1 (boxed_d X2.out nd).lt; have x3 := boxed_b (boxed_d X3.out nd) hb1 (boxed_d X3.out nd).lt; have x4 := boxed_b (boxed_d X4.out nd) hb1 (boxed_d X4.out nd).lt; have hc2 := x2.cell; have hc3 := x3.cell; have hc4 := x4.cell; have hf2 := x2.frozen; have hf3 := x3.frozen; have hf4 := x4.frozen; have hb := (b0_drewN (HB3.out (.cells #[.int .i64 0] 3) (.cells #[.int .i64 0] 3) (.cells #[.bool false] 4)) nd).trans (hb1.mono (b0_drewN (HB3.out (.cells #[.int .i64 0] 3) (.cells #[.int .i64 0] 3) (.cells #[.bool false] 4)) nd).size); clear hb1) | (go_at_call 40; refine (callsIn_wide.1 (slices_Backward_int 3 _ _ _ _)).mono ?_; rintro e w' ⟨rfl, rfl⟩))
        refine (wpIn_wide (n := 5)).1 ?_
        have hs1 := hb.size
        have b4 : Below w.heap.size w (((w1.alloc (.cells #[.int .i64 1] 3)).alloc (.cells #[.int .i64 0] 3)).alloc (.cells #[.slice A0 l0.length c0] 25)) := ((hb.alloc hs1 _).alloc (by simp; omega) _).alloc (by simp; omega) _
        have xA := ((Boxed.new w1 3 (.int .i64 1)).alloc (.cells #[.int .i64 0] 3)).alloc (.cells #[.slice A0 l0.length c0] 25)
        have xB := (by have := Boxed.new (w1.alloc (.cells #[.int .i64 1] 3)) 3 (.int .i64 0); rw [World.size_alloc] at this; exact this : Boxed ((w1.alloc (.cells #[.int .i64 1] 3)).alloc (.cells #[.int .i64 0] 3)) (w1.heap.size + 1) 3 (.int .i64 0)).alloc (.cells #[.slice A0 l0.length c0] 25)
        have xS := (by have := Boxed.new ((w1.alloc (.cells #[.int .i64 1] 3)).alloc (.cells #[.int .i64 0] 3)) 25 (.slice A0 l0.length c0); rw [World.size_alloc, World.size_alloc] at this; exact this : Boxed (((w1.alloc (.cells #[.int .i64 1] 3)).alloc (.cells #[.int .i64 0] 3)).alloc (.cells #[.slice A0 l0.length c0] 25)) (w1.heap.size + 1 + 1) 25 (.slice A0 l0.length c0))
        have l2 := x2.lt
        have l3 := x3.lt
        have l4 := x4.lt
        refine wpIn_rangeFunc_ownG rfl (by omega) (gf := 51) (lb := #[.pointer (some ⟨w1.heap.size + 1 + 1, 0, none⟩)]) rfl trivial (enters_of Try.func51 (by kernel_rfl) rfl)
          (slices_Backward_stops (5 - 1) (by omega) (w1.heap.size + 1 + 1) A0 c0 l0 w HR.out _ b4 xS.lt xS.cell) (fun h k => KpB.trans h k) (KpB.put b4.size xS.lt) (Below.refl _ _) (fun _ => rfl)
          (fun pre W => (Boxed W w.heap.size 3 (.int .i64 0) ∧ Boxed W (w.heap.size + 1) 3 (.int .i64 0) ∧ Boxed W (w.heap.size + 1 + 1) 4 (.bool false)) ∧ (∃ a b, ofold pre = some (a, b) ∧ Boxed W w1.heap.size 3 (.int .i64 a) ∧ Boxed W (w1.heap.size + 1) 3 (.int .i64 b)) ∧ Below w.heap.size w W)
          (fun c pre W => (c = .ret ∧ ofold pre = none) ∧ (Boxed W w.heap.size 3 (.int .i64 0) ∧ Boxed W (w.heap.size + 1) 3 (.int .i64 0) ∧ Boxed W (w.heap.size + 1 + 1) 4 (.bool false)) ∧ Below w.heap.size w W)
          (OwnFrom.and (Own.from (fun s X Y row hs hg hr => ⟨boxed_k hs.1 hg hr, boxed_k hs.2.1 hg hr, boxed_k hs.2.2 hg hr⟩) _) (OwnFrom.and (Own.from (fun s X Y row hs hg hr => by obtain ⟨a, b, e, ha, hb⟩ := hs; exact ⟨a, b, e, boxed_k ha hg hr, boxed_k hb hg hr⟩) _) (ownFrom_below (Nat.le_refl _) b4.size)))
          (fun c => OwnFrom.and (ownFrom_pure _ _) (OwnFrom.and (Own.from (fun s X Y row hs hg hr => ⟨boxed_k hs.1 hg hr, boxed_k hs.2.1 hg hr, boxed_k hs.2.2 hg hr⟩) _) (ownFrom_below (Nat.le_refl _) b4.size)))
          ⟨⟨((x2.alloc _).alloc _).alloc _, ((x3.alloc _).alloc _).alloc _, ((x4.alloc _).alloc _).alloc _⟩, ⟨1, 0, rfl, xA, xB⟩, b4⟩ ?a2 ?assign2 ?body2 ?done2 ?stop2
        case assign2 =>
          intro l x W K hK
          gi_wp2
          exact hK
        case body2 =>
          rintro l pre x W ⟨⟨y2, y3, y4⟩, ⟨a, b, he, ya, yb⟩, hB⟩ _
          have ca := ya.cell
          have cb := yb.cell
          have fa := ya.frozen
          have fb := yb.frozen
          have c2 := y2.cell
          have c3 := y3.cell
          have c4 := y4.cell
          have f2 := y2.frozen
          have f3 := y3.frozen
          have f4 := y4.frozen
          have he2 : Aside0 ( ofold (pre ++ [x]) = if 1000 < wrap64 (wrap64 (x.2 * a) + b) then none else some (wrap64 (wrap64 (x.2 * a) + b), a)) := ⟨by rw [ofold_snoc, he]; rfl⟩
          by_cases c : 1000 < wrap64 (wrap64 (x.2 * a) + b)
          · have cc : decide (1000 < wrap64 (wrap64 (x.2 * a) + b)) = true := decide_eq_true c
            gi_wp2
            have he2 := he2.out
            rw [if_pos c] at he2
            obtain ⟨z2, z3, z4⟩ := three_cells (.int .i64 0) (.int .i64 0) (.bool false) ((y2.other (B' := w1.heap.size) (by omega) (.int .i64 (wrap64 (wrap64 (x.2 * a) + b)))).other (B' := w1.heap.size + 1) (by omega) (.int .i64 a)) ((y3.other (B' := w1.heap.size) (by omega) (.int .i64 (wrap64 (wrap64 (x.2 * a) + b)))).other (B' := w1.heap.size + 1) (by omega) (.int .i64 a)) ((y4.other (B' := w1.heap.size) (by omega) (.int .i64 (wrap64 (wrap64 (x.2 * a) + b)))).other (B' := w1.heap.size + 1) (by omega) (.int .i64 a))
            exact ⟨(((KeepsOthers.setCell _ _ _).trans (KeepsOthers.setCell _ _ _)).trans (keep3 _ _ _ _ _)).from _, ⟨rfl, he2⟩, ⟨z2, z3, z4⟩, HS3.out _ ((hB.setCell (p := ⟨w1.heap.size, 0, none⟩) hs1 _).setCell (p := ⟨w1.heap.size + 1, 0, none⟩) (by simp; omega) _) _ _ _⟩
          · have cc : decide (1000 < wrap64 (wrap64 (x.2 * a) + b)) = false := decide_eq_false c
            gi_wp2
            have he2 := he2.out
            rw [if_neg (by omega)] at he2
            exact ⟨((KeepsOthers.setCell _ _ _).trans (KeepsOthers.setCell _ _ _)).from _, ⟨((Below.refl _ W).setCell (p := ⟨w1.heap.size, 0, none⟩) hs1 _).setCell (p := ⟨w1.heap.size + 1, 0, none⟩) (by simp; omega) _, (cell_other _ _ _ _ (by omega)).trans (cell_other _ _ _ _ (by omega))⟩, ⟨(y2.other (by omega) _).other (by omega) _, (y3.other (by omega) _).other (by omega) _, (y4.other (by omega) _).other (by omega) _⟩, ⟨_, _, he2, (ya.set _).other (by omega) _, (yb.other (by omega) _).set _⟩, (hB.setCell (p := ⟨w1.heap.size, 0, none⟩) hs1 _).setCell (p := ⟨w1.heap.size + 1, 0, none⟩) (by simp; omega) _⟩
        case done2 =>
          rintro D ys W hD rfl ⟨⟨y2, y3, y4⟩, ⟨a, b, he, ya, yb⟩, hB⟩ hK
          have ca := ya.cell
          have cb := yb.cell
          have c2 := y2.cell
          have c3 := y3.cell
          have c4 := y4.cell
          have f2 := y2.frozen
          have f3 := y3.frozen
          have f4 := y4.frozen
          have hv := HH2.out
          rw [he] at hv
          simp only [roqV, Prod.mk.injEq] at hv
          obtain ⟨rfl, rfl, rfl⟩ := hv
          go_wp2
          go_region
          all_goals go_wp2
          obtain ⟨z2, z3, z4⟩ := three_cells (.int .i64 a) (.int .i64 b) (.bool true) y2 y3 y4
          have hK3 := (keep3 W w.heap.size (.int .i64 a) (.int .i64 b) (.bool true)).same D _ hK rfl
          exact roq_outM0 (boxed_b z2 (Below.refl _ _).drew z2.lt) (boxed_b z3 (Below.refl _ _).drew z3.lt) (boxed_b z4 (Below.refl _ _).drew z4.lt) rfl rfl rfl hK3 ⟨rfl, (HS3.out _ hB _ _ _).drew.trans (belowK_b (w := w) (Nat.le_refl _) _ D _ _ (Nat.le_trans b4.size hD) hK3 rfl rfl)⟩
        case stop2 =>
          rintro D c pre W hD ⟨k, hk, rfl⟩ ⟨⟨rfl, hn⟩, ⟨y2, y3, y4⟩, hB⟩ hK
          have hv := HH2.out
          obtain ⟨m, hm⟩ := backs_split l0 k hk
          rw [hm, ofold_none _ _ hn] at hv
          simp only [roqV, Prod.mk.injEq] at hv
          obtain ⟨rfl, rfl, rfl⟩ := hv
          refine wpIn_wide.2 ?_
          go_wp2
          exact roq_outM0 y2 y3 y4 rfl rfl rfl hK ⟨rfl, hB.trans (belowK_b (w := w) (Nat.le_refl _) _ D _ _ (Nat.le_trans b4.size hD) hK rfl rfl)⟩

end Go.Proofs.Ytnnbecckigpeeaa.P
