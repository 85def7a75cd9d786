import Derived.Test.YtnnbecckigpeeabK
import Derived.Test.YtnnbecckigpeeabF16
namespace Go.Proofs.Ytnnbecckigpeeab.P
open Go.RowKit Go.Proofs.YtnnbecckigpeeabW.PrintWords Go.Proofs.YtnnbecckigpeeabW.PrintLast Go.Proofs.YtnnbecckigpeeabW.PrintMore
attribute [local go_sem] max2_int min2_int max_two min_two max_three min_three max_four min_four
set_option linter.unusedVariables false
set_option linter.unusedSimpArgs false

/-! ### laws_markIntSS: function 7 -/
def laws_markIntSS.l0 : Nat → List (List Int) → Int → Int → Option (Int × List (List Int))
  | 0, _, _, _ => none
  | k + 1, x0, x1, x5 => if x5 < (x0.length : Int) then (if 0 ≤ x5 then ((laws_markIntS.f k (rd_L1 x0 x5) x1).bind fun bt => laws_markIntSS.l0 k (x0.set x5.toNat bt.2) bt.1 (wrap64 (x5 + 1))) else none) else some (x1, x0)
def laws_markIntSS.f (k : Nat) (l0 : List (List Int)) (a1 : Int) : Option (Int × List (List Int)) := laws_markIntSS.l0 k l0 a1 0
theorem laws_markIntSS.mono_l : ∀ k, ∀ y0 y1 y2, LeO (laws_markIntSS.l0 k y0 y1 y2) (laws_markIntSS.l0 (k + 1) y0 y1 y2)
  | 0 => fun _ _ _ r h => by simp [laws_markIntSS.l0] at h
  | k + 1 => by
    have ih := laws_markIntSS.mono_l k
    intro y0 y1 y2
    unfold laws_markIntSS.l0
    refine LeO.ite (LeO.ite (LeO.bind (laws_markIntS.mono _ _ _) (fun _ => ih _ _ _)) (LeO.none _)) (LeO.refl _)
theorem laws_markIntSS.mono : ∀ a0 a1 k, LeO (laws_markIntSS.f k a0 a1) (laws_markIntSS.f (k + 1) a0 a1) := fun a0 a1 k => laws_markIntSS.mono_l k a0 a1 0
set_option maxHeartbeats 2000000 in
theorem laws_markIntSS.calls (k : Nat) (P0_ : Nat → Prop) (u9000_ : Value) (l0 : List (List Int)) (a1 : Int) (r1 : Int) (r2 : List (List Int)) (w0 w : World) (hB : Below w0.heap.size w0 w) (ho0 : Kd.S (Kd.slice 3 (Kd.int .i64)) 32 w w0.heap.size P0_ u9000_ l0) (h : laws_markIntSS.f k l0 a1 = some (r1, r2)) :
    Calls Try.prog 7 #[u9000_, .int .i64 a1] w fun e w' => e = .returned (.int .i64 r1) ∧ Kd.S (Kd.slice 3 (Kd.int .i64)) 32 w' w0.heap.size (fun k_ => (P0_ k_ ∨ w.heap.size ≤ k_)) u9000_ r2 ∧ Below w0.heap.size w0 w' ∧ Kept w w' (fun k_ => P0_ k_) := by
  have HB := Aside0.mk hB
  have HO := Aside0.mk ho0
  have H1 : Aside0 (laws_markIntSS.l0 k l0 a1 0 = some (r1, r2)) := ⟨h⟩
  clear hB h
  obtain ⟨A, c, rfl⟩ := Kd.S_slice ho0
  have hlen : (l0.length : Int) ≤ 9223372036854775807 := by have := (Kd.S_reads' ho0).2.2.2.1; omega
  clear ho0
  go_enter Try.func7, Try.ntmps7
  go_wp2
  go_loopg [1, 5] k (fun kq v1 v5 wc => ∃ (x1 x5 : Int) (x0 : List (List Int)), v1 = .int .i64 x1 ∧ v5 = .int .i64 x5 ∧ Aside0 (x0.length = l0.length) ∧ Aside0 (laws_markIntSS.l0 kq x0 x1 x5 = some (r1, r2)) ∧ Aside0 (kq ≤ k) ∧ Aside0 (Kd.S (Kd.slice 3 (Kd.int .i64)) 32 wc w0.heap.size P0_ (.slice A l0.length c) x0) ∧ Aside0 (Below w0.heap.size w0 wc) ∧ Aside0 (Kept w wc P0_))
  case atStart => exact ⟨a1, 0, l0, rfl, rfl, ⟨rfl⟩, H1, ⟨Nat.le_refl _⟩, HO, HB, ⟨Kept.refl _ _⟩⟩
  case round =>
    clear H1 HO HB
    obtain ⟨x1, x5, x0, rfl, rfl, HL, H1, HK1, HO, HB, HK⟩ := hrel
    cases gk with
    | zero => exact absurd H1.out (by simp [laws_markIntSS.l0])
    | succ k1 =>
      have H := H1.out
      clear H1
      simp only [laws_markIntSS.l0] at H
      rw [HL.out] at H
      by_cases c4 : x5 < (l0.length : Int)
      · rw [if_pos c4] at H
        by_cases c5 : 0 ≤ x5
        · rw [if_pos c5] at H
          obtain ⟨⟨t1, t2⟩, A70, H0⟩ := Option.bind_eq_some_iff.mp H
          simp only at H0
          have A7 := Aside0.mk A70
          have H' := Aside0.mk H0
          clear H A70 H0
          obtain ⟨g, rfl⟩ : ∃ g, A = some ⟨g, 0, none⟩ := by
            obtain ⟨g, cap, ev, _⟩ := Kd.S_form HO.out (by rw [HL.out]; omega)
            injection ev with ev1 ev2 ev3
            exact ⟨g, ev1⟩
          obtain ⟨oki, cs, hcl, hM, hcc, hfr, hoki, hH⟩ := Kd.S_elem HO.out ([] : List Int) x5 c5 c4
          obtain ⟨v, rfl, hR⟩ := hM
          have hcell : wr.cell? ⟨g, x5.toNat, none⟩ = some v := by have hq := hcc 0 _ rfl; rwa [show x5.toNat * ((Kd.slice 3 (Kd.int .i64))).sz + 0 = x5.toNat from by show x5.toNat * 1 + 0 = _; omega] at hq
          obtain ⟨A2, c2, rfl⟩ := Kd.R_slice hR
          have HOK := Aside0.mk hoki
          have HH := Aside0.mk hH
          have HR := Aside0.mk hR
          have HSZ := Aside0.mk HB.out.size
          have d4 := decide_eq_true c4
          have d5 := eq_true c5
          have q4 := eq_true c4
          clear hcl hcc hfr hoki hH hR c4 c5
          go_wp2_with (go_at_call 16; refine (laws_markIntS.calls k1 oki _ _ _ _ _ w0 _ HB.out HR.out A7.out).mono ?_; rintro e w' ⟨rfl, ho, hb, hk⟩; have n0_ := Aside0.mk ho; have n1_ := Aside0.mk hb; have n2_ := Aside0.mk hk; clear ho hb hk)
          go_roundg k1
          case measure => have := HK1.out; omega
          case rel =>
            refine ⟨t1, wrap64 (x5 + 1), x0.set x5.toNat t2, by first | trivial | rfl, by first | rfl | (simp; done) | (simp [*]; done), ⟨by rw [List.length_set]; exact HL.out⟩, H', ⟨by have := HK1.out; omega⟩, ⟨?_⟩, n1_, ⟨HK.out.then_ n2_.out (fun k hk => .inl (HOK.out k hk).1)⟩⟩
            have hh := Kd.H_step HH.out (w1 := w') (fun k _ hn hlt => n2_.out.2 k hlt hn)
            exact Kd.H_back hh (Kd.M_row (Kd.R_tight rfl n0_.out)) (fun k hk => HR.out.1 k hk.symm)
        · rw [if_neg c5] at H; cases H
      · rw [if_neg c4] at H
        simp only [Option.some.injEq, Prod.mk.injEq] at H
        obtain ⟨rfl, rfl⟩ := H
        have d4 := decide_eq_false c4
        clear c4
        go_wp2
        go_ret
        exact ⟨rfl, Kd.S_mono HO.out (fun _ hk => .inl hk), HB.out, HK.out⟩

end Go.Proofs.Ytnnbecckigpeeab.P
