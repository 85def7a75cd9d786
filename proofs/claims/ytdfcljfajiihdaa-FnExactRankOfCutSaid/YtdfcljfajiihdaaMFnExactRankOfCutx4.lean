import Derived.Test.YtdfcljfajiihdaaMFnExactRankOfCutx0
import Derived.Test.YtdfcljfajiihdaaMFnExactRankOfCutx1
import Derived.Test.YtdfcljfajiihdaaMFnExactRankOfCutx2
import Derived.Test.YtdfcljfajiihdaaMFnExactRankOfCutx3
import Derived.Shelf.Abstract
import Derived.StillTailTactics
import Derived.RegionTactic
import Derived.ChangeAlike
import Derived.BigRegion
import Derived.Laws.EntriesVeiled
import Derived.Lib.SliceRun
import Derived.Deep.RegionLaw
import Derived.Deep.RegionLawGrows
namespace Go.Proofs.Ytdfcljfajiihdaa.P
open Go.RowKit Go.Proofs.YtdfcljfajiihdaaW.PrintWords Go.Proofs.YtdfcljfajiihdaaW.PrintLast Go.Proofs.YtdfcljfajiihdaaW.PrintMore
attribute [local go_sem] max2_int min2_int max_two min_two max_three min_three max_four min_four
set_option linter.unusedVariables false
set_option linter.unusedSimpArgs false

/-! ### impl_IsCut: function 45 -/
/-- have two squares a common cell? -/
def ovl (a b : S56) : Bool := decide (a.f0 < wrap64 (b.f0 + b.f2)) && decide (b.f0 < wrap64 (a.f0 + a.f2)) && decide (a.f1 < wrap64 (b.f1 + b.f2)) && decide (b.f1 < wrap64 (a.f1 + a.f2))
theorem ovl_f (a b : S56) : impl_overlap.f a.f0 a.f1 a.f2 b.f0 b.f1 b.f2 = some (ovl a b) := by
  unfold impl_overlap.f ovl
  by_cases c1 : a.f0 < wrap64 (b.f0 + b.f2) <;> by_cases c2 : b.f0 < wrap64 (a.f0 + a.f2) <;> by_cases c3 : a.f1 < wrap64 (b.f1 + b.f2) <;> simp [c1, c2, c3]
theorem impl_IsCut_clo (x s : S56) (B : Nat) (w : World) (hB : B < w.heap.size) (h0 : w.cell? ⟨B, 0, none⟩ = some (.int .i64 s.f0)) (h1 : w.cell? ⟨B, 1, none⟩ = some (.int .i64 s.f1)) (h2 : w.cell? ⟨B, 2, none⟩ = some (.int .i64 s.f2)) :
    Calls Try.prog 79 #[.agg #[.int .i64 x.f0, .int .i64 x.f1, .int .i64 x.f2], .pointer (some ⟨B, 0, none⟩)] w fun e w' => e = .returned (.bool (ovl s x)) ∧ Below w.heap.size w w' := by
  have HF := Aside0.mk (fun W => impl_overlap.calls s.f0 s.f1 s.f2 x.f0 x.f1 x.f2 _ W (ovl_f s x))
  generalize ovl s x = b at HF ⊢
  have hne : B ≠ w.heap.size := by omega
  go_enter Try.func79, Try.ntmps79
  go_wp2_with (go_at_call 80; refine (HF.out _).mono ?_; rintro e w' ⟨rfl, hb⟩)
  go_ret
  exact ⟨rfl, ((Below.refl _ _).alloc (Nat.le_refl _) _).trans (hb.mono (by simp))⟩

/-- by Y, then by X: below 0, 0, above -/
def cmpP (a b : S56) : Int := if a.f1 = b.f1 then wrap64 (a.f0 - b.f0) else wrap64 (a.f1 - b.f1)
theorem cmpP_f (a b : S56) : impl_comparePlaces.f a.f0 a.f1 a.f2 b.f0 b.f1 b.f2 = some (cmpP a b) := by
  unfold impl_comparePlaces.f cmpP; split <;> rfl
theorem within_b (n lo hi : Int) : impl_within.f n lo hi = some (decide (lo ≤ n) && decide (n ≤ hi)) := by
  unfold impl_within.f; by_cases c : lo ≤ n <;> simp [c]
theorem isWide_b (n : Int) : impl_isWide.f n = some (decide (1 ≤ n) && decide (n ≤ 500)) := by
  unfold impl_isWide.f; rw [within_b]; rfl
/-- what the loop asks of square i: its side, its places, its order, no common cell with an elder one -/
def ok1 (W H : Int) (s : S56) : Bool := decide (1 ≤ s.f2) && decide (s.f2 ≤ mn W H)
def ok2 (W : Int) (s : S56) : Bool := decide (0 ≤ s.f0) && decide (s.f0 ≤ wrap64 (W - s.f2))
def ok3 (H : Int) (s : S56) : Bool := decide (0 ≤ s.f1) && decide (s.f1 ≤ wrap64 (H - s.f2))
def ok4 (l : List S56) (s : S56) (i : Nat) : Bool := decide (i = 0) || decide (cmpP (rd_T56 l ((i - 1 : Nat) : Int)) s < 0)
def okAt (W H : Int) (l : List S56) (i : Nat) : Bool :=
  let s := rd_T56 l (i : Int)
  ok1 W H s && ok2 W s && ok3 H s && ok4 l s i && !((l.take i).any (ovl s))
def areaW : List S56 → Int → Int
  | [], a => a
  | s :: l, a => areaW l (wrap64 (a + wrap64 (s.f2 * s.f2)))
theorem areaW_snoc (l : List S56) (s : S56) : ∀ a, areaW (l ++ [s]) a = wrap64 (areaW l a + wrap64 (s.f2 * s.f2)) := by
  induction l with
  | nil => intro a; rfl
  | cons t l ih => intro a; simp only [List.cons_append, areaW, ih]
def isCutB (W H : Int) (l : List S56) : Bool :=
  (decide (1 ≤ W) && decide (W ≤ 500)) && (decide (1 ≤ H) && decide (H ≤ 500)) && decide (l.length ≤ 30) && (List.range l.length).all (okAt W H l) && decide (areaW l 0 = wrap64 (W * H))
def impl_IsCut.f (a0_0 : Int) (a0_1 : Int) (l0_2 : List S56) : Option Bool := some (isCutB a0_0 a0_1 l0_2)
open Go.Proofs.Ytdfcljfajiihdaa.Gr in
set_option maxHeartbeats 4000000 in
set_option maxRecDepth 100000 in
theorem impl_IsCut.calls (a0_0 : Int) (a0_1 : Int) (A0_2 : Option Addr) (c0_2 : Nat) (l0_2 : List S56) (r : Bool) (w : World) (hr0_2 : Kd.C k56 w A0_2 l0_2.length l0_2) (hc0_2 : l0_2.length ≤ c0_2) (h : impl_IsCut.f a0_0 a0_1 l0_2 = some r) :
    Calls Try.prog 45 #[.agg #[.int .i64 a0_0, .int .i64 a0_1, .slice A0_2 l0_2.length c0_2]] w fun e w' => e = .returned (.bool r) ∧ Below w.heap.size w w' := by
  obtain rfl : isCutB a0_0 a0_1 l0_2 = r := Option.some.inj h
  clear h
  have hlen := hr0_2.2.1
  have HR := Aside0.mk hr0_2
  clear hr0_2
  have HW := Aside0.mk (fun n W => impl_isWide.calls n _ W (isWide_b n))
  have eg : ∀ args w, (callFunc 79 args).run Try.prog w = .ok (.enter 79 args) w := enters_of Try.func79 (by kernel_rfl) rfl
  have hu := Try.underlying56
  have hu2 := Try.underlying37
  generalize hq : isCutB a0_0 a0_1 l0_2 = q
  have HQ := Aside0.mk hq
  clear hq
  cases b1 : (decide (1 ≤ a0_0) && decide (a0_0 ≤ 500)) with
  | false =>
    have hq : q = false := by rw [← HQ.out]; unfold isCutB; rw [b1]; simp
    subst hq
    have H1 := Aside0.mk (fun W => by have := HW.out a0_0 W; rw [b1] at this; exact this)
    clear b1
    go_enter Try.func45, Try.ntmps45
    go_wp2_with (go_at_call 76; refine (H1.out _).mono ?_; rintro e w1 ⟨rfl, ⟨nd, rfl⟩⟩)
    go_ret
    exact ⟨rfl, by repeat (first | exact Below.refl _ _ | apply pw_below_drewN | apply below_alloc)⟩
  | true =>
  cases b2 : (decide (1 ≤ a0_1) && decide (a0_1 ≤ 500)) with
  | false =>
    have hq : q = false := by rw [← HQ.out]; unfold isCutB; rw [b2]; simp
    subst hq
    have H1 := Aside0.mk (fun W => by have := HW.out a0_0 W; rw [b1] at this; exact this)
    have H2 := Aside0.mk (fun W => by have := HW.out a0_1 W; rw [b2] at this; exact this)
    clear b1 b2
    go_enter Try.func45, Try.ntmps45
    go_wp2_with fail
    refine (H1.out _).mono ?_
    rintro e w1 ⟨rfl, ⟨nd, rfl⟩⟩
    go_wp2_with fail
    refine (H2.out _).mono ?_
    rintro e w1 ⟨rfl, ⟨nd2, rfl⟩⟩
    go_wp2
    go_ret
    exact ⟨rfl, by repeat (first | exact Below.refl _ _ | apply pw_below_drewN | apply below_alloc)⟩
  | true =>
  cases b3 : decide (l0_2.length ≤ 30) with
  | false =>
    have hq : q = false := by rw [← HQ.out]; unfold isCutB; rw [b3]; simp
    subst hq
    have b3' : decide (30 < l0_2.length) = true := by simp at b3 ⊢; omega
    have b3z : decide ((30 : Int) < (l0_2.length : Int)) = true := by simp at b3 ⊢; omega
    have H1 := Aside0.mk (fun W => by have := HW.out a0_0 W; rw [b1] at this; exact this)
    have H2 := Aside0.mk (fun W => by have := HW.out a0_1 W; rw [b2] at this; exact this)
    clear b1 b2 b3
    go_enter Try.func45, Try.ntmps45
    go_wp2_with fail
    refine (H1.out _).mono ?_
    rintro e w1 ⟨rfl, ⟨nd, rfl⟩⟩
    go_wp2_with fail
    refine (H2.out _).mono ?_
    rintro e w1 ⟨rfl, ⟨nd2, rfl⟩⟩
    go_wp2
    go_ret
    exact ⟨rfl, by repeat (first | exact Below.refl _ _ | apply pw_below_drewN | apply below_alloc)⟩
  | true =>
    have b3' : decide (30 < l0_2.length) = false := by simp at b3 ⊢; omega
    have b3z : decide ((30 : Int) < (l0_2.length : Int)) = false := by simp at b3 ⊢; omega
    have B123 := Aside0.mk (And.intro b1 (And.intro b2 b3))
    have H1 := Aside0.mk (fun W => by have := HW.out a0_0 W; rw [b1] at this; exact this)
    have H2 := Aside0.mk (fun W => by have := HW.out a0_1 W; rw [b2] at this; exact this)
    clear b1 b2 b3
    go_enter Try.func45, Try.ntmps45
    go_wp2_with fail
    refine (H1.out _).mono ?_
    rintro e w1 ⟨rfl, ⟨nd, rfl⟩⟩
    go_wp2_with fail
    refine (H2.out _).mono ?_
    rintro e w1 ⟨rfl, ⟨nd2, rfl⟩⟩
    go_wp2
    clear b3' b3z
    have HC0 : ∀ X, X = ((w.alloc (.cells #[.int .i64 a0_0, .int .i64 a0_1, .slice A0_2 l0_2.length c0_2] 37)).drewN (nd + nd2)) → Aside0 (Below w.heap.size w X ∧ X.heap.size = w.heap.size + 1 ∧ X.cell? ⟨w.heap.size, 0, none⟩ = some (.int .i64 a0_0) ∧ X.cell? ⟨w.heap.size, 1, none⟩ = some (.int .i64 a0_1) ∧ X.cell? ⟨w.heap.size, 2, none⟩ = some (.slice A0_2 l0_2.length c0_2)) := by
      rintro X rfl
      exact ⟨by repeat (first | exact Below.refl _ _ | apply pw_below_drewN | apply below_alloc), by simp, by simp, by simp, by simp⟩
    replace HC0 := HC0 _ rfl
    generalize ((w.alloc (.cells #[.int .i64 a0_0, .int .i64 a0_1, .slice A0_2 l0_2.length c0_2] 37)).drewN (nd + nd2)) = W1 at HC0 ⊢
    have HI := Aside0.mk (fun a b c W => impl_within.calls a b c _ W (within_b a b c))
    go_loopg [3, 4, 5, 25] l0_2.length (fun gg v3 v4 v5 v25 wc => ∃ i : Nat, i ≤ l0_2.length ∧ l0_2.length - i ≤ gg ∧ v25 = .int .i64 i ∧ v3 = .int .i64 (areaW (l0_2.take i) 0) ∧ Aside0 (Below W1.heap.size W1 wc) ∧ Aside0 (∀ j, j < i → okAt a0_0 a0_1 l0_2 j = true))
    case atStart => exact ⟨0, by omega, by omega, rfl, rfl, ⟨Below.refl _ _⟩, ⟨fun j hj => by omega⟩⟩
    case round =>
      obtain ⟨i, hi, hg, rfl, rfl, HB, HO⟩ := hrel
      have HBw := Aside0.mk (HC0.out.1.trans (HB.out.mono HC0.out.1.size))
      have hsz : w.heap.size < wr.heap.size := by have h1 := HC0.out.2.1; have h2 := HB.out.size; omega
      have d0 : wr.cell? ⟨w.heap.size, 0, none⟩ = some (.int .i64 a0_0) := (HB.out.cell (p := ⟨w.heap.size, 0, none⟩) (by have := HC0.out.2.1; show w.heap.size < _; omega)).trans HC0.out.2.2.1
      have d1 : wr.cell? ⟨w.heap.size, 1, none⟩ = some (.int .i64 a0_1) := (HB.out.cell (p := ⟨w.heap.size, 1, none⟩) (by have := HC0.out.2.1; show w.heap.size < _; omega)).trans HC0.out.2.2.2.1
      have d2 : wr.cell? ⟨w.heap.size, 2, none⟩ = some (.slice A0_2 l0_2.length c0_2) := (HB.out.cell (p := ⟨w.heap.size, 2, none⟩) (by have := HC0.out.2.1; show w.heap.size < _; omega)).trans HC0.out.2.2.2.2
      by_cases hlt : i < l0_2.length
      · have hltz : decide ((i : Int) < (l0_2.length : Int)) = true := by simp; omega
        obtain ⟨ad, e1, hx0, hx1, hx2⟩ := at_T56 (Kd.C_below HR.out HBw.out) (i : Int) (by omega) (by omega)
        cases e1
        simp only [Int.toNat_natCast] at hx0 hx1 hx2
        have HOK : Aside0 (okAt a0_0 a0_1 l0_2 i = (ok1 a0_0 a0_1 (rd_T56 l0_2 (i : Int)) && ok2 a0_0 (rd_T56 l0_2 (i : Int)) && ok3 a0_1 (rd_T56 l0_2 (i : Int)) && ok4 l0_2 (rd_T56 l0_2 (i : Int)) i && !((l0_2.take i).any (ovl (rd_T56 l0_2 (i : Int)))))) := ⟨rfl⟩
        have HNX : Aside0 (l0_2.take (i + 1) = l0_2.take i ++ [rd_T56 l0_2 (i : Int)]) := ⟨by rw [List.take_succ_eq_append_getElem hlt]; simp [rd_T56, hlt]⟩
        generalize hss : rd_T56 l0_2 (i : Int) = s at hx0 hx1 hx2 HOK HNX
        clear hss
        have hne : w.heap.size ≠ wr.heap.size := by omega
        have HF := Aside0.mk (fun (h : okAt a0_0 a0_1 l0_2 i = false) => show isCutB a0_0 a0_1 l0_2 = false by
          unfold isCutB
          have : (List.range l0_2.length).all (okAt a0_0 a0_1 l0_2) = false := by
            rw [List.all_eq_false]; exact ⟨i, List.mem_range.2 hlt, by rw [h]; simp⟩
          rw [this]; simp)
        obtain ⟨m, hm⟩ : ∃ m, mn a0_0 a0_1 = m := ⟨_, rfl⟩
        have hmm : (if a0_1 < a0_0 then a0_1 else a0_0) = m := hm
        have HM := Aside0.mk hm
        clear hm
        cases k1 : ok1 a0_0 a0_1 s with
        | false =>
          have hq : q = false := by rw [← HQ.out]; exact HF.out (by rw [HOK.out, k1]; simp)
          subst hq
          have V1 : Aside0 (∀ W, Calls Try.prog 32 #[.int .i64 s.f2, .int .i64 1, .int .i64 m] W fun e w' => e = .returned (.bool false) ∧ Drawn0 W w') := ⟨fun W => by have := HI.out s.f2 1 m W; rw [show (decide (1 ≤ s.f2) && decide (s.f2 ≤ m)) = false from by rw [← HM.out]; exact k1] at this; exact this⟩
          clear k1
          go_wp2_with fail
          refine (V1.out _).mono ?_
          rintro e w1 ⟨rfl, ⟨nd1, rfl⟩⟩
          go_wp2
          go_ret
          exact ⟨rfl, by repeat (first | exact HBw.out | apply pw_below_drewN | apply below_alloc)⟩
        | true =>
        have V1 : Aside0 (∀ W, Calls Try.prog 32 #[.int .i64 s.f2, .int .i64 1, .int .i64 m] W fun e w' => e = .returned (.bool true) ∧ Drawn0 W w') := ⟨fun W => by have := HI.out s.f2 1 m W; rw [show (decide (1 ≤ s.f2) && decide (s.f2 ≤ m)) = true from by rw [← HM.out]; exact k1] at this; exact this⟩
        have K1 := Aside0.mk k1
        clear k1
        cases k2 : ok2 a0_0 s with
        | false =>
          have hq : q = false := by rw [← HQ.out]; exact HF.out (by rw [HOK.out, k2]; simp)
          subst hq
          have V2 : Aside0 (∀ W, Calls Try.prog 32 #[.int .i64 s.f0, .int .i64 0, .int .i64 (wrap64 (a0_0 - s.f2))] W fun e w' => e = .returned (.bool false) ∧ Drawn0 W w') := ⟨fun W => by have := HI.out s.f0 0 (wrap64 (a0_0 - s.f2)) W; rw [show (decide (0 ≤ s.f0) && decide (s.f0 ≤ wrap64 (a0_0 - s.f2))) = false from k2] at this; exact this⟩
          clear k2
          go_wp2_with fail
          refine (V1.out _).mono ?_
          rintro e w1 ⟨rfl, ⟨nd1, rfl⟩⟩
          go_wp2_with fail
          refine (V2.out _).mono ?_
          rintro e w1 ⟨rfl, ⟨nd1, rfl⟩⟩
          go_wp2
          go_ret
          exact ⟨rfl, by repeat (first | exact HBw.out | apply pw_below_drewN | apply below_alloc)⟩
        | true =>
        have V2 : Aside0 (∀ W, Calls Try.prog 32 #[.int .i64 s.f0, .int .i64 0, .int .i64 (wrap64 (a0_0 - s.f2))] W fun e w' => e = .returned (.bool true) ∧ Drawn0 W w') := ⟨fun W => by have := HI.out s.f0 0 (wrap64 (a0_0 - s.f2)) W; rw [show (decide (0 ≤ s.f0) && decide (s.f0 ≤ wrap64 (a0_0 - s.f2))) = true from k2] at this; exact this⟩
        have K2 := Aside0.mk k2
        clear k2
        cases k3 : ok3 a0_1 s with
        | false =>
          have hq : q = false := by rw [← HQ.out]; exact HF.out (by rw [HOK.out, k3]; simp)
          subst hq
          have V3 : Aside0 (∀ W, Calls Try.prog 32 #[.int .i64 s.f1, .int .i64 0, .int .i64 (wrap64 (a0_1 - s.f2))] W fun e w' => e = .returned (.bool false) ∧ Drawn0 W w') := ⟨fun W => by have := HI.out s.f1 0 (wrap64 (a0_1 - s.f2)) W; rw [show (decide (0 ≤ s.f1) && decide (s.f1 ≤ wrap64 (a0_1 - s.f2))) = false from k3] at this; exact this⟩
          clear k3
          go_wp2_with fail
          refine (V1.out _).mono ?_
          rintro e w1 ⟨rfl, ⟨nd1, rfl⟩⟩
          go_wp2_with fail
          refine (V2.out _).mono ?_
          rintro e w1 ⟨rfl, ⟨nd1, rfl⟩⟩
          go_wp2_with fail
          refine (V3.out _).mono ?_
          rintro e w1 ⟨rfl, ⟨nd1, rfl⟩⟩
          go_wp2
          go_ret
          exact ⟨rfl, by repeat (first | exact HBw.out | apply pw_below_drewN | apply below_alloc)⟩
        | true =>
        have V3 : Aside0 (∀ W, Calls Try.prog 32 #[.int .i64 s.f1, .int .i64 0, .int .i64 (wrap64 (a0_1 - s.f2))] W fun e w' => e = .returned (.bool true) ∧ Drawn0 W w') := ⟨fun W => by have := HI.out s.f1 0 (wrap64 (a0_1 - s.f2)) W; rw [show (decide (0 ≤ s.f1) && decide (s.f1 ≤ wrap64 (a0_1 - s.f2))) = true from k3] at this; exact this⟩
        have K3 := Aside0.mk k3
        clear k3
        go_wp2_with fail
        refine (V1.out _).mono ?_
        rintro e w1 ⟨rfl, ⟨nd1, rfl⟩⟩
        go_wp2_with fail
        refine (V2.out _).mono ?_
        rintro e w1 ⟨rfl, ⟨nd2', rfl⟩⟩
        go_wp2_with fail
        refine (V3.out _).mono ?_
        rintro e w1 ⟨rfl, ⟨nd3, rfl⟩⟩
        go_wp2
        have HX : ∀ X, X = ((wr.alloc (.cells #[.int .i64 s.f0, .int .i64 s.f1, .int .i64 s.f2] 56)).drewN (nd1 + nd2' + nd3)) → Aside0 (Below w.heap.size w X ∧ Below W1.heap.size W1 X ∧ X.heap.size = wr.heap.size + 1) ∧ X.cell? ⟨w.heap.size, 2, none⟩ = some (.slice (some ad) l0_2.length c0_2) ∧ X.cell? ⟨wr.heap.size, 0, none⟩ = some (.int .i64 s.f0) ∧ X.cell? ⟨wr.heap.size, 1, none⟩ = some (.int .i64 s.f1) ∧ X.cell? ⟨wr.heap.size, 2, none⟩ = some (.int .i64 s.f2) := by
          rintro X rfl
          refine ⟨⟨by repeat (first | exact HBw.out | apply pw_below_drewN | apply below_alloc), by repeat (first | exact HB.out | apply pw_below_drewN | apply below_alloc), by simp⟩, ?_, ?_, ?_, ?_⟩
          · have hbx : Below wr.heap.size wr ((wr.alloc (.cells #[.int .i64 s.f0, .int .i64 s.f1, .int .i64 s.f2] 56)).drewN (nd1 + nd2' + nd3)) := by repeat (first | exact Below.refl _ _ | apply pw_below_drewN | apply below_alloc)
            exact (hbx.cell (p := ⟨w.heap.size, 2, none⟩) hsz).trans d2
          · simp
          · simp
          · simp
        obtain ⟨XF, x0, x1, x2, x3⟩ := HX _ rfl
        generalize ((wr.alloc (.cells #[.int .i64 s.f0, .int .i64 s.f1, .int .i64 s.f2] 56)).drewN (nd1 + nd2' + nd3)) = X at XF x0 x1 x2 x3 ⊢
        clear HX d0 d1 d2 hx0 hx1 hx2
        have HCF : Aside0 (∀ W, Below X.heap.size X W → Calls Try.prog 78 #[.slice (some ad) i c0_2, .func (.func 79) #[] #[.pointer (some ⟨wr.heap.size, 0, none⟩)]] W fun e w' => e = .returned (.bool ((l0_2.take i).any (ovl s))) ∧ Below W.heap.size W w') := ⟨fun W hW => by
          have hC := Kd.C_below (Kd.C_below HR.out XF.out.1) hW
          have hT : Kd.C k56 W (some ad) (l0_2.take i).length (l0_2.take i) := by
            refine ⟨rfl, by have := hC.2.1; simp; omega, fun h => ?_⟩
            obtain ⟨ad', e, hh⟩ := hC.2.2 (by omega)
            refine ⟨ad', e, fun j p hj => hh j p ?_⟩
            rw [List.getElem?_take] at hj
            split at hj
            · exact hj
            · cases hj
          have hl : (l0_2.take i).length = i := by simp; omega
          have hh := slices_ContainsFunc_sq (l0_2.take i) (some ad) c0_2 79 #[.pointer (some ⟨wr.heap.size, 0, none⟩)] (ovl s) W hT (by omega) eg (fun V x hV => by
            have hB : wr.heap.size < W.heap.size := by have := XF.out.2.2; have := hW.size; omega
            refine (impl_IsCut_clo x s wr.heap.size V (by have := hV.size; omega) ?_ ?_ ?_).mono ?_
            · exact (hV.cell (p := ⟨wr.heap.size, 0, none⟩) hB).trans ((hW.cell (p := ⟨wr.heap.size, 0, none⟩) (by have := XF.out.2.2; show wr.heap.size < _; omega)).trans x1)
            · exact (hV.cell (p := ⟨wr.heap.size, 1, none⟩) hB).trans ((hW.cell (p := ⟨wr.heap.size, 1, none⟩) (by have := XF.out.2.2; show wr.heap.size < _; omega)).trans x2)
            · exact (hV.cell (p := ⟨wr.heap.size, 2, none⟩) hB).trans ((hW.cell (p := ⟨wr.heap.size, 2, none⟩) (by have := XF.out.2.2; show wr.heap.size < _; omega)).trans x3)
            · rintro e w' ⟨rfl, hb⟩
              exact ⟨rfl, hV.trans (hb.mono hV.size)⟩)
          rw [hl] at hh
          exact hh⟩
        have hXs := Aside0.mk XF.out.2.2
        have x0' := fun p => cell_gr (p := p) (by have := hXs.out; show w.heap.size < _; omega) x0
        have x1' := fun p => cell_gr (p := p) (by have := hXs.out; show wr.heap.size < _; omega) x1
        have x2' := fun p => cell_gr (p := p) (by have := hXs.out; show wr.heap.size < _; omega) x2
        have x3' := fun p => cell_gr (p := p) (by have := hXs.out; show wr.heap.size < _; omega) x3
        clear x0 x1 x2 x3
        generalize hb5 : (l0_2.take i).any (ovl s) = b5 at HCF HOK
        clear hb5
        have HCP : Aside0 (∀ W, Calls Try.prog 77 #[.agg #[.int .i64 (rd_T56 l0_2 ((i - 1 : Nat) : Int)).f0, .int .i64 (rd_T56 l0_2 ((i - 1 : Nat) : Int)).f1, .int .i64 (rd_T56 l0_2 ((i - 1 : Nat) : Int)).f2], .agg #[.int .i64 s.f0, .int .i64 s.f1, .int .i64 s.f2]] W fun e w' => e = .returned (.int .i64 (cmpP (rd_T56 l0_2 ((i - 1 : Nat) : Int)) s)) ∧ Below W.heap.size W w') := ⟨fun W => impl_comparePlaces.calls _ _ _ _ _ _ _ W (cmpP_f _ s)⟩
        by_cases hi0 : i = 0
        · have z1 : decide ((0 : Int) < (i : Int)) = false := by simp; omega
          have z2 : decide (0 < i) = false := by simp; omega
          have KK4 : ok4 l0_2 s i = true := by unfold ok4; simp [hi0]
          have HK4 := Aside0.mk KK4
          clear KK4 hi0
          cases b5 with
          | true =>
            have hq : q = false := by rw [← HQ.out]; exact HF.out (by rw [HOK.out]; simp)
            subst hq
            refine wp_region_gr (by kernel_rfl) (by kernel_rfl) ?_
            repeat (go_big_quiet_step (first | (go_at_call 78; refine Calls.gr_of (HCF.out _ (Gr.h _))) | (go_at_call 77; refine Calls.gr_of (HCP.out _))))
            refine wpQuiet_nil ?_
            intro W2 hw'
            obtain ⟨⟨V2, hB2⟩, hw''⟩ := hw'
            replace hw'' : W2 = V2 := hw''
            subst hw''
            go_wp2
            go_ret
            exact ⟨rfl, XF.out.1.trans (hB2.mono XF.out.1.size)⟩
          | false =>
            refine wp_region_gr (by kernel_rfl) (by kernel_rfl) ?_
            repeat (go_big_quiet_step (first | (go_at_call 78; refine Calls.gr_of (HCF.out _ (Gr.h _))) | (go_at_call 77; refine Calls.gr_of (HCP.out _))))
            refine wpQuiet_nil ?_
            intro W2 hw'
            obtain ⟨⟨V2, hB2⟩, hw''⟩ := hw'
            replace hw'' : W2 = V2 := hw''
            subst hw''
            have y3 : W2.cell? ⟨wr.heap.size, 2, none⟩ = some (.int .i64 s.f2) := x3' ⟨W2, hB2⟩
            have HB2 := Aside0.mk hB2
            clear hB2 x0' x1' x2' x3'
            go_wp2
            go_roundg (l0_2.length - (i + 1))
            case measure => omega
            case rel =>
              refine ⟨i + 1, by omega, by omega, by go_num, ?_, ⟨XF.out.2.1.trans (HB2.out.mono XF.out.2.1.size)⟩, ⟨fun j hj => ?_⟩⟩
              · rw [HNX.out, areaW_snoc]
              · by_cases e : j = i
                · subst e; rw [HOK.out, K1.out, K2.out, K3.out, HK4.out]; rfl
                · exact HO.out j (by omega)
        · have z1 : decide ((0 : Int) < (i : Int)) = true := by simp; omega
          have z2 : decide (0 < i) = true := by simp; omega
          have hi1 : i - 1 + 1 = i := by omega
          obtain ⟨adp, ep, hp0, hp1, hp2⟩ := at_T56 (Kd.C_below HR.out XF.out.1) ((i - 1 : Nat) : Int) (by omega) (by omega)
          obtain rfl : ad = adp := by injection ep
          have hlt' := Kd.C_lt (Kd.C_below HR.out XF.out.1) (show 0 < l0_2.length by omega) (by decide)
          simp only [Int.toNat_natCast] at hp0 hp1 hp2
          have KK4 : ok4 l0_2 s i = decide (cmpP (rd_T56 l0_2 ((i - 1 : Nat) : Int)) s < 0) := by unfold ok4; simp [hi0]
          have HK4 := Aside0.mk KK4
          clear KK4 hi0 ep
          generalize rd_T56 l0_2 ((i - 1 : Nat) : Int) = t at HCP HK4 hp0 hp1 hp2
          generalize hcc : cmpP t s = cc at HCP HK4
          clear hcc
          have hlb : (ad.add ((i - 1) * 3)).block < X.heap.size := by rw [show (ad.add ((i - 1) * 3)).block = ad.block from by unfold Addr.add; split <;> rfl]; exact hlt'
          have hp0' := fun p => cell_gr (p := p) hlb hp0
          have hp1' := fun p => cell_gr (p := p) (a := ⟨(ad.add ((i - 1) * 3)).block, (ad.add ((i - 1) * 3)).off + 1, none⟩) hlb hp1
          have hp2' := fun p => cell_gr (p := p) (a := ⟨(ad.add ((i - 1) * 3)).block, (ad.add ((i - 1) * 3)).off + 2, none⟩) hlb hp2
          clear hp0 hp1 hp2 hlt' hlb
          by_cases hc0 : cc < 0
          · have z3 : decide (0 ≤ cc) = false := by simp; omega
            have HC9 := Aside0.mk hc0
            clear hc0
            cases b5 with
            | true =>
              have hq : q = false := by rw [← HQ.out]; exact HF.out (by rw [HOK.out]; simp)
              subst hq
              refine wp_region_gr (by kernel_rfl) (by kernel_rfl) ?_
              repeat (go_big_quiet_step (first | (go_at_call 78; refine Calls.gr_of (HCF.out _ (Gr.h _))) | (go_at_call 77; refine Calls.gr_of (HCP.out _))))
              refine wpQuiet_nil ?_
              intro W2 hw'
              obtain ⟨⟨V2, hB2⟩, hw''⟩ := hw'
              replace hw'' : W2 = V2 := hw''
              subst hw''
              go_wp2
              go_ret
              exact ⟨rfl, XF.out.1.trans (hB2.mono XF.out.1.size)⟩
            | false =>
              refine wp_region_gr (by kernel_rfl) (by kernel_rfl) ?_
              repeat (go_big_quiet_step (first | (go_at_call 78; refine Calls.gr_of (HCF.out _ (Gr.h _))) | (go_at_call 77; refine Calls.gr_of (HCP.out _))))
              refine wpQuiet_nil ?_
              intro W2 hw'
              obtain ⟨⟨V2, hB2⟩, hw''⟩ := hw'
              replace hw'' : W2 = V2 := hw''
              subst hw''
              have y3 : W2.cell? ⟨wr.heap.size, 2, none⟩ = some (.int .i64 s.f2) := x3' ⟨W2, hB2⟩
              have HB2 := Aside0.mk hB2
              clear hB2 x0' x1' x2' x3'
              go_wp2
              go_roundg (l0_2.length - (i + 1))
              case measure => omega
              case rel =>
                refine ⟨i + 1, by omega, by omega, by go_num, ?_, ⟨XF.out.2.1.trans (HB2.out.mono XF.out.2.1.size)⟩, ⟨fun j hj => ?_⟩⟩
                · rw [HNX.out, areaW_snoc]
                · by_cases e : j = i
                  · subst e; rw [HOK.out, K1.out, K2.out, K3.out, HK4.out, decide_eq_true HC9.out]; rfl
                  · exact HO.out j (by omega)
          · have z3 : decide (0 ≤ cc) = true := by simp; omega
            have hq : q = false := by rw [← HQ.out]; exact HF.out (by rw [HOK.out, HK4.out, decide_eq_false hc0]; simp)
            subst hq
            clear hc0
            refine wp_region_gr (by kernel_rfl) (by kernel_rfl) ?_
            repeat (go_big_quiet_step (first | (go_at_call 77; refine Calls.gr_of (HCP.out _))))
            refine wpQuiet_nil ?_
            intro W2 hw'
            obtain ⟨⟨V2, hB2⟩, hw''⟩ := hw'
            replace hw'' : W2 = V2 := hw''
            subst hw''
            go_wp2
            go_ret
            exact ⟨rfl, XF.out.1.trans (hB2.mono XF.out.1.size)⟩
      · have hltz : decide ((i : Int) < (l0_2.length : Int)) = false := by simp; omega
        have hil : l0_2.take i = l0_2 := List.take_of_length_le (by omega)
        have hall : (List.range l0_2.length).all (okAt a0_0 a0_1 l0_2) = true := by
          rw [List.all_eq_true]; exact fun j hj => HO.out j (by have := List.mem_range.1 hj; omega)
        have hq : (areaW l0_2 0 == wrap64 (a0_0 * a0_1)) = q := by
          rw [← HQ.out]; unfold isCutB; rw [B123.out.1, B123.out.2.1, B123.out.2.2, hall]; simp; rfl
        rw [hil]
        have HE := Aside0.mk hq
        clear hil hall hq
        generalize areaW l0_2 0 = ar at HE ⊢
        go_wp2
        go_ret
        refine ⟨?_, HBw.out⟩
        rw [← HE.out]
        rfl

end Go.Proofs.Ytdfcljfajiihdaa.P

namespace Go.Proofs.Ytdfcljfajiihdaa.P
open Go.RowKit Go.Proofs.YtdfcljfajiihdaaW.PrintWords Go.Proofs.YtdfcljfajiihdaaW.PrintLast Go.Proofs.YtdfcljfajiihdaaW.PrintMore
attribute [local go_sem] max2_int min2_int max_two min_two max_three min_three max_four min_four
set_option linter.unusedVariables false
set_option linter.unusedSimpArgs false

/-! ### impl_isCounted: function 85 -/
def impl_isCounted.f (a0 : Int) (a1 : Int) : Option (Bool) := (impl_within.f a0 1 6).bind fun t101 => (if t101 = true then ((impl_within.f a1 1 6).bind fun t102 => (some t102)) else (some false))
set_option maxHeartbeats 8000000 in
set_option maxRecDepth 100000 in
theorem impl_isCounted.calls (a0 : Int) (a1 : Int) (r : Bool) (w : World) (h : impl_isCounted.f a0 a1 = some r) :
    Calls Try.prog 85 #[.int .i64 a0, .int .i64 a1] w fun e w' => e = .returned (.bool r) ∧ Drawn0 w w' := by
  have H : ((impl_within.f a0 1 6).bind fun t101 => (if t101 = true then ((impl_within.f a1 1 6).bind fun t102 => (some t102)) else (some false))) = some r := h
  clear h
  replace H := Option.bind_eq_some_iff.mp H
  obtain ⟨t101, A30, H⟩ := H
  replace H : (if t101 = true then ((impl_within.f a1 1 6).bind fun t102 => (some t102)) else (some false)) = some r := H
  have A3 := Aside0.mk A30
  clear A30
  by_cases c4 : t101 = true
  · subst c4
    have H1 : ((impl_within.f a1 1 6).bind fun t102 => (some t102)) = some r := by rw [if_pos rfl] at H; exact H
    clear H
    have H := H1
    clear H1
    replace H := Option.bind_eq_some_iff.mp H
    obtain ⟨t102, A50, H⟩ := H
    replace H : (some t102) = some r := H
    have A5 := Aside0.mk A50
    clear A50
    obtain rfl := Option.some.inj H
    go_enter Try.func85, Try.ntmps85
    go_wp2_with (first | ((with_reducible refine gate_callee (f := 32) rfl ?_); refine goesL_ (some 6) rfl rfl Try.func32 (by kernel_rfl) rfl #[.int .i64 a0, .int .i64 1, .int .i64 6] rfl (by (try simp only [List.map_toArray, List.map_cons, List.map_nil]); first | done | rfl | (simp only [List.length_drop, List.length_take]; rfl)) ?_; (with_reducible refine (impl_within.calls a0 1 6 true _ A3.out).mono ?_); rintro e w' ⟨rfl, ⟨nd, rfl⟩⟩; refine ⟨_, rfl, ?_⟩) | (go_at_call 32; (with_reducible refine (impl_within.calls a1 1 6 t102 _ A5.out).mono ?_); rintro e w' ⟨rfl, ⟨nd, rfl⟩⟩))
    go_ret
    exact ⟨by first | rfl | (simp; done) | (simp [*]; done), by repeat (first | exact Drawn0.refl _ | apply Drawn0.step)⟩
  · replace c4 := Bool.eq_false_iff.mpr c4
    subst c4
    have H1 : (some false) = some r := by rw [if_neg (show ¬ (false = true) by decide)] at H; exact H
    clear H
    have H := H1
    clear H1
    obtain rfl := Option.some.inj H
    go_enter Try.func85, Try.ntmps85
    go_wp2_with (first | ((with_reducible refine gate_callee (f := 32) rfl ?_); refine goesL_ (some 6) rfl rfl Try.func32 (by kernel_rfl) rfl #[.int .i64 a0, .int .i64 1, .int .i64 6] rfl (by (try simp only [List.map_toArray, List.map_cons, List.map_nil]); first | done | rfl | (simp only [List.length_drop, List.length_take]; rfl)) ?_; (with_reducible refine (impl_within.calls a0 1 6 false _ A3.out).mono ?_); rintro e w' ⟨rfl, ⟨nd, rfl⟩⟩; refine ⟨_, rfl, ?_⟩))
    go_ret
    exact ⟨by first | rfl | (simp; done) | (simp [*]; done), by repeat (first | exact Drawn0.refl _ | apply Drawn0.step)⟩

end Go.Proofs.Ytdfcljfajiihdaa.P

namespace Go.Proofs.Ytdfcljfajiihdaa.P
open Go.RowKit Go.Proofs.YtdfcljfajiihdaaW.PrintWords Go.Proofs.YtdfcljfajiihdaaW.PrintLast Go.Proofs.YtdfcljfajiihdaaW.PrintMore
attribute [local go_sem] max2_int min2_int max_two min_two max_three min_three max_four min_four
set_option linter.unusedVariables false
set_option linter.unusedSimpArgs false

/-! ### impl_isListed: function 60 -/
def impl_isListed.f (a0 : Int) (a1 : Int) : Option (Bool) := (impl_isCounted.f a0 a1).bind fun t101 => (if t101 = true then (some (decide ((wrap64 (a0 * a1)) ≤ 16))) else (some false))
set_option maxHeartbeats 8000000 in
set_option maxRecDepth 100000 in
theorem impl_isListed.calls (a0 : Int) (a1 : Int) (r : Bool) (w : World) (h : impl_isListed.f a0 a1 = some r) :
    Calls Try.prog 60 #[.int .i64 a0, .int .i64 a1] w fun e w' => e = .returned (.bool r) ∧ Drawn0 w w' := by
  have H : ((impl_isCounted.f a0 a1).bind fun t101 => (if t101 = true then (some (decide ((wrap64 (a0 * a1)) ≤ 16))) else (some false))) = some r := h
  clear h
  replace H := Option.bind_eq_some_iff.mp H
  obtain ⟨t101, A30, H⟩ := H
  replace H : (if t101 = true then (some (decide ((wrap64 (a0 * a1)) ≤ 16))) else (some false)) = some r := H
  have A3 := Aside0.mk A30
  clear A30
  by_cases c4 : t101 = true
  · subst c4
    have H1 : (some (decide ((wrap64 (a0 * a1)) ≤ 16))) = some r := by rw [if_pos rfl] at H; exact H
    clear H
    have H := H1
    clear H1
    obtain rfl := Option.some.inj H
    go_enter Try.func60, Try.ntmps60
    go_wp2_with (first | ((with_reducible refine gate_callee (f := 85) rfl ?_); refine goesL_ (some 7) rfl rfl Try.func85 (by kernel_rfl) rfl #[.int .i64 a0, .int .i64 a1] rfl (by (try simp only [List.map_toArray, List.map_cons, List.map_nil]); first | done | rfl | (simp only [List.length_drop, List.length_take]; rfl)) ?_; (with_reducible refine (impl_isCounted.calls a0 a1 true _ A3.out).mono ?_); rintro e w' ⟨rfl, ⟨nd, rfl⟩⟩; refine ⟨_, rfl, ?_⟩))
    go_ret
    exact ⟨by first | rfl | (simp; done) | (simp [*]; done), by repeat (first | exact Drawn0.refl _ | apply Drawn0.step)⟩
  · replace c4 := Bool.eq_false_iff.mpr c4
    subst c4
    have H1 : (some false) = some r := by rw [if_neg (show ¬ (false = true) by decide)] at H; exact H
    clear H
    have H := H1
    clear H1
    obtain rfl := Option.some.inj H
    go_enter Try.func60, Try.ntmps60
    go_wp2_with (first | ((with_reducible refine gate_callee (f := 85) rfl ?_); refine goesL_ (some 7) rfl rfl Try.func85 (by kernel_rfl) rfl #[.int .i64 a0, .int .i64 a1] rfl (by (try simp only [List.map_toArray, List.map_cons, List.map_nil]); first | done | rfl | (simp only [List.length_drop, List.length_take]; rfl)) ?_; (with_reducible refine (impl_isCounted.calls a0 a1 false _ A3.out).mono ?_); rintro e w' ⟨rfl, ⟨nd, rfl⟩⟩; refine ⟨_, rfl, ?_⟩))
    go_ret
    exact ⟨by first | rfl | (simp; done) | (simp [*]; done), by repeat (first | exact Drawn0.refl _ | apply Drawn0.step)⟩

end Go.Proofs.Ytdfcljfajiihdaa.P

namespace Go.Proofs.Ytdfcljfajiihdaa.P
open Go.RowKit Go.Proofs.YtdfcljfajiihdaaW.PrintWords Go.Proofs.YtdfcljfajiihdaaW.PrintLast Go.Proofs.YtdfcljfajiihdaaW.PrintMore
attribute [local go_sem] max2_int min2_int max_two min_two max_three min_three max_four min_four
set_option linter.unusedVariables false
set_option linter.unusedSimpArgs false

/-! ### impl_Cut: function 61 -/
open Go.Proofs.Ytdfcljfajiihdaa.T in
set_option maxHeartbeats 1000000 in
theorem slices_IndexFunc_cut (l : List S37) (A : Option Addr) (c : Nat) (g : Nat) (lb : Array Value) (p : S37 → Bool) (w : World) (hr : Kd.C k37 w A l.length l) (hlc : l.length ≤ c)
    (eg : ∀ args w, (callFunc g args).run Try.prog w = .ok (.enter g args) w)
    (hp : ∀ (W : World) (x : S37) (A' : Option Addr) (c' : Nat), Below w.heap.size w W → x ∈ l → Kd.C k56 W A' x.f2.length x.f2 → x.f2.length ≤ c' → Calls Try.prog g (#[.agg #[.int .i64 x.f0, .int .i64 x.f1, .slice A' x.f2.length c']] ++ lb) W fun e w' => e = .returned (.bool (p x)) ∧ Below w.heap.size w w') :
    Calls Try.prog 61 #[.slice A l.length c, .func (.func g) #[] lb] w fun e w' => e = .returned (.int .i64 (idxF p l 0)) ∧ Below w.heap.size w w' := by
  have hlen := hr.2.1
  have HR := Aside0.mk hr
  clear hr
  go_enter Try.func61, Try.ntmps61
  go_wp2
  go_loopg [5, 8] l.length (fun gg v5 v8 wc => ∃ (i : Int), 0 ≤ i ∧ i ≤ (l.length : Int) ∧ (l.length : Int) - i ≤ (gg : Int) ∧ v8 = .int .i64 i ∧ Aside0 (Below w.heap.size w wc) ∧ Aside0 (∀ j y, (j : Nat) < i.toNat → l[j]? = some y → p y = false))
  case atStart => exact ⟨0, by omega, by omega, by omega, rfl, ⟨Below.refl _ _⟩, ⟨fun j y hj => by simp at hj⟩⟩
  case round =>
    obtain ⟨i, h0, h1, hg, rfl, HB, HN⟩ := hrel
    by_cases c4 : i < (l.length : Int)
    · obtain ⟨ad, A2, c2, e1, hx0, hx1, hx2, hx3, hx4⟩ := at_T37 (Kd.C_below HR.out HB.out) i h0 c4
      cases e1
      have hget : l[i.toNat]? = some (rd_T37 l i) := by
        have : i.toNat < l.length := by omega
        simp [rd_T37, this]
      have HG := Aside0.mk hget
      have hmem := List.mem_of_getElem? hget
      clear hget
      have HP := Aside0.mk (hp wr (rd_T37 l i) A2 c2 HB.out hmem hx4 hx3)
      clear hp hx3 hx4 hmem
      generalize hxx : rd_T37 l i = x at HG HP hx0 hx1 hx2
      clear hxx
      have c4b : decide (i < (l.length : Int)) = true := decide_eq_true c4
      have h0' := eq_true h0
      cases hb : p x with
      | true =>
        rw [hb] at HP
        go_wp2_with (go_at_fn g; refine HP.out.mono ?_; rintro e w' ⟨rfl, hb'⟩)
        go_ret
        refine ⟨?_, hb'⟩
        rw [idxF_hit p l i.toNat x HG.out hb (fun j y hj hy => HN.out j y hj hy) 0, show ((0 + i.toNat : Nat) : Int) = i by omega]
        rfl
      | false =>
        rw [hb] at HP
        go_wp2_with (go_at_fn g; refine HP.out.mono ?_; rintro e w' ⟨rfl, hb'⟩)
        go_roundg (l.length - (i.toNat + 1))
        case measure => omega
        case rel =>
          refine ⟨i + 1, by omega, by omega, by omega, rfl, ⟨hb'⟩, ⟨fun j y hj hy => ?_⟩⟩
          by_cases e : j = i.toNat
          · subst e
            have := HG.out
            rw [this] at hy; cases hy; exact hb
          · exact HN.out j y (by omega) hy
    · have c4b : decide (i < (l.length : Int)) = false := decide_eq_false c4
      go_wp2
      go_ret
      refine ⟨?_, HB.out⟩
      rw [idxF_miss p l (fun j y hy => HN.out j y (by have := (List.getElem?_eq_some_iff.1 hy).1; omega) hy) 0]
      rfl

end Go.Proofs.Ytdfcljfajiihdaa.P

namespace Go.Proofs.Ytdfcljfajiihdaa.P
open Go.RowKit Go.Proofs.YtdfcljfajiihdaaW.PrintWords Go.Proofs.YtdfcljfajiihdaaW.PrintLast Go.Proofs.YtdfcljfajiihdaaW.PrintMore
attribute [local go_sem] max2_int min2_int max_two min_two max_three min_three max_four min_four
set_option linter.unusedVariables false
set_option linter.unusedSimpArgs false

/-! ### slices_Min_int_int: function 99 -/
open Go.Proofs.Ytdfcljfajiihdaa.T
def MinTo (f : List Int) (k : Nat) (m : Int) : Prop := (∃ c, c < k ∧ ht f c = m) ∧ ∀ c, c < k → m ≤ ht f c
theorem MinTo.low {f : List Int} {m : Int} (hne : 0 < f.length) (h : MinTo f f.length m) : m = ht f (low f) := by
  have L := low_spec f (fun e => by simp [e] at hne)
  obtain ⟨⟨c, hc, e⟩, h2⟩ := h
  have h3 := L.le c hc
  have h4 := h2 _ L.lt
  omega
theorem MinTo.next {f : List Int} {k : Nat} {m : Int} (h : MinTo f k m) : MinTo f (k + 1) (if ht f k < m then ht f k else m) := by
  obtain ⟨⟨c, hc, e⟩, h2⟩ := h
  split
  · rename_i hl
    exact ⟨⟨k, by omega, rfl⟩, fun d hd => by
      by_cases e1 : d = k
      · subst e1; omega
      · have := h2 d (by omega); omega⟩
  · rename_i hl
    exact ⟨⟨c, by omega, e⟩, fun d hd => by
      by_cases e1 : d = k
      · subst e1; omega
      · exact h2 d (by omega)⟩
set_option maxHeartbeats 1000000 in
theorem slices_Min_int (f : List Int) (G : Nat) (w : World) (hcol : ∀ i, i < f.length → w.cell? ⟨G, i, none⟩ = some (.int .i64 (ht f i))) (hne : 0 < f.length) (hn : f.length ≤ 1000) :
    Calls Try.prog 99 #[.slice (some ⟨G, 0, none⟩) f.length f.length] w fun e w' => e = .returned (.int .i64 (ht f (low f))) ∧ w = w' := by
  have HC := Aside0.mk hcol
  have h0 : w.cell? ⟨G, 0, none⟩ = some (.int .i64 (ht f 0)) := hcol 0 hne
  have HM : Aside0 (MinTo f 1 (ht f 0)) := ⟨⟨⟨0, by omega, rfl⟩, fun c hc => by rw [show c = 0 by omega]; omega⟩⟩
  clear hcol
  generalize ht f 0 = m0 at h0 HM
  have hz : decide (f.length < 1) = false := decide_eq_false (by omega)
  have hq := eq_true hne
  go_enter Try.func99, Try.ntmps99
  go_wp2
  go_loopg [3, 4] f.length (fun kq v3 v4 wc => ∃ (k : Nat) (m : Int), k ≤ f.length ∧ f.length - k ≤ kq ∧ v3 = .int .i64 m ∧ v4 = .int .i64 k ∧ Aside0 (MinTo f k m) ∧ wc = w)
  case atStart => exact ⟨1, m0, by omega, by omega, rfl, rfl, HM, rfl⟩
  case round =>
    clear HM
    obtain ⟨k, m, hk, hkq, rfl, rfl, HM, rfl⟩ := hrel
    by_cases hlt : k < f.length
    · have hlz : decide (k < f.length) = true := decide_eq_true hlt
      have hc := HC.out k hlt
      have HN := Aside0.mk HM.out.next
      generalize ht f k = y at hc HN
      by_cases c : y < m
      · rw [if_pos c] at HN
        go_wp2
        go_roundg (f.length - (k + 1))
        case measure => omega
        case rel => exact ⟨k + 1, y, by omega, by omega, by first | trivial | rfl, by go_num, HN, by first | trivial | rfl⟩
      · rw [if_neg c] at HN
        go_wp2
        go_roundg (f.length - (k + 1))
        case measure => omega
        case rel => exact ⟨k + 1, m, by omega, by omega, by first | trivial | rfl, by go_num, HN, by first | trivial | rfl⟩
    · have hlz : decide (k < f.length) = false := decide_eq_false hlt
      have hm := MinTo.low hne (by rw [show f.length = k by omega]; exact HM.out)
      have HMM := Aside0.mk hm
      clear hm
      go_wp2
      go_ret
      exact ⟨by rw [← HMM.out]; rfl, rfl⟩

end Go.Proofs.Ytdfcljfajiihdaa.P

namespace Go.Proofs.Ytdfcljfajiihdaa.P
open Go.RowKit Go.Proofs.YtdfcljfajiihdaaW.PrintWords Go.Proofs.YtdfcljfajiihdaaW.PrintLast Go.Proofs.YtdfcljfajiihdaaW.PrintMore
attribute [local go_sem] max2_int min2_int max_two min_two max_three min_three max_four min_four
set_option linter.unusedVariables false
set_option linter.unusedSimpArgs false

/-! ### impl_filler_least: function 100 -/
theorem bit_any (b : Bool) (w : World) : Calls Try.prog 73 #[.bool b] w fun e w' => e = .returned (.int .i64 (if b = true then 1 else 0)) ∧ w' = w := by
  cases b
  · go_enter Try.func73, Try.ntmps73
    go_wp2
    go_ret
    exact ⟨rfl, rfl⟩
  · go_enter Try.func73, Try.ntmps73
    go_wp2
    go_ret
    exact ⟨rfl, rfl⟩
open Go.Proofs.Ytdfcljfajiihdaa.T
/-- the filler in memory: its own cells, its columns -/
structure Fil (w : World) (F G : Nat) (H most : Int) (f : List Int) (vS each : Value) : Prop where
  own : w.heap[F]? = some (.cells #[.int .i64 f.length, .int .i64 H, .slice (some ⟨G, 0, none⟩) f.length f.length, vS, .int .i64 most, each] 101 (0, 0))
  cols : w.heap[G]? = some (.cells (f.map (Value.int .i64)).toArray 3 (0, 0))
theorem Fil.col {w : World} {F G : Nat} {H most : Int} {f : List Int} {vS each : Value} (h : Fil w F G H most f vS each) (i : Nat) (hi : i < f.length) : w.cell? ⟨G, i, none⟩ = some (.int .i64 (ht f i)) := by
  rw [blk_cell h.cols i]
  simp [ht, hi]
theorem Fil.below {w w' : World} {F G : Nat} {H most : Int} {f : List Int} {vS each : Value} (h : Fil w F G H most f vS each) (hb : Below w.heap.size w w') : Fil w' F G H most f vS each :=
  ⟨blk_below h.own hb, blk_below h.cols hb⟩
theorem deepAt_bd {h : Int} {f : List Int} {x : Nat} (h0 : 0 ≤ h) (hx : x < f.length) (hf : ∀ c, c < f.length → 0 ≤ ht f c ∧ ht f c ≤ h) : 0 ≤ deepAt h f x ∧ deepAt h f x ≤ h := by
  have := hf x hx
  unfold deepAt
  simp only
  split <;> split <;> omega
theorem extra_bd {h : Int} {f : List Int} {x : Nat} (hx : x < f.length) (hf : ∀ c, c < f.length → 0 ≤ ht f c ∧ ht f c ≤ h) (hh : h ≤ 1000) : 0 ≤ extra h f x ∧ extra h f x ≤ 1000 := by
  have h0 := hf x hx
  have hd := deepAt_bd (by omega) hx hf
  have hr := runAt_pos f x hx
  unfold extra
  have : (deepAt h f x + (runAt f x : Int) - 1) / (runAt f x : Int) ≤ 1000 := Int.ediv_le_of_le_mul (by omega) (by
    have : (1000 : Int) * 1 ≤ 1000 * (runAt f x : Int) := by omega
    have h2 : ((runAt f x : Int) - 1) * 999 ≥ 0 := Int.mul_nonneg (by omega) (by omega)
    omega)
  omega
theorem extra_form {H : Int} {f : List Int} {x r : Nat} {dp : Int} (hr : runAt f x = r) (hd : deepAt H f x = dp) : extra H f x = max 1 ((dp + (r : Int) - 1) / (r : Int)) - 1 := by unfold extra; rw [hr, hd]
theorem pop_len (y : Int) : ∀ st : List Int, (pop y st).length ≤ st.length
  | [] => Nat.le_refl _
  | z :: st => by
    simp only [pop]
    split
    · exact Nat.le_trans (pop_len y st) (by simp)
    · exact Nat.le_refl _
def pushB (y : Int) : List Int → Bool
  | [] => true
  | z :: _ => decide (y < z)
set_option maxHeartbeats 4000000 in
set_option maxRecDepth 100000 in
theorem filler_least (w : World) (F G : Nat) (H most : Int) (f : List Int) (vS each : Value) (hF : Fil w F G H most f vS each) (hn : f.length ≤ 1000) (hH : H ≤ 1000) (hf : ∀ c, c < f.length → 0 ≤ ht f c ∧ ht f c ≤ H) :
    Calls Try.prog 100 #[.pointer (some ⟨F, 0, none⟩)] w fun e w' => e = .returned (.int .i64 (least H f)) ∧ Below w.heap.size w w' := by
  have HF := Aside0.mk hF
  have Hf := Aside0.mk hf
  have HL : Aside0 (leastL H f (f.length + 1) 0 0 [] = least H f) := ⟨rfl⟩
  clear hF hf
  go_enter Try.func100, Try.ntmps100
  go_wp2
  go_loopg [3, 4, 5] f.length (fun kq v3 v4 v5 wc => ∃ (x : Nat) (many : Int) (st : List Int), x ≤ f.length ∧ f.length - x ≤ kq ∧ v3 = .int .i64 many ∧ v5 = .int .i64 x ∧ 0 ≤ many ∧ many ≤ 2001 * x ∧ Aside0 (∃ m, f.length - x < m ∧ leastL H f m x many st = least H f) ∧ Aside0 (st.length ≤ x) ∧ Aside0 (Kd.R (Kd.int .i64) 3 wc w.heap.size (fun _ => True) v4 st.reverse) ∧ Aside0 (Below w.heap.size w wc))
  case atStart => exact ⟨0, 0, [], by omega, by omega, rfl, rfl, by omega, by omega, ⟨⟨f.length + 1, by omega, HL.out⟩⟩, ⟨by simp⟩, ⟨⟨fun _ _ => trivial, [], World.ownsRow_lit (base := w.heap.size) (e := 3) (size := 1) w #[] 0 (Nat.le_refl _) (by simp [maxLen]) (by simp), Reps.none _ _⟩⟩, ⟨(Below.refl _ _).alloc (Nat.le_refl _) _⟩⟩
  case round =>
    clear HL
    obtain ⟨x, many, st, hx, hkq, rfl, rfl, hm0, hm1, HM, HST, HR, HB⟩ := hrel
    have HFr := Aside0.mk (HF.out.below HB.out)
    have c0 := blk_cell HFr.out.own 0
    have c1 := blk_cell HFr.out.own 1
    have c2 := blk_cell HFr.out.own 2
    simp only [List.getElem?_toArray, List.getElem?_cons_zero, List.getElem?_cons_succ] at c0 c1 c2
    by_cases hlt : x < f.length
    · have hlz : decide (x < f.length) = true := decide_eq_true hlt
      have hcx := HFr.out.col x hlt
      have hrp := runAt_pos f x hlt
      have hrl := runAt_le f x (by omega)
      have hrun : ∃ r, runAt f x = r := ⟨_, rfl⟩
      obtain ⟨r, hr⟩ := hrun
      have HRN := Aside0.mk hr
      rw [hr] at hrp hrl
      clear hr
      obtain ⟨y, hy⟩ : ∃ y, ht f x = y := ⟨_, rfl⟩
      have HY := Aside0.mk hy
      rw [hy] at hcx
      have hyb := Hf.out x hlt
      rw [hy] at hyb
      clear hy
      obtain ⟨wo, rfl⟩ : ∃ wo : World, wo = wr := ⟨_, rfl⟩
      go_upto_block 2 with (fail)
      go_cut [6] (fun v6 wc => v6 = .int .i64 ((x + r : Nat) : Int) ∧ ∃ nd, wc = wo.drewN nd)
      case first => as_aux_lemma =>
        go_wp2_with fail
        go_loopg [6] f.length (fun kq v6 wc => ∃ (e : Nat), x ≤ e ∧ e ≤ x + r ∧ f.length - e ≤ kq ∧ v6 = .int .i64 e ∧ ∃ nd, wc = wo.drewN nd)
        case atStart => exact ⟨x, by omega, by omega, by omega, rfl, 0, rfl⟩
        case round =>
          obtain ⟨e, he0, he1, hek, rfl, nd, rfl⟩ := hrel
          by_cases hee : e < f.length
          · have hez : decide (e < f.length) = true := decide_eq_true hee
            have hce : wo.cell? ⟨G, e, none⟩ = some (.int .i64 (ht f e)) := HFr.out.col e hee
            by_cases he2 : e < x + r
            · have h1 : ht f e = y := by
                have := runAt_eq f x (e - x) (by rw [HRN.out]; omega)
                rw [show x + (e - x) = e by omega, HY.out] at this
                exact this
              rw [h1] at hce
              clear h1
              go_wp2_with fail
              go_quiet (fail)
              go_wp2
              go_roundg (f.length - (e + 1))
              case measure => omega
              case rel => exact ⟨e + 1, by omega, by omega, by omega, by go_num, _, by first | rfl | exact World.drewN_drewN _ _ _⟩
            · have h1 : (ht f e == y) = false := by
                have := runAt_end f x (by rw [HRN.out]; omega)
                rw [HRN.out, show x + r = e by omega, HY.out] at this
                simpa using this
              generalize ht f e = ye at hce h1
              go_wp2_with fail
              go_quiet (fail)
              go_wp2
              go_meet
              case rel => exact ⟨by rw [show e = x + r by omega], _, World.drewN_drewN _ _ _⟩
          · have hez : decide (e < f.length) = false := decide_eq_false hee
            go_wp2_with fail
            go_quiet (fail)
            go_wp2
            go_meet
            case rel => exact ⟨by rw [show e = x + r by omega], _, World.drewN_drewN _ _ _⟩
      case rest =>
        obtain ⟨rfl, nd, rfl⟩ := hcut
        go_wp2_with fail
        go_quiet (fail)
        go_upto_if 54 with (fail)
        go_cut [7] (fun v7 wc => v7 = .int .i64 (if 0 < x then min (H - y) (max 0 (ht f (x - 1) - y)) else H - y) ∧ ∃ nd, wc = wo.drewN nd)
        case first => as_aux_lemma =>
          by_cases c1 : 0 < x
          · have c1z : decide (0 < x) = true := decide_eq_true c1
            have hcp : wo.cell? ⟨G, x - 1, none⟩ = some (.int .i64 (ht f (x - 1))) := HFr.out.col (x - 1) (by omega)
            have hpb := Hf.out (x - 1) (by omega)
            have HX := Aside0.mk c1
            obtain ⟨yp, hyp⟩ : ∃ yp, ht f (x - 1) = yp := ⟨_, rfl⟩
            have HYP := Aside0.mk hyp
            rw [hyp] at hcp hpb
            clear hyp
            go_wp2_with fail
            go_quiet (fail)
            go_wp2_with fail
            all_goals
              go_meet
              case rel => exact ⟨congrArg (Value.int .i64) (by rw [if_pos HX.out, HYP.out]; omega), _, by first | rfl | exact World.drewN_drewN _ _ _⟩
          · have c1z : decide (0 < x) = false := decide_eq_false c1
            have HX := Aside0.mk c1
            go_wp2_with fail
            go_meet
            case rel => exact ⟨congrArg (Value.int .i64) (by rw [if_neg HX.out]), _, by first | rfl | exact World.drewN_drewN _ _ _⟩
        case rest =>
          obtain ⟨rfl, nd, rfl⟩ := hcut
          obtain ⟨d1, hd1⟩ : ∃ d1, (if 0 < x then min (H - y) (max 0 (ht f (x - 1) - y)) else H - y) = d1 := ⟨_, rfl⟩
          have HD1 := Aside0.mk hd1
          have hd1b : 0 ≤ d1 ∧ d1 ≤ H := by rw [← hd1]; split <;> omega
          rw [hd1]
          clear hd1
          go_upto_if 79 with (fail)
          go_cut [7] (fun v7 wc => v7 = .int .i64 (deepAt H f x) ∧ ∃ nd, wc = wo.drewN nd)
          case first => as_aux_lemma =>
            by_cases c1 : x + r < f.length
            · have c1z : decide (x + r < f.length) = true := decide_eq_true c1
              have c1y : (x : Int) + (r : Int) < (f.length : Int) := by omega
              have hcp : wo.cell? ⟨G, x + r, none⟩ = some (.int .i64 (ht f (x + r))) := HFr.out.col (x + r) c1
              have hpb := Hf.out (x + r) c1
              have HX := Aside0.mk c1
              obtain ⟨yp, hyp⟩ : ∃ yp, ht f (x + r) = yp := ⟨_, rfl⟩
              have HYP := Aside0.mk hyp
              rw [hyp] at hcp hpb
              clear hyp
              go_wp2_with fail
              go_quiet (fail)
              go_wp2_with fail
              all_goals
                go_meet
                case rel => exact ⟨congrArg (Value.int .i64) (by unfold deepAt; simp only; rw [HRN.out, if_pos HX.out, HY.out, HYP.out, HD1.out]; omega), _, by first | rfl | exact World.drewN_drewN _ _ _⟩
            · have c1z : decide (x + r < f.length) = false := decide_eq_false c1
              have c1y : ¬ (x : Int) + (r : Int) < (f.length : Int) := by omega
              have HX := Aside0.mk c1
              go_wp2_with fail
              go_meet
              case rel => exact ⟨congrArg (Value.int .i64) (by unfold deepAt; simp only; rw [HRN.out, if_neg HX.out, HY.out, HD1.out]), _, by first | rfl | exact World.drewN_drewN _ _ _⟩
          case rest =>
            obtain ⟨rfl, nd, rfl⟩ := hcut
            obtain ⟨dp, hdp⟩ : ∃ dp, deepAt H f x = dp := ⟨_, rfl⟩
            have HDP := Aside0.mk hdp
            have hdb : 0 ≤ dp ∧ dp ≤ H := by rw [← hdp]; exact deepAt_bd (by omega) hlt Hf.out
            rw [hdp]
            clear hdp HD1 hd1b
            have heb := extra_bd hlt Hf.out hH
            go_upto_region 12 with (fail)
            go_cut [3] (fun v3 wc => v3 = .int .i64 (many + extra H f x) ∧ wc = wo.drewN nd)
            case first => as_aux_lemma =>
              have HEB := Aside0.mk heb
              clear heb
              go_wp2_with fail
              all_goals
                go_meet
                case rel =>
                  rename_i h
                  refine ⟨congrArg (Value.int .i64) ?_, rfl⟩
                  have hf := extra_form HRN.out HDP.out
                  have hb := HEB.out
                  rw [show dp + ((x : Int) + (r : Int)) - (x : Int) - 1 = dp + r - 1 by omega, show (x : Int) + (r : Int) - (x : Int) = r by omega] at h
                  try rw [show dp + ((x : Int) + (r : Int)) - (x : Int) - 1 = dp + r - 1 by omega, show (x : Int) + (r : Int) - (x : Int) = r by omega]
                  rw [hf] at hb ⊢
                  generalize (dp + (r : Int) - 1) / (r : Int) = q at h hb ⊢
                  unfold wrap64
                  omega
            case rest =>
              obtain ⟨rfl, rfl⟩ := hcut
              go_upto_block 4 with (fail)
              go_cut [4] (fun v4 wc => Aside0 (Kd.R (Kd.int .i64) 3 wo w.heap.size (fun _ => True) v4 (pop y st).reverse) ∧ ∃ nd, wc = wo.drewN nd)
              case first => as_aux_lemma =>
                go_wp2_with fail
                go_loopg [4] st.length (fun kq v4 wc => ∃ st1 : List Int, st1.length ≤ kq ∧ Aside0 (pop y st1 = pop y st) ∧ Aside0 (st1.length ≤ x) ∧ Aside0 (Kd.R (Kd.int .i64) 3 wo w.heap.size (fun _ => True) v4 st1.reverse) ∧ ∃ nd, wc = wo.drewN nd)
                case atStart => exact ⟨st, by omega, ⟨rfl⟩, HST, HR, _, rfl⟩
                case round =>
                  obtain ⟨st1, hsk, HP, HS1, HR1, nd1, rfl⟩ := hrel
                  cases st1 with
                  | nil =>
                    obtain ⟨A, c, e⟩ := Kd.R_slice HR1.out
                    simp only [List.reverse_nil, List.length_nil] at e
                    subst e
                    go_wp2_with fail
                    go_quiet (fail)
                    go_wp2_with fail
                    go_meet
                    case rel => exact ⟨by rw [← HP.out]; exact HR1, _, by first | rfl | exact World.drewN_drewN _ _ _⟩
                  | cons z s1 =>
                    have hl1 : (z :: s1).reverse.length = s1.length + 1 := by simp
                    obtain ⟨A, c, e⟩ := Kd.R_slice HR1.out
                    rw [hl1] at e
                    subst e
                    have hl63 : s1.length + 1 ≤ 1001 := by have := HS1.out; simp at this; omega
                    obtain ⟨ad, e1, hz⟩ := Kd.at_int (Kd.R_reads' HR1.out).2.2 ((s1.length : Nat) : Int) (by omega) (by rw [hl1]; omega)
                    subst e1
                    have hz2 : rd (z :: s1).reverse ((s1.length : Nat) : Int) = z := by simp [rd]
                    rw [hz2, Int.toNat_natCast] at hz
                    have hb1 := eq_true (show (0 : Int) ≤ (s1.length : Int) by omega)
                    have hb2 := eq_true (show (s1.length : Int) < ((s1.length + 1 : Nat) : Int) by omega)
                    have hb3 := eq_true (show (s1.length : Int) < (s1.length : Int) + 1 by omega)
                    have hzo : wo.cell? (ad.add s1.length) = some (.int .i64 z) := hz
                    have hcc : s1.length + 1 ≤ c := by have := (Kd.R_reads' HR1.out).2.1; omega
                    have hcd := eq_true (show s1.length ≤ c by omega)
                    clear hz2 hl1 hz
                    have hw1 : IntKind.i64.wrap (((s1.length + 1 : Nat) : Int) - 1) = (s1.length : Int) := (i64_w _).trans (by unfold wrap64; omega)
                    have hw2 : IntKind.i64.wrap ((s1.length : Int) + 1 - 1) = (s1.length : Int) := (i64_w _).trans (by unfold wrap64; omega)
                    have hw3 : IntKind.i64.wrap (s1.length : Int) = (s1.length : Int) := (i64_w _).trans (by unfold wrap64; omega)
                    by_cases hzy : z < y
                    · go_wp2_with fail
                      go_quiet (fail)
                      go_wp2_with fail
                      clear hw1 hw2 hw3
                      go_roundg s1.length
                      case measure =>
                        clear hb1 hb2 hb3 hcd hcc
                        simp only [List.length_cons] at hsk
                        omega
                      case rel =>
                        refine ⟨s1, Nat.le_refl _, ⟨by rw [← HP.out]; simp only [pop, if_pos hzy]⟩, ⟨Nat.le_trans (by simp) HS1.out⟩, ⟨?_⟩, _, by first | rfl | exact World.drewN_drewN _ _ _⟩
                        have := Kd.R_take HR1.out (m := s1.length) (by simp)
                        rw [show (z :: s1).reverse.take s1.length = s1.reverse by simp] at this
                        exact this
                    · go_wp2_with fail
                      go_quiet (fail)
                      go_wp2_with fail
                      go_meet
                      case rel => exact ⟨by rw [← HP.out, show pop y (z :: s1) = z :: s1 by simp only [pop, if_neg (Int.not_lt.2 hzy)]]; exact HR1, _, by first | rfl | exact World.drewN_drewN _ _ _⟩
              case rest =>
                obtain ⟨HR4, nd, rfl⟩ := hcut
                obtain ⟨p, hp⟩ : ∃ p, pop y st = p := ⟨_, rfl⟩
                have HPP := Aside0.mk hp
                rw [hp] at HR4
                have HPL : Aside0 (p.length ≤ x) := ⟨by rw [← hp]; exact Nat.le_trans (pop_len _ _) HST.out⟩
                clear hp HR HST
                go_upto_region 15 with (fail)
                go_cut [154] (fun v154 wc => v154 = .bool (pushB y p) ∧ ∃ nd, wc = wo.drewN nd)
                case first => as_aux_lemma =>
                  cases p with
                  | nil =>
                    obtain ⟨A, c, e⟩ := Kd.R_slice HR4.out
                    simp only [List.reverse_nil, List.length_nil] at e
                    subst e
                    go_quiet (fail)
                    go_wp2_with fail
                    go_meet
                    case rel => exact ⟨rfl, _, by first | rfl | exact World.drewN_drewN _ _ _⟩
                  | cons z s1 =>
                    have hyz : y ≤ z := pop_head HPP.out
                    have hl1 : (z :: s1).reverse.length = s1.length + 1 := by simp
                    obtain ⟨A, c, e⟩ := Kd.R_slice HR4.out
                    rw [hl1] at e
                    subst e
                    have hl63 : s1.length + 1 ≤ 1001 := by have := HPL.out; simp at this; omega
                    obtain ⟨ad, e1, hz⟩ := Kd.at_int (Kd.R_reads' HR4.out).2.2 ((s1.length : Nat) : Int) (by omega) (by rw [hl1]; omega)
                    subst e1
                    have hz2 : rd (z :: s1).reverse ((s1.length : Nat) : Int) = z := by simp [rd]
                    rw [hz2, Int.toNat_natCast] at hz
                    have hb1 := eq_true (show (0 : Int) ≤ (s1.length : Int) by omega)
                    have hb2 := eq_true (show (s1.length : Int) < ((s1.length + 1 : Nat) : Int) by omega)
                    have hb3 := eq_true (show (s1.length : Int) < (s1.length : Int) + 1 by omega)
                    clear hz2 hl1
                    have hne : decide (s1.length + 1 = 0) = false := by simp
                    have hw1 : IntKind.i64.wrap (((s1.length + 1 : Nat) : Int) - 1) = (s1.length : Int) := (i64_w _).trans (by unfold wrap64; omega)
                    have hw2 : IntKind.i64.wrap ((s1.length : Int) + 1 - 1) = (s1.length : Int) := (i64_w _).trans (by unfold wrap64; omega)
                    have hw3 : IntKind.i64.wrap (s1.length : Int) = (s1.length : Int) := (i64_w _).trans (by unfold wrap64; omega)
                    go_quiet (fail)
                    go_wp2_with fail
                    go_meet
                    case rel => exact ⟨rfl, _, by first | rfl | exact World.drewN_drewN _ _ _⟩
                case rest =>
                  obtain ⟨rfl, nd2, rfl⟩ := hcut
                  have HMM : Aside0 (∃ m, f.length - (x + r) < m ∧ leastL H f m (x + r) (if pushB y p = true then many + extra H f x + (if y < H then 1 else 0) else many + extra H f x) (if pushB y p = true then y :: p else p) = least H f) := ⟨by
                    obtain ⟨m, hm, h⟩ := HM.out
                    obtain ⟨m, rfl⟩ : ∃ q, m = q + 1 := ⟨m - 1, by omega⟩
                    refine ⟨m, by omega, ?_⟩
                    rw [← h]
                    simp only [leastL, if_pos hlt, HY.out, HRN.out, HPP.out]
                    cases p with
                    | nil => rfl
                    | cons z s1 =>
                      by_cases c : y < z
                      · simp only [pushB, decide_eq_true c, if_pos c, if_true]
                      · have cc : decide (y < z) = false := decide_eq_false c
                        simp only [pushB, cc, if_neg c]
                        rfl⟩
                  clear HM
                  generalize pushB y p = b at HMM
                  cases b with
                  | true =>
                    rw [if_pos rfl, if_pos rfl] at HMM
                    obtain ⟨A, c, e⟩ := Kd.R_slice HR4.out
                    subst e
                    go_upto_region 17 with (first | ((with_reducible refine gate_builtin (b := .append) (xs := #[.tmp 155, .tmp 163]) rfl ?_); at_builtin; refine Kd.R_append (Kd.int .i64) (w0 := w) w.heap.size rfl (.tmp 155) (.tmp 163) 22 3 (.int .i64 0) 8 rfl Try.underlying22 info3 rfl (by decide) (by omega) (.slice A p.reverse.length c) p.reverse y [.int .i64 y] (fun _ => True) (fun _ => False) rfl rfl ?aP (fun _ hk => hk.elim) (fun _ _ => trivial) ?aO ?aB ?aS ?aL ?_; (case aP => exact rfl); (case aB => exact (by repeat (first | (with_reducible first | exact HB.out | apply below_alloc | apply pw_below_drewN | apply below_drew1) | exact HB.out))); (case aO => exact (by (with_reducible repeat (first | apply Kd.R_alloc | apply Kd.R_drewN | apply Kd.R_drew)); exact HR4.out)); (case aS => exact HB.out.size); (case aL => have := HPL.out; simp; omega); intro v71 w12 ho hb hg hat; have n0_ := Aside0.mk hb; have n1_ := Aside0.mk ho; clear ho hb hg hat HR4 c0 c1 c2 hcx))
                    have HF2 := Aside0.mk (HF.out.below n0_.out)
                    have d1 := blk_cell HF2.out.own 1
                    have d2 := blk_cell HF2.out.own 2
                    simp only [List.getElem?_toArray, List.getElem?_cons_zero, List.getElem?_cons_succ] at d1 d2
                    have hcx := HF2.out.col x hlt
                    rw [HY.out] at hcx
                    have HBT := Aside0.mk (fun b W => bit_any b W)
                    by_cases c9 : y < H
                    · have c9z : decide (y < H) = true := decide_eq_true c9
                      rw [if_pos c9] at HMM
                      go_quiet ((go_at_call 73; exact Calls.quiet_of_same (HBT.out _ _)))
                      go_wp2_with fail
                      go_roundg (f.length - (x + r))
                      case measure => omega
                      case rel =>
                        exact ⟨x + r, many + extra H f x + 1, y :: p, by omega, by omega, by first | rfl | go_num, by first | rfl | go_num, by omega, by omega, HMM, ⟨by have := HPL.out; simp only [List.length_cons]; omega⟩, ⟨by (with_reducible repeat (first | apply Kd.R_alloc | apply Kd.R_drewN | apply Kd.R_drew)); rw [List.reverse_cons]; exact n1_.out⟩, ⟨by repeat (first | (with_reducible first | exact n0_.out | apply below_alloc | apply pw_below_drewN | apply below_drew1) | exact n0_.out)⟩⟩
                    · have c9z : decide (y < H) = false := decide_eq_false c9
                      rw [if_neg c9] at HMM
                      go_quiet ((go_at_call 73; exact Calls.quiet_of_same (HBT.out _ _)))
                      go_wp2_with fail
                      go_roundg (f.length - (x + r))
                      case measure => omega
                      case rel =>
                        exact ⟨x + r, many + extra H f x + 0, y :: p, by omega, by omega, by first | rfl | go_num, by first | rfl | go_num, by omega, by omega, HMM, ⟨by have := HPL.out; simp only [List.length_cons]; omega⟩, ⟨by (with_reducible repeat (first | apply Kd.R_alloc | apply Kd.R_drewN | apply Kd.R_drew)); rw [List.reverse_cons]; exact n1_.out⟩, ⟨by repeat (first | (with_reducible first | exact n0_.out | apply below_alloc | apply pw_below_drewN | apply below_drew1) | exact n0_.out)⟩⟩
                  | false =>
                    rw [if_neg (by decide), if_neg (by decide)] at HMM
                    go_wp2_with fail
                    go_roundg (f.length - (x + r))
                    case measure => omega
                    case rel =>
                      exact ⟨x + r, many + extra H f x, p, by omega, by omega, rfl, by go_num, by omega, by omega, HMM, ⟨Nat.le_trans HPL.out (by omega)⟩, ⟨Kd.R_drewN HR4.out _⟩, ⟨pw_below_drewN HB.out _⟩⟩
    · have hlz : decide (x < f.length) = false := decide_eq_false hlt
      have hL : many = least H f := by
        obtain ⟨m, hm, h⟩ := HM.out
        obtain ⟨m, rfl⟩ : ∃ q, m = q + 1 := ⟨m - 1, by omega⟩
        simp only [leastL] at h
        rw [if_neg hlt] at h
        exact h
      have HLL := Aside0.mk hL
      clear hL
      go_wp2
      go_ret
      exact ⟨by rw [HLL.out]; rfl, HB.out⟩

end Go.Proofs.Ytdfcljfajiihdaa.P

namespace Go.Proofs.Ytdfcljfajiihdaa.P
open Go.RowKit Go.Proofs.YtdfcljfajiihdaaW.PrintWords Go.Proofs.YtdfcljfajiihdaaW.PrintLast Go.Proofs.YtdfcljfajiihdaaW.PrintMore
attribute [local go_sem] max2_int min2_int max_two min_two max_three min_three max_four min_four
set_option linter.unusedVariables false
set_option linter.unusedSimpArgs false

/-! ### slices_Index_int_int: function 101 -/
def slices_Index_int_int.l0 : Nat → List Int → Int → Int → Int → Option (Int)
  | 0, _, _, _, _ => none
  | k + 1, x0, x1, x7, x8 => if x8 < x7 then (if 0 ≤ x8 then (if x8 < (x0.length : Int) then (if x1 = (rd x0 x8) then (some x8) else (slices_Index_int_int.l0 k x0 x1 x7 (wrap64 (x8 + 1)))) else (none)) else (none)) else (some (-1))
def slices_Index_int_int.f (k : Nat) (l0 : List Int) (a1 : Int) : Option (Int) := slices_Index_int_int.l0 k l0 a1 (l0.length : Int) 0
set_option maxHeartbeats 8000000 in
set_option maxRecDepth 100000 in
theorem slices_Index_int_int.calls (k : Nat) (A0 : Option Addr) (c0 : Nat) (l0 : List Int) (a1 : Int) (r : Int) (w : World) (hr0 : Kd.C (Kd.int .i64) w A0 l0.length l0) (hc0 : l0.length ≤ c0) (h : slices_Index_int_int.f k l0 a1 = some r) :
    Calls Try.prog 101 #[.slice A0 l0.length c0, .int .i64 a1] w fun e w' => e = .returned (.int .i64 r) ∧ Drawn0 w w' := by
  have HR0 := Aside0.mk hr0
  have HC0 := Aside0.mk hc0
  clear hr0 hc0
  have H : (slices_Index_int_int.l0 k l0 a1 (l0.length : Int) 0) = some r := h
  clear h
  have H' := Aside0.mk H
  clear H
  go_enter Try.func101, Try.ntmps101
  go_wp2
  go_loopg [8] k (fun kq v8 w' => ∃ (x8_1 : Int), v8 = .int .i64 x8_1 ∧ Aside0 (slices_Index_int_int.l0 kq l0 a1 (l0.length : Int) x8_1 = some r) ∧ Aside0 (kq ≤ k) ∧ Drawn0 w w')
  case atStart => exact ⟨(0), (by first | rfl | (simp; done) | (simp [*]; done)), H', ⟨Nat.le_refl _⟩, by repeat (first | exact Drawn0.refl _ | apply Drawn0.step)⟩
  case round =>
    clear H'
    try clear c1
    try clear p2
    obtain ⟨x8_1, rfl, HA, HK1, ⟨m1, rfl⟩⟩ := hrel
    cases gk with
    | zero => exact absurd HA.out (by simp [slices_Index_int_int.l0])
    | succ k1 =>
      have H := HA.out
      clear HA
      simp only [slices_Index_int_int.l0] at H
      by_cases c3 : x8_1 < (l0.length : Int)
      · rw [if_pos c3] at H
        have c3b0 : decide (x8_1 < (l0.length : Int)) = true := decide_eq_true c3
        clear c3
        by_cases c4 : 0 ≤ x8_1
        · rw [if_pos c4] at H
          have c4b0 : decide (0 ≤ x8_1) = true := decide_eq_true c4
          clear c4
          by_cases c5 : x8_1 < (l0.length : Int)
          · rw [if_pos c5] at H
            have c5b0 : decide (x8_1 < (l0.length : Int)) = true := decide_eq_true c5
            clear c5
            by_cases c6 : a1 = (rd l0 x8_1)
            · rw [if_pos c6] at H
              have c6b0 : (a1 == (rd l0 x8_1)) = true := beq_iff_eq.mpr c6
              have c6b1 : (a1 != (rd l0 x8_1)) = false := bne_eq_false_iff_eq.mpr c6
              clear c6
              obtain rfl := Option.some.inj H
              have p101 : 0 ≤ (x8_1 : Int) := of_decide_eq_true (by first | (with_reducible assumption) | assumption)
              have q101 : x8_1 < (l0.length : Int) := of_decide_eq_true (by first | (with_reducible assumption) | assumption)
              obtain ⟨ad101, e101, hx101_0⟩ := Kd.at_int HR0.out x8_1 p101 q101
              cases e101
              replace p101 := eq_true p101
              replace q101 := eq_true q101
              go_wp2
              go_ret
              exact ⟨by first | rfl | (simp; done) | (simp [*]; done), by repeat (first | exact Drawn0.refl _ | apply Drawn0.step)⟩
            · rw [if_neg c6] at H
              have c6b0 : (a1 == (rd l0 x8_1)) = false := beq_eq_false_iff_ne.mpr c6
              have c6b1 : (a1 != (rd l0 x8_1)) = true := bne_iff_ne.mpr c6
              have H' := Aside0.mk H
              clear H
              have p101 : 0 ≤ (x8_1 : Int) := of_decide_eq_true (by first | (with_reducible assumption) | assumption)
              have q101 : x8_1 < (l0.length : Int) := of_decide_eq_true (by first | (with_reducible assumption) | assumption)
              obtain ⟨ad101, e101, hx101_0⟩ := Kd.at_int HR0.out x8_1 p101 q101
              cases e101
              replace p101 := eq_true p101
              replace q101 := eq_true q101
              go_wp2
              go_roundg k1
              case measure => have := HK1.out; omega
              case rel => exact ⟨(wrap64 (x8_1 + 1)), (by first | rfl | (simp; done) | (simp [*]; done)), H', ⟨by have := HK1.out; omega⟩, by repeat (first | exact Drawn0.refl _ | apply Drawn0.step)⟩
          · rw [if_neg c5] at H
            exact absurd H (by simp)
        · rw [if_neg c4] at H
          exact absurd H (by simp)
      · rw [if_neg c3] at H
        have c3b0 : decide (x8_1 < (l0.length : Int)) = false := decide_eq_false c3
        clear c3
        obtain rfl := Option.some.inj H
        go_wp2
        go_ret
        exact ⟨by first | rfl | (simp; done) | (simp [*]; done), by repeat (first | exact Drawn0.refl _ | apply Drawn0.step)⟩

end Go.Proofs.Ytdfcljfajiihdaa.P

namespace Go.Proofs.Ytdfcljfajiihdaa.T
set_option linter.unusedVariables false
section
variable {σ α : Type}
def RunQ (Q : σ → α → Prop) (step : σ → α → σ × Bool) : σ → List α → Prop
  | _, [] => True
  | s, t :: l => Q s t ∧ ((step s t).2 = true → RunQ Q step (step s t).1 l)
variable {Q : σ → α → Prop} {step : σ → α → σ × Bool}
theorem RunQ.left : ∀ {A B : List α} {s : σ}, RunQ Q step s (A ++ B) → RunQ Q step s A
  | [], _, _, _ => trivial
  | t :: A, B, s, h => ⟨h.1, fun e => RunQ.left (h.2 e)⟩
theorem RunQ.right : ∀ {A B : List α} {s s' : σ}, RunQ Q step s (A ++ B) → foldE step s A = (s', true) → RunQ Q step s' B
  | [], B, s, s', h, e => by
    simp only [foldE, Prod.mk.injEq, and_true] at e
    subst e; exact h
  | t :: A, B, s, s', h, e => by
    simp only [foldE] at e
    cases c : (step s t).2 with
    | true =>
      have e' : foldE step (step s t).1 A = (s', true) := by
        first
          | (rw [c] at e; simpa using e)
          | (split at e <;> simp_all)
      exact RunQ.right (h.2 c) e'
    | false =>
      exfalso
      first
        | (rw [c] at e; simp at e)
        | (split at e <;> simp_all)
end
end Go.Proofs.Ytdfcljfajiihdaa.T

namespace Go.Proofs.Ytdfcljfajiihdaa.P
open Go.RowKit Go.Proofs.YtdfcljfajiihdaaW.PrintWords Go.Proofs.YtdfcljfajiihdaaW.PrintLast Go.Proofs.YtdfcljfajiihdaaW.PrintMore
attribute [local go_sem] max2_int min2_int max_two min_two max_three min_three max_four min_four
set_option linter.unusedVariables false
set_option linter.unusedSimpArgs false

/-! ### impl_filler_fill: function 96 -/
open Go.Proofs.Ytdfcljfajiihdaa.T Go.Proofs.Ytdfcljfajiihdaa.Gr Go.Proofs.Ytdfcljfajiihdaa.Aid
/-- what lay below base stands, but for the blocks of X -/
structure Fr (base : Nat) (X : Nat → Prop) (w w' : World) : Prop where
  os : w'.os = w.os
  tape : w'.tape = w.tape
  output : w'.output = w.output
  size : w.heap.size ≤ w'.heap.size
  block : ∀ k, k < base → ¬ X k → w'.heap[k]? = w.heap[k]?
theorem Fr.refl (base : Nat) (X : Nat → Prop) (w : World) : Fr base X w w := ⟨rfl, rfl, rfl, Nat.le_refl _, fun _ _ _ => rfl⟩
theorem Fr.trans {b b' : Nat} {X X' : Nat → Prop} {w w1 w2 : World} (h : Fr b X w w1) (k : Fr b' X' w1 w2) (hb : b ≤ b') (hx : ∀ j, j < b → X' j → X j) : Fr b X w w2 :=
  ⟨k.os.trans h.os, k.tape.trans h.tape, k.output.trans h.output, Nat.le_trans h.size k.size, fun j hj hn => (k.block j (by omega) (fun hk => hn (hx j hj hk))).trans (h.block j hj hn)⟩
theorem Fr.of_below {b : Nat} {X : Nat → Prop} {w w' : World} (h : Below w.heap.size w w') (hb : b ≤ w.heap.size) : Fr b X w w' := ⟨h.os, h.tape, h.output, h.size, fun k hk _ => h.block k (by omega)⟩
theorem Fr.below {b : Nat} {X : Nat → Prop} {w w1 w2 : World} (h : Fr b X w w1) (k : Below w1.heap.size w1 w2) (hb : b ≤ w.heap.size) : Fr b X w w2 :=
  h.trans (Fr.of_below (X := X) k (Nat.le_trans hb h.size)) (Nat.le_refl _) (fun _ _ hx => hx)
theorem Fr.set_ {b : Nat} {X : Nat → Prop} {w w1 : World} (h : Fr b X w w1) {p : Addr} (hp : b ≤ p.block) (u : Value) : Fr b X w (w1.setCell p u) :=
  ⟨h.os, h.tape, h.output, by simpa [World.setCell] using h.size, fun k hk hn => (Below.heap_setCell w1 p u k (by omega)).trans (h.block k hk hn)⟩
/-- a function that is called with each list of squares: it takes s to what 'step' says, and writes X's blocks alone -/
structure Each {σ : Type} (g : Nat) (lb : Array Value) (Q : σ → List Sq → Prop) (step : σ → List Sq → σ × Bool) (I : σ → World → (Nat → Prop) → Prop) : Prop where
  bd : ∀ {s W X}, I s W X → ∀ k, X k → k < W.heap.size
  mv : ∀ {s W W' X}, I s W X → (∀ k, X k → W'.heap[k]? = W.heap[k]?) → I s W' X
  eg : ∀ args w, (callFunc g args).run Try.prog w = .ok (.enter g args) w
  call : ∀ s W X A c sq, I s W X → Kd.C k56 W A sq.length sq → sq.length ≤ c → Q s sq → Calls Try.prog g (#[.slice A sq.length c] ++ lb) W fun e W' =>
    e = .returned (.bool (step s sq).2) ∧ ∃ X', I (step s sq).1 W' X' ∧ (∀ k, X' k → X k ∨ W.heap.size ≤ k) ∧ Fr W.heap.size X W W'
/-- the filler, its columns, its squares, and the state of what is called -/
structure FS {σ : Type} (I : σ → World → (Nat → Prop) → Prop) (base F G : Nat) (H most : Int) (ev : Value) (f : List Int) (sq : List Sq) (vS : Value) (s : σ) (X : Nat → Prop) (w : World) : Prop where
  st : I s w X
  fil : Fil w F G H most f vS ev
  row : Kd.R k56 56 w base (fun k => ¬ X k) vS sq
  nF : ¬ X F
  nG : ¬ X G
  size : base ≤ w.heap.size
section
variable {σ : Type} {g : Nat} {lb : Array Value} {Q : σ → List Sq → Prop} {step : σ → List Sq → σ × Bool} {I : σ → World → (Nat → Prop) → Prop} {base F G : Nat} {H most : Int} {ev vS : Value} {f : List Int} {sq : List Sq} {s : σ} {X : Nat → Prop} {w w1 : World}
theorem FS.ne (h : FS I base F G H most ev f sq vS s X w) : F ≠ G := blk_ne h.fil.own h.fil.cols (by decide)
theorem FS.below (E : Each g lb Q step I) (h : FS I base F G H most ev f sq vS s X w) (hb : Below w.heap.size w w1) : FS I base F G H most ev f sq vS s X w1 :=
  ⟨E.mv h.st (fun k hk => hb.block k (E.bd h.st k hk)), h.fil.below hb, Kd.R_below h.row hb, h.nF, h.nG, Nat.le_trans h.size hb.size⟩
theorem FS.col (E : Each g lb Q step I) (h : FS I base F G H most ev f sq vS s X w) (i : Nat) (hi : i < f.length) (v : Int) : FS I base F G H most ev (f.set i v) sq vS s X (w.setCell ⟨G, i, none⟩ (.int .i64 v)) := by
  have hne := h.ne
  refine ⟨E.mv h.st (fun k hk => Below.heap_setCell w _ _ k (fun e => h.nG (by subst e; exact hk))), ⟨?_, ?_⟩, ?_, h.nF, h.nG, by simpa [World.setCell] using h.size⟩
  · rw [List.length_set]
    exact blk_far h.fil.own (p := ⟨G, i, none⟩) hne _
  · refine blk_put h.fil.cols i _ ?_
    simp [List.map_set]
  · exact Kd.R_mono (Kd.R_far (p := ⟨G, i, none⟩) (Kd.R_types h.row h.fil.cols (by decide)) (fun _ hk => hk.2) _) (fun _ hk => hk.1)
theorem FS.put3 (E : Each g lb Q step I) {sq' : List Sq} {v1 : Value} (hst : I s w1 X) (hfil : Fil w1 F G H most f vS ev) (hrow : Kd.R k56 56 w1 base (fun k => ¬ X k) v1 sq') (nF : ¬ X F) (nG : ¬ X G) (hz : base ≤ w1.heap.size) :
    FS I base F G H most ev f sq' v1 s X (w1.setCell ⟨F, 3, none⟩ v1) := by
  have hne : F ≠ G := blk_ne hfil.own hfil.cols (by decide)
  refine ⟨E.mv hst (fun k hk => Below.heap_setCell w1 _ _ k (fun e => nF (by subst e; exact hk))), ⟨?_, ?_⟩, ?_, nF, nG, by simpa [World.setCell] using hz⟩
  · exact blk_put hfil.own 3 _ rfl
  · exact blk_far hfil.cols (p := ⟨F, 3, none⟩) (Ne.symm hne) _
  · exact Kd.R_mono (Kd.R_far (p := ⟨F, 3, none⟩) (Kd.R_types hrow hfil.own (by decide)) (fun _ hk => hk.2) _) (fun _ hk => hk.1)
theorem FS.grown (E : Each g lb Q step I) (h : FS I base F G H most ev f sq vS s X w) (hg : w.grownBy w1 vS.ownBlock) : I s w1 X ∧ Fil w1 F G H most f vS ev ∧ Fr base X w w1 := by
  refine ⟨E.mv h.st (fun k hk => hg.block k (E.bd h.st k hk) (fun e => h.row.1 k e.symm hk)), ⟨blk_grown h.fil.own hg (Kd.R_ne h.row h.fil.own (by decide)), blk_grown h.fil.cols hg (Kd.R_ne h.row h.fil.cols (by decide))⟩, hg.os, hg.tape, hg.output, hg.size, fun k hk _ => hg.block k (Nat.lt_of_lt_of_le hk h.size) (fun e => ?_)⟩
  have := Kd.R_base h.row k e.symm
  omega
theorem FS.cut {q : Sq} {A : Option Addr} {n c : Nat} (E : Each g lb Q step I) (h : FS I base F G H most ev f (sq ++ [q]) (.slice A n c) s X w) : FS I base F G H most ev f sq (.slice A sq.length c) s X (w.setCell ⟨F, 3, none⟩ (.slice A sq.length c)) := by
  refine FS.put3 E h.st h.fil ?_ h.nF h.nG h.size
  have := Kd.R_take h.row (m := sq.length) (by simp)
  rwa [List.take_left] at this
end
section
variable {σ : Type} {g : Nat} {lb : Array Value} {Q : σ → List Sq → Prop} {step : σ → List Sq → σ × Bool} {I : σ → World → (Nat → Prop) → Prop} {base F G : Nat} {H most : Int} {ev vS : Value} {f : List Int} {sq : List Sq} {s s' : σ} {X X' : Nat → Prop} {w w1 : World}
theorem FS.called (h : FS I base F G H most ev f sq vS s X w) (hI : I s' w1 X') (hsub : ∀ k, X' k → X k ∨ w.heap.size ≤ k) (hfr : Fr w.heap.size X w w1) : FS I base F G H most ev f sq vS s' X' w1 := by
  have hF := blk_lt h.fil.own
  have hG := blk_lt h.fil.cols
  refine ⟨hI, ⟨(hfr.block F hF h.nF).trans h.fil.own, (hfr.block G hG h.nG).trans h.fil.cols⟩, ?_, fun hk => ?_, fun hk => ?_, Nat.le_trans h.size hfr.size⟩
  · refine Kd.R_mono (Kd.R_step (Kd.R_bound h.row) (fun k hk hlt => hfr.block k hlt hk.1)) (fun k hk hx => ?_)
    rcases hsub k hx with h1 | h1
    · exact hk.1 h1
    · have := hk.2.2.1; omega
  · rcases hsub F hk with h1 | h1
    · exact h.nF h1
    · omega
  · rcases hsub G hk with h1 | h1
    · exact h.nG h1
    · omega
end
theorem foldE_one {σ α : Type} (step : σ → α → σ × Bool) (s : σ) (t : α) : foldE step s [t] = step s t := by
  simp only [foldE]
  cases c : (step s t).2
  · exact Prod.ext rfl c.symm
  · exact Prod.ext rfl c.symm
theorem leastL_bd {h : Int} {f : List Int} (hh : h ≤ 1000) (hf : ∀ c, c < f.length → 0 ≤ ht f c ∧ ht f c ≤ h) : ∀ (n x : Nat) (many : Int) (st : List Int), x ≤ f.length → leastL h f n x many st ≤ many + 1001 * ((f.length : Int) - x)
  | 0, x, many, st, hx => by simp only [leastL]; omega
  | n + 1, x, many, st, hx => by
    simp only [leastL]
    by_cases c : x < f.length
    · rw [if_pos c]
      have he := extra_bd c hf hh
      have hr := runAt_pos f x c
      have hl := runAt_le f x hx
      cases hp : pop (ht f x) st with
      | nil =>
        have := leastL_bd hh hf n (x + runAt f x) (many + extra h f x + if ht f x < h then 1 else 0) [ht f x] hl
        have h1 : (if ht f x < h then (1 : Int) else 0) ≤ 1 := by split <;> omega
        simp only [hp]
        omega
      | cons z r =>
        simp only [hp]
        by_cases c2 : ht f x < z
        · rw [if_pos c2]
          have := leastL_bd hh hf n (x + runAt f x) (many + extra h f x + if ht f x < h then 1 else 0) (ht f x :: z :: r) hl
          have h1 : (if ht f x < h then (1 : Int) else 0) ≤ 1 := by split <;> omega
          omega
        · rw [if_neg c2]
          have := leastL_bd hh hf n (x + runAt f x) (many + extra h f x) (z :: r) hl
          omega
    · rw [if_neg c]; omega
theorem least_bd {h : Int} {f : List Int} (hh : h ≤ 1000) (hn : f.length ≤ 1000) (hf : ∀ c, c < f.length → 0 ≤ ht f c ∧ ht f c ≤ h) : 0 ≤ least h f ∧ least h f ≤ 1001000 := by
  have h1 := leastL_ge f h (f.length + 1) 0 0 []
  have h2 := leastL_bd hh hf (f.length + 1) 0 0 [] (by omega)
  unfold least
  omega
theorem index_l (f : List Int) (hn : f.length ≤ 1000) (x : Nat) (hx : x < f.length) (hb : ∀ c, c < x → ht f c ≠ ht f x) : ∀ (d i : Nat), i + d = x → Ev (fun k => slices_Index_int_int.l0 k f (ht f x) (f.length : Int) i) (x : Int)
  | 0, i, hd => by
    obtain rfl : i = x := by omega
    exact Ev.step (fun _ => slices_Index_int_int.l0.eq_2 ..) (ev_pos (by omega) (ev_pos (by omega) (ev_pos (by omega) (ev_pos (by simp [rd, ht]) (ev_some rfl)))))
  | d + 1, i, hd => Ev.step (fun _ => slices_Index_int_int.l0.eq_2 ..) (ev_pos (by omega) (ev_pos (by omega) (ev_pos (by omega) (ev_neg (fun e => hb i (by omega) (by rw [e]; simp [rd, ht])) (by
      rw [w64 (by omega) (by omega)]
      exact index_l f hn x hx hb d (i + 1) (by omega))))))
theorem index_low (f : List Int) (hn : f.length ≤ 1000) (hne : f ≠ []) : ∃ k, slices_Index_int_int.f k f (ht f (low f)) = some (low f : Int) := by
  have L := low_spec f hne
  exact ev_at (index_l f hn (low f) L.lt (fun c hc => by have := L.first c hc; omega) (low f) 0 (by omega))
theorem Fil.reads {w : World} {F G : Nat} {H most : Int} {f : List Int} {vS each : Value} (h : Fil w F G H most f vS each) (hn : f.length ≤ 1000) : Kd.C (Kd.int .i64) w (some ⟨G, 0, none⟩) f.length f := by
  refine ⟨rfl, by omega, fun _ => ⟨_, rfl, fun j p hj => ⟨[.int .i64 p], rfl, rfl, fun i u hu => ?_⟩⟩⟩
  have hjl := (List.getElem?_eq_some_iff.1 hj).1
  have hi : i = 0 := by
    have := (List.getElem?_eq_some_iff.1 hu).1
    simpa using this
  subst hi
  injection hu with hu
  subst hu
  rw [add_plain, show j * (Kd.int .i64).sz + 0 = j from by show j * 1 + 0 = j; omega, h.col j hjl]
  simp [ht, hj]
/-- what a call of fill leaves -/
def FillPost {σ : Type} (I : σ → World → (Nat → Prop) → Prop) (base F G : Nat) (H most : Int) (ev : Value) (f : List Int) (sq : List Sq) (X : Nat → Prop) (r : σ × Bool) (w : World) (e : Ending) (w' : World) : Prop :=
  e = .returned (.bool r.2) ∧ ∃ X' vS', FS I base F G H most ev f sq vS' r.1 X' w' ∧ (∀ k, X' k → X k ∨ w.heap.size ≤ k) ∧ Fr base X w w'
set_option maxHeartbeats 8000000 in
set_option maxRecDepth 100000 in
theorem filler_fill {σ : Type} {g : Nat} {lb : Array Value} {Q : σ → List Sq → Prop} {step : σ → List Sq → σ × Bool} {I : σ → World → (Nat → Prop) → Prop} (E : Each g lb Q step I) (base F G : Nat) (H most : Int) (hH : H ≤ 1000) (hbF : base ≤ F) (hbG : base ≤ G) :
    ∀ (n : Nat) (f : List Int) (sq : List Sq) (vS : Value) (s : σ) (X : Nat → Prop) (w : World), FS I base F G H most (.func (.func g) #[] lb) f sq vS s X w → Fits f H → left H f < n → f.length ≤ 1000 → (∀ c, c < f.length → 0 ≤ ht f c) →
      sq.length + left H f ≤ 1000000 → RunQ Q step s (fillP H most n f sq) →
      Calls Try.prog 96 #[.pointer (some ⟨F, 0, none⟩)] w (FillPost I base F G H most (.func (.func g) #[] lb) f sq X (foldE step s (fillP H most n f sq)) w) := by
  intro n
  induction n with
  | zero => intro f sq vS s X w _ _ hn; omega
  | succ n ih =>
    intro f sq vS s X w hFS hfit hleft hlen hpos hsq hQ
    have L := low_spec f hfit.1
    have hcap : ∀ c, c < f.length → 0 ≤ ht f c ∧ ht f c ≤ H := fun c hc => ⟨hpos c hc, hfit.2 c hc⟩
    have hxl := L.lt
    have hyb := hcap _ hxl
    obtain ⟨kI, hI⟩ := index_low f hlen hfit.1
    have HMIN := Aside0.mk (fun W h => slices_Min_int f G W h (by omega) hlen)
    have HIDX := Aside0.mk hI
    have HS := Aside0.mk hFS
    have HIH := Aside0.mk ih
    have HFIT := Aside0.mk hfit
    have HL := Aside0.mk L
    have HCAP := Aside0.mk hcap
    have HQ := Aside0.mk hQ
    have HSQ := Aside0.mk hsq
    have HLEFT := Aside0.mk hleft
    have HE := Aside0.mk E
    clear hI hFS ih hfit L hcap hpos hQ hsq hleft E
    generalize hy : ht f (low f) = y at HMIN HIDX hyb
    have HY := Aside0.mk hy
    clear hy
    generalize hx : low f = x at HIDX hxl HY
    have HX := Aside0.mk hx
    clear hx
    have c0 := blk_cell HS.out.fil.own 0
    have c1 := blk_cell HS.out.fil.own 1
    have c2 := blk_cell HS.out.fil.own 2
    have c3 := blk_cell HS.out.fil.own 3
    have c4 := blk_cell HS.out.fil.own 4
    have c5 := blk_cell HS.out.fil.own 5
    simp only [List.getElem?_toArray, List.getElem?_cons_zero, List.getElem?_cons_succ] at c0 c1 c2 c3 c4 c5
    obtain ⟨A, c, e⟩ := Kd.R_slice HS.out.row
    subst e
    go_enter Try.func96, Try.ntmps96
    go_wp2_with fail
    refine (HMIN.out _ (fun i hi => HS.out.fil.col i hi)).mono ?_
    rintro e w' ⟨rfl, rfl⟩
    by_cases hyH : y = H
    · have hyz : (y == H) = true := by simp [hyH]
      have HYH := Aside0.mk hyH
      clear hyH
      have hfP : fillP H most (n + 1) f sq = [sq] := by simp only [fillP]; rw [HX.out, HY.out, if_pos HYH.out]
      have HFP := Aside0.mk hfP
      clear hfP
      go_wp2_with fail
      have HS2 := Aside0.mk (HS.out.below HE.out ((Below.refl w.heap.size w).drew))
      have HFR2 := Aside0.mk (Fr.of_below (X := X) (b := base) ((Below.refl w.heap.size w).drew) HS.out.size)
      have hZ : Aside0 (w.drew.heap.size = w.heap.size) := ⟨rfl⟩
      go_still_tail 8, (by kernel_rfl)
      change wpList _ _ _ _ _ w.drew
      generalize w.drew = w2 at HS2 HFR2 hZ ⊢
      have eg := HE.out.eg
      have HCALL := Aside0.mk (HE.out.call s w2 X A c sq HS2.out.st (Kd.R_reads' HS2.out.row).2.2 (Kd.R_reads' HS2.out.row).2.1 (by have h_ := HQ.out; rw [HFP.out] at h_; exact h_.1))
      go_wp2_with (go_at_fn g; refine HCALL.out.mono ?_; rintro e w' ⟨rfl, X', hI', hsub, hfr⟩)
      go_ret
      rw [HFP.out, foldE_one]
      exact ⟨rfl, X', _, HS2.out.called hI' hsub hfr, fun k hk => by rw [← hZ.out]; exact hsub k hk, HFR2.out.trans hfr HS2.out.size (fun _ _ hx => hx)⟩
    · have hyz : (y == H) = false := by simp [hyH]
      have HYH := Aside0.mk hyH
      clear hyH
      have hlb := least_bd hH hlen HCAP.out
      have HLE := Aside0.mk (fun W (hW : Below w.heap.size w W) => filler_least W F G H most f _ _ (HS.out.fil.below hW) hlen hH HCAP.out)
      generalize hls : least H f = ls at HLE hlb
      have HLS := Aside0.mk hls
      clear hls
      have hFlt := blk_lt HS.out.fil.own
      have g3 := fun p => cell_gr (p := p) hFlt c3
      have g4 := fun p => cell_gr (p := p) hFlt c4
      have hsl := HSQ.out
      have hw : IntKind.i64.wrap ((sq.length : Int) + ls) = (sq.length : Int) + ls := (i64_w _).trans (w64 (by omega) (by omega))
      go_wp2_with fail
      refine wp_region_gr (by kernel_rfl) (by kernel_rfl) ?_
      repeat (go_big_quiet_step ((go_at_call 100; refine Calls.gr_of (HLE.out _ (Gr.h _)))))
      refine wpQuiet_nil ?_
      intro W2 hw'
      obtain ⟨⟨V2, hB2⟩, hw''⟩ := hw'
      replace hw'' : W2 = V2 := hw''
      subst hw''
      have HS2 := Aside0.mk (HS.out.below HE.out hB2)
      have HFR2 := Aside0.mk (Fr.of_below (X := X) (b := base) hB2 HS.out.size)
      have HSZ := Aside0.mk hB2.size
      clear g3 g4 c0 c1 c2 c3 c4 c5 hB2 hw
      by_cases hpr : most < (sq.length : Int) + ls
      · have hpz : decide (most < (sq.length : Int) + ls) = true := decide_eq_true hpr
        have hfP : fillP H most (n + 1) f sq = [] := by simp only [fillP]; rw [HX.out, HY.out, if_neg HYH.out, HLS.out, if_pos hpr]
        have HFP := Aside0.mk hfP
        clear hfP
        go_wp2_with fail
        go_ret
        rw [HFP.out]
        exact ⟨rfl, X, _, HS2.out, fun k hk => .inl hk, HFR2.out⟩
      · have hpz : decide (most < (sq.length : Int) + ls) = false := decide_eq_false hpr
        have c2 := blk_cell HS2.out.fil.own 2
        simp only [List.getElem?_toArray, List.getElem?_cons_zero, List.getElem?_cons_succ] at c2
        go_wp2_with (go_at_call 101; refine (slices_Index_int_int.calls kI (some ⟨G, 0, none⟩) f.length f y (x : Int) _ (HS2.out.fil.reads hlen) (Nat.le_refl _) HIDX.out).mono ?_; rintro e w' ⟨rfl, ⟨nd, rfl⟩⟩)
        have HS3 := Aside0.mk (HS2.out.below HE.out (pw_below_drewN (Below.refl _ _) nd))
        have HFR3 := Aside0.mk (HFR2.out.below (pw_below_drewN (Below.refl _ _) nd) HS.out.size)
        have HSZ3 : Aside0 (w.heap.size ≤ (W2.drewN nd).heap.size) := HSZ
        generalize W2.drewN nd = W3 at HS3 HFR3 HSZ3 ⊢
        obtain ⟨ch, hch⟩ : ∃ ch : Nat → List (List Sq), (fun (i : Nat) => fillP H most n (place f x (i + 1) (y + (i + 1 : Nat))) (sq ++ [⟨x, y, (i + 1 : Nat)⟩])) = ch := ⟨_, rfl⟩
        have HCH := Aside0.mk hch
        obtain ⟨rm, hrm⟩ : ∃ rm, room f H x = rm := ⟨_, rfl⟩
        have HRM := Aside0.mk hrm
        have hfP : fillP H most (n + 1) f sq = (List.range rm).flatMap ch := by
          simp only [fillP]
          rw [HX.out, HY.out, if_neg HYH.out, HLS.out, if_neg (by omega), hrm, ← hch]
        have HFP := Aside0.mk hfP
        have hrl : rm ≤ 1000 := by
          have := runAt_le f x (by omega)
          rw [← hrm]; unfold room; omega
        clear hfP hch hrm HIDX HMIN HLE HS2 HFR2 c2 hpz hpr
        go_loopg [5] rm (fun kq v5 wc => ∃ (i : Nat) (s1 : σ) (X1 : Nat → Prop) (vS1 : Value), i ≤ rm ∧ rm - i ≤ kq ∧ v5 = .int .i64 ((i + 1 : Nat) : Int) ∧ Aside0 (foldE step s ((List.range i).flatMap ch) = (s1, true)) ∧ Aside0 (FS I base F G H most (.func (.func g) #[] lb) f sq vS1 s1 X1 wc) ∧ Aside0 (∀ k, X1 k → X k ∨ w.heap.size ≤ k) ∧ Aside0 (Fr base X w wc) ∧ Aside0 (w.heap.size ≤ wc.heap.size))
        case atStart => exact ⟨0, s, X, _, by omega, by omega, rfl, ⟨rfl⟩, HS3, ⟨fun k hk => .inl hk⟩, HFR3, HSZ3⟩
        case round =>
          clear HS3 HFR3 HSZ3 HSZ
          obtain ⟨i, s1, X1, vS1, hi, hkq, rfl, HFO, HS1, HSUB, HFR, HSZ⟩ := hrel
          have d0 := blk_cell HS1.out.fil.own 0
          have d1 := blk_cell HS1.out.fil.own 1
          have d2 := blk_cell HS1.out.fil.own 2
          have d3 := blk_cell HS1.out.fil.own 3
          simp only [List.getElem?_toArray, List.getElem?_cons_zero, List.getElem?_cons_succ] at d0 d1 d2 d3
          have hriff := room_iff f H x hxl i (by rw [HY.out]; omega) (by rw [HRM.out]; exact hi)
          rw [HRM.out, HY.out] at hriff
          have HRI := Aside0.mk hriff
          clear hriff
          by_cases hir : i < rm
          · obtain ⟨h1, h2, h3⟩ := HRI.out.1 hir
            have e1 : (x : Int) + ((i : Int) + 1) ≤ (f.length : Int) := by omega
            have e2 : y + ((i : Int) + 1) ≤ H := by omega
            have hcol : wr.cell? ⟨G, x + i, none⟩ = some (.int .i64 y) := by rw [HS1.out.fil.col (x + i) (by omega), h3]
            have H3 := Aside0.mk h3
            clear h3
            have hplen : ∀ k Y, k ≤ i + 1 → (place f x k Y).length = f.length := fun k Y hk => place_length f x k Y (by omega)
            have HPLEN := Aside0.mk hplen
            clear hplen
            go_upto_block 1 with (fail)
            clear d0 d1 d2 d3 hcol
            go_wp2_with fail
            go_loopg [6, 83] (i + 1) (fun kq v6 v83 wc => ∃ (k : Nat), k ≤ i + 1 ∧ i + 1 - k ≤ kq ∧ v83 = .int .i64 (k : Int) ∧ Aside0 (FS I base F G H most (.func (.func g) #[] lb) (place f x k (y + ((i : Int) + 1))) sq vS1 s1 X1 wc) ∧ Aside0 (Fr base X w wc) ∧ Aside0 (w.heap.size ≤ wc.heap.size))
            case atStart => exact ⟨0, by omega, by omega, rfl, by rw [place_zero]; exact HS1, HFR, HSZ⟩
            case round =>
              clear HS1 HFR HSZ
              obtain ⟨k, hk, hkq2, rfl, HS1, HFR, HSZ⟩ := hrel
              have hpl := HPLEN.out k (y + ((i : Int) + 1)) hk
              have d2 := blk_cell HS1.out.fil.own 2
              have d3 := blk_cell HS1.out.fil.own 3
              rw [hpl] at d2
              simp only [List.getElem?_toArray, List.getElem?_cons_zero, List.getElem?_cons_succ] at d2 d3
              by_cases hki : k < i + 1
              · have e3 : (k : Int) < (i : Int) + 1 := by omega
                have e4 : (x : Int) + (k : Int) < (f.length : Int) := by omega
                have hcol := HS1.out.fil.col (x + k) (by rw [hpl]; omega)
                have hfz := blk_frozen HS1.out.fil.cols (x + k)
                clear d3 hpl
                generalize ht (place f x k (y + ((i : Int) + 1))) (x + k) = old at hcol
                go_wp2_with fail
                go_roundg (i + 1 - (k + 1))
                case measure => omega
                case rel =>
                  refine ⟨k + 1, by omega, by omega, by go_num, ⟨?_⟩, ⟨?_⟩, ⟨?_⟩⟩
                  · have := HS1.out.col HE.out (x + k) (by rw [HPLEN.out k _ hk]; omega) (y + ((i : Int) + 1))
                    rwa [place_one f x k _ (by omega)] at this
                  · exact HFR.out.set_ (p := ⟨G, x + k, none⟩) hbG _
                  · have := HSZ.out; simpa [World.setCell] using this
              · have e3 : ¬ (k : Int) < (i : Int) + 1 := by omega
                obtain rfl : k = i + 1 := by omega
                obtain ⟨f1, hf1⟩ : ∃ f1, place f x (i + 1) (y + ((i : Int) + 1)) = f1 := ⟨_, rfl⟩
                have HF1 := Aside0.mk hf1
                rw [hf1] at HS1 hpl
                have hfl : f1.length = f.length := hpl
                have HFL := Aside0.mk hfl
                clear hf1 hpl hfl
                obtain ⟨A1, k1, e1'⟩ := Kd.R_slice HS1.out.row
                subst e1'
                have hz3 := blk_frozen HS1.out.fil.own 3
                have hsl := HSQ.out
                clear d2
                go_wp2_with (first | ((with_reducible refine gate_builtin (b := .append) (xs := #[.tmp 102, .tmp 107]) rfl ?_); at_builtin; refine Kd.R_append k56 (w0 := wr) base rfl (.tmp 102) (.tmp 107) 35 56 (.agg #[(.int .i64 0), (.int .i64 0), (.int .i64 0)]) 24 rfl Try.underlying35 info56 rfl (by decide) (by omega) (.slice A1 sq.length k1) sq (⟨x, y, (i : Int) + 1⟩ : S56) [.int .i64 x, .int .i64 y, .int .i64 ((i : Int) + 1)] (fun k => ¬ X1 k) (fun _ => False) rfl rfl ?aP (fun _ hk => hk.elim) ?aF ?aO ?aB ?aS ?aL ?_; (case aP => exact k56_mkM _ _ _ (⟨x, y, (i : Int) + 1⟩ : S56)); (case aB => exact Below.refl _ _); (case aF => exact (fun k hk hx => by have := HE.out.bd HS1.out.st k hx; omega)); (case aO => exact HS1.out.row); (case aS => exact HS1.out.size); (case aL => omega); intro v71 w12 ho hb hg hat; have n0_ := Aside0.mk (HS1.out.grown HE.out hg); have n1_ := Aside0.mk ho; clear ho hb hg hat d3 hz3; have d3 := blk_cell n0_.out.2.1.own 3; have hz3 := blk_frozen n0_.out.2.1.own 3; (simp only [List.getElem?_toArray, List.getElem?_cons_zero, List.getElem?_cons_succ] at d3); (obtain ⟨A2, k2, e2'⟩ := Kd.R_slice n1_.out); (subst e2')))
                have hq1 : (sq ++ [(⟨x, y, (i : Int) + 1⟩ : S56)]).length = sq.length + 1 := by simp
                have HQ1 := Aside0.mk hq1
                have HSN : Aside0 (FS I base F G H most (.func (.func g) #[] lb) f1 (sq ++ [(⟨x, y, (i : Int) + 1⟩ : S56)]) (.slice A2 (sq.length + 1) k2) s1 X1 (w12.setCell ⟨F, 3, none⟩ (.slice A2 (sq.length + 1) k2))) := ⟨by
                  have := FS.put3 HE.out n0_.out.1 n0_.out.2.1 n1_.out HS1.out.nF HS1.out.nG (Nat.le_trans HS1.out.size n0_.out.2.2.size)
                  rwa [hq1] at this⟩
                have HFRN : Aside0 (Fr base X w (w12.setCell ⟨F, 3, none⟩ (.slice A2 (sq.length + 1) k2))) := ⟨(HFR.out.trans n0_.out.2.2 (Nat.le_refl _) (fun j hj hx => by
                  rcases HSUB.out j hx with h | h
                  · exact h
                  · exact absurd hj (by have := HS.out.size; omega))).set_ (p := ⟨F, 3, none⟩) hbF _⟩
                have HSZN : Aside0 (w.heap.size ≤ (w12.setCell ⟨F, 3, none⟩ (.slice A2 (sq.length + 1) k2)).heap.size) := ⟨by simpa [World.setCell] using Nat.le_trans HSZ.out n0_.out.2.2.size⟩
                clear n0_ n1_ HFR HSZ HS1 hq1 d3 hz3
                generalize w12.setCell ⟨F, 3, none⟩ (.slice A2 (sq.length + 1) k2) = w13 at HSN HFRN HSZN ⊢
                have hSF := step_fits HFIT.out (i := i) (n := n) (by rw [HX.out, HRM.out]; exact hir) HLEFT.out
                rw [HX.out, HY.out, show ((i + 1 : Nat) : Int) = (i : Int) + 1 from rfl, HF1.out] at hSF
                have hch : ch i = fillP H most n f1 (sq ++ [(⟨x, y, (i : Int) + 1⟩ : S56)]) := by rw [← HCH.out, ← HF1.out]; rfl
                have hcap1 : ∀ c, c < f1.length → 0 ≤ ht f1 c := fun c hc => by
                  rw [HFL.out] at hc
                  rw [← HF1.out, ht_place _ _ _ _ (by omega)]
                  have := HCAP.out c hc
                  split <;> omega
                have hleft1 : left H f1 + 1 ≤ left H f := by
                  have h0 := left_place H f x (i + 1) (by omega) (by
                    have h9 := HRM.out
                    unfold room at h9
                    omega) (by omega) (by rw [HY.out]; omega)
                  rw [HY.out, show ((i + 1 : Nat) : Int) = (i : Int) + 1 from rfl, HF1.out] at h0
                  have : 1 ≤ (i + 1) * (i + 1) := Nat.mul_pos (by omega) (by omega)
                  omega
                have hQ1 : RunQ Q step s1 (fillP H most n f1 (sq ++ [(⟨x, y, (i : Int) + 1⟩ : S56)])) := by
                  obtain ⟨rest_, hrest_⟩ := flat_range_at ch i (rm - (i + 1))
                  rw [show i + 1 + (rm - (i + 1)) = rm by omega] at hrest_
                  have h_ := HQ.out
                  rw [HFP.out, hrest_] at h_
                  have h2_ := (RunQ.right h_ HFO.out).left
                  rwa [hch] at h2_
                refine (HIH.out f1 (sq ++ [(⟨x, y, (i : Int) + 1⟩ : S56)]) _ s1 X1 _ HSN.out hSF.1 hSF.2 (by rw [HFL.out]; exact hlen) hcap1 (by rw [HQ1.out]; omega) hQ1).mono ?_
                have HCI := Aside0.mk hch
                clear hSF hch hcap1 hleft1 hQ1
                intro e w' hp
                obtain ⟨he, X2, vS2, hfs2, hsub2, hfr2⟩ := hp
                subst he
                generalize hr : foldE step s1 (fillP H most n f1 (sq ++ [(⟨x, y, (i : Int) + 1⟩ : S56)])) = r at hfs2 ⊢
                obtain ⟨s2, b⟩ := r
                have HR : Aside0 (foldE step s1 (ch i) = (s2, b)) := ⟨by rw [HCI.out]; exact hr⟩
                have HS2 := Aside0.mk hfs2
                have HSUB2 : Aside0 (∀ k, X2 k → X k ∨ w.heap.size ≤ k) := ⟨fun k hk => by
                  rcases hsub2 k hk with h | h
                  · exact HSUB.out k h
                  · exact .inr (Nat.le_trans HSZN.out h)⟩
                have HFR2 : Aside0 (Fr base X w w') := ⟨HFRN.out.trans hfr2 (Nat.le_refl _) (fun j hj hx => by
                  rcases HSUB.out j hx with h | h
                  · exact h
                  · exact absurd hj (by have := HS.out.size; omega))⟩
                have HSZ2 : Aside0 (w.heap.size ≤ w'.heap.size) := ⟨Nat.le_trans HSZN.out hfr2.size⟩
                clear hr hfs2 hsub2 hfr2 HSN HFRN HSZN HCI HSUB
                obtain ⟨A4, k4, e4'⟩ := Kd.R_slice HS2.out.row
                rw [HQ1.out] at e4'
                subst e4'
                have hk4 : sq.length + 1 ≤ k4 := (Kd.R_reads' HS2.out.row).2.1
                have d3 := blk_cell HS2.out.fil.own 3
                have hz3 := blk_frozen HS2.out.fil.own 3
                simp only [List.getElem?_toArray, List.getElem?_cons_zero, List.getElem?_cons_succ] at d3
                have q1 := eq_true (show sq.length ≤ k4 by omega)
                have q2 := eq_true (show (0 : Int) ≤ (sq.length : Int) by omega)
                go_upto_region 17 with (fail)
                clear e3
                have hw1 : IntKind.i64.wrap (((sq.length + 1 : Nat) : Int) - 1) = (sq.length : Int) := (i64_w _).trans (by unfold wrap64; omega)
                have hw2 : IntKind.i64.wrap ((sq.length : Int) + 1 - 1) = (sq.length : Int) := (i64_w _).trans (by unfold wrap64; omega)
                have hw3 : IntKind.i64.wrap (sq.length : Int) = (sq.length : Int) := (i64_w _).trans (by unfold wrap64; omega)
                go_region
                clear hw1 hw2 hw3 q1 q2 d3 hz3
                have HS3 : Aside0 (FS I base F G H most (.func (.func g) #[] lb) f1 sq (.slice A4 sq.length k4) s2 X2 (w'.setCell ⟨F, 3, none⟩ (.slice A4 sq.length k4)).drew) := ⟨(HS2.out.cut HE.out).below HE.out ((Below.refl _ _).drew)⟩
                have HFR3 : Aside0 (Fr base X w (w'.setCell ⟨F, 3, none⟩ (.slice A4 sq.length k4)).drew) := ⟨(HFR2.out.set_ (p := ⟨F, 3, none⟩) hbF _).below ((Below.refl _ _).drew) HS.out.size⟩
                have HSZ3 : Aside0 (w.heap.size ≤ (w'.setCell ⟨F, 3, none⟩ (.slice A4 sq.length k4)).drew.heap.size) := ⟨by have := HSZ2.out; simpa [World.setCell] using this⟩
                clear HS2 HFR2 HSZ2
                generalize (w'.setCell ⟨F, 3, none⟩ (.slice A4 sq.length k4)).drew = w14 at HS3 HFR3 HSZ3 ⊢
                have e1 : (x : Int) + ((i : Int) + 1) ≤ (f.length : Int) := by omega
                have HPL2 : Aside0 (∀ k, k ≤ i + 1 → (place f1 x k y).length = f.length) := ⟨fun k hk => by rw [place_length f1 x k y (by rw [HFL.out]; omega)]; exact HFL.out⟩
                go_wp2_with fail
                go_loopg [8, 128] (i + 1) (fun kq v8 v128 wc => ∃ (k : Nat), k ≤ i + 1 ∧ i + 1 - k ≤ kq ∧ v128 = .int .i64 (k : Int) ∧ Aside0 (FS I base F G H most (.func (.func g) #[] lb) (place f1 x k y) sq (.slice A4 sq.length k4) s2 X2 wc) ∧ Aside0 (Fr base X w wc) ∧ Aside0 (w.heap.size ≤ wc.heap.size))
                case atStart => exact ⟨0, by omega, by omega, rfl, by rw [place_zero]; exact HS3, HFR3, HSZ3⟩
                case round =>
                  clear HS3 HFR3 HSZ3
                  obtain ⟨k, hk, hkq3, rfl, HS3, HFR3, HSZ3⟩ := hrel
                  have hpl := HPL2.out k hk
                  have d2 := blk_cell HS3.out.fil.own 2
                  rw [hpl] at d2
                  simp only [List.getElem?_toArray, List.getElem?_cons_zero, List.getElem?_cons_succ] at d2
                  by_cases hki : k < i + 1
                  · have e3 : (k : Int) < (i : Int) + 1 := by omega
                    have e4 : (x : Int) + (k : Int) < (f.length : Int) := by omega
                    have hcol := HS3.out.fil.col (x + k) (by rw [hpl]; omega)
                    have hfz := blk_frozen HS3.out.fil.cols (x + k)
                    clear hpl
                    generalize ht (place f1 x k y) (x + k) = old at hcol
                    go_wp2_with fail
                    go_roundg (i + 1 - (k + 1))
                    case measure => omega
                    case rel =>
                      refine ⟨k + 1, by omega, by omega, by go_num, ⟨?_⟩, ⟨?_⟩, ⟨?_⟩⟩
                      · have := HS3.out.col HE.out (x + k) (by rw [HPL2.out k hk]; omega) y
                        rwa [place_one f1 x k _ (by rw [HFL.out]; omega)] at this
                      · exact HFR3.out.set_ (p := ⟨G, x + k, none⟩) hbG _
                      · have := HSZ3.out; simpa [World.setCell] using this
                  · have e3 : ¬ (k : Int) < (i : Int) + 1 := by omega
                    obtain rfl : k = i + 1 := by omega
                    have hback : place f1 x (i + 1) y = f := by
                      rw [← HF1.out]
                      exact place_back f x (i + 1) _ y (by omega) (fun j hj => by
                        have h9 := HRM.out
                        unfold room at h9
                        rw [runAt_eq f x j (by omega), HY.out])
                    rw [hback] at HS3
                    clear hback d2 hpl
                    cases b with
                    | true =>
                      go_wp2_with fail
                      go_roundg (rm - (i + 1))
                      case measure => omega
                      case rel => exact ⟨i + 1, s2, X2, _, by omega, by omega, by go_num, ⟨by rw [flat_range_succ, foldE_on _ _ _ _ _ HFO.out]; exact HR.out⟩, HS3, HSUB2, HFR3, HSZ3⟩
                    | false =>
                      have hfin : foldE step s (fillP H most (n + 1) f sq) = (s2, false) := by
                        obtain ⟨rest, hrest⟩ := flat_range_at ch i (rm - (i + 1))
                        rw [show i + 1 + (rm - (i + 1)) = rm by omega] at hrest
                        rw [HFP.out, hrest, foldE_on _ _ _ _ _ HFO.out]
                        exact foldE_off _ _ _ _ _ HR.out
                      have HFIN := Aside0.mk hfin
                      clear hfin
                      go_wp2_with fail
                      go_ret
                      rw [HFIN.out]
                      exact ⟨rfl, X2, _, HS3.out, HSUB2.out, HFR3.out⟩
          · have hii : i = rm := by omega
            have HFQ : Aside0 (foldE step s (fillP H most (n + 1) f sq) = (s1, true)) := ⟨by rw [HFP.out, ← hii]; exact HFO.out⟩
            have hn3 : ¬ (x + (i + 1) ≤ f.length ∧ y + ((i + 1 : Nat) : Int) ≤ H ∧ ht f (x + i) = y) := fun h => hir (HRI.out.2 h)
            have HN3 := Aside0.mk hn3
            clear hn3 hii
            by_cases h1 : (x : Int) + ((i : Int) + 1) ≤ (f.length : Int)
            · by_cases h2 : y + ((i : Int) + 1) ≤ H
              · have h3 : (ht f (x + i) == y) = false := by
                  rw [beq_eq_false_iff_ne]
                  exact fun h => HN3.out ⟨by omega, by omega, h⟩
                have hcol : wr.cell? ⟨G, x + i, none⟩ = some (.int .i64 (ht f (x + i))) := HS1.out.fil.col (x + i) (by omega)
                generalize ht f (x + i) = yy at h3 hcol
                go_wp2_with fail
                go_ret
                rw [HFQ.out]
                exact ⟨rfl, X1, _, HS1.out, HSUB.out, HFR.out⟩
              · go_wp2_with fail
                go_ret
                rw [HFQ.out]
                exact ⟨rfl, X1, _, HS1.out, HSUB.out, HFR.out⟩
            · go_wp2_with fail
              go_ret
              rw [HFQ.out]
              exact ⟨rfl, X1, _, HS1.out, HSUB.out, HFR.out⟩

end Go.Proofs.Ytdfcljfajiihdaa.P

namespace Go.Proofs.Ytdfcljfajiihdaa.P
open Go.RowKit Go.Proofs.YtdfcljfajiihdaaW.PrintWords Go.Proofs.YtdfcljfajiihdaaW.PrintLast Go.Proofs.YtdfcljfajiihdaaW.PrintMore
attribute [local go_sem] max2_int min2_int max_two min_two max_three min_three max_four min_four
set_option linter.unusedVariables false
set_option linter.unusedSimpArgs false

/-! ### impl_fills: function 86 -/
open Go.Proofs.Ytdfcljfajiihdaa.T Go.Proofs.Ytdfcljfajiihdaa.Gr Go.Proofs.Ytdfcljfajiihdaa.Aid
theorem madeCells_int (n : Nat) : madeCells (Value.int .i64 0).cells (n * 1) = ((List.replicate n (0 : Int)).map (Value.int .i64)).toArray := by
  unfold madeCells
  rw [Nat.mul_one]
  apply Array.ext
  · simp
  · intro i h1 h2
    have e : (Value.int .i64 0).cells = #[Value.int .i64 0] := rfl
    simp [e, Nat.mod_one]
theorem ht_rep (n c : Nat) : ht (List.replicate n 0) c = 0 := by
  unfold ht
  rw [List.getD_eq_getElem?_getD, List.getElem?_replicate]
  split <;> rfl
theorem left_rep (n : Nat) (H : Int) (h0 : 0 ≤ H) : left H (List.replicate n 0) = n * H.toNat := by rw [left_replicate]; simp
theorem fits_rep (n : Nat) (H : Int) (hn : 0 < n) (h0 : 0 ≤ H) : Fits (List.replicate n 0) H := ⟨fun e => by simp at e; omega, fun c _ => by rw [ht_rep]; exact h0⟩
set_option maxHeartbeats 2000000 in
theorem impl_fills {σ : Type} {g : Nat} {lb : Array Value} {Q : σ → List Sq → Prop} {step : σ → List Sq → σ × Bool} {I : σ → World → (Nat → Prop) → Prop} (E : Each g lb Q step I) (W : Nat) (H most : Int) (hW : 1 ≤ W ∧ W ≤ 100) (hH : 1 ≤ H ∧ H ≤ 100)
    (n : Nat) (hn : W * H.toNat < n) (s : σ) (X : Nat → Prop) (w : World) (hI : I s w X) (hQ : RunQ Q step s (fillP H most n (List.replicate W 0) [])) :
    Calls Try.prog 86 #[.int .i64 (W : Int), .int .i64 H, .int .i64 most, .func (.func g) #[] lb] w fun e w' => (∃ v, e = .returned v) ∧ ∃ X', I (foldE step s (fillP H most n (List.replicate W 0) [])).1 w' X' ∧ (∀ k, X' k → X k ∨ w.heap.size ≤ k) ∧ Fr w.heap.size X w w' := by
  obtain ⟨i0, hi0, hz0, hz1, hz2⟩ := info_parts info3
  have hmk : ∀ W' : World, (Instr.makeSlice 22 (.int .i64 (W : Int)) (.int .i64 (W : Int))).run Try.prog W' = .ok (.slice (some ⟨W'.heap.size, 0, none⟩) W W) (W'.alloc (.cells ((List.replicate W (0 : Int)).map (Value.int .i64)).toArray 3)) := fun W' => by
    have := run_make W' 22 3 i0 _ Try.underlying22 hi0 hz0 .i64 .i64 (W : Int) (W : Int) (by omega) (Int.le_refl _) (by rw [hz2]; omega) (by omega)
    rw [hz1, Int.toNat_natCast, madeCells_int] at this
    exact this
  have HI := Aside0.mk hI
  have HE := Aside0.mk E
  have HQ := Aside0.mk hQ
  have HN := Aside0.mk hn
  clear hi0 hz0 hz1 hz2 hI E hQ hn
  generalize hf : List.replicate W (0 : Int) = f at hmk HQ
  have hlen : f.length = W := by rw [← hf]; simp
  have HF := Aside0.mk hf
  clear hf
  subst hlen
  have hu69 := Try.underlying101
  go_enter Try.func86, Try.ntmps86
  go_wp2_with fail
  have HWB : Aside0 (Below w.heap.size w ((w.alloc (.cells (f.map (Value.int .i64)).toArray 3)).alloc (.cells #[.int .i64 (f.length : Int), .int .i64 H, .slice (some ⟨w.heap.size, 0, none⟩) f.length f.length, .slice none 0 0, .int .i64 most, .func (.func g) #[] lb] 101))) := ⟨((Below.refl _ _).alloc (Nat.le_refl _) _).alloc (by simp) _⟩
  have HFS : Aside0 (FS I w.heap.size (w.heap.size + 1) w.heap.size H most (.func (.func g) #[] lb) f [] (.slice none 0 0) s X ((w.alloc (.cells (f.map (Value.int .i64)).toArray 3)).alloc (.cells #[.int .i64 (f.length : Int), .int .i64 H, .slice (some ⟨w.heap.size, 0, none⟩) f.length f.length, .slice none 0 0, .int .i64 most, .func (.func g) #[] lb] 101))) := ⟨{
    st := HE.out.mv HI.out (fun k hk => HWB.out.block k (HE.out.bd HI.out k hk))
    fil := ⟨by
      have := heap_alloc_new (w.alloc (.cells (f.map (Value.int .i64)).toArray 3)) (.cells #[.int .i64 (f.length : Int), .int .i64 H, .slice (some ⟨w.heap.size, 0, none⟩) f.length f.length, .slice none 0 0, .int .i64 most, .func (.func g) #[] lb] 101)
      simpa using this, blk_alloc (heap_alloc_new w _) _⟩
    row := Kd.R_nil _ _ _ _ _
    nF := fun hk => by have := HE.out.bd HI.out _ hk; omega
    nG := fun hk => by have := HE.out.bd HI.out _ hk; omega
    size := HWB.out.size }⟩
  generalize ((w.alloc (.cells (f.map (Value.int .i64)).toArray 3)).alloc (.cells #[.int .i64 (f.length : Int), .int .i64 H, .slice (some ⟨w.heap.size, 0, none⟩) f.length f.length, .slice none 0 0, .int .i64 most, .func (.func g) #[] lb] 101)) = w1 at HWB HFS ⊢
  refine (filler_fill HE.out w.heap.size (w.heap.size + 1) w.heap.size H most (by omega) (by omega) (Nat.le_refl _) n f [] _ s X w1 HFS.out (by rw [← HF.out]; exact fits_rep _ _ (by omega) (by omega)) (by rw [← HF.out, left_rep _ _ (by omega)]; exact HN.out) (by omega) (fun c _ => by rw [← HF.out, ht_rep]; omega) ?_ HQ.out).mono ?_
  · rw [← HF.out, left_rep _ _ (by omega)]
    have : f.length * H.toNat ≤ 100 * 100 := Nat.mul_le_mul hW.2 (by omega)
    simp only [List.length_nil]
    omega
  · intro e w' hp
    obtain ⟨he, X', vS', h1, h2, h3⟩ := hp
    subst he
    have H1 := Aside0.mk h1.st
    have H2 : Aside0 (∀ k, X' k → X k ∨ w.heap.size ≤ k) := ⟨fun k hk => by
      rcases h2 k hk with h | h
      · exact .inl h
      · exact .inr (Nat.le_trans HWB.out.size h)⟩
    have H3 : Aside0 (Fr w.heap.size X w w') := ⟨(Fr.of_below HWB.out (Nat.le_refl _)).trans h3 (Nat.le_refl _) (fun _ _ hx => hx)⟩
    clear h1 h2 h3
    go_wp2_with fail
    go_end0
    exact ⟨⟨_, rfl⟩, X', H1.out, H2.out, H3.out⟩

end Go.Proofs.Ytdfcljfajiihdaa.P

namespace Go.Proofs.Ytdfcljfajiihdaa.P
open Go.RowKit Go.Proofs.YtdfcljfajiihdaaW.PrintWords Go.Proofs.YtdfcljfajiihdaaW.PrintLast Go.Proofs.YtdfcljfajiihdaaW.PrintMore
attribute [local go_sem] max2_int min2_int max_two min_two max_three min_three max_four min_four
set_option linter.unusedVariables false
set_option linter.unusedSimpArgs false

/-! ### impl_Square_88: function 88 -/
open Go.Proofs.Ytdfcljfajiihdaa.T Go.Proofs.Ytdfcljfajiihdaa.Aid
theorem R_emptyq (W : World) (base : Nat) (hb : base ≤ W.heap.size) : Kd.R k56 56 (W.alloc (.cells #[] 56)) base (fun _ => True) (.slice (some ⟨W.heap.size, 0, none⟩) 0 0) [] :=
  ⟨fun k hk => trivial, [], World.ownsRow_lit (base := base) (e := 56) (size := 3) W #[] 0 hb (by simp [maxLen]) (by simp), Reps.none _ _⟩
set_option maxHeartbeats 1000000 in
theorem slices_Clone_sq (l : List Sq) (A : Option Addr) (c : Nat) (w : World) (hr : Kd.C k56 w A l.length l) (hc : l.length ≤ c) (hl : l.length ≤ 1000000) :
    Calls Try.prog 88 #[.slice A l.length c] w fun e w' => ∃ v, e = .returned v ∧ Kd.R k56 56 w' w.heap.size (fun _ => True) v l ∧ Below w.heap.size w w' := by
  have q36 : ∀ (w : World) (a : Option Addr) (n c n' c' : Nat), (binOp .eql 35 (.slice a n c) (.slice none n' c')).run Try.prog w = .ok (.bool a.isNone) w := fun w a n c n' c' => Go.Lib.run_eql_slice_nil w _ _ a n c n' c' Try.underlying35
  cases A with
  | none =>
    have h0 : l = [] := by
      cases l with
      | nil => rfl
      | cons x l =>
        obtain ⟨ad, e, _⟩ := at_T56 hr 0 (by omega) (by simp)
        cases e
    subst h0
    go_enter Try.func88, Try.ntmps88
    go_wp2_with fail
    go_ret
    exact ⟨_, rfl, Kd.R_nil _ _ _ _ _, by repeat (first | exact Below.refl _ _ | apply below_alloc | apply pw_below_drewN)⟩
  | some ad =>
    have HR := Aside0.mk hr
    clear hr
    go_enter Try.func88, Try.ntmps88
    go_wp2_with (first | ((with_reducible refine gate_builtin (b := .append) (xs := #[.tmp 5, .tmp 6]) rfl ?_); at_builtin; refine Kd.R_append_rows k56 (w0 := w) w.heap.size rfl (.tmp 5) (.tmp 6) 35 56 (.agg #[.int .i64 0, .int .i64 0, .int .i64 0]) 24 rfl Try.underlying35 info56 rfl (by decide) (by omega) (.slice (some ⟨w.heap.size, 0, none⟩) 0 0) [] l _ _ _ (fun _ => True) (fun _ => False) rfl rfl (R_emptyq w _ (Nat.le_refl _)) ?aR (fun _ _ h => h) (fun _ h => h.elim) (fun _ _ => trivial) (below_alloc (Below.refl _ _) _) (below_alloc (Below.refl _ _) _).size ?aL ?_; (case aR => exact (show Kd.C k56 _ (some ad) l.length l from Kd.C_alloc HR.out _)); (case aL => simp; omega); intro v1 w1 ho hb hg hat; rw [List.nil_append] at ho; have HO := Aside0.mk ho; have HB := Aside0.mk hb; clear ho hb hg hat))
    go_ret
    exact ⟨_, rfl, HO.out, HB.out⟩

end Go.Proofs.Ytdfcljfajiihdaa.P

namespace Go.Proofs.Ytdfcljfajiihdaa.P
open Go.RowKit Go.Proofs.YtdfcljfajiihdaaW.PrintWords Go.Proofs.YtdfcljfajiihdaaW.PrintLast Go.Proofs.YtdfcljfajiihdaaW.PrintMore
attribute [local go_sem] max2_int min2_int max_two min_two max_three min_three max_four min_four
set_option linter.unusedVariables false
set_option linter.unusedSimpArgs false

/-! ### impl_allCuts: function 62 -/
open Go.Proofs.Ytdfcljfajiihdaa.T Go.Proofs.Ytdfcljfajiihdaa.Aid
/-- the cuts so far in their box, the width and the height in theirs -/
def CuI_allCuts (base B C D : Nat) (a b : Int) (s : List Ct) (W : World) (X : Nat → Prop) : Prop :=
  ∃ (v : Value) (ok : Nat → Prop), W.heap[B]? = some (.cells #[v] 53 (0, 0)) ∧ W.heap[C]? = some (.cells #[.int .i64 a] 3 (0, 0)) ∧ W.heap[D]? = some (.cells #[.int .i64 b] 3 (0, 0)) ∧
    Kd.S k37 37 W base ok v s ∧ (∀ k, ok k → k ≠ B ∧ k ≠ C ∧ k ≠ D ∧ k < W.heap.size) ∧ ∀ k, X k ↔ (k = B ∨ k = C ∨ k = D ∨ ok k)
theorem S_sl_allCuts {α : Type} {d : Kd α} {w : World} {base e : Nat} {ok : Nat → Prop} {v : Value} {xs : List α} (h : Kd.S d e w base ok v xs) : ∃ A n c, v = .slice A n c := by
  obtain ⟨A, c, e⟩ := Kd.S_slice h
  exact ⟨_, _, _, e⟩
theorem CuI_put_allCuts {base B C D : Nat} {a b : Int} {s s' : List Ct} {W W1 w2 : World} {X ok : Nat → Prop} {v v1 : Value} (hBC : B ≠ C) (hBD : B ≠ D)
    (h1 : W.heap[B]? = some (.cells #[v] 53 (0, 0))) (h2 : W.heap[C]? = some (.cells #[.int .i64 a] 3 (0, 0))) (h3 : W.heap[D]? = some (.cells #[.int .i64 b] 3 (0, 0)))
    (hown : ∀ k, v.ownBlock = some k → ok k) (h5 : ∀ k, ok k → k ≠ B ∧ k ≠ C ∧ k ≠ D ∧ k < W.heap.size) (h7 : ∀ k, X k ↔ (k = B ∨ k = C ∨ k = D ∨ ok k))
    (hb : Below W.heap.size W W1) (hg : W1.grownBy w2 v.ownBlock) (ho : Kd.S k37 37 w2 base (fun k => ok k ∨ W.heap.size ≤ k) v1 s') (hbe : Below base W w2) :
    ∃ X', CuI_allCuts base B C D a b s' (w2.setCell ⟨B, 0, none⟩ v1) X' ∧ (∀ k, X' k → X k ∨ W.heap.size ≤ k) ∧ Fr W.heap.size X W (w2.setCell ⟨B, 0, none⟩ v1) := by
  have g1 := blk_below h1 hb
  have g2 := blk_below h2 hb
  have g3 := blk_below h3 hb
  have hB := blk_lt h1
  have hC := blk_lt h2
  have hD := blk_lt h3
  have nB : some B ≠ v.ownBlock := fun e => (h5 B (hown B e.symm)).1 rfl
  have nC : some C ≠ v.ownBlock := fun e => (h5 C (hown C e.symm)).2.1 rfl
  have nD : some D ≠ v.ownBlock := fun e => (h5 D (hown D e.symm)).2.2.1 rfl
  have k1 := blk_grown g1 hg nB
  have k2 := blk_grown g2 hg nC
  have k3 := blk_grown g3 hg nD
  have hsz : w2.heap.size = (w2.setCell ⟨B, 0, none⟩ v1).heap.size := by simp [World.setCell]
  refine ⟨fun k => k = B ∨ k = C ∨ k = D ∨ ((ok k ∨ W.heap.size ≤ k) ∧ k < w2.heap.size), ⟨v1, fun k => (ok k ∨ W.heap.size ≤ k) ∧ k < w2.heap.size, blk_put k1 0 _ rfl, blk_far k2 (p := ⟨B, 0, none⟩) (Ne.symm hBC) _, blk_far k3 (p := ⟨B, 0, none⟩) (Ne.symm hBD) _, ?_, fun k hk => ?_, fun k => Iff.rfl⟩, fun k hk => ?_, ?_⟩
  · exact Kd.S_far (p := ⟨B, 0, none⟩) (Kd.S_mono (Kd.S_bound ho) (fun k hk => ⟨hk.1, hk.2.2.1⟩)) (fun k hk => by
      rcases hk.1 with h | h
      · exact (h5 k h).1
      · simp only; omega) _
  · rw [← hsz]
    rcases hk.1 with h | h
    · exact ⟨(h5 k h).1, (h5 k h).2.1, (h5 k h).2.2.1, hk.2⟩
    · exact ⟨by omega, by omega, by omega, hk.2⟩
  · rcases hk with h | h | h | h
    · exact .inl ((h7 k).2 (.inl h))
    · exact .inl ((h7 k).2 (.inr (.inl h)))
    · exact .inl ((h7 k).2 (.inr (.inr (.inl h))))
    · rcases h.1 with h | h
      · exact .inl ((h7 k).2 (.inr (.inr (.inr h))))
      · exact .inr h
  · refine ⟨hbe.os, hbe.tape, hbe.output, by rw [← hsz]; exact hbe.size, fun k hk hn => ?_⟩
    have hkB : k ≠ B := fun e => hn ((h7 k).2 (.inl e))
    rw [Below.heap_setCell w2 _ _ k hkB]
    exact (hg.block k (Nat.lt_of_lt_of_le hk hb.size) (fun e => hn ((h7 k).2 (.inr (.inr (.inr (hown k e.symm))))))).trans (hb.block k hk)
theorem cutM_allCuts {W V : World} {base : Nat} {A1 : Option Addr} {n1 c1 : Nat} {sq : List Sq} (a b : Int) (hr : Kd.R k56 56 V W.heap.size (fun _ => True) (.slice A1 n1 c1) sq) (hb : base ≤ W.heap.size) :
    (k37).M V base (fun k => W.heap.size ≤ k) (⟨a, b, sq⟩ : Ct) [.int .i64 a, .int .i64 b, .slice A1 n1 c1] :=
  k37_mkM V base _ ⟨a, b, sq⟩ (Kd.R_lower (Kd.R_mono (Kd.R_bound hr) (fun k hk => hk.2.1)) hb)
set_option maxHeartbeats 8000000 in
theorem cut_each_allCuts (base B C D : Nat) (hBC : B ≠ C) (hBD : B ≠ D) (hbB : base ≤ B) (a b : Int) : Each 87 #[.pointer (some ⟨B, 0, none⟩), .pointer (some ⟨C, 0, none⟩), .pointer (some ⟨D, 0, none⟩)] (fun s t => s.length ≤ 1000000000000 ∧ t.length ≤ 1000000) (fun s t => (s ++ [⟨a, b, t⟩], true)) (CuI_allCuts base B C D a b) where
  bd := fun {s W X} h k hk => by
    obtain ⟨v, ok, h1, h2, h3, h4, h5, h7⟩ := h
    rcases (h7 k).1 hk with rfl | rfl | rfl | hk
    · exact blk_lt h1
    · exact blk_lt h2
    · exact blk_lt h3
    · exact (h5 k hk).2.2.2
  mv := fun {s W W' X} h hm => by
    obtain ⟨v, ok, h1, h2, h3, h4, h5, h7⟩ := h
    refine ⟨v, ok, (hm B ((h7 B).2 (.inl rfl))).trans h1, (hm C ((h7 C).2 (.inr (.inl rfl)))).trans h2, (hm D ((h7 D).2 (.inr (.inr (.inl rfl))))).trans h3, Kd.S_step h4 (fun k hk _ => hm k ((h7 k).2 (.inr (.inr (.inr hk))))), fun k hk => ⟨(h5 k hk).1, (h5 k hk).2.1, (h5 k hk).2.2.1, ?_⟩, h7⟩
    have e := hm k ((h7 k).2 (.inr (.inr (.inr hk))))
    have hlt := (h5 k hk).2.2.2
    rw [Array.getElem?_eq_getElem hlt] at e
    exact blk_lt e
  eg := enters_of Try.func87 (by kernel_rfl) rfl
  call := fun s W X A c sq hI hC hc hq => by
    obtain ⟨v, ok, h1, h2, h3, h4, h5, h7⟩ := hI
    have hbW : base ≤ W.heap.size := Nat.le_trans hbB (Nat.le_of_lt (blk_lt h1))
    have hown : ∀ k, v.ownBlock = some k → ok k := h4.choose_spec.1
    have HPUT := Aside0.mk (fun (W1 w2 : World) (v1 : Value) => CuI_put_allCuts (s := s) (s' := s ++ [⟨a, b, sq⟩]) (base := base) (a := a) (b := b) (W1 := W1) (w2 := w2) (v1 := v1) hBC hBD h1 h2 h3 hown h5 h7)
    have HCELL : Aside0 (∀ V, Below W.heap.size W V → V.cell? ⟨B, 0, none⟩ = some v ∧ V.cell? ⟨C, 0, none⟩ = some (.int .i64 a) ∧ V.cell? ⟨D, 0, none⟩ = some (.int .i64 b)) := ⟨fun V hV => ⟨(blk_cell (blk_below h1 hV) 0).trans rfl, (blk_cell (blk_below h2 hV) 0).trans rfl, (blk_cell (blk_below h3 hV) 0).trans rfl⟩⟩
    have HGR : Aside0 (∀ V w2, Below W.heap.size W V → V.grownBy w2 v.ownBlock → w2.cell? ⟨B, 0, none⟩ = some v ∧ w2.frozen? ⟨B, 0, none⟩ = false) := ⟨fun V w2 hV hg => by
      have k1 := blk_grown (blk_below h1 hV) hg (fun e => (h5 B (hown B e.symm)).1 rfl)
      exact ⟨(blk_cell k1 0).trans rfl, blk_frozen k1 0⟩⟩
    have HSO : Aside0 (∀ V, Below W.heap.size W V → Kd.S k37 37 V base (fun k => (ok k ∨ W.heap.size ≤ k) ∧ ¬ W.heap.size ≤ k) v s) := ⟨fun V hV => Kd.S_mono (Kd.S_below h4 hV) (fun k hk => ⟨.inl hk, by have := (h5 k hk).2.2.2; omega⟩)⟩
    have HNE : Aside0 (∀ k, W.heap.size ≤ k → (ok k ∨ W.heap.size ≤ k) ∧ some k ≠ v.ownBlock) := ⟨fun k hk => ⟨.inr hk, fun e => by have := (h5 k (hown k e.symm)).2.2.2; omega⟩⟩
    have HCL : Aside0 (∀ V, Below W.heap.size W V → Calls Try.prog 88 #[.slice A sq.length c] V fun e w' => ∃ v0, e = .returned v0 ∧ Kd.R k56 56 w' W.heap.size (fun _ => True) v0 sq ∧ Below W.heap.size W w') := ⟨fun V hV => by
      refine (slices_Clone_sq sq A c V (Kd.C_below hC hV) hc hq.2).mono ?_
      rintro e w' ⟨v0, rfl, hr, hb⟩
      exact ⟨v0, rfl, Kd.R_lower hr hV.size, hV.trans (hb.mono hV.size)⟩⟩
    have HLN := Aside0.mk hq.1
    have HBW := Aside0.mk hbW
    have hx := HCELL.out W (Below.refl _ _)
    have y1 := hx.1
    have y2 := hx.2.1
    have y3 := hx.2.2
    obtain ⟨AO, nO, cO, eO⟩ := S_sl_allCuts h4
    have hu38 := Try.underlying37
    clear h1 h2 h3 h4 h5 h7 hC hc hq hown hx hbW
    subst eO
    go_enter Try.func87, Try.ntmps87
    go_wp2_with fail
    go_region_law (first | (go_simp; go_at_call 88; refine (HCL.out _ (by first | exact Below.refl _ _ | exact below_drew (Below.refl _ _))).mono ?_; rintro e w' ⟨v0, rfl, hr, hb⟩; obtain ⟨A1, n1, c1, e1⟩ := R_sl hr; subst e1; have HR1 := Aside0.mk hr; have HB1 := Aside0.mk hb; have hx := HCELL.out _ hb; have x1 := hx.1; have x2 := hx.2.1; have x3 := hx.2.2; have x4 := (HCELL.out (w'.alloc (.cells #[.int .i64 a, .int .i64 b, .slice A1 n1 c1] 37)) (below_alloc hb _)).1; clear hx hr hb) | (refine Kd.S_append_step k37 (w0 := W) base (by simp [Region.wanted]) (.tmp 6) (.tmp 12) 53 37 (.agg #[.int .i64 0, .int .i64 0, .slice none 0 0]) 40 rfl Try.underlying53 info37 rfl (by decide) (by omega) (.slice AO nO cO) s (⟨a, b, sq⟩ : Ct) [.int .i64 a, .int .i64 b, .slice A1 n1 c1] (fun k => ok k ∨ W.heap.size ≤ k) (fun k => W.heap.size ≤ k) rfl rfl (cutM_allCuts a b HR1.out HBW.out) HNE.out (fun k hk => .inr (Nat.le_trans HB1.out.size hk)) (HSO.out _ HB1.out) (HB1.out.mono HBW.out) (Nat.le_trans HBW.out HB1.out.size) (by have := HLN.out; omega) ?_; intro v1 w1 ho hb hg hat; obtain ⟨A2, n2, c2, e2⟩ := S_sl_allCuts ho; subst e2; have HP := Aside0.mk (HPUT.out _ _ _ HB1.out hg ho hb); have hbx := HGR.out _ _ HB1.out hg; have hbx1 := hbx.1; have hbx2 := hbx.2; clear ho hb hg hat hbx))
    all_goals
      go_wp2_with fail
      go_ret
      exact ⟨rfl, HP.out⟩
theorem foldl_cuts_allCuts (a b : Int) : ∀ (l : List (List Sq)) (s : List Ct), l.foldl (fun s t => s ++ [(⟨a, b, t⟩ : Ct)]) s = s ++ l.map (fun t => (⟨a, b, t⟩ : Ct))
  | [], s => by simp
  | t :: l, s => by rw [List.foldl_cons, foldl_cuts_allCuts a b l, List.map_cons, List.append_assoc]; rfl
theorem runQ_cuts_allCuts (a b : Int) : ∀ (l : List (List Sq)) (s : List Ct), s.length + l.length ≤ 1000000000000 → (∀ t ∈ l, t.length ≤ 1000000) → RunQ (fun (s : List Ct) (t : List Sq) => s.length ≤ 1000000000000 ∧ t.length ≤ 1000000) (fun s t => (s ++ [(⟨a, b, t⟩ : Ct)], true)) s l
  | [], _, _, _ => trivial
  | t :: l, s, h, ht => ⟨⟨by simp at h; omega, ht t List.mem_cons_self⟩, fun _ => runQ_cuts_allCuts a b l _ (by simp at h ⊢; omega) (fun x hx => ht x (List.mem_cons_of_mem _ hx))⟩
theorem S_empty_allCuts (W : World) (base : Nat) (ok : Nat → Prop) (hb : base ≤ W.heap.size) (ho : ok W.heap.size) : Kd.S k37 37 (W.alloc (.cells #[] 37)) base ok (.slice (some ⟨W.heap.size, 0, none⟩) 0 0) [] :=
  ⟨fun _ => 0, fun k hk => by simp [Value.ownBlock] at hk; subst hk; exact ho, [], World.ownsRow_lit (base := base) (e := 37) (size := 3) W #[] 0 hb (by simp [maxLen]) (by simp), Reps.none _ _⟩
/-- the cuts' box, as it is laid -/
theorem CuI_start_allCuts (w : World) (a b : Int) :
    CuI_allCuts w.heap.size (w.heap.size + 3) w.heap.size (w.heap.size + 1) a b [] ((((w.alloc (.cells #[.int .i64 a] 3)).alloc (.cells #[.int .i64 b] 3)).alloc (.cells #[] 37)).alloc (.cells #[.slice (some ⟨w.heap.size + 2, 0, none⟩) 0 0] 53))
      (fun k => k = w.heap.size + 3 ∨ k = w.heap.size ∨ k = w.heap.size + 1 ∨ k = w.heap.size + 2) := by
  have h := S_empty_allCuts ((w.alloc (.cells #[.int .i64 a] 3)).alloc (.cells #[.int .i64 b] 3)) w.heap.size (fun k => k = w.heap.size + 2) (by simp; omega) (by simp)
  rw [show ((w.alloc (.cells #[.int .i64 a] 3)).alloc (.cells #[.int .i64 b] 3)).heap.size = w.heap.size + 2 from by simp] at h
  have hB := heap_alloc_new (((w.alloc (.cells #[.int .i64 a] 3)).alloc (.cells #[.int .i64 b] 3)).alloc (.cells #[] 37)) (.cells #[.slice (some ⟨w.heap.size + 2, 0, none⟩) 0 0] 53)
  have hD := heap_alloc_new (w.alloc (.cells #[.int .i64 a] 3)) (.cells #[.int .i64 b] 3)
  rw [show (((w.alloc (.cells #[.int .i64 a] 3)).alloc (.cells #[.int .i64 b] 3)).alloc (.cells #[] 37)).heap.size = w.heap.size + 3 from by simp] at hB
  rw [show (w.alloc (.cells #[.int .i64 a] 3)).heap.size = w.heap.size + 1 from by simp] at hD
  exact ⟨_, fun k => k = w.heap.size + 2, hB, blk_alloc (blk_alloc (blk_alloc (heap_alloc_new w _) _) _) _, blk_alloc (blk_alloc hD _) _, Kd.S_alloc h _, fun k hk => by subst hk; simp, fun k => Iff.rfl⟩
theorem prod_le {W H : Int} (h0 : 1 ≤ W) (h1 : 1 ≤ H) (h : W * H ≤ 16) : W ≤ 16 ∧ H ≤ 16 := by
  have e1 : W * 1 ≤ W * H := Int.mul_le_mul_of_nonneg_left h1 (by omega)
  have e2 : 1 * H ≤ W * H := Int.mul_le_mul_of_nonneg_right h0 (by omega)
  omega
def impl_allCuts.f (a0 a1 : Int) : Option (List Ct) := if 1 ≤ a0 ∧ 1 ≤ a1 ∧ a0 * a1 ≤ 16 then some ((tilings a0.toNat a1).map (fun t => (⟨a0, a1, t⟩ : Ct))) else none
set_option maxHeartbeats 4000000 in
theorem impl_allCuts.calls (a0 a1 : Int) (r : List Ct) (w : World) (h : impl_allCuts.f a0 a1 = some r) :
    Calls Try.prog 62 #[.int .i64 a0, .int .i64 a1] w fun e w' => ∃ v0_ : Value, e = .returned v0_ ∧ Kd.S k37 37 w' w.heap.size (fun _ => True) v0_ r ∧ Below w.heap.size w w' := by
  unfold impl_allCuts.f at h
  by_cases hr : 1 ≤ a0 ∧ 1 ≤ a1 ∧ a0 * a1 ≤ 16
  · rw [if_pos hr] at h
    have hp := prod_le hr.1 hr.2.1 hr.2.2
    obtain ⟨W, rfl⟩ : ∃ W : Nat, a0 = W := ⟨a0.toNat, by omega⟩
    simp only [Int.toNat_natCast] at h
    have hm0 : 0 ≤ (W : Int) * a1 := Int.mul_nonneg (by omega) (by omega)
    have hcnt := list_count W a1 (by omega) (by omega) hr.2.2
    have hfill := fillP_all W a1 (by omega) (by omega)
    have HEACH := Aside0.mk (cut_each_allCuts w.heap.size (w.heap.size + 3) w.heap.size (w.heap.size + 1) (by omega) (by omega) (by omega) (W : Int) a1)
    have hrun := runQ_cuts_allCuts (W : Int) a1 (tilings W a1) [] (by simp; omega) (fun t ht => by
      have h1 := (til_len W a1 (by omega) (by omega) t ht).2
      have h2 := hr.2.2
      omega)
    have HFILLS := Aside0.mk (fun V hI => impl_fills HEACH.out W a1 ((W : Int) * a1) (by omega) (by omega) (W * a1.toNat + 1) (by omega) [] (fun k => k = w.heap.size + 3 ∨ k = w.heap.size ∨ k = w.heap.size + 1 ∨ k = w.heap.size + 2) V hI (by rw [hfill]; exact hrun))
    rw [hfill, foldE_true _ (fun _ _ => rfl)] at HFILLS
    have HRES : Aside0 ((tilings W a1).foldl (fun s t => s ++ [(⟨(W : Int), a1, t⟩ : Ct)]) [] = r) := ⟨by rw [foldl_cuts_allCuts, List.nil_append]; exact Option.some.inj h⟩
    have HI := Aside0.mk (CuI_start_allCuts w (W : Int) a1)
    obtain ⟨M, hM⟩ : ∃ z : Int, (W : Int) * a1 = z := ⟨_, rfl⟩
    have hw2 : wrap64 ((W : Int) * a1) = M := by rw [w64 (by omega) (by omega)]; exact hM
    rw [hM] at HFILLS
    clear hcnt hfill hrun h hM hm0 hr hp
    go_enter Try.func62, Try.ntmps62
    have HW1 : Aside0 (Below w.heap.size w ((((w.alloc (.cells #[.int .i64 (W : Int)] 3)).alloc (.cells #[.int .i64 a1] 3)).alloc (.cells #[] 37)).alloc (.cells #[.slice (some ⟨w.heap.size + 2, 0, none⟩) 0 0] 53))) := ⟨by repeat (first | exact Below.refl _ _ | apply below_alloc)⟩
    go_upto_region 2 with (fail)
    generalize ((((w.alloc (.cells #[.int .i64 (W : Int)] 3)).alloc (.cells #[.int .i64 a1] 3)).alloc (.cells #[] 37)).alloc (.cells #[.slice (some ⟨w.heap.size + 2, 0, none⟩) 0 0] 53)) = w1 at HI HW1 ⊢
    have HCELL : Aside0 (∀ V, Below w1.heap.size w1 V → V.cell? ⟨w.heap.size, 0, none⟩ = some (.int .i64 (W : Int)) ∧ V.cell? ⟨w.heap.size + 1, 0, none⟩ = some (.int .i64 a1)) := ⟨fun V hV => by
      obtain ⟨v, ok, h1, h2, h3, _⟩ := HI.out
      exact ⟨(blk_cell (blk_below h2 hV) 0).trans rfl, (blk_cell (blk_below h3 hV) 0).trans rfl⟩⟩
    have HF3 : Aside0 (∀ V, Below w1.heap.size w1 V → Calls Try.prog 86 #[.int .i64 (W : Int), .int .i64 a1, .int .i64 M, .func (.func 87) #[] #[.pointer (some ⟨w.heap.size + 3, 0, none⟩), .pointer (some ⟨w.heap.size, 0, none⟩), .pointer (some ⟨w.heap.size + 1, 0, none⟩)]] V fun e w' => (∃ v, e = .returned v) ∧ ∃ A n c, w'.cell? ⟨w.heap.size + 3, 0, none⟩ = some (.slice A n c) ∧ Kd.S k37 37 w' w.heap.size (fun _ => True) (.slice A n c) r ∧ Below w.heap.size w w') := ⟨fun V hV => by
      refine (HFILLS.out V (HEACH.out.mv HI.out (fun k hk => hV.block k (HEACH.out.bd HI.out k hk)))).mono ?_
      rintro e w' ⟨hv, X', ⟨v, ok, h1, h2, h3, h4, h5, h7⟩, hsub, hfr⟩
      rw [HRES.out] at h4
      obtain ⟨A, n, c, e0⟩ := S_sl_allCuts h4
      subst e0
      refine ⟨hv, A, n, c, (blk_cell h1 0).trans rfl, Kd.S_mono h4 (fun _ _ => trivial), ?_⟩
      have hWV : Below w.heap.size w V := HW1.out.trans (hV.mono HW1.out.size)
      exact ⟨hfr.os.trans hWV.os, hfr.tape.trans hWV.tape, hfr.output.trans hWV.output, Nat.le_trans hWV.size hfr.size, fun k hk => (hfr.block k (Nat.lt_of_lt_of_le hk hWV.size) (fun h => by omega)).trans (hWV.block k hk)⟩⟩
    have hx := HCELL.out w1 (Below.refl _ _)
    have y1 := hx.1
    have y2 := hx.2
    clear hx
    go_wp2_with (go_at_call 86; refine (HF3.out _ (Below.refl _ _)).mono ?_; rintro e w3 ⟨⟨v, rfl⟩, A, n, c, hcell, hS, hbw⟩; have HS := Aside0.mk hS; have HBW := Aside0.mk hbw; clear hS hbw)
    go_ret
    exact ⟨_, rfl, HS.out, HBW.out⟩
  · rw [if_neg hr] at h; cases h

end Go.Proofs.Ytdfcljfajiihdaa.P

namespace Go.Proofs.Ytdfcljfajiihdaa.P
open Go.RowKit Go.Proofs.YtdfcljfajiihdaaW.PrintWords Go.Proofs.YtdfcljfajiihdaaW.PrintLast Go.Proofs.YtdfcljfajiihdaaW.PrintMore
attribute [local go_sem] max2_int min2_int max_two min_two max_three min_three max_four min_four
set_option linter.unusedVariables false
set_option linter.unusedSimpArgs false

/-! ### impl_Square_89: function 89 -/
open Go.Proofs.Ytdfcljfajiihdaa.T Go.Proofs.Ytdfcljfajiihdaa.Aid
/-- rows compared, square by square -/
def cmpFL (cf : Sq → Sq → Int) : List Sq → List Sq → Int
  | [], [] => 0
  | [], _ :: _ => -1
  | _ :: _, [] => 1
  | x :: a, y :: b => if cf x y = 0 then cmpFL cf a b else cf x y
set_option maxHeartbeats 2000000 in
theorem slices_CompareFunc_sq (l m : List Sq) (A B : Option Addr) (c c' : Nat) (g : Nat) (cf : Sq → Sq → Int) (w : World) (hr : Kd.C k56 w A l.length l) (hs : Kd.C k56 w B m.length m) (hl : l.length ≤ 1000000000) (hm : m.length ≤ 1000000000)
    (eg : ∀ args w, (callFunc g args).run Try.prog w = .ok (.enter g args) w)
    (hp : ∀ (W : World) (x y : Sq), Calls Try.prog g #[.agg #[.int .i64 x.f0, .int .i64 x.f1, .int .i64 x.f2], .agg #[.int .i64 y.f0, .int .i64 y.f1, .int .i64 y.f2]] W fun e w' => e = .returned (.int .i64 (cf x y)) ∧ Below W.heap.size W w') :
    Calls Try.prog 89 #[.slice A l.length c, .slice B m.length c', .func (.func g) #[] #[]] w fun e w' => e = .returned (.int .i64 (cmpFL cf l m)) ∧ Below w.heap.size w w' := by
  have HR := Aside0.mk hr
  have HS := Aside0.mk hs
  have HLM := Aside0.mk (And.intro hl hm)
  have HP := Aside0.mk hp
  clear hr hs hl hm hp
  go_enter Try.func89, Try.ntmps89
  go_wp2
  go_loopg [13] l.length (fun gg v13 wc => ∃ (i : Nat) (xi : Int), (i : Int) = xi ∧ i ≤ l.length ∧ i ≤ m.length ∧ l.length - i ≤ gg ∧ v13 = .int .i64 xi ∧ Aside0 (cmpFL cf (l.drop i) (m.drop i) = cmpFL cf l m) ∧ Aside0 (Below w.heap.size w wc))
  case atStart => exact ⟨0, 0, rfl, by omega, by omega, by omega, rfl, ⟨rfl⟩, ⟨Below.refl _ _⟩⟩
  case round =>
    obtain ⟨i, xi, hxi, hi, hi2, hg, rfl, HC, HB⟩ := hrel
    have hlm := HLM.out
    by_cases c4 : i < l.length
    · have c4b : decide (xi < (l.length : Int)) = true := decide_eq_true (by omega)
      obtain ⟨ad, e1, x0, x1, x2⟩ := at_T56 (Kd.C_below HR.out HB.out) xi (by omega) (by omega)
      cases e1
      have hld : l.drop i = rd_T56 l xi :: l.drop (i + 1) := by
        rw [List.drop_eq_getElem_cons c4, ← hxi]
        simp [rd_T56, c4]
      have q1 := eq_true (show 0 ≤ xi by omega)
      have q2 := eq_true (show xi < (l.length : Int) by omega)
      by_cases c5 : i < m.length
      · have c5b : decide (xi ≥ (m.length : Int)) = false := decide_eq_false (by omega)
        have c5c : decide ((m.length : Int) ≤ xi) = false := decide_eq_false (by omega)
        obtain ⟨bd, e2, y0, y1, y2⟩ := at_T56 (Kd.C_below HS.out HB.out) xi (by omega) (by omega)
        cases e2
        have hmd : m.drop i = rd_T56 m xi :: m.drop (i + 1) := by
          rw [List.drop_eq_getElem_cons c5, ← hxi]
          simp [rd_T56, c5]
        have q3 := eq_true (show xi < (m.length : Int) by omega)
        have hc := HC.out
        rw [hld, hmd] at hc
        simp only [cmpFL] at hc
        generalize rd_T56 l xi = x at x0 x1 x2 hc hld
        generalize rd_T56 m xi = y at y0 y1 y2 hc hmd
        have HCALL := Aside0.mk (fun W => HP.out W x y)
        have y0' : (wr.alloc (.cells #[.int .i64 x.f0, .int .i64 x.f1, .int .i64 x.f2] 56)).cell? (bd.add (xi.toNat * 3)) = _ := ((below_alloc (Below.refl wr.heap.size wr) _).cell (World.block_lt_of_cell? wr _ y0)).trans y0
        have y1' : (wr.alloc (.cells #[.int .i64 x.f0, .int .i64 x.f1, .int .i64 x.f2] 56)).cell? ⟨(bd.add (xi.toNat * 3)).block, (bd.add (xi.toNat * 3)).off + 1, none⟩ = _ := ((below_alloc (Below.refl wr.heap.size wr) _).cell (World.block_lt_of_cell? wr _ y1)).trans y1
        have y2' : (wr.alloc (.cells #[.int .i64 x.f0, .int .i64 x.f1, .int .i64 x.f2] 56)).cell? ⟨(bd.add (xi.toNat * 3)).block, (bd.add (xi.toNat * 3)).off + 2, none⟩ = _ := ((below_alloc (Below.refl wr.heap.size wr) _).cell (World.block_lt_of_cell? wr _ y2)).trans y2
        obtain ⟨z, hz⟩ : ∃ z, cf x y = z := ⟨_, rfl⟩
        rw [hz] at hc HCALL
        have HCC := Aside0.mk hc
        have HI : Aside0 (i < l.length ∧ i < m.length ∧ l.length - i ≤ gk ∧ (i : Int) = xi) := ⟨c4, c5, hg, hxi⟩
        have EI : Aside0 (wrap64 (xi + 1) = ((i + 1 : Nat) : Int)) := ⟨by rw [w64 (by omega) (by omega)]; omega⟩
        clear hc hz hld hmd hxi hi hi2 hg c4 c5 hlm y0 y1 y2
        by_cases cz : z = 0
        · subst cz
          go_wp2_with (go_at_fn g; refine (HCALL.out _).mono ?_; rintro e w' ⟨rfl, hb⟩; have HB2 := Aside0.mk hb; clear hb)
          go_roundg (l.length - (i + 1))
          case measure => have := HI.out; omega
          case rel => exact ⟨i + 1, _, rfl, by have := HI.out; omega, by have := HI.out; omega, Nat.le_refl _, by first | rfl | rw [EI.out], ⟨by have := HCC.out; simpa using this⟩, ⟨HB.out.trans ((below_step (below_alloc (below_alloc (Below.refl _ _) _) _) HB2.out).mono HB.out.size)⟩⟩
        · have z1 : (z != 0) = true := by simpa using cz
          have z2 : (z == 0) = false := by simpa using cz
          go_wp2_with (go_at_fn g; refine (HCALL.out _).mono ?_; rintro e w' ⟨rfl, hb⟩; have HB2 := Aside0.mk hb; clear hb)
          go_ret
          exact ⟨by have := HCC.out; rw [if_neg cz] at this; rw [← this]; rfl, HB.out.trans ((below_step (below_alloc (below_alloc (Below.refl _ _) _) _) HB2.out).mono HB.out.size)⟩
      · have c5b : decide (xi ≥ (m.length : Int)) = true := decide_eq_true (by omega)
        have c5c : decide ((m.length : Int) ≤ xi) = true := decide_eq_true (by omega)
        have hc := HC.out
        rw [hld, List.drop_eq_nil_of_le (show m.length ≤ i by omega)] at hc
        simp only [cmpFL] at hc
        have HCC := Aside0.mk hc
        generalize rd_T56 l xi = x at x0 x1 x2
        clear hc hld hxi hi hi2 hg c4 c5 hlm
        go_wp2_with fail
        go_ret
        exact ⟨by rw [← HCC.out]; rfl, below_alloc HB.out _⟩
    · have c4b : decide (xi < (l.length : Int)) = false := decide_eq_false (by omega)
      obtain rfl : i = l.length := by omega
      have hc := HC.out
      rw [List.drop_length] at hc
      by_cases c5 : l.length < m.length
      · have c5b : decide (l.length < m.length) = true := decide_eq_true c5
        have hne : m.drop l.length ≠ [] := by intro h; have := congrArg List.length h; simp at this; omega
        have hv : cmpFL cf l m = -1 := by
          rw [← hc]
          cases hd : m.drop l.length with
          | nil => exact absurd hd hne
          | cons y t => rfl
        have HV := Aside0.mk hv
        clear hc hv hne hxi hi hi2 hg hlm c4
        go_wp2_with fail
        go_ret
        exact ⟨by rw [HV.out]; rfl, HB.out⟩
      · have c5b : decide (l.length < m.length) = false := decide_eq_false c5
        have hv : cmpFL cf l m = 0 := by
          rw [← hc, List.drop_eq_nil_of_le (by omega)]
          rfl
        have HV := Aside0.mk hv
        clear hc hv hxi hi hi2 hg hlm c4
        go_wp2_with fail
        go_ret
        exact ⟨by rw [HV.out]; rfl, HB.out⟩

end Go.Proofs.Ytdfcljfajiihdaa.P

namespace Go.Proofs.Ytdfcljfajiihdaa.P
open Go.RowKit Go.Proofs.YtdfcljfajiihdaaW.PrintWords Go.Proofs.YtdfcljfajiihdaaW.PrintLast Go.Proofs.YtdfcljfajiihdaaW.PrintMore
attribute [local go_sem] max2_int min2_int max_two min_two max_three min_three max_four min_four
set_option linter.unusedVariables false
set_option linter.unusedSimpArgs false

/-! ### cmp_isNaN_int: function 102 -/
def cmp_isNaN_int.f (a0 : Int) : Option (Bool) := some (a0 != a0)
set_option maxHeartbeats 8000000 in
set_option maxRecDepth 100000 in
theorem cmp_isNaN_int.calls (a0 : Int) (r : Bool) (w : World) (h : cmp_isNaN_int.f a0 = some r) :
    Calls Try.prog 102 #[.int .i64 a0] w fun e w' => e = .returned (.bool r) ∧ Drawn0 w w' := by
  have H : (some (a0 != a0)) = some r := h
  clear h
  obtain rfl := Option.some.inj H
  go_enter Try.func102, Try.ntmps102
  go_wp2
  go_ret
  exact ⟨by first | rfl | (simp; done) | (simp [*]; done), by repeat (first | exact Drawn0.refl _ | apply Drawn0.step)⟩

end Go.Proofs.Ytdfcljfajiihdaa.P

namespace Go.Proofs.Ytdfcljfajiihdaa.P
open Go.RowKit Go.Proofs.YtdfcljfajiihdaaW.PrintWords Go.Proofs.YtdfcljfajiihdaaW.PrintLast Go.Proofs.YtdfcljfajiihdaaW.PrintMore
attribute [local go_sem] max2_int min2_int max_two min_two max_three min_three max_four min_four
set_option linter.unusedVariables false
set_option linter.unusedSimpArgs false

/-! ### cmp_Compare_int: function 97 -/
def cmp_Compare_int.f (a0 : Int) (a1 : Int) : Option (Int) := (cmp_isNaN_int.f a0).bind fun t101 => ((cmp_isNaN_int.f a1).bind fun t102 => (if t101 = true then (if t102 = true then (some 0) else (some (-1))) else (if t102 = true then (some 1) else (if a0 < a1 then (some (-1)) else (if a0 > a1 then (some 1) else (some 0))))))
set_option maxHeartbeats 8000000 in
set_option maxRecDepth 100000 in
theorem cmp_Compare_int.calls (a0 : Int) (a1 : Int) (r : Int) (w : World) (h : cmp_Compare_int.f a0 a1 = some r) :
    Calls Try.prog 97 #[.int .i64 a0, .int .i64 a1] w fun e w' => e = .returned (.int .i64 r) ∧ Drawn0 w w' := by
  have H : ((cmp_isNaN_int.f a0).bind fun t101 => ((cmp_isNaN_int.f a1).bind fun t102 => (if t101 = true then (if t102 = true then (some 0) else (some (-1))) else (if t102 = true then (some 1) else (if a0 < a1 then (some (-1)) else (if a0 > a1 then (some 1) else (some 0))))))) = some r := h
  clear h
  replace H := Option.bind_eq_some_iff.mp H
  obtain ⟨t101, A30, H⟩ := H
  replace H : ((cmp_isNaN_int.f a1).bind fun t102 => (if t101 = true then (if t102 = true then (some 0) else (some (-1))) else (if t102 = true then (some 1) else (if a0 < a1 then (some (-1)) else (if a0 > a1 then (some 1) else (some 0)))))) = some r := H
  have A3 := Aside0.mk A30
  clear A30
  replace H := Option.bind_eq_some_iff.mp H
  obtain ⟨t102, A40, H⟩ := H
  replace H : (if t101 = true then (if t102 = true then (some 0) else (some (-1))) else (if t102 = true then (some 1) else (if a0 < a1 then (some (-1)) else (if a0 > a1 then (some 1) else (some 0))))) = some r := H
  have A4 := Aside0.mk A40
  clear A40
  by_cases c5 : t101 = true
  · subst c5
    have H1 : (if t102 = true then (some 0) else (some (-1))) = some r := by rw [if_pos rfl] at H; exact H
    clear H
    have H := H1
    clear H1
    by_cases c6 : t102 = true
    · subst c6
      have H1 : (some 0) = some r := by rw [if_pos rfl] at H; exact H
      clear H
      have H := H1
      clear H1
      obtain rfl := Option.some.inj H
      go_enter Try.func97, Try.ntmps97
      go_wp2_with (first | ((with_reducible refine gate_callee (f := 102) rfl ?_); refine goesL_ (some 8) rfl rfl Try.func102 (by kernel_rfl) rfl #[.int .i64 a0] rfl (by (try simp only [List.map_toArray, List.map_cons, List.map_nil]); first | done | rfl | (simp only [List.length_drop, List.length_take]; rfl)) ?_; (with_reducible refine (cmp_isNaN_int.calls a0 true _ A3.out).mono ?_); rintro e w' ⟨rfl, ⟨nd, rfl⟩⟩; refine ⟨_, rfl, ?_⟩) | ((with_reducible refine gate_callee (f := 102) rfl ?_); refine goesL_ (some 10) rfl rfl Try.func102 (by kernel_rfl) rfl #[.int .i64 a1] rfl (by (try simp only [List.map_toArray, List.map_cons, List.map_nil]); first | done | rfl | (simp only [List.length_drop, List.length_take]; rfl)) ?_; (with_reducible refine (cmp_isNaN_int.calls a1 true _ A4.out).mono ?_); rintro e w' ⟨rfl, ⟨nd, rfl⟩⟩; refine ⟨_, rfl, ?_⟩))
      go_ret
      exact ⟨by first | rfl | (simp; done) | (simp [*]; done), by repeat (first | exact Drawn0.refl _ | apply Drawn0.step)⟩
    · replace c6 := Bool.eq_false_iff.mpr c6
      subst c6
      have H1 : (some (-1)) = some r := by rw [if_neg (show ¬ (false = true) by decide)] at H; exact H
      clear H
      have H := H1
      clear H1
      obtain rfl := Option.some.inj H
      go_enter Try.func97, Try.ntmps97
      go_wp2_with (first | ((with_reducible refine gate_callee (f := 102) rfl ?_); refine goesL_ (some 8) rfl rfl Try.func102 (by kernel_rfl) rfl #[.int .i64 a0] rfl (by (try simp only [List.map_toArray, List.map_cons, List.map_nil]); first | done | rfl | (simp only [List.length_drop, List.length_take]; rfl)) ?_; (with_reducible refine (cmp_isNaN_int.calls a0 true _ A3.out).mono ?_); rintro e w' ⟨rfl, ⟨nd, rfl⟩⟩; refine ⟨_, rfl, ?_⟩) | ((with_reducible refine gate_callee (f := 102) rfl ?_); refine goesL_ (some 10) rfl rfl Try.func102 (by kernel_rfl) rfl #[.int .i64 a1] rfl (by (try simp only [List.map_toArray, List.map_cons, List.map_nil]); first | done | rfl | (simp only [List.length_drop, List.length_take]; rfl)) ?_; (with_reducible refine (cmp_isNaN_int.calls a1 false _ A4.out).mono ?_); rintro e w' ⟨rfl, ⟨nd, rfl⟩⟩; refine ⟨_, rfl, ?_⟩))
      go_ret
      exact ⟨by first | rfl | (simp; done) | (simp [*]; done), by repeat (first | exact Drawn0.refl _ | apply Drawn0.step)⟩
  · replace c5 := Bool.eq_false_iff.mpr c5
    subst c5
    have H1 : (if t102 = true then (some 1) else (if a0 < a1 then (some (-1)) else (if a0 > a1 then (some 1) else (some 0)))) = some r := by rw [if_neg (show ¬ (false = true) by decide)] at H; exact H
    clear H
    have H := H1
    clear H1
    by_cases c7 : t102 = true
    · subst c7
      have H1 : (some 1) = some r := by rw [if_pos rfl] at H; exact H
      clear H
      have H := H1
      clear H1
      obtain rfl := Option.some.inj H
      go_enter Try.func97, Try.ntmps97
      go_wp2_with (first | ((with_reducible refine gate_callee (f := 102) rfl ?_); refine goesL_ (some 8) rfl rfl Try.func102 (by kernel_rfl) rfl #[.int .i64 a0] rfl (by (try simp only [List.map_toArray, List.map_cons, List.map_nil]); first | done | rfl | (simp only [List.length_drop, List.length_take]; rfl)) ?_; (with_reducible refine (cmp_isNaN_int.calls a0 false _ A3.out).mono ?_); rintro e w' ⟨rfl, ⟨nd, rfl⟩⟩; refine ⟨_, rfl, ?_⟩) | ((with_reducible refine gate_callee (f := 102) rfl ?_); refine goesL_ (some 10) rfl rfl Try.func102 (by kernel_rfl) rfl #[.int .i64 a1] rfl (by (try simp only [List.map_toArray, List.map_cons, List.map_nil]); first | done | rfl | (simp only [List.length_drop, List.length_take]; rfl)) ?_; (with_reducible refine (cmp_isNaN_int.calls a1 true _ A4.out).mono ?_); rintro e w' ⟨rfl, ⟨nd, rfl⟩⟩; refine ⟨_, rfl, ?_⟩))
      go_ret
      exact ⟨by first | rfl | (simp; done) | (simp [*]; done), by repeat (first | exact Drawn0.refl _ | apply Drawn0.step)⟩
    · replace c7 := Bool.eq_false_iff.mpr c7
      subst c7
      have H1 : (if a0 < a1 then (some (-1)) else (if a0 > a1 then (some 1) else (some 0))) = some r := by rw [if_neg (show ¬ (false = true) by decide)] at H; exact H
      clear H
      have H := H1
      clear H1
      by_cases c8 : a0 < a1
      · rw [if_pos c8] at H
        have c8b0 : decide (a0 < a1) = true := decide_eq_true c8
        clear c8
        obtain rfl := Option.some.inj H
        go_enter Try.func97, Try.ntmps97
        go_wp2_with (first | ((with_reducible refine gate_callee (f := 102) rfl ?_); refine goesL_ (some 8) rfl rfl Try.func102 (by kernel_rfl) rfl #[.int .i64 a0] rfl (by (try simp only [List.map_toArray, List.map_cons, List.map_nil]); first | done | rfl | (simp only [List.length_drop, List.length_take]; rfl)) ?_; (with_reducible refine (cmp_isNaN_int.calls a0 false _ A3.out).mono ?_); rintro e w' ⟨rfl, ⟨nd, rfl⟩⟩; refine ⟨_, rfl, ?_⟩) | ((with_reducible refine gate_callee (f := 102) rfl ?_); refine goesL_ (some 10) rfl rfl Try.func102 (by kernel_rfl) rfl #[.int .i64 a1] rfl (by (try simp only [List.map_toArray, List.map_cons, List.map_nil]); first | done | rfl | (simp only [List.length_drop, List.length_take]; rfl)) ?_; (with_reducible refine (cmp_isNaN_int.calls a1 false _ A4.out).mono ?_); rintro e w' ⟨rfl, ⟨nd, rfl⟩⟩; refine ⟨_, rfl, ?_⟩))
        go_ret
        exact ⟨by first | rfl | (simp; done) | (simp [*]; done), by repeat (first | exact Drawn0.refl _ | apply Drawn0.step)⟩
      · rw [if_neg c8] at H
        have c8b0 : decide (a0 < a1) = false := decide_eq_false c8
        clear c8
        by_cases c9 : a0 > a1
        · rw [if_pos c9] at H
          have c9b0 : decide (a1 < a0) = true := decide_eq_true c9
          clear c9
          obtain rfl := Option.some.inj H
          go_enter Try.func97, Try.ntmps97
          go_wp2_with (first | ((with_reducible refine gate_callee (f := 102) rfl ?_); refine goesL_ (some 8) rfl rfl Try.func102 (by kernel_rfl) rfl #[.int .i64 a0] rfl (by (try simp only [List.map_toArray, List.map_cons, List.map_nil]); first | done | rfl | (simp only [List.length_drop, List.length_take]; rfl)) ?_; (with_reducible refine (cmp_isNaN_int.calls a0 false _ A3.out).mono ?_); rintro e w' ⟨rfl, ⟨nd, rfl⟩⟩; refine ⟨_, rfl, ?_⟩) | ((with_reducible refine gate_callee (f := 102) rfl ?_); refine goesL_ (some 10) rfl rfl Try.func102 (by kernel_rfl) rfl #[.int .i64 a1] rfl (by (try simp only [List.map_toArray, List.map_cons, List.map_nil]); first | done | rfl | (simp only [List.length_drop, List.length_take]; rfl)) ?_; (with_reducible refine (cmp_isNaN_int.calls a1 false _ A4.out).mono ?_); rintro e w' ⟨rfl, ⟨nd, rfl⟩⟩; refine ⟨_, rfl, ?_⟩))
          go_ret
          exact ⟨by first | rfl | (simp; done) | (simp [*]; done), by repeat (first | exact Drawn0.refl _ | apply Drawn0.step)⟩
        · rw [if_neg c9] at H
          have c9b0 : decide (a1 < a0) = false := decide_eq_false c9
          clear c9
          obtain rfl := Option.some.inj H
          go_enter Try.func97, Try.ntmps97
          go_wp2_with (first | ((with_reducible refine gate_callee (f := 102) rfl ?_); refine goesL_ (some 8) rfl rfl Try.func102 (by kernel_rfl) rfl #[.int .i64 a0] rfl (by (try simp only [List.map_toArray, List.map_cons, List.map_nil]); first | done | rfl | (simp only [List.length_drop, List.length_take]; rfl)) ?_; (with_reducible refine (cmp_isNaN_int.calls a0 false _ A3.out).mono ?_); rintro e w' ⟨rfl, ⟨nd, rfl⟩⟩; refine ⟨_, rfl, ?_⟩) | ((with_reducible refine gate_callee (f := 102) rfl ?_); refine goesL_ (some 10) rfl rfl Try.func102 (by kernel_rfl) rfl #[.int .i64 a1] rfl (by (try simp only [List.map_toArray, List.map_cons, List.map_nil]); first | done | rfl | (simp only [List.length_drop, List.length_take]; rfl)) ?_; (with_reducible refine (cmp_isNaN_int.calls a1 false _ A4.out).mono ?_); rintro e w' ⟨rfl, ⟨nd, rfl⟩⟩; refine ⟨_, rfl, ?_⟩))
          go_ret
          exact ⟨by first | rfl | (simp; done) | (simp [*]; done), by repeat (first | exact Drawn0.refl _ | apply Drawn0.step)⟩

end Go.Proofs.Ytdfcljfajiihdaa.P

namespace Go.Proofs.Ytdfcljfajiihdaa.P
open Go.RowKit Go.Proofs.YtdfcljfajiihdaaW.PrintWords Go.Proofs.YtdfcljfajiihdaaW.PrintLast Go.Proofs.YtdfcljfajiihdaaW.PrintMore
attribute [local go_sem] max2_int min2_int max_two min_two max_three min_three max_four min_four
set_option linter.unusedVariables false
set_option linter.unusedSimpArgs false

/-! ### slices_Compare_int_int: function 91 -/
def slices_Compare_int_int.l0 : Nat → List Int → List Int → List Int → Int → Int → Option (Int)
  | 0, _, _, _, _, _ => none
  | k + 1, x0, x1, x9, x10, x11 => if x11 < x10 then (if 0 ≤ x11 then (if x11 < (x9.length : Int) then (if x11 ≥ (x1.length : Int) then (some 1) else (if x11 < (x1.length : Int) then ((cmp_Compare_int.f (rd x9 x11) (rd x1 x11)).bind fun t103 => (if t103 = 0 then (slices_Compare_int_int.l0 k x0 x1 x9 x10 (wrap64 (x11 + 1))) else (some t103))) else (none))) else (none)) else (none)) else (if (x0.length : Int) < (x1.length : Int) then (some (-1)) else (some 0))
def slices_Compare_int_int.f (k : Nat) (l0 : List Int) (l1 : List Int) : Option (Int) := slices_Compare_int_int.l0 k l0 l1 l0 (l0.length : Int) 0
set_option maxHeartbeats 8000000 in
set_option maxRecDepth 100000 in
theorem slices_Compare_int_int.calls (k : Nat) (A0 : Option Addr) (c0 : Nat) (l0 : List Int) (A1 : Option Addr) (c1 : Nat) (l1 : List Int) (r : Int) (w : World) (hr0 : Kd.C (Kd.int .i64) w A0 l0.length l0) (hc0 : l0.length ≤ c0) (hr1 : Kd.C (Kd.int .i64) w A1 l1.length l1) (hc1 : l1.length ≤ c1) (h : slices_Compare_int_int.f k l0 l1 = some r) :
    Calls Try.prog 91 #[.slice A0 l0.length c0, .slice A1 l1.length c1] w fun e w' => e = .returned (.int .i64 r) ∧ Drawn0 w w' := by
  have HR0 := Aside0.mk hr0
  have HC0 := Aside0.mk hc0
  clear hr0 hc0
  have HR1 := Aside0.mk hr1
  have HC1 := Aside0.mk hc1
  clear hr1 hc1
  have H : (slices_Compare_int_int.l0 k l0 l1 l0 (l0.length : Int) 0) = some r := h
  clear h
  have H' := Aside0.mk H
  clear H
  go_enter Try.func91, Try.ntmps91
  go_wp2
  go_loopg [11] k (fun kq v11 w' => ∃ (x11_1 : Int), v11 = .int .i64 x11_1 ∧ Aside0 (slices_Compare_int_int.l0 kq l0 l1 l0 (l0.length : Int) x11_1 = some r) ∧ Aside0 (kq ≤ k) ∧ Drawn0 w w')
  case atStart => exact ⟨(0), (by first | rfl | (simp; done) | (simp [*]; done)), H', ⟨Nat.le_refl _⟩, by repeat (first | exact Drawn0.refl _ | apply Drawn0.step)⟩
  case round =>
    clear H'
    try clear c1
    try clear p2
    obtain ⟨x11_1, rfl, HA, HK1, ⟨m1, rfl⟩⟩ := hrel
    cases gk with
    | zero => exact absurd HA.out (by simp [slices_Compare_int_int.l0])
    | succ k1 =>
      have H := HA.out
      clear HA
      simp only [slices_Compare_int_int.l0] at H
      by_cases c3 : x11_1 < (l0.length : Int)
      · rw [if_pos c3] at H
        have c3b0 : decide (x11_1 < (l0.length : Int)) = true := decide_eq_true c3
        clear c3
        by_cases c4 : 0 ≤ x11_1
        · rw [if_pos c4] at H
          have c4b0 : decide (0 ≤ x11_1) = true := decide_eq_true c4
          clear c4
          by_cases c5 : x11_1 < (l0.length : Int)
          · rw [if_pos c5] at H
            have c5b0 : decide (x11_1 < (l0.length : Int)) = true := decide_eq_true c5
            clear c5
            by_cases c6 : x11_1 ≥ (l1.length : Int)
            · rw [if_pos c6] at H
              have c6b0 : decide ((l1.length : Int) ≤ x11_1) = true := decide_eq_true c6
              clear c6
              obtain rfl := Option.some.inj H
              have p101 : 0 ≤ (x11_1 : Int) := of_decide_eq_true (by first | (with_reducible assumption) | assumption)
              have q101 : x11_1 < (l0.length : Int) := of_decide_eq_true (by first | (with_reducible assumption) | assumption)
              obtain ⟨ad101, e101, hx101_0⟩ := Kd.at_int HR0.out x11_1 p101 q101
              cases e101
              replace p101 := eq_true p101
              replace q101 := eq_true q101
              go_wp2
              go_ret
              exact ⟨by first | rfl | (simp; done) | (simp [*]; done), by repeat (first | exact Drawn0.refl _ | apply Drawn0.step)⟩
            · rw [if_neg c6] at H
              have c6b0 : decide ((l1.length : Int) ≤ x11_1) = false := decide_eq_false c6
              clear c6
              by_cases c7 : x11_1 < (l1.length : Int)
              · rw [if_pos c7] at H
                have c7b0 : decide (x11_1 < (l1.length : Int)) = true := decide_eq_true c7
                clear c7
                replace H := Option.bind_eq_some_iff.mp H
                obtain ⟨t103, A80, H⟩ := H
                replace H : (if t103 = 0 then (slices_Compare_int_int.l0 k1 l0 l1 l0 (l0.length : Int) (wrap64 (x11_1 + 1))) else (some t103)) = some r := H
                have A8 := Aside0.mk A80
                clear A80
                by_cases c9 : t103 = 0
                · rw [if_pos c9] at H
                  have c9b0 : (t103 == 0) = true := beq_iff_eq.mpr c9
                  have c9b1 : (t103 != 0) = false := bne_eq_false_iff_eq.mpr c9
                  clear c9
                  have H' := Aside0.mk H
                  clear H
                  have p101 : 0 ≤ (x11_1 : Int) := of_decide_eq_true (by first | (with_reducible assumption) | assumption)
                  have q101 : x11_1 < (l0.length : Int) := of_decide_eq_true (by first | (with_reducible assumption) | assumption)
                  obtain ⟨ad101, e101, hx101_0⟩ := Kd.at_int HR0.out x11_1 p101 q101
                  cases e101
                  replace p101 := eq_true p101
                  replace q101 := eq_true q101
                  have p102 : 0 ≤ (x11_1 : Int) := of_decide_eq_true (by first | (with_reducible assumption) | assumption)
                  have q102 : x11_1 < (l1.length : Int) := of_decide_eq_true (by first | (with_reducible assumption) | assumption)
                  obtain ⟨ad102, e102, hx102_0⟩ := Kd.at_int HR1.out x11_1 p102 q102
                  cases e102
                  replace p102 := eq_true p102
                  replace q102 := eq_true q102
                  go_wp2_with (first | ((with_reducible refine gate_callee (f := 97) rfl ?_); refine goesL_ (some 26) rfl rfl Try.func97 (by kernel_rfl) rfl #[.int .i64 (rd l0 x11_1), .int .i64 (rd l1 x11_1)] rfl (by (try simp only [List.map_toArray, List.map_cons, List.map_nil]); first | done | rfl | (simp only [List.length_drop, List.length_take]; rfl)) ?_; (with_reducible refine (cmp_Compare_int.calls (rd l0 x11_1) (rd l1 x11_1) t103 _ A8.out).mono ?_); rintro e w' ⟨rfl, ⟨nd, rfl⟩⟩; refine ⟨_, rfl, ?_⟩))
                  go_roundg k1
                  case measure => have := HK1.out; omega
                  case rel => exact ⟨(wrap64 (x11_1 + 1)), (by first | rfl | (simp; done) | (simp [*]; done)), H', ⟨by have := HK1.out; omega⟩, by repeat (first | exact Drawn0.refl _ | apply Drawn0.step)⟩
                · rw [if_neg c9] at H
                  have c9b0 : (t103 == 0) = false := beq_eq_false_iff_ne.mpr c9
                  have c9b1 : (t103 != 0) = true := bne_iff_ne.mpr c9
                  obtain rfl := Option.some.inj H
                  have p101 : 0 ≤ (x11_1 : Int) := of_decide_eq_true (by first | (with_reducible assumption) | assumption)
                  have q101 : x11_1 < (l0.length : Int) := of_decide_eq_true (by first | (with_reducible assumption) | assumption)
                  obtain ⟨ad101, e101, hx101_0⟩ := Kd.at_int HR0.out x11_1 p101 q101
                  cases e101
                  replace p101 := eq_true p101
                  replace q101 := eq_true q101
                  have p102 : 0 ≤ (x11_1 : Int) := of_decide_eq_true (by first | (with_reducible assumption) | assumption)
                  have q102 : x11_1 < (l1.length : Int) := of_decide_eq_true (by first | (with_reducible assumption) | assumption)
                  obtain ⟨ad102, e102, hx102_0⟩ := Kd.at_int HR1.out x11_1 p102 q102
                  cases e102
                  replace p102 := eq_true p102
                  replace q102 := eq_true q102
                  go_wp2_with (first | ((with_reducible refine gate_callee (f := 97) rfl ?_); refine goesL_ (some 26) rfl rfl Try.func97 (by kernel_rfl) rfl #[.int .i64 (rd l0 x11_1), .int .i64 (rd l1 x11_1)] rfl (by (try simp only [List.map_toArray, List.map_cons, List.map_nil]); first | done | rfl | (simp only [List.length_drop, List.length_take]; rfl)) ?_; (with_reducible refine (cmp_Compare_int.calls (rd l0 x11_1) (rd l1 x11_1) t103 _ A8.out).mono ?_); rintro e w' ⟨rfl, ⟨nd, rfl⟩⟩; refine ⟨_, rfl, ?_⟩))
                  go_ret
                  exact ⟨by first | rfl | (simp; done) | (simp [*]; done), by repeat (first | exact Drawn0.refl _ | apply Drawn0.step)⟩
              · rw [if_neg c7] at H
                exact absurd H (by simp)
          · rw [if_neg c5] at H
            exact absurd H (by simp)
        · rw [if_neg c4] at H
          exact absurd H (by simp)
      · rw [if_neg c3] at H
        have c3b0 : decide (x11_1 < (l0.length : Int)) = false := decide_eq_false c3
        clear c3
        by_cases c10 : (l0.length : Int) < (l1.length : Int)
        · rw [if_pos c10] at H
          have c10b0 : decide ((l0.length : Int) < (l1.length : Int)) = true := decide_eq_true c10
          have c10b1 : decide (l0.length < l1.length) = true := decide_eq_true (Int.ofNat_lt.mp c10)
          clear c10
          obtain rfl := Option.some.inj H
          go_wp2
          go_ret
          exact ⟨by first | rfl | (simp; done) | (simp [*]; done), by repeat (first | exact Drawn0.refl _ | apply Drawn0.step)⟩
        · rw [if_neg c10] at H
          have c10b0 : decide ((l0.length : Int) < (l1.length : Int)) = false := decide_eq_false c10
          have c10b1 : decide (l0.length < l1.length) = false := decide_eq_false (fun h => c10 (Int.ofNat_lt.mpr h))
          clear c10
          obtain rfl := Option.some.inj H
          go_wp2
          go_ret
          exact ⟨by first | rfl | (simp; done) | (simp [*]; done), by repeat (first | exact Drawn0.refl _ | apply Drawn0.step)⟩

end Go.Proofs.Ytdfcljfajiihdaa.P

namespace Go.Proofs.Ytdfcljfajiihdaa.P
open Go.RowKit Go.Proofs.YtdfcljfajiihdaaW.PrintWords Go.Proofs.YtdfcljfajiihdaaW.PrintLast Go.Proofs.YtdfcljfajiihdaaW.PrintMore
attribute [local go_sem] max2_int min2_int max_two min_two max_three min_three max_four min_four
set_option linter.unusedVariables false
set_option linter.unusedSimpArgs false

/-! ### impl_compareCuts: function 64 -/
open Go.Proofs.Ytdfcljfajiihdaa.T Go.Proofs.Ytdfcljfajiihdaa.Aid
/-- two squares compared by their numbers -/
def cmp3 (a b : Sq) : Int := if a.f0 < b.f0 then -1 else if a.f0 > b.f0 then 1 else if a.f1 < b.f1 then -1 else if a.f1 > b.f1 then 1 else if a.f2 < b.f2 then -1 else if a.f2 > b.f2 then 1 else 0
theorem cmpI_f (a b : Int) : cmp_Compare_int.f a b = some (if a < b then -1 else if a > b then 1 else 0) := by
  unfold cmp_Compare_int.f cmp_isNaN_int.f
  simp only [Option.bind_some, bne_self_eq_false, Bool.false_eq_true, if_false]
  split
  · rfl
  · split <;> rfl
theorem compare3 (x y : Sq) : slices_Compare_int_int.f 4 [x.f0, x.f1, x.f2] [y.f0, y.f1, y.f2] = some (cmp3 x y) := by
  have w1 : wrap64 (0 + 1) = 1 := by unfold wrap64; omega
  have w2 : wrap64 (1 + 1) = 2 := by unfold wrap64; omega
  have w3 : wrap64 (2 + 1) = 3 := by unfold wrap64; omega
  have r0 : ∀ a b c : Int, rd [a, b, c] 0 = a := fun _ _ _ => rfl
  have r1 : ∀ a b c : Int, rd [a, b, c] 1 = b := fun _ _ _ => rfl
  have r2 : ∀ a b c : Int, rd [a, b, c] 2 = c := fun _ _ _ => rfl
  unfold slices_Compare_int_int.f
  simp only [slices_Compare_int_int.l0, List.length_cons, List.length_nil, cmpI_f, Option.bind_some, w1, w2, w3, r0, r1, r2]
  unfold cmp3
  by_cases c0 : x.f0 < y.f0
  · simp [c0]
  · by_cases d0 : x.f0 > y.f0
    · simp [c0, d0]
    · by_cases c1 : x.f1 < y.f1
      · simp [c0, d0, c1]
      · by_cases d1 : x.f1 > y.f1
        · simp [c0, d0, c1, d1]
        · by_cases c2 : x.f2 < y.f2
          · simp [c0, d0, c1, d1, c2]
          · by_cases d2 : x.f2 > y.f2
            · simp [c0, d0, c1, d1, c2, d2]
            · simp [c0, d0, c1, d1, c2, d2]
theorem cc_row_of_blk {w : World} {g base : Nat} {ok : Nat → Prop} {l : List Int} (h : w.heap[g]? = some (.cells (l.map (Value.int .i64)).toArray 3 (0, 0))) (hb : base ≤ g) (ho : ok g) (hl : l.length ≤ 1000000) : Kd.R (Kd.int .i64) 3 w base ok (.slice (some ⟨g, 0, none⟩) l.length l.length) l := by
  have hs : (Kd.int .i64).sz = 1 := rfl
  refine ⟨fun k hk => ?_, l.map (Value.int .i64), ⟨by rw [hs]; simp, .inr ⟨g, l.length, _, rfl, hb, h, Nat.le_refl _, by simp only [maxLen]; omega, by rw [hs]; simp, by rw [hs]; simp; exact List.take_of_length_le (by simp)⟩⟩, by rw [hs]; simp, fun j p hj => ?_⟩
  · have : g = k := by simpa [Value.ownBlock] using hk
    subst this; exact ho
  · have hjl := (List.getElem?_eq_some_iff.1 hj).1
    have hp := (List.getElem?_eq_some_iff.1 hj).2
    rw [hs, Nat.mul_one]
    show (List.take 1 (List.drop j (l.map (Value.int .i64)))) = [.int .i64 p]
    rw [List.drop_eq_getElem_cons (by simpa using hjl)]
    simp [hp]
theorem C_lit3 {W : World} {g : Nat} {a b c : Int} (h : W.heap[g]? = some (.cells #[.int .i64 a, .int .i64 b, .int .i64 c] 3 (0, 0))) : Kd.C (Kd.int .i64) W (some ⟨g, 0, none⟩) 3 [a, b, c] := by
  have h2 := cc_row_of_blk (l := [a, b, c]) (base := 0) (ok := fun _ => True) h (Nat.zero_le _) trivial (by simp)
  exact (Kd.R_reads' h2).2.2
set_option maxHeartbeats 2000000 in
theorem compareClo (x y : Sq) (w : World) : Calls Try.prog 90 #[.agg #[.int .i64 x.f0, .int .i64 x.f1, .int .i64 x.f2], .agg #[.int .i64 y.f0, .int .i64 y.f1, .int .i64 y.f2]] w fun e w' => e = .returned (.int .i64 (cmp3 x y)) ∧ Below w.heap.size w w' := by
  have hu48 := Try.underlying56
  have HC := Aside0.mk (fun A B V h1 h2 => slices_Compare_int_int.calls 4 A 3 [x.f0, x.f1, x.f2] B 3 [y.f0, y.f1, y.f2] (cmp3 x y) V h1 (by simp) h2 (by simp) (compare3 x y))
  go_enter Try.func90, Try.ntmps90
  go_wp2_with fail
  have b1 := heap_alloc_new ((w.alloc (.cells #[.int .i64 x.f0, .int .i64 x.f1, .int .i64 x.f2] 56)).alloc (.cells #[.int .i64 y.f0, .int .i64 y.f1, .int .i64 y.f2] 56)) (.cells #[.int .i64 x.f0, .int .i64 x.f1, .int .i64 x.f2] 3)
  rw [show ((w.alloc (.cells #[.int .i64 x.f0, .int .i64 x.f1, .int .i64 x.f2] 56)).alloc (.cells #[.int .i64 y.f0, .int .i64 y.f1, .int .i64 y.f2] 56)).heap.size = w.heap.size + 1 + 1 from by simp] at b1
  have b2 := heap_alloc_new (((w.alloc (.cells #[.int .i64 x.f0, .int .i64 x.f1, .int .i64 x.f2] 56)).alloc (.cells #[.int .i64 y.f0, .int .i64 y.f1, .int .i64 y.f2] 56)).alloc (.cells #[.int .i64 x.f0, .int .i64 x.f1, .int .i64 x.f2] 3)) (.cells #[.int .i64 y.f0, .int .i64 y.f1, .int .i64 y.f2] 3)
  rw [show (((w.alloc (.cells #[.int .i64 x.f0, .int .i64 x.f1, .int .i64 x.f2] 56)).alloc (.cells #[.int .i64 y.f0, .int .i64 y.f1, .int .i64 y.f2] 56)).alloc (.cells #[.int .i64 x.f0, .int .i64 x.f1, .int .i64 x.f2] 3)).heap.size = w.heap.size + 1 + 1 + 1 from by simp] at b2
  refine (HC.out _ _ _ (C_lit3 (blk_alloc b1 _)) (C_lit3 b2)).mono ?_
  clear b1 b2
  rintro e w' ⟨rfl, hd⟩
  have HD := Aside0.mk (below_step (below_alloc (below_alloc (below_alloc (below_alloc (Below.refl w.heap.size w) _) _) _) _) hd.below)
  clear hd
  go_wp2_with fail
  go_ret
  exact ⟨rfl, HD.out⟩
def impl_compareCuts.f (a0_0 a0_1 : Int) (l0_2 : List Sq) (a1_0 a1_1 : Int) (l1_2 : List Sq) : Option Int := if l0_2.length ≤ 1000000000 ∧ l1_2.length ≤ 1000000000 then some (cmpFL cmp3 l0_2 l1_2) else none
set_option maxHeartbeats 2000000 in
theorem impl_compareCuts.calls (a0_0 a0_1 : Int) (A0_2 : Option Addr) (c0_2 : Nat) (l0_2 : List Sq) (a1_0 a1_1 : Int) (A1_2 : Option Addr) (c1_2 : Nat) (l1_2 : List Sq) (r : Int) (w : World) (hr0_2 : Kd.C k56 w A0_2 l0_2.length l0_2) (hc0_2 : l0_2.length ≤ c0_2) (hr1_2 : Kd.C k56 w A1_2 l1_2.length l1_2) (hc1_2 : l1_2.length ≤ c1_2) (h : impl_compareCuts.f a0_0 a0_1 l0_2 a1_0 a1_1 l1_2 = some r) :
    Calls Try.prog 64 #[.agg #[.int .i64 a0_0, .int .i64 a0_1, .slice A0_2 l0_2.length c0_2], .agg #[.int .i64 a1_0, .int .i64 a1_1, .slice A1_2 l1_2.length c1_2]] w fun e w' => e = .returned (.int .i64 r) ∧ Below w.heap.size w w' := by
  unfold impl_compareCuts.f at h
  by_cases hl : l0_2.length ≤ 1000000000 ∧ l1_2.length ≤ 1000000000
  · rw [if_pos hl] at h
    obtain rfl : cmpFL cmp3 l0_2 l1_2 = r := Option.some.inj h
    have HC := Aside0.mk (fun (V : World) (hV : Below w.heap.size w V) => slices_CompareFunc_sq l0_2 l1_2 A0_2 A1_2 c0_2 c1_2 90 cmp3 V (Kd.C_below hr0_2 hV) (Kd.C_below hr1_2 hV) hl.1 hl.2 (enters_of Try.func90 (by kernel_rfl) rfl) (fun W x y => compareClo x y W))
    have hu29 := Try.underlying37
    clear hr0_2 hr1_2 hc0_2 hc1_2 h hl
    go_enter Try.func64, Try.ntmps64
    go_wp2_with (go_at_call 89; refine (HC.out _ (below_alloc (below_alloc (Below.refl _ _) _) _)).mono ?_; rintro e w' ⟨rfl, hb⟩; have HB := Aside0.mk (below_step (below_alloc (below_alloc (Below.refl w.heap.size w) _) _) hb); clear hb)
    go_ret
    exact ⟨rfl, HB.out⟩
  · rw [if_neg hl] at h; cases h

end Go.Proofs.Ytdfcljfajiihdaa.P

namespace Go.Proofs.Ytdfcljfajiihdaa.P
open Go.RowKit Go.Proofs.YtdfcljfajiihdaaW.PrintWords Go.Proofs.YtdfcljfajiihdaaW.PrintLast Go.Proofs.YtdfcljfajiihdaaW.PrintMore
attribute [local go_sem] max2_int min2_int max_two min_two max_three min_three max_four min_four
set_option linter.unusedVariables false
set_option linter.unusedSimpArgs false

/-! ### impl_RankOfCut: function 27 -/
open Go.Proofs.Ytdfcljfajiihdaa.T Go.Proofs.Ytdfcljfajiihdaa.Aid
/-- the same squares, as the program compares them -/
def sameC (l : List Sq) (x : Ct) : Bool := decide (cmpFL cmp3 l x.f2 = 0)
set_option maxHeartbeats 2000000 in
theorem rank_clo (q x : Ct) (B : Nat) (A A' : Option Addr) (c c' : Nat) (W : World) (h0 : W.cell? ⟨B, 0, none⟩ = some (.int .i64 q.f0)) (h1 : W.cell? ⟨B, 1, none⟩ = some (.int .i64 q.f1)) (h2 : W.cell? ⟨B, 2, none⟩ = some (.slice A q.f2.length c))
    (hq : Kd.C k56 W A q.f2.length q.f2) (hqc : q.f2.length ≤ c) (hx : Kd.C k56 W A' x.f2.length x.f2) (hxc : x.f2.length ≤ c') (hl : q.f2.length ≤ 1000000000 ∧ x.f2.length ≤ 1000000000) :
    Calls Try.prog 63 #[.agg #[.int .i64 x.f0, .int .i64 x.f1, .slice A' x.f2.length c'], .pointer (some ⟨B, 0, none⟩)] W fun e w' => e = .returned (.bool (sameC q.f2 x)) ∧ Below W.heap.size W w' := by
  obtain ⟨z, hz⟩ : ∃ z, cmpFL cmp3 q.f2 x.f2 = z := ⟨_, rfl⟩
  have HC := Aside0.mk (fun (V : World) (hV : Below W.heap.size W V) => impl_compareCuts.calls q.f0 q.f1 A c q.f2 x.f0 x.f1 A' c' x.f2 z V (Kd.C_below hq hV) hqc (Kd.C_below hx hV) hxc (by unfold impl_compareCuts.f; rw [if_pos hl, hz]))
  have hb : (z == 0) = sameC q.f2 x := by unfold sameC; rw [hz]; rfl
  have HBB := Aside0.mk hb
  have hu29 := Try.underlying37
  have k0 := ((below_alloc (Below.refl W.heap.size W) (.cells #[.int .i64 x.f0, .int .i64 x.f1, .slice A' x.f2.length c'] 37)).cell (World.block_lt_of_cell? W _ h0)).trans h0
  have k1 := ((below_alloc (Below.refl W.heap.size W) (.cells #[.int .i64 x.f0, .int .i64 x.f1, .slice A' x.f2.length c'] 37)).cell (World.block_lt_of_cell? W _ h1)).trans h1
  have k2 := ((below_alloc (Below.refl W.heap.size W) (.cells #[.int .i64 x.f0, .int .i64 x.f1, .slice A' x.f2.length c'] 37)).cell (World.block_lt_of_cell? W _ h2)).trans h2
  clear hq hqc hx hxc hl hz hb
  go_enter Try.func63, Try.ntmps63
  go_wp2_with (go_at_call 64; refine (HC.out _ (below_alloc (Below.refl _ _) _)).mono ?_; rintro e w' ⟨rfl, hb⟩; have HB := Aside0.mk (below_step (below_alloc (Below.refl W.heap.size W) _) hb); clear hb)
  go_ret
  exact ⟨by rw [← HBB.out]; rfl, HB.out⟩
def impl_RankOfCut.f (a0_0 a0_1 : Int) (l0_2 : List Sq) : Option (Int × Bool) := if isCutB a0_0 a0_1 l0_2 = true then ((impl_isListed.f a0_0 a0_1).bind fun t => if t = true then ((impl_allCuts.f a0_0 a0_1).bind fun L => if l0_2.length ≤ 1000000000 ∧ L.all (fun x => decide (x.f2.length ≤ 1000000000)) = true then some (idxF (sameC l0_2) L 0, true) else none) else some (0, false)) else some (0, false)
set_option maxHeartbeats 4000000 in
theorem impl_RankOfCut.calls (a0_0 a0_1 : Int) (A0_2 : Option Addr) (c0_2 : Nat) (l0_2 : List Sq) (r1 : Int) (r2 : Bool) (w : World) (hr0_2 : Kd.C k56 w A0_2 l0_2.length l0_2) (hc0_2 : l0_2.length ≤ c0_2) (h : impl_RankOfCut.f a0_0 a0_1 l0_2 = some (r1, r2)) :
    Calls Try.prog 27 #[.agg #[.int .i64 a0_0, .int .i64 a0_1, .slice A0_2 l0_2.length c0_2]] w fun e w' => e = .returned (.tuple #[.int .i64 r1, .bool r2]) ∧ Below w.heap.size w w' := by
  unfold impl_RankOfCut.f at h
  have hu29 := Try.underlying37
  obtain ⟨b, hb⟩ : ∃ b, isCutB a0_0 a0_1 l0_2 = b := ⟨_, rfl⟩
  rw [hb] at h
  have HC := Aside0.mk (fun (V : World) (hV : Below w.heap.size w V) => impl_IsCut.calls a0_0 a0_1 A0_2 c0_2 l0_2 b V (Kd.C_below hr0_2 hV) hc0_2 (by unfold impl_IsCut.f; rw [hb]))
  have HBX := Aside0.mk (heap_alloc_new w (.cells #[.int .i64 a0_0, .int .i64 a0_1, .slice A0_2 l0_2.length c0_2] 37))
  have HW := Aside0.mk (below_alloc (Below.refl w.heap.size w) (.cells #[.int .i64 a0_0, .int .i64 a0_1, .slice A0_2 l0_2.length c0_2] 37))
  have HR0 := Aside0.mk hr0_2
  have HC0 := Aside0.mk hc0_2
  clear hr0_2 hc0_2 hb
  cases b with
  | false =>
    rw [if_neg (by decide)] at h
    obtain ⟨rfl, rfl⟩ : (0 : Int) = r1 ∧ false = r2 := by simpa using h
    clear h
    go_enter Try.func27, Try.ntmps27
    go_wp2_with (go_at_call 45; refine (HC.out _ HW.out).mono ?_; rintro e w1 ⟨rfl, hb⟩; have HB1 := Aside0.mk (below_step HW.out hb); clear hb)
    go_ret2
    exact ⟨rfl, HB1.out⟩
  | true =>
    rw [if_pos rfl] at h
    obtain ⟨t, ht, h⟩ := Option.bind_eq_some_iff.mp h
    have HT := Aside0.mk (fun V => impl_isListed.calls a0_0 a0_1 t V ht)
    clear ht
    cases t with
    | false =>
      rw [if_neg (by decide)] at h
      obtain ⟨rfl, rfl⟩ : (0 : Int) = r1 ∧ false = r2 := by simpa using h
      clear h
      go_enter Try.func27, Try.ntmps27
      go_wp2_with (first | (go_at_call 45; refine (HC.out _ HW.out).mono ?_; rintro e w1 ⟨rfl, hb⟩; have HB1 := Aside0.mk (below_step HW.out hb); have hx := blk_below HBX.out hb; have n0 : w1.cell? ⟨w.heap.size, 0, none⟩ = some (.int .i64 a0_0) := (blk_cell hx 0).trans rfl; have n1 : w1.cell? ⟨w.heap.size, 1, none⟩ = some (.int .i64 a0_1) := (blk_cell hx 1).trans rfl; clear hx hb) | (go_at_call 60; refine (HT.out _).mono ?_; rintro e w2 ⟨rfl, hd⟩; have HB2 := Aside0.mk (below_step HB1.out hd.below); clear hd))
      go_ret2
      exact ⟨rfl, HB2.out⟩
    | true =>
      rw [if_pos rfl] at h
      obtain ⟨L, hL, h⟩ := Option.bind_eq_some_iff.mp h
      by_cases hk : l0_2.length ≤ 1000000000 ∧ L.all (fun x => decide (x.f2.length ≤ 1000000000)) = true
      · rw [if_pos hk] at h
        obtain ⟨rfl, rfl⟩ : idxF (sameC l0_2) L 0 = r1 ∧ true = r2 := by simpa using h
        have HL := Aside0.mk (fun V => impl_allCuts.calls a0_0 a0_1 L V hL)
        have HK := Aside0.mk hk
        clear h hL hk
        go_enter Try.func27, Try.ntmps27
        go_wp2_with (first | (go_at_call 45; refine (HC.out _ HW.out).mono ?_; rintro e w1 ⟨rfl, hb⟩; have HB1 := Aside0.mk (below_step HW.out hb); have hx := blk_below HBX.out hb; have HX1 := Aside0.mk hx; have n0 : w1.cell? ⟨w.heap.size, 0, none⟩ = some (.int .i64 a0_0) := (blk_cell hx 0).trans rfl; have n1 : w1.cell? ⟨w.heap.size, 1, none⟩ = some (.int .i64 a0_1) := (blk_cell hx 1).trans rfl; clear hx hb) | (go_at_call 60; refine (HT.out _).mono ?_; rintro e w2 ⟨rfl, hd⟩; have HB2 := Aside0.mk (below_step HB1.out hd.below); have hx := blk_below HX1.out hd.below; have HX2 := Aside0.mk hx; have m0 : w2.cell? ⟨w.heap.size, 0, none⟩ = some (.int .i64 a0_0) := (blk_cell hx 0).trans rfl; have m1 : w2.cell? ⟨w.heap.size, 1, none⟩ = some (.int .i64 a0_1) := (blk_cell hx 1).trans rfl; clear hx hd) | (go_at_call 62; refine (HL.out _).mono ?_; rintro e w3 ⟨v, rfl, ho, hb⟩; obtain ⟨A3, c3, e3⟩ := Kd.S_slice ho; subst e3; have HO := Aside0.mk ho; have HB3 := Aside0.mk (below_step HB2.out hb); have HX3 := Aside0.mk (blk_below HX2.out hb); clear ho hb) | (go_at_call 61; refine (slices_IndexFunc_cut L A3 c3 63 #[.pointer (some ⟨w.heap.size, 0, none⟩)] (sameC l0_2) _ (Kd.S_reads' HO.out).2.2 (Kd.S_reads' HO.out).2.1 (enters_of Try.func63 (by kernel_rfl) rfl) ?hp).mono ?_; (case hp => exact fun W x A' c' hW hm hx hxc => ((rank_clo ⟨a0_0, a0_1, l0_2⟩ x w.heap.size A0_2 A' c0_2 c' W ((blk_cell (blk_below HX3.out hW) 0).trans rfl) ((blk_cell (blk_below HX3.out hW) 1).trans rfl) ((blk_cell (blk_below HX3.out hW) 2).trans rfl) (Kd.C_below HR0.out (HB3.out.trans (hW.mono HB3.out.size))) HC0.out hx hxc ⟨HK.out.1, by simpa using List.all_eq_true.1 HK.out.2 x hm⟩).mono (fun _ _ ⟨h1, h2⟩ => ⟨h1, below_step hW h2⟩))); rintro e w4 ⟨rfl, hb⟩; have HB4 := Aside0.mk (below_step HB3.out hb); clear hb))
        go_ret2
        exact ⟨rfl, HB4.out⟩
      · rw [if_neg hk] at h; cases h

end Go.Proofs.Ytdfcljfajiihdaa.P
