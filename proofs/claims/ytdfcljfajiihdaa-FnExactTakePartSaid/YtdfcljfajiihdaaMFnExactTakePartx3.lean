import Derived.Test.YtdfcljfajiihdaaMFnExactTakePartx0
import Derived.Test.YtdfcljfajiihdaaMFnExactTakePartx1
import Derived.Test.YtdfcljfajiihdaaMFnExactTakePartx2
import Derived.Shelf.Abstract
namespace Go.Proofs.Ytdfcljfajiihdaa.P
open Go.RowKit Go.Proofs.YtdfcljfajiihdaaW.PrintWords Go.Proofs.YtdfcljfajiihdaaW.PrintLast Go.Proofs.Ytdfcljfajiihdaa.Wm
attribute [local go_sem] max2_int min2_int max_two min_two
set_option linter.unusedVariables false
set_option linter.unusedSimpArgs false
def ovl (a b : S56) : Bool := decide (a.f0 < wrap64 (b.f0 + b.f2)) && decide (b.f0 < wrap64 (a.f0 + a.f2)) && decide (a.f1 < wrap64 (b.f1 + b.f2)) && decide (b.f1 < wrap64 (a.f1 + a.f2))
theorem ovl_f (a b : S56) : impl_overlap.f a.f0 a.f1 a.f2 b.f0 b.f1 b.f2 = some (ovl a b) := by
  unfold impl_overlap.f ovl
  by_cases c1 : a.f0 < wrap64 (b.f0 + b.f2) <;> by_cases c2 : b.f0 < wrap64 (a.f0 + a.f2) <;> by_cases c3 : a.f1 < wrap64 (b.f1 + b.f2) <;> simp [c1, c2, c3]
theorem impl_IsCut_clo (x s : S56) (B : Nat) (w : World) (hB : B < w.heap.size) (h0 : w.cell? ⟨B, 0, none⟩ = some (.int .i64 s.f0)) (h1 : w.cell? ⟨B, 1, none⟩ = some (.int .i64 s.f1)) (h2 : w.cell? ⟨B, 2, none⟩ = some (.int .i64 s.f2)) :
    Calls Try.prog 79 #[.agg #[.int .i64 x.f0, .int .i64 x.f1, .int .i64 x.f2], .pointer (some ⟨B, 0, none⟩)] w fun e w' => e = .returned (.bool (ovl s x)) ∧ Below w.heap.size w w' := by
  have HF := Aside0.mk (fun W => impl_overlap.calls s.f0 s.f1 s.f2 x.f0 x.f1 x.f2 _ W (ovl_f s x))
  generalize ovl s x = b at HF ⊢
  have hne : B ≠ w.heap.size := by omega
  go_enter Try.func79, Try.ntmps79
  go_wp2_with (go_at_call 80; refine (HF.out _).mono ?_; rintro e w' ⟨rfl, hb⟩)
  go_ret
  exact ⟨rfl, ((Below.refl _ _).alloc (Nat.le_refl _) _).trans (hb.mono (by simp))⟩
def cmpP (a b : S56) : Int := if a.f1 = b.f1 then wrap64 (a.f0 - b.f0) else wrap64 (a.f1 - b.f1)
theorem cmpP_f (a b : S56) : impl_comparePlaces.f a.f0 a.f1 a.f2 b.f0 b.f1 b.f2 = some (cmpP a b) := by
  unfold impl_comparePlaces.f cmpP; split <;> rfl
theorem within_b (n lo hi : Int) : impl_within.f n lo hi = some (decide (lo ≤ n) && decide (n ≤ hi)) := by
  unfold impl_within.f; by_cases c : lo ≤ n <;> simp [c]
theorem isWide_b (n : Int) : impl_isWide.f n = some (decide (1 ≤ n) && decide (n ≤ 500)) := by
  unfold impl_isWide.f; rw [within_b]; rfl
def ok1 (W H : Int) (s : S56) : Bool := decide (1 ≤ s.f2) && decide (s.f2 ≤ mn W H)
def ok2 (W : Int) (s : S56) : Bool := decide (0 ≤ s.f0) && decide (s.f0 ≤ wrap64 (W - s.f2))
def ok3 (H : Int) (s : S56) : Bool := decide (0 ≤ s.f1) && decide (s.f1 ≤ wrap64 (H - s.f2))
def ok4 (l : List S56) (s : S56) (i : Nat) : Bool := decide (i = 0) || decide (cmpP (rd_T56 l ((i - 1 : Nat) : Int)) s < 0)
def okAt (W H : Int) (l : List S56) (i : Nat) : Bool :=
  let s := rd_T56 l (i : Int)
  ok1 W H s && ok2 W s && ok3 H s && ok4 l s i && !((l.take i).any (ovl s))
def areaW : List S56 → Int → Int
  | [], a => a
  | s :: l, a => areaW l (wrap64 (a + wrap64 (s.f2 * s.f2)))
theorem areaW_snoc (l : List S56) (s : S56) : ∀ a, areaW (l ++ [s]) a = wrap64 (areaW l a + wrap64 (s.f2 * s.f2)) := by
  induction l with
  | nil => intro a; rfl
  | cons t l ih => intro a; simp only [List.cons_append, areaW, ih]
def isCutB (W H : Int) (l : List S56) : Bool :=
  (decide (1 ≤ W) && decide (W ≤ 500)) && (decide (1 ≤ H) && decide (H ≤ 500)) && decide (l.length ≤ 30) && (List.range l.length).all (okAt W H l) && decide (areaW l 0 = wrap64 (W * H))
def impl_IsCut.f (a0_0 : Int) (a0_1 : Int) (l0_2 : List S56) : Option Bool := some (isCutB a0_0 a0_1 l0_2)
open Go.Proofs.Ytdfcljfajiihdaa.Gr in
set_option maxHeartbeats 4000000 in
set_option maxRecDepth 100000 in
theorem impl_IsCut.calls (a0_0 : Int) (a0_1 : Int) (A0_2 : Option Addr) (c0_2 : Nat) (l0_2 : List S56) (r : Bool) (w : World) (hr0_2 : Kd.C k56 w A0_2 l0_2.length l0_2) (hc0_2 : l0_2.length ≤ c0_2) (h : impl_IsCut.f a0_0 a0_1 l0_2 = some r) :
    Calls Try.prog 45 #[.agg #[.int .i64 a0_0, .int .i64 a0_1, .slice A0_2 l0_2.length c0_2]] w fun e w' => e = .returned (.bool r) ∧ Below w.heap.size w w' := by
  obtain rfl : isCutB a0_0 a0_1 l0_2 = r := Option.some.inj h
  clear h
  have hlen := hr0_2.2.1
  have HR := Aside0.mk hr0_2
  clear hr0_2
  have HW := Aside0.mk (fun n W => impl_isWide.calls n _ W (isWide_b n))
  have eg : ∀ args w, (callFunc 79 args).run Try.prog w = .ok (.enter 79 args) w := enters_of Try.func79 (by kernel_rfl) rfl
  have hu := Try.underlying56
  have hu2 := Try.underlying37
  generalize hq : isCutB a0_0 a0_1 l0_2 = q
  have HQ := Aside0.mk hq
  clear hq
  cases b1 : (decide (1 ≤ a0_0) && decide (a0_0 ≤ 500)) with
  | false =>
    have hq : q = false := by rw [← HQ.out]; unfold isCutB; rw [b1]; simp
    subst hq
    have H1 := Aside0.mk (fun W => by have := HW.out a0_0 W; rw [b1] at this; exact this)
    clear b1
    go_enter Try.func45, Try.ntmps45
    go_wp2_with (go_at_call 76; refine (H1.out _).mono ?_; rintro e w1 ⟨rfl, ⟨nd, rfl⟩⟩)
    go_ret
    exact ⟨rfl, by repeat (first | exact Below.refl _ _ | apply pw_below_drewN | apply below_alloc)⟩
  | true =>
  cases b2 : (decide (1 ≤ a0_1) && decide (a0_1 ≤ 500)) with
  | false =>
    have hq : q = false := by rw [← HQ.out]; unfold isCutB; rw [b2]; simp
    subst hq
    have H1 := Aside0.mk (fun W => by have := HW.out a0_0 W; rw [b1] at this; exact this)
    have H2 := Aside0.mk (fun W => by have := HW.out a0_1 W; rw [b2] at this; exact this)
    clear b1 b2
    go_enter Try.func45, Try.ntmps45
    go_wp2_with fail
    refine (H1.out _).mono ?_
    rintro e w1 ⟨rfl, ⟨nd, rfl⟩⟩
    go_wp2_with fail
    refine (H2.out _).mono ?_
    rintro e w1 ⟨rfl, ⟨nd2, rfl⟩⟩
    go_wp2
    go_ret
    exact ⟨rfl, by repeat (first | exact Below.refl _ _ | apply pw_below_drewN | apply below_alloc)⟩
  | true =>
  cases b3 : decide (l0_2.length ≤ 30) with
  | false =>
    have hq : q = false := by rw [← HQ.out]; unfold isCutB; rw [b3]; simp
    subst hq
    have b3' : decide (30 < l0_2.length) = true := by simp at b3 ⊢; omega
    have b3z : decide ((30 : Int) < (l0_2.length : Int)) = true := by simp at b3 ⊢; omega
    have H1 := Aside0.mk (fun W => by have := HW.out a0_0 W; rw [b1] at this; exact this)
    have H2 := Aside0.mk (fun W => by have := HW.out a0_1 W; rw [b2] at this; exact this)
    clear b1 b2 b3
    go_enter Try.func45, Try.ntmps45
    go_wp2_with fail
    refine (H1.out _).mono ?_
    rintro e w1 ⟨rfl, ⟨nd, rfl⟩⟩
    go_wp2_with fail
    refine (H2.out _).mono ?_
    rintro e w1 ⟨rfl, ⟨nd2, rfl⟩⟩
    go_wp2
    go_ret
    exact ⟨rfl, by repeat (first | exact Below.refl _ _ | apply pw_below_drewN | apply below_alloc)⟩
  | true =>
    have b3' : decide (30 < l0_2.length) = false := by simp at b3 ⊢; omega
    have b3z : decide ((30 : Int) < (l0_2.length : Int)) = false := by simp at b3 ⊢; omega
    have B123 := Aside0.mk (And.intro b1 (And.intro b2 b3))
    have H1 := Aside0.mk (fun W => by have := HW.out a0_0 W; rw [b1] at this; exact this)
    have H2 := Aside0.mk (fun W => by have := HW.out a0_1 W; rw [b2] at this; exact this)
    clear b1 b2 b3
    go_enter Try.func45, Try.ntmps45
    go_wp2_with fail
    refine (H1.out _).mono ?_
    rintro e w1 ⟨rfl, ⟨nd, rfl⟩⟩
    go_wp2_with fail
    refine (H2.out _).mono ?_
    rintro e w1 ⟨rfl, ⟨nd2, rfl⟩⟩
    go_wp2
    clear b3' b3z
    have HC0 : ∀ X, X = ((w.alloc (.cells #[.int .i64 a0_0, .int .i64 a0_1, .slice A0_2 l0_2.length c0_2] 37)).drewN (nd + nd2)) → Aside0 (Below w.heap.size w X ∧ X.heap.size = w.heap.size + 1 ∧ X.cell? ⟨w.heap.size, 0, none⟩ = some (.int .i64 a0_0) ∧ X.cell? ⟨w.heap.size, 1, none⟩ = some (.int .i64 a0_1) ∧ X.cell? ⟨w.heap.size, 2, none⟩ = some (.slice A0_2 l0_2.length c0_2)) := by
      rintro X rfl
      exact ⟨by repeat (first | exact Below.refl _ _ | apply pw_below_drewN | apply below_alloc), by simp, by simp, by simp, by simp⟩
    replace HC0 := HC0 _ rfl
    generalize ((w.alloc (.cells #[.int .i64 a0_0, .int .i64 a0_1, .slice A0_2 l0_2.length c0_2] 37)).drewN (nd + nd2)) = W1 at HC0 ⊢
    have HI := Aside0.mk (fun a b c W => impl_within.calls a b c _ W (within_b a b c))
    go_loopg [3, 4, 5, 25] l0_2.length (fun gg v3 v4 v5 v25 wc => ∃ i : Nat, i ≤ l0_2.length ∧ l0_2.length - i ≤ gg ∧ v25 = .int .i64 i ∧ v3 = .int .i64 (areaW (l0_2.take i) 0) ∧ Aside0 (Below W1.heap.size W1 wc) ∧ Aside0 (∀ j, j < i → okAt a0_0 a0_1 l0_2 j = true))
    case atStart => exact ⟨0, by omega, by omega, rfl, rfl, ⟨Below.refl _ _⟩, ⟨fun j hj => by omega⟩⟩
    case round =>
      obtain ⟨i, hi, hg, rfl, rfl, HB, HO⟩ := hrel
      have HBw := Aside0.mk (HC0.out.1.trans (HB.out.mono HC0.out.1.size))
      have hsz : w.heap.size < wr.heap.size := by have h1 := HC0.out.2.1; have h2 := HB.out.size; omega
      have d0 : wr.cell? ⟨w.heap.size, 0, none⟩ = some (.int .i64 a0_0) := (HB.out.cell (p := ⟨w.heap.size, 0, none⟩) (by have := HC0.out.2.1; show w.heap.size < _; omega)).trans HC0.out.2.2.1
      have d1 : wr.cell? ⟨w.heap.size, 1, none⟩ = some (.int .i64 a0_1) := (HB.out.cell (p := ⟨w.heap.size, 1, none⟩) (by have := HC0.out.2.1; show w.heap.size < _; omega)).trans HC0.out.2.2.2.1
      have d2 : wr.cell? ⟨w.heap.size, 2, none⟩ = some (.slice A0_2 l0_2.length c0_2) := (HB.out.cell (p := ⟨w.heap.size, 2, none⟩) (by have := HC0.out.2.1; show w.heap.size < _; omega)).trans HC0.out.2.2.2.2
      by_cases hlt : i < l0_2.length
      · have hltz : decide ((i : Int) < (l0_2.length : Int)) = true := by simp; omega
        obtain ⟨ad, e1, hx0, hx1, hx2⟩ := at_T56 (Kd.C_below HR.out HBw.out) (i : Int) (by omega) (by omega)
        cases e1
        simp only [Int.toNat_natCast] at hx0 hx1 hx2
        have HOK : Aside0 (okAt a0_0 a0_1 l0_2 i = (ok1 a0_0 a0_1 (rd_T56 l0_2 (i : Int)) && ok2 a0_0 (rd_T56 l0_2 (i : Int)) && ok3 a0_1 (rd_T56 l0_2 (i : Int)) && ok4 l0_2 (rd_T56 l0_2 (i : Int)) i && !((l0_2.take i).any (ovl (rd_T56 l0_2 (i : Int)))))) := ⟨rfl⟩
        have HNX : Aside0 (l0_2.take (i + 1) = l0_2.take i ++ [rd_T56 l0_2 (i : Int)]) := ⟨by rw [List.take_succ_eq_append_getElem hlt]; simp [rd_T56, hlt]⟩
        generalize hss : rd_T56 l0_2 (i : Int) = s at hx0 hx1 hx2 HOK HNX
        clear hss
        have hne : w.heap.size ≠ wr.heap.size := by omega
        have HF := Aside0.mk (fun (h : okAt a0_0 a0_1 l0_2 i = false) => show isCutB a0_0 a0_1 l0_2 = false by
          unfold isCutB
          have : (List.range l0_2.length).all (okAt a0_0 a0_1 l0_2) = false := by
            rw [List.all_eq_false]; exact ⟨i, List.mem_range.2 hlt, by rw [h]; simp⟩
          rw [this]; simp)
        obtain ⟨m, hm⟩ : ∃ m, mn a0_0 a0_1 = m := ⟨_, rfl⟩
        have hmm : (if a0_1 < a0_0 then a0_1 else a0_0) = m := hm
        have HM := Aside0.mk hm
        clear hm
        cases k1 : ok1 a0_0 a0_1 s with
        | false =>
          have hq : q = false := by rw [← HQ.out]; exact HF.out (by rw [HOK.out, k1]; simp)
          subst hq
          have V1 : Aside0 (∀ W, Calls Try.prog 32 #[.int .i64 s.f2, .int .i64 1, .int .i64 m] W fun e w' => e = .returned (.bool false) ∧ Drawn0 W w') := ⟨fun W => by have := HI.out s.f2 1 m W; rw [show (decide (1 ≤ s.f2) && decide (s.f2 ≤ m)) = false from by rw [← HM.out]; exact k1] at this; exact this⟩
          clear k1
          go_wp2_with fail
          refine (V1.out _).mono ?_
          rintro e w1 ⟨rfl, ⟨nd1, rfl⟩⟩
          go_wp2
          go_ret
          exact ⟨rfl, by repeat (first | exact HBw.out | apply pw_below_drewN | apply below_alloc)⟩
        | true =>
        have V1 : Aside0 (∀ W, Calls Try.prog 32 #[.int .i64 s.f2, .int .i64 1, .int .i64 m] W fun e w' => e = .returned (.bool true) ∧ Drawn0 W w') := ⟨fun W => by have := HI.out s.f2 1 m W; rw [show (decide (1 ≤ s.f2) && decide (s.f2 ≤ m)) = true from by rw [← HM.out]; exact k1] at this; exact this⟩
        have K1 := Aside0.mk k1
        clear k1
        cases k2 : ok2 a0_0 s with
        | false =>
          have hq : q = false := by rw [← HQ.out]; exact HF.out (by rw [HOK.out, k2]; simp)
          subst hq
          have V2 : Aside0 (∀ W, Calls Try.prog 32 #[.int .i64 s.f0, .int .i64 0, .int .i64 (wrap64 (a0_0 - s.f2))] W fun e w' => e = .returned (.bool false) ∧ Drawn0 W w') := ⟨fun W => by have := HI.out s.f0 0 (wrap64 (a0_0 - s.f2)) W; rw [show (decide (0 ≤ s.f0) && decide (s.f0 ≤ wrap64 (a0_0 - s.f2))) = false from k2] at this; exact this⟩
          clear k2
          go_wp2_with fail
          refine (V1.out _).mono ?_
          rintro e w1 ⟨rfl, ⟨nd1, rfl⟩⟩
          go_wp2_with fail
          refine (V2.out _).mono ?_
          rintro e w1 ⟨rfl, ⟨nd1, rfl⟩⟩
          go_wp2
          go_ret
          exact ⟨rfl, by repeat (first | exact HBw.out | apply pw_below_drewN | apply below_alloc)⟩
        | true =>
        have V2 : Aside0 (∀ W, Calls Try.prog 32 #[.int .i64 s.f0, .int .i64 0, .int .i64 (wrap64 (a0_0 - s.f2))] W fun e w' => e = .returned (.bool true) ∧ Drawn0 W w') := ⟨fun W => by have := HI.out s.f0 0 (wrap64 (a0_0 - s.f2)) W; rw [show (decide (0 ≤ s.f0) && decide (s.f0 ≤ wrap64 (a0_0 - s.f2))) = true from k2] at this; exact this⟩
        have K2 := Aside0.mk k2
        clear k2
        cases k3 : ok3 a0_1 s with
        | false =>
          have hq : q = false := by rw [← HQ.out]; exact HF.out (by rw [HOK.out, k3]; simp)
          subst hq
          have V3 : Aside0 (∀ W, Calls Try.prog 32 #[.int .i64 s.f1, .int .i64 0, .int .i64 (wrap64 (a0_1 - s.f2))] W fun e w' => e = .returned (.bool false) ∧ Drawn0 W w') := ⟨fun W => by have := HI.out s.f1 0 (wrap64 (a0_1 - s.f2)) W; rw [show (decide (0 ≤ s.f1) && decide (s.f1 ≤ wrap64 (a0_1 - s.f2))) = false from k3] at this; exact this⟩
          clear k3
          go_wp2_with fail
          refine (V1.out _).mono ?_
          rintro e w1 ⟨rfl, ⟨nd1, rfl⟩⟩
          go_wp2_with fail
          refine (V2.out _).mono ?_
          rintro e w1 ⟨rfl, ⟨nd1, rfl⟩⟩
          go_wp2_with fail
          refine (V3.out _).mono ?_
          rintro e w1 ⟨rfl, ⟨nd1, rfl⟩⟩
          go_wp2
          go_ret
          exact ⟨rfl, by repeat (first | exact HBw.out | apply pw_below_drewN | apply below_alloc)⟩
        | true =>
        have V3 : Aside0 (∀ W, Calls Try.prog 32 #[.int .i64 s.f1, .int .i64 0, .int .i64 (wrap64 (a0_1 - s.f2))] W fun e w' => e = .returned (.bool true) ∧ Drawn0 W w') := ⟨fun W => by have := HI.out s.f1 0 (wrap64 (a0_1 - s.f2)) W; rw [show (decide (0 ≤ s.f1) && decide (s.f1 ≤ wrap64 (a0_1 - s.f2))) = true from k3] at this; exact this⟩
        have K3 := Aside0.mk k3
        clear k3
        go_wp2_with fail
        refine (V1.out _).mono ?_
        rintro e w1 ⟨rfl, ⟨nd1, rfl⟩⟩
        go_wp2_with fail
        refine (V2.out _).mono ?_
        rintro e w1 ⟨rfl, ⟨nd2', rfl⟩⟩
        go_wp2_with fail
        refine (V3.out _).mono ?_
        rintro e w1 ⟨rfl, ⟨nd3, rfl⟩⟩
        go_wp2
        have HX : ∀ X, X = ((wr.alloc (.cells #[.int .i64 s.f0, .int .i64 s.f1, .int .i64 s.f2] 56)).drewN (nd1 + nd2' + nd3)) → Aside0 (Below w.heap.size w X ∧ Below W1.heap.size W1 X ∧ X.heap.size = wr.heap.size + 1) ∧ X.cell? ⟨w.heap.size, 2, none⟩ = some (.slice (some ad) l0_2.length c0_2) ∧ X.cell? ⟨wr.heap.size, 0, none⟩ = some (.int .i64 s.f0) ∧ X.cell? ⟨wr.heap.size, 1, none⟩ = some (.int .i64 s.f1) ∧ X.cell? ⟨wr.heap.size, 2, none⟩ = some (.int .i64 s.f2) := by
          rintro X rfl
          refine ⟨⟨by repeat (first | exact HBw.out | apply pw_below_drewN | apply below_alloc), by repeat (first | exact HB.out | apply pw_below_drewN | apply below_alloc), by simp⟩, ?_, ?_, ?_, ?_⟩
          · have hbx : Below wr.heap.size wr ((wr.alloc (.cells #[.int .i64 s.f0, .int .i64 s.f1, .int .i64 s.f2] 56)).drewN (nd1 + nd2' + nd3)) := by repeat (first | exact Below.refl _ _ | apply pw_below_drewN | apply below_alloc)
            exact (hbx.cell (p := ⟨w.heap.size, 2, none⟩) hsz).trans d2
          · simp
          · simp
          · simp
        obtain ⟨XF, x0, x1, x2, x3⟩ := HX _ rfl
        generalize ((wr.alloc (.cells #[.int .i64 s.f0, .int .i64 s.f1, .int .i64 s.f2] 56)).drewN (nd1 + nd2' + nd3)) = X at XF x0 x1 x2 x3 ⊢
        clear HX d0 d1 d2 hx0 hx1 hx2
        have HCF : Aside0 (∀ W, Below X.heap.size X W → Calls Try.prog 78 #[.slice (some ad) i c0_2, .func (.func 79) #[] #[.pointer (some ⟨wr.heap.size, 0, none⟩)]] W fun e w' => e = .returned (.bool ((l0_2.take i).any (ovl s))) ∧ Below W.heap.size W w') := ⟨fun W hW => by
          have hC := Kd.C_below (Kd.C_below HR.out XF.out.1) hW
          have hT : Kd.C k56 W (some ad) (l0_2.take i).length (l0_2.take i) := by
            refine ⟨rfl, by have := hC.2.1; simp; omega, fun h => ?_⟩
            obtain ⟨ad', e, hh⟩ := hC.2.2 (by omega)
            refine ⟨ad', e, fun j p hj => hh j p ?_⟩
            rw [List.getElem?_take] at hj
            split at hj
            · exact hj
            · cases hj
          have hl : (l0_2.take i).length = i := by simp; omega
          have hh := slices_ContainsFunc_sq (l0_2.take i) (some ad) c0_2 79 #[.pointer (some ⟨wr.heap.size, 0, none⟩)] (ovl s) W hT (by omega) eg (fun V x hV => by
            have hB : wr.heap.size < W.heap.size := by have := XF.out.2.2; have := hW.size; omega
            refine (impl_IsCut_clo x s wr.heap.size V (by have := hV.size; omega) ?_ ?_ ?_).mono ?_
            · exact (hV.cell (p := ⟨wr.heap.size, 0, none⟩) hB).trans ((hW.cell (p := ⟨wr.heap.size, 0, none⟩) (by have := XF.out.2.2; show wr.heap.size < _; omega)).trans x1)
            · exact (hV.cell (p := ⟨wr.heap.size, 1, none⟩) hB).trans ((hW.cell (p := ⟨wr.heap.size, 1, none⟩) (by have := XF.out.2.2; show wr.heap.size < _; omega)).trans x2)
            · exact (hV.cell (p := ⟨wr.heap.size, 2, none⟩) hB).trans ((hW.cell (p := ⟨wr.heap.size, 2, none⟩) (by have := XF.out.2.2; show wr.heap.size < _; omega)).trans x3)
            · rintro e w' ⟨rfl, hb⟩
              exact ⟨rfl, hV.trans (hb.mono hV.size)⟩)
          rw [hl] at hh
          exact hh⟩
        have hXs := Aside0.mk XF.out.2.2
        have x0' := fun p => cell_gr (p := p) (by have := hXs.out; show w.heap.size < _; omega) x0
        have x1' := fun p => cell_gr (p := p) (by have := hXs.out; show wr.heap.size < _; omega) x1
        have x2' := fun p => cell_gr (p := p) (by have := hXs.out; show wr.heap.size < _; omega) x2
        have x3' := fun p => cell_gr (p := p) (by have := hXs.out; show wr.heap.size < _; omega) x3
        clear x0 x1 x2 x3
        generalize hb5 : (l0_2.take i).any (ovl s) = b5 at HCF HOK
        clear hb5
        have HCP : Aside0 (∀ W, Calls Try.prog 77 #[.agg #[.int .i64 (rd_T56 l0_2 ((i - 1 : Nat) : Int)).f0, .int .i64 (rd_T56 l0_2 ((i - 1 : Nat) : Int)).f1, .int .i64 (rd_T56 l0_2 ((i - 1 : Nat) : Int)).f2], .agg #[.int .i64 s.f0, .int .i64 s.f1, .int .i64 s.f2]] W fun e w' => e = .returned (.int .i64 (cmpP (rd_T56 l0_2 ((i - 1 : Nat) : Int)) s)) ∧ Below W.heap.size W w') := ⟨fun W => impl_comparePlaces.calls _ _ _ _ _ _ _ W (cmpP_f _ s)⟩
        by_cases hi0 : i = 0
        · have z1 : decide ((0 : Int) < (i : Int)) = false := by simp; omega
          have z2 : decide (0 < i) = false := by simp; omega
          have KK4 : ok4 l0_2 s i = true := by unfold ok4; simp [hi0]
          have HK4 := Aside0.mk KK4
          clear KK4 hi0
          cases b5 with
          | true =>
            have hq : q = false := by rw [← HQ.out]; exact HF.out (by rw [HOK.out]; simp)
            subst hq
            refine wp_region_gr (by kernel_rfl) (by kernel_rfl) ?_
            repeat (go_big_quiet_step (first | (go_at_call 78; refine Calls.gr_of (HCF.out _ (Gr.h _))) | (go_at_call 77; refine Calls.gr_of (HCP.out _))))
            refine wpQuiet_nil ?_
            intro W2 hw'
            obtain ⟨⟨V2, hB2⟩, hw''⟩ := hw'
            replace hw'' : W2 = V2 := hw''
            subst hw''
            go_wp2
            go_ret
            exact ⟨rfl, XF.out.1.trans (hB2.mono XF.out.1.size)⟩
          | false =>
            refine wp_region_gr (by kernel_rfl) (by kernel_rfl) ?_
            repeat (go_big_quiet_step (first | (go_at_call 78; refine Calls.gr_of (HCF.out _ (Gr.h _))) | (go_at_call 77; refine Calls.gr_of (HCP.out _))))
            refine wpQuiet_nil ?_
            intro W2 hw'
            obtain ⟨⟨V2, hB2⟩, hw''⟩ := hw'
            replace hw'' : W2 = V2 := hw''
            subst hw''
            have y3 : W2.cell? ⟨wr.heap.size, 2, none⟩ = some (.int .i64 s.f2) := x3' ⟨W2, hB2⟩
            have HB2 := Aside0.mk hB2
            clear hB2 x0' x1' x2' x3'
            go_wp2
            go_roundg (l0_2.length - (i + 1))
            case measure => omega
            case rel =>
              refine ⟨i + 1, by omega, by omega, by go_num, ?_, ⟨XF.out.2.1.trans (HB2.out.mono XF.out.2.1.size)⟩, ⟨fun j hj => ?_⟩⟩
              · rw [HNX.out, areaW_snoc]
              · by_cases e : j = i
                · subst e; rw [HOK.out, K1.out, K2.out, K3.out, HK4.out]; rfl
                · exact HO.out j (by omega)
        · have z1 : decide ((0 : Int) < (i : Int)) = true := by simp; omega
          have z2 : decide (0 < i) = true := by simp; omega
          have hi1 : i - 1 + 1 = i := by omega
          obtain ⟨adp, ep, hp0, hp1, hp2⟩ := at_T56 (Kd.C_below HR.out XF.out.1) ((i - 1 : Nat) : Int) (by omega) (by omega)
          obtain rfl : ad = adp := by injection ep
          have hlt' := Kd.C_lt (Kd.C_below HR.out XF.out.1) (show 0 < l0_2.length by omega) (by decide)
          simp only [Int.toNat_natCast] at hp0 hp1 hp2
          have KK4 : ok4 l0_2 s i = decide (cmpP (rd_T56 l0_2 ((i - 1 : Nat) : Int)) s < 0) := by unfold ok4; simp [hi0]
          have HK4 := Aside0.mk KK4
          clear KK4 hi0 ep
          generalize rd_T56 l0_2 ((i - 1 : Nat) : Int) = t at HCP HK4 hp0 hp1 hp2
          generalize hcc : cmpP t s = cc at HCP HK4
          clear hcc
          have hlb : (ad.add ((i - 1) * 3)).block < X.heap.size := by rw [show (ad.add ((i - 1) * 3)).block = ad.block from by unfold Addr.add; split <;> rfl]; exact hlt'
          have hp0' := fun p => cell_gr (p := p) hlb hp0
          have hp1' := fun p => cell_gr (p := p) (a := ⟨(ad.add ((i - 1) * 3)).block, (ad.add ((i - 1) * 3)).off + 1, none⟩) hlb hp1
          have hp2' := fun p => cell_gr (p := p) (a := ⟨(ad.add ((i - 1) * 3)).block, (ad.add ((i - 1) * 3)).off + 2, none⟩) hlb hp2
          clear hp0 hp1 hp2 hlt' hlb
          by_cases hc0 : cc < 0
          · have z3 : decide (0 ≤ cc) = false := by simp; omega
            have HC9 := Aside0.mk hc0
            clear hc0
            cases b5 with
            | true =>
              have hq : q = false := by rw [← HQ.out]; exact HF.out (by rw [HOK.out]; simp)
              subst hq
              refine wp_region_gr (by kernel_rfl) (by kernel_rfl) ?_
              repeat (go_big_quiet_step (first | (go_at_call 78; refine Calls.gr_of (HCF.out _ (Gr.h _))) | (go_at_call 77; refine Calls.gr_of (HCP.out _))))
              refine wpQuiet_nil ?_
              intro W2 hw'
              obtain ⟨⟨V2, hB2⟩, hw''⟩ := hw'
              replace hw'' : W2 = V2 := hw''
              subst hw''
              go_wp2
              go_ret
              exact ⟨rfl, XF.out.1.trans (hB2.mono XF.out.1.size)⟩
            | false =>
              refine wp_region_gr (by kernel_rfl) (by kernel_rfl) ?_
              repeat (go_big_quiet_step (first | (go_at_call 78; refine Calls.gr_of (HCF.out _ (Gr.h _))) | (go_at_call 77; refine Calls.gr_of (HCP.out _))))
              refine wpQuiet_nil ?_
              intro W2 hw'
              obtain ⟨⟨V2, hB2⟩, hw''⟩ := hw'
              replace hw'' : W2 = V2 := hw''
              subst hw''
              have y3 : W2.cell? ⟨wr.heap.size, 2, none⟩ = some (.int .i64 s.f2) := x3' ⟨W2, hB2⟩
              have HB2 := Aside0.mk hB2
              clear hB2 x0' x1' x2' x3'
              go_wp2
              go_roundg (l0_2.length - (i + 1))
              case measure => omega
              case rel =>
                refine ⟨i + 1, by omega, by omega, by go_num, ?_, ⟨XF.out.2.1.trans (HB2.out.mono XF.out.2.1.size)⟩, ⟨fun j hj => ?_⟩⟩
                · rw [HNX.out, areaW_snoc]
                · by_cases e : j = i
                  · subst e; rw [HOK.out, K1.out, K2.out, K3.out, HK4.out, decide_eq_true HC9.out]; rfl
                  · exact HO.out j (by omega)
          · have z3 : decide (0 ≤ cc) = true := by simp; omega
            have hq : q = false := by rw [← HQ.out]; exact HF.out (by rw [HOK.out, HK4.out, decide_eq_false hc0]; simp)
            subst hq
            clear hc0
            refine wp_region_gr (by kernel_rfl) (by kernel_rfl) ?_
            repeat (go_big_quiet_step (first | (go_at_call 77; refine Calls.gr_of (HCP.out _))))
            refine wpQuiet_nil ?_
            intro W2 hw'
            obtain ⟨⟨V2, hB2⟩, hw''⟩ := hw'
            replace hw'' : W2 = V2 := hw''
            subst hw''
            go_wp2
            go_ret
            exact ⟨rfl, XF.out.1.trans (hB2.mono XF.out.1.size)⟩
      · have hltz : decide ((i : Int) < (l0_2.length : Int)) = false := by simp; omega
        have hil : l0_2.take i = l0_2 := List.take_of_length_le (by omega)
        have hall : (List.range l0_2.length).all (okAt a0_0 a0_1 l0_2) = true := by
          rw [List.all_eq_true]; exact fun j hj => HO.out j (by have := List.mem_range.1 hj; omega)
        have hq : (areaW l0_2 0 == wrap64 (a0_0 * a0_1)) = q := by
          rw [← HQ.out]; unfold isCutB; rw [B123.out.1, B123.out.2.1, B123.out.2.2, hall]; simp; rfl
        rw [hil]
        have HE := Aside0.mk hq
        clear hil hall hq
        generalize areaW l0_2 0 = ar at HE ⊢
        go_wp2
        go_ret
        refine ⟨?_, HBw.out⟩
        rw [← HE.out]
        rfl
end Go.Proofs.Ytdfcljfajiihdaa.P

namespace Go.Proofs.Ytdfcljfajiihdaa.P
open Go.RowKit Go.Proofs.YtdfcljfajiihdaaW.PrintWords Go.Proofs.YtdfcljfajiihdaaW.PrintLast Go.Proofs.Ytdfcljfajiihdaa.Wm
attribute [local go_sem] max2_int min2_int max_two min_two
set_option linter.unusedVariables false
set_option linter.unusedSimpArgs false
def impl_isSquareOf.f (a0_0 : Int) (a0_1 : Int) (l0_2 : List (S56)) (a1 : Int) : Option (Bool) := (impl_IsCut.f a0_0 a0_1 l0_2).bind fun t102 => (if t102 = true then ((impl_within.f a1 0 (wrap64 ((l0_2.length : Int) - 1))).bind fun t103 => (some t103)) else (some false))
set_option maxHeartbeats 8000000 in
set_option maxRecDepth 100000 in
theorem impl_isSquareOf.calls (a0_0 : Int) (a0_1 : Int) (A0_2 : Option Addr) (c0_2 : Nat) (l0_2 : List (S56)) (a1 : Int) (r : Bool) (w : World) (hr0_2 : Kd.C k56 w A0_2 l0_2.length l0_2) (hc0_2 : l0_2.length ≤ c0_2) (h : impl_isSquareOf.f a0_0 a0_1 l0_2 a1 = some r) :
    Calls Try.prog 55 #[.agg #[.int .i64 a0_0, .int .i64 a0_1, .slice A0_2 l0_2.length c0_2], .int .i64 a1] w fun e w' => e = .returned (.bool r) ∧ Below w.heap.size w w' := by
  have hu37 := Try.underlying37
  have HR0_2 := Aside0.mk hr0_2
  have HC0_2 := Aside0.mk hc0_2
  clear hr0_2 hc0_2
  have HB := Aside0.mk (Below.refl w.heap.size w)
  have H : ((impl_IsCut.f a0_0 a0_1 l0_2).bind fun t102 => (if t102 = true then ((impl_within.f a1 0 (wrap64 ((l0_2.length : Int) - 1))).bind fun t103 => (some t103)) else (some false))) = some r := h
  clear h
  replace H := Option.bind_eq_some_iff.mp H
  obtain ⟨t102, A30, H⟩ := H
  replace H : (if t102 = true then ((impl_within.f a1 0 (wrap64 ((l0_2.length : Int) - 1))).bind fun t103 => (some t103)) else (some false)) = some r := H
  have A3 := Aside0.mk A30
  clear A30
  by_cases c4 : t102 = true
  · subst c4
    have H1 : ((impl_within.f a1 0 (wrap64 ((l0_2.length : Int) - 1))).bind fun t103 => (some t103)) = some r := by rw [if_pos rfl] at H; exact H
    clear H
    have H := H1
    clear H1
    replace H := Option.bind_eq_some_iff.mp H
    obtain ⟨t103, A50, H⟩ := H
    replace H : (some t103) = some r := H
    have A5 := Aside0.mk A50
    clear A50
    obtain rfl := Option.some.inj H
    go_enter Try.func55, Try.ntmps55
    go_wp2_with (first | ((with_reducible refine gate_dst (N := 2) rfl ?_); (try (refine gate_guard (by rfl) ?_; dsimp only)); refine box_event ?hg (N := 2) ?hd (cs := #[.int .i64 a0_0, .int .i64 a0_1, .slice A0_2 l0_2.length c0_2]) (t := 37) ?hr ?_; (case hd => rfl); (case hg => rfl); (case hr => first | (go_simp; done) | (go_simp; rfl)); intro gb101 hg w6 hbox hb; have n0_ := Aside0.mk (below_step (by repeat (first | (with_reducible first | exact HB.out | apply below_alloc | apply pw_below_drewN | apply below_drew1) | exact HB.out)) hb); have n1_ := Aside0.mk (hbox); have n2_ := Aside0.mk ((by rw [hg]; exact (below_size (by repeat (first | (with_reducible first | exact HB.out | apply below_alloc | apply pw_below_drewN | apply below_drew1) | exact HB.out))) : w.heap.size ≤ gb101)); have n3_ := Aside0.mk ((by rw [hg]; exact (below_size (by repeat (first | (with_reducible first | exact HB.out | apply below_alloc | apply pw_below_drewN | apply below_drew1) | exact HB.out))) : w.heap.size ≤ gb101)); clear HB; have HB := n0_; have BK101 := n1_; have GW101 := n2_; have GE101 := n3_; clear n0_ n1_ n2_ n3_; clear hb hbox hg; have hcz7_0 : w6.cell? ⟨gb101, 0, none⟩ = some (.int .i64 a0_0) := (blk_cell BK101.out 0).trans rfl; have hcz7_1 : w6.cell? ⟨gb101, 1, none⟩ = some (.int .i64 a0_1) := (blk_cell BK101.out 1).trans rfl; have hcz7_2 : w6.cell? ⟨gb101, 2, none⟩ = some (.slice A0_2 l0_2.length c0_2) := (blk_cell BK101.out 2).trans rfl; have hfz7_0 := blk_frozen BK101.out 0; have hfz7_1 := blk_frozen BK101.out 1; have hfz7_2 := blk_frozen BK101.out 2) | ((with_reducible refine gate_callee (f := 45) rfl ?_); refine goesL_ (some 6) rfl rfl Try.func45 (by kernel_rfl) rfl #[.agg #[.int .i64 a0_0, .int .i64 a0_1, .slice A0_2 l0_2.length c0_2]] rfl (by (try simp only [List.map_toArray, List.map_cons, List.map_nil]); first | done | rfl | (simp only [List.length_drop, List.length_take]; rfl)) ?_; (with_reducible refine (impl_IsCut.calls a0_0 a0_1 _ _ l0_2 true _ ?side1 ?side2 A3.out).mono ?_); (case side1 => repeat (first | exact (Kd.C_below HR0_2.out HB.out) | (with_reducible refine Kd.C_alloc ?_ _) | (with_reducible refine Kd.C_drewN ?_ _) | (with_reducible refine Kd.C_drew ?_))); (case side2 => exact HC0_2.out); rintro e w8 ⟨rfl, hb⟩; refine ⟨_, rfl, ?_⟩; have n0_ := Aside0.mk (blk_below (g := gb101) (o := .cells #[.int .i64 a0_0, .int .i64 a0_1, .slice A0_2 l0_2.length c0_2] 37 (0, 0)) (by (with_reducible repeat (first | refine blk_drewN ?_ _ | refine blk_drew ?_ | refine blk_alloc ?_ _)); exact BK101.out) hb); have n1_ := Aside0.mk (below_step (by repeat (first | (with_reducible first | exact HB.out | apply below_alloc | apply pw_below_drewN | apply below_drew1 | refine below_set ?_ GE101.out) | exact HB.out)) hb); clear BK101; clear HB; have BK101 := n0_; have HB := n1_; clear n0_ n1_; (try clear hb); (try clear hb2); (try clear hk); (try clear hi); have hcz9_0 : w8.cell? ⟨gb101, 0, none⟩ = some (.int .i64 a0_0) := (blk_cell BK101.out 0).trans rfl; have hcz9_1 : w8.cell? ⟨gb101, 1, none⟩ = some (.int .i64 a0_1) := (blk_cell BK101.out 1).trans rfl; have hcz9_2 : w8.cell? ⟨gb101, 2, none⟩ = some (.slice A0_2 l0_2.length c0_2) := (blk_cell BK101.out 2).trans rfl; have hfz9_0 := blk_frozen BK101.out 0; have hfz9_1 := blk_frozen BK101.out 1; have hfz9_2 := blk_frozen BK101.out 2) | (go_at_call 32; (with_reducible refine (impl_within.calls a1 0 (wrap64 ((l0_2.length : Int) - 1)) t103 _ A5.out).mono ?_); rintro e w' ⟨rfl, ⟨nd, rfl⟩⟩))
    go_ret
    exact ⟨by first | rfl | (simp [errW_none, errW_some] <;> rfl) | (simp [*, errW_none, errW_some] <;> rfl), by repeat (first | (with_reducible first | exact HB.out | apply below_alloc | apply pw_below_drewN | apply below_drew1 | refine below_set ?_ GE101.out) | exact HB.out)⟩
  · replace c4 := Bool.eq_false_iff.mpr c4
    subst c4
    have H1 : (some false) = some r := by rw [if_neg (show ¬ (false = true) by decide)] at H; exact H
    clear H
    have H := H1
    clear H1
    obtain rfl := Option.some.inj H
    go_enter Try.func55, Try.ntmps55
    go_wp2_with (first | ((with_reducible refine gate_dst (N := 2) rfl ?_); (try (refine gate_guard (by rfl) ?_; dsimp only)); refine box_event ?hg (N := 2) ?hd (cs := #[.int .i64 a0_0, .int .i64 a0_1, .slice A0_2 l0_2.length c0_2]) (t := 37) ?hr ?_; (case hd => rfl); (case hg => rfl); (case hr => first | (go_simp; done) | (go_simp; rfl)); intro gb101 hg w10 hbox hb; have n0_ := Aside0.mk (below_step (by repeat (first | (with_reducible first | exact HB.out | apply below_alloc | apply pw_below_drewN | apply below_drew1) | exact HB.out)) hb); have n1_ := Aside0.mk (hbox); have n2_ := Aside0.mk ((by rw [hg]; exact (below_size (by repeat (first | (with_reducible first | exact HB.out | apply below_alloc | apply pw_below_drewN | apply below_drew1) | exact HB.out))) : w.heap.size ≤ gb101)); have n3_ := Aside0.mk ((by rw [hg]; exact (below_size (by repeat (first | (with_reducible first | exact HB.out | apply below_alloc | apply pw_below_drewN | apply below_drew1) | exact HB.out))) : w.heap.size ≤ gb101)); clear HB; have HB := n0_; have BK101 := n1_; have GW101 := n2_; have GE101 := n3_; clear n0_ n1_ n2_ n3_; clear hb hbox hg; have hcz11_0 : w10.cell? ⟨gb101, 0, none⟩ = some (.int .i64 a0_0) := (blk_cell BK101.out 0).trans rfl; have hcz11_1 : w10.cell? ⟨gb101, 1, none⟩ = some (.int .i64 a0_1) := (blk_cell BK101.out 1).trans rfl; have hcz11_2 : w10.cell? ⟨gb101, 2, none⟩ = some (.slice A0_2 l0_2.length c0_2) := (blk_cell BK101.out 2).trans rfl; have hfz11_0 := blk_frozen BK101.out 0; have hfz11_1 := blk_frozen BK101.out 1; have hfz11_2 := blk_frozen BK101.out 2) | ((with_reducible refine gate_callee (f := 45) rfl ?_); refine goesL_ (some 6) rfl rfl Try.func45 (by kernel_rfl) rfl #[.agg #[.int .i64 a0_0, .int .i64 a0_1, .slice A0_2 l0_2.length c0_2]] rfl (by (try simp only [List.map_toArray, List.map_cons, List.map_nil]); first | done | rfl | (simp only [List.length_drop, List.length_take]; rfl)) ?_; (with_reducible refine (impl_IsCut.calls a0_0 a0_1 _ _ l0_2 false _ ?side1 ?side2 A3.out).mono ?_); (case side1 => repeat (first | exact (Kd.C_below HR0_2.out HB.out) | (with_reducible refine Kd.C_alloc ?_ _) | (with_reducible refine Kd.C_drewN ?_ _) | (with_reducible refine Kd.C_drew ?_))); (case side2 => exact HC0_2.out); rintro e w12 ⟨rfl, hb⟩; refine ⟨_, rfl, ?_⟩; have n0_ := Aside0.mk (blk_below (g := gb101) (o := .cells #[.int .i64 a0_0, .int .i64 a0_1, .slice A0_2 l0_2.length c0_2] 37 (0, 0)) (by (with_reducible repeat (first | refine blk_drewN ?_ _ | refine blk_drew ?_ | refine blk_alloc ?_ _)); exact BK101.out) hb); have n1_ := Aside0.mk (below_step (by repeat (first | (with_reducible first | exact HB.out | apply below_alloc | apply pw_below_drewN | apply below_drew1 | refine below_set ?_ GE101.out) | exact HB.out)) hb); clear BK101; clear HB; have BK101 := n0_; have HB := n1_; clear n0_ n1_; (try clear hb); (try clear hb2); (try clear hk); (try clear hi)))
    go_ret
    exact ⟨by first | rfl | (simp [errW_none, errW_some] <;> rfl) | (simp [*, errW_none, errW_some] <;> rfl), by repeat (first | (with_reducible first | exact HB.out | apply below_alloc | apply pw_below_drewN | apply below_drew1 | refine below_set ?_ GE101.out) | exact HB.out)⟩
end Go.Proofs.Ytdfcljfajiihdaa.P

namespace Go.Proofs.Ytdfcljfajiihdaa.P
open Go.RowKit Go.Proofs.YtdfcljfajiihdaaW.PrintWords Go.Proofs.YtdfcljfajiihdaaW.PrintLast Go.Proofs.Ytdfcljfajiihdaa.Wm
attribute [local go_sem] max2_int min2_int max_two min_two
set_option linter.unusedVariables false
set_option linter.unusedSimpArgs false
mutual
def impl_Cut_within.j0 : Nat → Int → Int → Int → Int → List Int → Bool → Int → Int → List (S56) → Option (List Int × Bool)
  | 0, _, _, _, _, _, _, _, _, _ => none
  | k + 1, x1, x2, x3, x4, x12, x23, x102000, x102001, x102002 => if x23 = true then (some (([] : List Int), false)) else (impl_Cut_within.l0 k x1 x2 x3 x4 x12 x102002 (x102002.length : Int) 0)
def impl_Cut_within.l0 : Nat → Int → Int → Int → Int → List Int → List (S56) → Int → Int → Option (List Int × Bool)
  | 0, _, _, _, _, _, _, _, _ => none
  | k + 1, x1, x2, x3, x4, x12, x25, x26, x27 => if x27 < x26 then (if 0 ≤ x27 then (if x27 < (x25.length : Int) then (if ((rd_T56 x25 x27).f0) ≥ x3 then (impl_Cut_within.j2 k x1 x2 x3 x4 x12 x27 x25 x26 x27 true ((rd_T56 x25 x27).f0) ((rd_T56 x25 x27).f1) ((rd_T56 x25 x27).f2)) else (if ((rd_T56 x25 x27).f1) ≥ x4 then (impl_Cut_within.j2 k x1 x2 x3 x4 x12 x27 x25 x26 x27 true ((rd_T56 x25 x27).f0) ((rd_T56 x25 x27).f1) ((rd_T56 x25 x27).f2)) else (if (wrap64 (((rd_T56 x25 x27).f0) + ((rd_T56 x25 x27).f2))) ≤ x1 then (impl_Cut_within.j2 k x1 x2 x3 x4 x12 x27 x25 x26 x27 true ((rd_T56 x25 x27).f0) ((rd_T56 x25 x27).f1) ((rd_T56 x25 x27).f2)) else (impl_Cut_within.j2 k x1 x2 x3 x4 x12 x27 x25 x26 x27 (decide ((wrap64 (((rd_T56 x25 x27).f1) + ((rd_T56 x25 x27).f2))) ≤ x2)) ((rd_T56 x25 x27).f0) ((rd_T56 x25 x27).f1) ((rd_T56 x25 x27).f2))))) else (none)) else (none)) else (some (x12, true))
def impl_Cut_within.j2 : Nat → Int → Int → Int → Int → List Int → Int → List (S56) → Int → Int → Bool → Int → Int → Int → Option (List Int × Bool)
  | 0, _, _, _, _, _, _, _, _, _, _, _, _, _ => none
  | k + 1, x1, x2, x3, x4, x12, x13, x25, x26, x27, x32, x107000, x107001, x107002 => if x32 = true then (impl_Cut_within.l0 k x1 x2 x3 x4 x12 x25 x26 (wrap64 (x27 + 1))) else (if x107000 ≥ x1 then (if x107001 ≥ x2 then (if (wrap64 (x107000 + x107002)) ≤ x3 then (if (wrap64 (x107001 + x107002)) ≤ x4 then (if x12.length < 17592186044416 then (impl_Cut_within.l0 k x1 x2 x3 x4 (x12 ++ [x13]) x25 x26 (wrap64 (x27 + 1))) else (none)) else (some (([] : List Int), false))) else (some (([] : List Int), false))) else (some (([] : List Int), false))) else (some (([] : List Int), false)))
end
def impl_Cut_within.f (k : Nat) (a0_0 : Int) (a0_1 : Int) (l0_2 : List (S56)) (a1 : Int) (a2 : Int) (a3 : Int) (a4 : Int) : Option (List Int × Bool) := (some (([] : List Int) : List Int)).bind fun y102 => (if a1 ≥ a3 then (impl_Cut_within.j0 k a1 a2 a3 a4 y102 true a0_0 a0_1 l0_2) else (impl_Cut_within.j0 k a1 a2 a3 a4 y102 (decide (a2 ≥ a4)) a0_0 a0_1 l0_2))
set_option maxHeartbeats 8000000 in
set_option maxRecDepth 100000 in
theorem impl_Cut_within.calls (k : Nat) (a0_0 : Int) (a0_1 : Int) (A0_2 : Option Addr) (c0_2 : Nat) (l0_2 : List (S56)) (a1 : Int) (a2 : Int) (a3 : Int) (a4 : Int) (r1 : List Int) (r2 : Bool) (w : World) (hr0_2 : Kd.C k56 w A0_2 l0_2.length l0_2) (hc0_2 : l0_2.length ≤ c0_2) (h : impl_Cut_within.f k a0_0 a0_1 l0_2 a1 a2 a3 a4 = some (r1, r2)) :
    Calls Try.prog 56 #[.agg #[.int .i64 a0_0, .int .i64 a0_1, .slice A0_2 l0_2.length c0_2], .int .i64 a1, .int .i64 a2, .int .i64 a3, .int .i64 a4] w fun e w' => ∃ v0_ : Value, e = .returned (.tuple #[v0_, .bool r2]) ∧ Kd.R (Kd.int .i64) 3 w' w.heap.size (fun _ => True) v0_ r1 ∧ Below w.heap.size w w' := by
  have hu37 := Try.underlying37
  have hu56 := Try.underlying56
  have HR0_2 := Aside0.mk hr0_2
  have HC0_2 := Aside0.mk hc0_2
  clear hr0_2 hc0_2
  have HB := Aside0.mk (Below.refl w.heap.size w)
  have H : ((some (([] : List Int) : List Int)).bind fun y102 => (if a1 ≥ a3 then (impl_Cut_within.j0 k a1 a2 a3 a4 y102 true a0_0 a0_1 l0_2) else (impl_Cut_within.j0 k a1 a2 a3 a4 y102 (decide (a2 ≥ a4)) a0_0 a0_1 l0_2))) = some (r1, r2) := h
  clear h
  obtain ⟨y102, hy102⟩ : ∃ y_ : List Int, y_ = (([] : List Int)) := ⟨_, rfl⟩
  replace H : (if a1 ≥ a3 then (impl_Cut_within.j0 k a1 a2 a3 a4 y102 true a0_0 a0_1 l0_2) else (impl_Cut_within.j0 k a1 a2 a3 a4 y102 (decide (a2 ≥ a4)) a0_0 a0_1 l0_2)) = some (r1, r2) := by first | (rw [hy102]; with_reducible exact H) | (have H2_ := (Option.bind_some _ _).symm.trans H; rw [hy102]; with_reducible exact H2_) | (have H2_ := (Option.bind_some _ _).symm.trans H; with_reducible exact H2_) | with_reducible exact H | (rw [hy102]; exact H) | exact H
  have Ny102 := Aside0.mk hy102
  clear hy102
  have HC6 := Aside0.mk H
  clear H
  go_enter Try.func56, Try.ntmps56
  go_upto_region 2 with (first | ((with_reducible refine gate_dst (N := 5) rfl ?_); refine box_event ?hg (N := 5) ?hd (cs := #[.int .i64 a0_0, .int .i64 a0_1, .slice A0_2 l0_2.length c0_2]) (t := 37) ?hr ?_; (case hd => rfl); (case hg => rfl); (case hr => first | (go_simp; done) | (go_simp; rfl)); intro gb101 hg w7 hbox hb; have n0_ := Aside0.mk (below_step (by repeat (first | (with_reducible first | exact HB.out | apply below_alloc | apply pw_below_drewN | apply below_drew1) | exact HB.out)) hb); have n1_ := Aside0.mk (hbox); have n2_ := Aside0.mk ((by rw [hg]; exact (below_size (by repeat (first | (with_reducible first | exact HB.out | apply below_alloc | apply pw_below_drewN | apply below_drew1) | exact HB.out))) : w.heap.size ≤ gb101)); have n3_ := Aside0.mk ((by rw [hg]; exact (below_size (by repeat (first | (with_reducible first | exact HB.out | apply below_alloc | apply pw_below_drewN | apply below_drew1) | exact HB.out))) : w.heap.size ≤ gb101)); clear HB; have HB := n0_; have BK101 := n1_; have GW101 := n2_; have GE101 := n3_; clear n0_ n1_ n2_ n3_; clear hb hbox hg) | ((with_reducible refine gate_dst (N := 15) rfl ?_); refine Kd.R_lit (Kd.int .i64) _ 3 ?hg (N := 15) ?hd (xs := ([] : List Int)) (inner := []) (ok := fun _ => True) (okp := fun _ => True) ?hr ?hp (fun _ hk => hk) trivial (Below.refl _ _) (Nat.le_refl _) (by simp) ?_; (case hd => rfl); (case hg => rfl); (case hr => first | (go_simp; done) | (go_simp; rfl)); (case hp => exact (Reps.none _ _)); intro v103 w8 ho9 hb hg_ hnew_; clear hg_ hnew_; (first | rw [← Ny102.out] at ho9 | (simp only [Int.reduceToNat] at ho9; rw [← Ny102.out] at ho9)); have n0_ := Aside0.mk (Kd.R_lower ho9 (below_size (by repeat (first | (with_reducible first | exact HB.out | apply below_alloc | apply pw_below_drewN | apply below_drew1 | refine below_set ?_ GE101.out) | exact HB.out)))); have n1_ := Aside0.mk (blk_below (g := gb101) (o := .cells #[.int .i64 a0_0, .int .i64 a0_1, .slice A0_2 l0_2.length c0_2] 37 (0, 0)) (by (with_reducible repeat (first | refine blk_drewN ?_ _ | refine blk_drew ?_ | refine blk_alloc ?_ _)); exact BK101.out) hb); have n2_ := Aside0.mk (below_step (by repeat (first | (with_reducible first | exact HB.out | apply below_alloc | apply pw_below_drewN | apply below_drew1 | refine below_set ?_ GE101.out) | exact HB.out)) hb); clear BK101; clear HB; have HO104 := n0_; have BK101 := n1_; have HB := n2_; clear n0_ n1_ n2_; clear hb ho9))
  (try simp only [Act.put, List.setIfInBounds_toArray, List.set_cons_zero, List.set_cons_succ])
  go_cut [23] (fun v23 wc => ∃ (kq : Nat) (x23_5 : Bool), v23 = .bool x23_5 ∧ Aside0 (impl_Cut_within.j0 kq a1 a2 a3 a4 y102 x23_5 a0_0 a0_1 l0_2 = some (r1, r2)) ∧ Aside0 (kq ≤ k) ∧ Aside0 (Kd.R (Kd.int .i64) 3 wc w.heap.size (fun _ => True) v103 y102) ∧ Aside0 (wc.heap[gb101]? = some (.cells #[.int .i64 a0_0, .int .i64 a0_1, (.slice A0_2 l0_2.length c0_2)] 37 (0, 0))) ∧ Aside0 (Below w.heap.size w wc))
  case first =>
    have H := HC6.out
    clear HC6
    by_cases c10 : a1 ≥ a3
    · rw [if_pos c10] at H
      have c10b0 : decide (a3 ≤ a1) = true := decide_eq_true c10
      clear c10
      (first | rw [c10b0] | (simp only [i64_w, i32_w]; rw [c10b0]) | skip)
      have H' := Aside0.mk H
      clear H
      go_wp2
      go_meet
      case rel => exact ⟨_, (true), (by first | rfl | (simp; done) | (simp [*]; done)), H', ⟨by first | omega | exact Nat.le_refl _⟩, ⟨by (with_reducible repeat (first | apply Kd.R_alloc | apply Kd.R_drewN | apply Kd.R_drew)); exact HO104.out⟩, ⟨by (with_reducible repeat (first | refine blk_drewN ?_ _ | refine blk_drew ?_ | refine blk_alloc ?_ _)); exact BK101.out⟩, ⟨by repeat (first | (with_reducible first | exact HB.out | apply below_alloc | apply pw_below_drewN | apply below_drew1 | refine below_set ?_ GE101.out) | exact HB.out)⟩⟩
    · rw [if_neg c10] at H
      have c10b0 : decide (a3 ≤ a1) = false := decide_eq_false c10
      clear c10
      (first | rw [c10b0] | (simp only [i64_w, i32_w]; rw [c10b0]) | skip)
      have H' := Aside0.mk H
      clear H
      go_wp2
      go_meet
      case rel => exact ⟨_, (decide (a2 ≥ a4)), (by first | rfl | (simp; done) | (simp [*]; done)), H', ⟨by first | omega | exact Nat.le_refl _⟩, ⟨by (with_reducible repeat (first | apply Kd.R_alloc | apply Kd.R_drewN | apply Kd.R_drew)); exact HO104.out⟩, ⟨by (with_reducible repeat (first | refine blk_drewN ?_ _ | refine blk_drew ?_ | refine blk_alloc ?_ _)); exact BK101.out⟩, ⟨by repeat (first | (with_reducible first | exact HB.out | apply below_alloc | apply pw_below_drewN | apply below_drew1 | refine below_set ?_ GE101.out) | exact HB.out)⟩⟩
  case rest =>
    clear HC6
    try clear c1
    try clear p2
    try clear c5
    try clear c10
    try clear c10b0
    obtain ⟨kq, x23_5, rfl, HA, HJ5, HO_12, BK101, HB⟩ := hcut
    cases kq with
    | zero => exact absurd HA.out (by simp [impl_Cut_within.j0])
    | succ kj5 =>
      have H := HA.out
      clear HA
      simp only [impl_Cut_within.j0] at H
      by_cases c11 : x23_5 = true
      · subst c11
        have H1 : (some (([] : List Int), false)) = some (r1, r2) := by rw [if_pos rfl] at H; exact H
        clear H
        have H := H1
        clear H1
        simp only [Option.some.injEq, Prod.mk.injEq] at H
        obtain ⟨rfl, rfl⟩ := H
        go_wp2
        go_ret2
        exact ⟨_, by first | rfl | (simp [errW_none, errW_some] <;> rfl) | (simp [*, errW_none, errW_some] <;> rfl), by first | exact Kd.R_nil _ _ _ _ _ | exact Kd.N_nil _ _ _ _ _ | exact Kd.V_nil _ _ _ _ _ | exact Kd.Q_nil _ _ _ _ _ | exact Kd.S_nil _ _ _ _ _, by repeat (first | (with_reducible first | exact HB.out | apply below_alloc | apply pw_below_drewN | apply below_drew1 | refine below_set ?_ GE101.out) | exact HB.out)⟩
      · replace c11 := Bool.eq_false_iff.mpr c11
        subst c11
        have H1 : (impl_Cut_within.l0 kj5 a1 a2 a3 a4 y102 l0_2 (l0_2.length : Int) 0) = some (r1, r2) := by rw [if_neg (show ¬ (false = true) by decide)] at H; exact H
        clear H
        have H := H1
        clear H1
        have H' := Aside0.mk H
        clear H
        have hcz12_0 : wc.cell? ⟨gb101, 0, none⟩ = some (.int .i64 a0_0) := (blk_cell BK101.out 0).trans rfl
        have hcz12_1 : wc.cell? ⟨gb101, 1, none⟩ = some (.int .i64 a0_1) := (blk_cell BK101.out 1).trans rfl
        have hcz12_2 : wc.cell? ⟨gb101, 2, none⟩ = some (.slice A0_2 l0_2.length c0_2) := (blk_cell BK101.out 2).trans rfl
        have hfz12_0 := blk_frozen BK101.out 0
        have hfz12_1 := blk_frozen BK101.out 1
        have hfz12_2 := blk_frozen BK101.out 2
        go_wp2
        go_loopg [12, 27] kj5 (fun kq v12 v27 w' => ∃ (x12_2 : List Int) (x27_2 : Int), v27 = .int .i64 x27_2 ∧ Aside0 (impl_Cut_within.l0 kq a1 a2 a3 a4 x12_2 l0_2 (l0_2.length : Int) x27_2 = some (r1, r2)) ∧ Aside0 (kq ≤ kj5) ∧ Aside0 (Kd.R (Kd.int .i64) 3 w' w.heap.size (fun _ => True) v12 x12_2) ∧ Aside0 (w'.heap[gb101]? = some (.cells #[.int .i64 a0_0, .int .i64 a0_1, (.slice A0_2 l0_2.length c0_2)] 37 (0, 0))) ∧ Aside0 (Below w.heap.size w w'))
        case atStart => exact ⟨(y102), (0), (by first | rfl | (simp; done) | (simp [*]; done)), H', ⟨Nat.le_refl _⟩, ⟨by (with_reducible repeat (first | apply Kd.R_alloc | apply Kd.R_drewN | apply Kd.R_drew)); exact HO_12.out⟩, ⟨by (with_reducible repeat (first | refine blk_drewN ?_ _ | refine blk_drew ?_ | refine blk_alloc ?_ _)); exact BK101.out⟩, ⟨by repeat (first | (with_reducible first | exact HB.out | apply below_alloc | apply pw_below_drewN | apply below_drew1 | refine below_set ?_ GE101.out) | exact HB.out)⟩⟩
        case round =>
          clear H'
          try clear c1
          try clear p2
          try clear c5
          try clear c10
          try clear c10b0
          try clear c11
          try clear hcz12_0
          try clear hcz12_1
          try clear hcz12_2
          try clear hfz12_0
          try clear hfz12_1
          try clear hfz12_2
          try clear p2
          obtain ⟨x12_2, x27_2, rfl, HA, HK2, HO_12, BK101, HB⟩ := hrel
          cases gk with
          | zero => exact absurd HA.out (by simp [impl_Cut_within.l0])
          | succ k2 =>
            have H := HA.out
            clear HA
            simp only [impl_Cut_within.l0] at H
            by_cases c13 : x27_2 < (l0_2.length : Int)
            · rw [if_pos c13] at H
              have c13b0 : decide (x27_2 < (l0_2.length : Int)) = true := decide_eq_true c13
              clear c13
              by_cases c14 : 0 ≤ x27_2
              · rw [if_pos c14] at H
                have c14b0 : decide (0 ≤ x27_2) = true := decide_eq_true c14
                clear c14
                by_cases c15 : x27_2 < (l0_2.length : Int)
                · rw [if_pos c15] at H
                  have c15b0 : decide (x27_2 < (l0_2.length : Int)) = true := decide_eq_true c15
                  clear c15
                  have HC16 := Aside0.mk H
                  clear H
                  have p105 : 0 ≤ (x27_2 : Int) := of_decide_eq_true (by first | (with_reducible assumption) | assumption)
                  have q105 : x27_2 < (l0_2.length : Int) := of_decide_eq_true (by first | (with_reducible assumption) | assumption)
                  obtain ⟨ad105, e105, hx105_0, hx105_1, hx105_2⟩ := at_T56 HR0_2.out x27_2 p105 q105
                  cases e105
                  replace hx105_0 := (HB.out.cell (World.block_lt_of_cell? w _ hx105_0)).trans hx105_0
                  replace hx105_1 := (HB.out.cell (World.block_lt_of_cell? w _ hx105_1)).trans hx105_1
                  replace hx105_2 := (HB.out.cell (World.block_lt_of_cell? w _ hx105_2)).trans hx105_2
                  replace p105 := eq_true p105
                  replace q105 := eq_true q105
                  go_upto_region 8 with (first | ((with_reducible refine gate_dst (N := 14) rfl ?_); refine box_event ?hg (N := 14) ?hd (cs := #[.int .i64 0, .int .i64 0, .int .i64 0]) (t := 56) ?hr ?_; (case hd => rfl); (case hg => rfl); (case hr => first | (go_simp; done) | (go_simp; rfl)); intro gb106 hg w17 hbox hb; have n0_ := Aside0.mk (Kd.R_below (by (with_reducible repeat (first | apply Kd.R_alloc | apply Kd.R_drewN | apply Kd.R_drew)); exact HO_12.out) hb); have n1_ := Aside0.mk (blk_below (g := gb101) (o := .cells #[.int .i64 a0_0, .int .i64 a0_1, .slice (some ad105) l0_2.length c0_2] 37 (0, 0)) (by (with_reducible repeat (first | refine blk_drewN ?_ _ | refine blk_drew ?_ | refine blk_alloc ?_ _)); exact BK101.out) hb); have n2_ := Aside0.mk (below_step (by repeat (first | (with_reducible first | exact HB.out | apply below_alloc | apply pw_below_drewN | apply below_drew1 | refine below_set ?_ GE101.out) | exact HB.out)) hb); have n3_ := Aside0.mk (hbox); have n4_ := Aside0.mk ((by rw [hg]; exact (below_size (by repeat (first | (with_reducible first | exact HB.out | apply below_alloc | apply pw_below_drewN | apply below_drew1 | refine below_set ?_ GE101.out) | exact HB.out))) : w.heap.size ≤ gb106)); have n5_ := Aside0.mk ((by rw [hg]; exact (below_size (by repeat (first | (with_reducible first | exact HB.out | apply below_alloc | apply pw_below_drewN | apply below_drew1 | refine below_set ?_ GE101.out) | exact HB.out))) : w.heap.size ≤ gb106)); have n6_ := Aside0.mk ((by rw [hg]; exact Nat.ne_of_lt (blk_lt (g := gb101) (o := .cells #[.int .i64 a0_0, .int .i64 a0_1, .slice (some ad105) l0_2.length c0_2] 37 (0, 0)) (by (with_reducible repeat (first | refine blk_drewN ?_ _ | refine blk_drew ?_ | refine blk_alloc ?_ _)); exact BK101.out)) : gb101 ≠ gb106)); have n7_ := Aside0.mk ((by rw [hg]; exact Nat.ne_of_gt (blk_lt (g := gb101) (o := .cells #[.int .i64 a0_0, .int .i64 a0_1, .slice (some ad105) l0_2.length c0_2] 37 (0, 0)) (by (with_reducible repeat (first | refine blk_drewN ?_ _ | refine blk_drew ?_ | refine blk_alloc ?_ _)); exact BK101.out)) : gb106 ≠ gb101)); clear HO_12; clear BK101; clear HB; have HO_12 := n0_; have BK101 := n1_; have HB := n2_; have BK106 := n3_; have GW106 := n4_; have GE106 := n5_; have NB101_106 := n6_; have NB106_101 := n7_; clear n0_ n1_ n2_ n3_ n4_ n5_ n6_ n7_; clear hb hbox hg; have hnb18 := NB106_101.out; have hnc18 := NB101_106.out; have hcz19_0 : w17.cell? ⟨gb106, 0, none⟩ = some (.int .i64 0) := (blk_cell BK106.out 0).trans rfl; have hcz19_1 : w17.cell? ⟨gb106, 1, none⟩ = some (.int .i64 0) := (blk_cell BK106.out 1).trans rfl; have hcz19_2 : w17.cell? ⟨gb106, 2, none⟩ = some (.int .i64 0) := (blk_cell BK106.out 2).trans rfl; have hfz19_0 := blk_frozen BK106.out 0; have hfz19_1 := blk_frozen BK106.out 1; have hfz19_2 := blk_frozen BK106.out 2))
                  (try simp only [Act.put, List.setIfInBounds_toArray, List.set_cons_zero, List.set_cons_succ])
                  go_cut [32] (fun v32 wc => ∃ (kq : Nat) (x32_15 : Bool), v32 = .bool x32_15 ∧ Aside0 (impl_Cut_within.j2 kq a1 a2 a3 a4 x12_2 x27_2 l0_2 (l0_2.length : Int) x27_2 x32_15 ((rd_T56 l0_2 x27_2).f0) ((rd_T56 l0_2 x27_2).f1) ((rd_T56 l0_2 x27_2).f2) = some (r1, r2)) ∧ Aside0 (kq ≤ k2) ∧ Aside0 (Kd.R (Kd.int .i64) 3 wc w.heap.size (fun _ => True) u12 x12_2) ∧ Aside0 (wc.heap[gb101]? = some (.cells #[.int .i64 a0_0, .int .i64 a0_1, (.slice (some ad105) l0_2.length c0_2)] 37 (0, 0))) ∧ Aside0 (wc.heap[gb106]? = some (.cells #[.int .i64 ((rd_T56 l0_2 x27_2).f0), .int .i64 ((rd_T56 l0_2 x27_2).f1), .int .i64 ((rd_T56 l0_2 x27_2).f2)] 56 (0, 0))) ∧ Aside0 (Below w.heap.size w wc))
                  case first =>
                    have H := HC16.out
                    clear HC16
                    by_cases c20 : ((rd_T56 l0_2 x27_2).f0) ≥ a3
                    · rw [if_pos c20] at H
                      have c20b0 : decide (a3 ≤ ((rd_T56 l0_2 x27_2).f0)) = true := decide_eq_true c20
                      clear c20
                      (first | rw [c20b0] | (simp only [i64_w, i32_w]; rw [c20b0]) | skip)
                      have H' := Aside0.mk H
                      clear H
                      have hnb21 := NB106_101.out
                      have hnc21 := NB101_106.out
                      have hcz22_0 : w17.cell? ⟨gb106, 0, none⟩ = some (.int .i64 0) := (blk_cell BK106.out 0).trans rfl
                      have hcz22_1 : w17.cell? ⟨gb106, 1, none⟩ = some (.int .i64 0) := (blk_cell BK106.out 1).trans rfl
                      have hcz22_2 : w17.cell? ⟨gb106, 2, none⟩ = some (.int .i64 0) := (blk_cell BK106.out 2).trans rfl
                      have hfz22_0 := blk_frozen BK106.out 0
                      have hfz22_1 := blk_frozen BK106.out 1
                      have hfz22_2 := blk_frozen BK106.out 2
                      go_wp2
                      go_meet
                      case rel => exact ⟨_, (true), (by first | rfl | (simp; done) | (simp [*]; done)), H', ⟨by have := HJ5.out; have := HK2.out; first | omega | exact Nat.le_refl _⟩, ⟨by (with_reducible repeat (first | apply Kd.R_alloc | apply Kd.R_drewN | apply Kd.R_drew)); exact Kd.R_mono (Kd.R_far (p := ⟨gb106, 2, none⟩) (Kd.R_far (p := ⟨gb106, 1, none⟩) (Kd.R_far (p := ⟨gb106, 0, none⟩) (Kd.R_types HO_12.out BK106.out (by decide)) (fun _ hk => hk.2) (.int .i64 ((rd_T56 l0_2 x27_2).f0))) (fun _ hk => hk.2) (.int .i64 ((rd_T56 l0_2 x27_2).f1))) (fun _ hk => hk.2) (.int .i64 ((rd_T56 l0_2 x27_2).f2))) (fun _ hk => trivial)⟩, ⟨by (with_reducible repeat (first | refine blk_drewN ?_ _ | refine blk_drew ?_ | refine blk_alloc ?_ _)); refine blk_far ?_ NB101_106.out _; (with_reducible repeat (first | refine blk_drewN ?_ _ | refine blk_drew ?_ | refine blk_alloc ?_ _)); refine blk_far ?_ NB101_106.out _; (with_reducible repeat (first | refine blk_drewN ?_ _ | refine blk_drew ?_ | refine blk_alloc ?_ _)); refine blk_far ?_ NB101_106.out _; (with_reducible repeat (first | refine blk_drewN ?_ _ | refine blk_drew ?_ | refine blk_alloc ?_ _)); exact BK101.out⟩, ⟨by (with_reducible repeat (first | refine blk_drewN ?_ _ | refine blk_drew ?_ | refine blk_alloc ?_ _)); refine blk_put (cs := #[.int .i64 ((rd_T56 l0_2 x27_2).f0), .int .i64 ((rd_T56 l0_2 x27_2).f1), .int .i64 0]) ?_ 2 _ rfl; (with_reducible repeat (first | refine blk_drewN ?_ _ | refine blk_drew ?_ | refine blk_alloc ?_ _)); refine blk_put (cs := #[.int .i64 ((rd_T56 l0_2 x27_2).f0), .int .i64 0, .int .i64 0]) ?_ 1 _ rfl; (with_reducible repeat (first | refine blk_drewN ?_ _ | refine blk_drew ?_ | refine blk_alloc ?_ _)); refine blk_put (cs := #[.int .i64 0, .int .i64 0, .int .i64 0]) ?_ 0 _ rfl; (with_reducible repeat (first | refine blk_drewN ?_ _ | refine blk_drew ?_ | refine blk_alloc ?_ _)); exact BK106.out⟩, ⟨by repeat (first | (with_reducible first | exact HB.out | apply below_alloc | apply pw_below_drewN | apply below_drew1 | refine below_set ?_ GE101.out | refine below_set ?_ GE106.out) | exact HB.out)⟩⟩
                    · rw [if_neg c20] at H
                      have c20b0 : decide (a3 ≤ ((rd_T56 l0_2 x27_2).f0)) = false := decide_eq_false c20
                      clear c20
                      (first | rw [c20b0] | (simp only [i64_w, i32_w]; rw [c20b0]) | skip)
                      by_cases c23 : ((rd_T56 l0_2 x27_2).f1) ≥ a4
                      · rw [if_pos c23] at H
                        have c23b0 : decide (a4 ≤ ((rd_T56 l0_2 x27_2).f1)) = true := decide_eq_true c23
                        clear c23
                        have H' := Aside0.mk H
                        clear H
                        have hnb24 := NB106_101.out
                        have hnc24 := NB101_106.out
                        have hcz25_0 : w17.cell? ⟨gb106, 0, none⟩ = some (.int .i64 0) := (blk_cell BK106.out 0).trans rfl
                        have hcz25_1 : w17.cell? ⟨gb106, 1, none⟩ = some (.int .i64 0) := (blk_cell BK106.out 1).trans rfl
                        have hcz25_2 : w17.cell? ⟨gb106, 2, none⟩ = some (.int .i64 0) := (blk_cell BK106.out 2).trans rfl
                        have hfz25_0 := blk_frozen BK106.out 0
                        have hfz25_1 := blk_frozen BK106.out 1
                        have hfz25_2 := blk_frozen BK106.out 2
                        go_wp2
                        go_meet
                        case rel => exact ⟨_, (true), (by first | rfl | (simp; done) | (simp [*]; done)), H', ⟨by have := HJ5.out; have := HK2.out; first | omega | exact Nat.le_refl _⟩, ⟨by (with_reducible repeat (first | apply Kd.R_alloc | apply Kd.R_drewN | apply Kd.R_drew)); exact Kd.R_mono (Kd.R_far (p := ⟨gb106, 2, none⟩) (Kd.R_far (p := ⟨gb106, 1, none⟩) (Kd.R_far (p := ⟨gb106, 0, none⟩) (Kd.R_types HO_12.out BK106.out (by decide)) (fun _ hk => hk.2) (.int .i64 ((rd_T56 l0_2 x27_2).f0))) (fun _ hk => hk.2) (.int .i64 ((rd_T56 l0_2 x27_2).f1))) (fun _ hk => hk.2) (.int .i64 ((rd_T56 l0_2 x27_2).f2))) (fun _ hk => trivial)⟩, ⟨by (with_reducible repeat (first | refine blk_drewN ?_ _ | refine blk_drew ?_ | refine blk_alloc ?_ _)); refine blk_far ?_ NB101_106.out _; (with_reducible repeat (first | refine blk_drewN ?_ _ | refine blk_drew ?_ | refine blk_alloc ?_ _)); refine blk_far ?_ NB101_106.out _; (with_reducible repeat (first | refine blk_drewN ?_ _ | refine blk_drew ?_ | refine blk_alloc ?_ _)); refine blk_far ?_ NB101_106.out _; (with_reducible repeat (first | refine blk_drewN ?_ _ | refine blk_drew ?_ | refine blk_alloc ?_ _)); exact BK101.out⟩, ⟨by (with_reducible repeat (first | refine blk_drewN ?_ _ | refine blk_drew ?_ | refine blk_alloc ?_ _)); refine blk_put (cs := #[.int .i64 ((rd_T56 l0_2 x27_2).f0), .int .i64 ((rd_T56 l0_2 x27_2).f1), .int .i64 0]) ?_ 2 _ rfl; (with_reducible repeat (first | refine blk_drewN ?_ _ | refine blk_drew ?_ | refine blk_alloc ?_ _)); refine blk_put (cs := #[.int .i64 ((rd_T56 l0_2 x27_2).f0), .int .i64 0, .int .i64 0]) ?_ 1 _ rfl; (with_reducible repeat (first | refine blk_drewN ?_ _ | refine blk_drew ?_ | refine blk_alloc ?_ _)); refine blk_put (cs := #[.int .i64 0, .int .i64 0, .int .i64 0]) ?_ 0 _ rfl; (with_reducible repeat (first | refine blk_drewN ?_ _ | refine blk_drew ?_ | refine blk_alloc ?_ _)); exact BK106.out⟩, ⟨by repeat (first | (with_reducible first | exact HB.out | apply below_alloc | apply pw_below_drewN | apply below_drew1 | refine below_set ?_ GE101.out | refine below_set ?_ GE106.out) | exact HB.out)⟩⟩
                      · rw [if_neg c23] at H
                        have c23b0 : decide (a4 ≤ ((rd_T56 l0_2 x27_2).f1)) = false := decide_eq_false c23
                        clear c23
                        by_cases c26 : (wrap64 (((rd_T56 l0_2 x27_2).f0) + ((rd_T56 l0_2 x27_2).f2))) ≤ a1
                        · rw [if_pos c26] at H
                          have c26b0 : decide ((wrap64 (((rd_T56 l0_2 x27_2).f0) + ((rd_T56 l0_2 x27_2).f2))) ≤ a1) = true := decide_eq_true c26
                          clear c26
                          have H' := Aside0.mk H
                          clear H
                          have hnb27 := NB106_101.out
                          have hnc27 := NB101_106.out
                          have hcz28_0 : w17.cell? ⟨gb106, 0, none⟩ = some (.int .i64 0) := (blk_cell BK106.out 0).trans rfl
                          have hcz28_1 : w17.cell? ⟨gb106, 1, none⟩ = some (.int .i64 0) := (blk_cell BK106.out 1).trans rfl
                          have hcz28_2 : w17.cell? ⟨gb106, 2, none⟩ = some (.int .i64 0) := (blk_cell BK106.out 2).trans rfl
                          have hfz28_0 := blk_frozen BK106.out 0
                          have hfz28_1 := blk_frozen BK106.out 1
                          have hfz28_2 := blk_frozen BK106.out 2
                          go_wp2
                          go_meet
                          case rel => exact ⟨_, (true), (by first | rfl | (simp; done) | (simp [*]; done)), H', ⟨by have := HJ5.out; have := HK2.out; first | omega | exact Nat.le_refl _⟩, ⟨by (with_reducible repeat (first | apply Kd.R_alloc | apply Kd.R_drewN | apply Kd.R_drew)); exact Kd.R_mono (Kd.R_far (p := ⟨gb106, 2, none⟩) (Kd.R_far (p := ⟨gb106, 1, none⟩) (Kd.R_far (p := ⟨gb106, 0, none⟩) (Kd.R_types HO_12.out BK106.out (by decide)) (fun _ hk => hk.2) (.int .i64 ((rd_T56 l0_2 x27_2).f0))) (fun _ hk => hk.2) (.int .i64 ((rd_T56 l0_2 x27_2).f1))) (fun _ hk => hk.2) (.int .i64 ((rd_T56 l0_2 x27_2).f2))) (fun _ hk => trivial)⟩, ⟨by (with_reducible repeat (first | refine blk_drewN ?_ _ | refine blk_drew ?_ | refine blk_alloc ?_ _)); refine blk_far ?_ NB101_106.out _; (with_reducible repeat (first | refine blk_drewN ?_ _ | refine blk_drew ?_ | refine blk_alloc ?_ _)); refine blk_far ?_ NB101_106.out _; (with_reducible repeat (first | refine blk_drewN ?_ _ | refine blk_drew ?_ | refine blk_alloc ?_ _)); refine blk_far ?_ NB101_106.out _; (with_reducible repeat (first | refine blk_drewN ?_ _ | refine blk_drew ?_ | refine blk_alloc ?_ _)); exact BK101.out⟩, ⟨by (with_reducible repeat (first | refine blk_drewN ?_ _ | refine blk_drew ?_ | refine blk_alloc ?_ _)); refine blk_put (cs := #[.int .i64 ((rd_T56 l0_2 x27_2).f0), .int .i64 ((rd_T56 l0_2 x27_2).f1), .int .i64 0]) ?_ 2 _ rfl; (with_reducible repeat (first | refine blk_drewN ?_ _ | refine blk_drew ?_ | refine blk_alloc ?_ _)); refine blk_put (cs := #[.int .i64 ((rd_T56 l0_2 x27_2).f0), .int .i64 0, .int .i64 0]) ?_ 1 _ rfl; (with_reducible repeat (first | refine blk_drewN ?_ _ | refine blk_drew ?_ | refine blk_alloc ?_ _)); refine blk_put (cs := #[.int .i64 0, .int .i64 0, .int .i64 0]) ?_ 0 _ rfl; (with_reducible repeat (first | refine blk_drewN ?_ _ | refine blk_drew ?_ | refine blk_alloc ?_ _)); exact BK106.out⟩, ⟨by repeat (first | (with_reducible first | exact HB.out | apply below_alloc | apply pw_below_drewN | apply below_drew1 | refine below_set ?_ GE101.out | refine below_set ?_ GE106.out) | exact HB.out)⟩⟩
                        · rw [if_neg c26] at H
                          have c26b0 : decide ((wrap64 (((rd_T56 l0_2 x27_2).f0) + ((rd_T56 l0_2 x27_2).f2))) ≤ a1) = false := decide_eq_false c26
                          clear c26
                          have H' := Aside0.mk H
                          clear H
                          have hnb29 := NB106_101.out
                          have hnc29 := NB101_106.out
                          have hcz30_0 : w17.cell? ⟨gb106, 0, none⟩ = some (.int .i64 0) := (blk_cell BK106.out 0).trans rfl
                          have hcz30_1 : w17.cell? ⟨gb106, 1, none⟩ = some (.int .i64 0) := (blk_cell BK106.out 1).trans rfl
                          have hcz30_2 : w17.cell? ⟨gb106, 2, none⟩ = some (.int .i64 0) := (blk_cell BK106.out 2).trans rfl
                          have hfz30_0 := blk_frozen BK106.out 0
                          have hfz30_1 := blk_frozen BK106.out 1
                          have hfz30_2 := blk_frozen BK106.out 2
                          go_wp2
                          go_meet
                          case rel => exact ⟨_, (decide ((wrap64 (((rd_T56 l0_2 x27_2).f1) + ((rd_T56 l0_2 x27_2).f2))) ≤ a2)), (by first | rfl | (simp; done) | (simp [*]; done)), H', ⟨by have := HJ5.out; have := HK2.out; first | omega | exact Nat.le_refl _⟩, ⟨by (with_reducible repeat (first | apply Kd.R_alloc | apply Kd.R_drewN | apply Kd.R_drew)); exact Kd.R_mono (Kd.R_far (p := ⟨gb106, 2, none⟩) (Kd.R_far (p := ⟨gb106, 1, none⟩) (Kd.R_far (p := ⟨gb106, 0, none⟩) (Kd.R_types HO_12.out BK106.out (by decide)) (fun _ hk => hk.2) (.int .i64 ((rd_T56 l0_2 x27_2).f0))) (fun _ hk => hk.2) (.int .i64 ((rd_T56 l0_2 x27_2).f1))) (fun _ hk => hk.2) (.int .i64 ((rd_T56 l0_2 x27_2).f2))) (fun _ hk => trivial)⟩, ⟨by (with_reducible repeat (first | refine blk_drewN ?_ _ | refine blk_drew ?_ | refine blk_alloc ?_ _)); refine blk_far ?_ NB101_106.out _; (with_reducible repeat (first | refine blk_drewN ?_ _ | refine blk_drew ?_ | refine blk_alloc ?_ _)); refine blk_far ?_ NB101_106.out _; (with_reducible repeat (first | refine blk_drewN ?_ _ | refine blk_drew ?_ | refine blk_alloc ?_ _)); refine blk_far ?_ NB101_106.out _; (with_reducible repeat (first | refine blk_drewN ?_ _ | refine blk_drew ?_ | refine blk_alloc ?_ _)); exact BK101.out⟩, ⟨by (with_reducible repeat (first | refine blk_drewN ?_ _ | refine blk_drew ?_ | refine blk_alloc ?_ _)); refine blk_put (cs := #[.int .i64 ((rd_T56 l0_2 x27_2).f0), .int .i64 ((rd_T56 l0_2 x27_2).f1), .int .i64 0]) ?_ 2 _ rfl; (with_reducible repeat (first | refine blk_drewN ?_ _ | refine blk_drew ?_ | refine blk_alloc ?_ _)); refine blk_put (cs := #[.int .i64 ((rd_T56 l0_2 x27_2).f0), .int .i64 0, .int .i64 0]) ?_ 1 _ rfl; (with_reducible repeat (first | refine blk_drewN ?_ _ | refine blk_drew ?_ | refine blk_alloc ?_ _)); refine blk_put (cs := #[.int .i64 0, .int .i64 0, .int .i64 0]) ?_ 0 _ rfl; (with_reducible repeat (first | refine blk_drewN ?_ _ | refine blk_drew ?_ | refine blk_alloc ?_ _)); exact BK106.out⟩, ⟨by repeat (first | (with_reducible first | exact HB.out | apply below_alloc | apply pw_below_drewN | apply below_drew1 | refine below_set ?_ GE101.out | refine below_set ?_ GE106.out) | exact HB.out)⟩⟩
                  case rest =>
                    clear HC16
                    try clear c1
                    try clear p1
                    try clear q1
                    try clear hx1
                    try clear c2
                    try clear p2
                    try clear c5
                    try clear p6
                    try clear c10
                    try clear c10b0
                    try clear p10
                    try clear q10
                    try clear hx10
                    try clear c11
                    try clear c13
                    try clear c13b0
                    try clear c14
                    try clear c14b0
                    try clear c15
                    try clear c15b0
                    try clear c18
                    try clear c20
                    try clear c20b0
                    try clear c21
                    try clear c23
                    try clear c23b0
                    try clear c24
                    try clear c26
                    try clear c26b0
                    try clear c27
                    try clear c29
                    try clear hcz12_0
                    try clear hcz12_1
                    try clear hcz12_2
                    try clear hcz19_0
                    try clear hcz19_1
                    try clear hcz19_2
                    try clear hcz22_0
                    try clear hcz22_1
                    try clear hcz22_2
                    try clear hcz25_0
                    try clear hcz25_1
                    try clear hcz25_2
                    try clear hcz28_0
                    try clear hcz28_1
                    try clear hcz28_2
                    try clear hcz30_0
                    try clear hcz30_1
                    try clear hcz30_2
                    try clear hfz12_0
                    try clear hfz12_1
                    try clear hfz12_2
                    try clear hfz19_0
                    try clear hfz19_1
                    try clear hfz19_2
                    try clear hfz22_0
                    try clear hfz22_1
                    try clear hfz22_2
                    try clear hfz25_0
                    try clear hfz25_1
                    try clear hfz25_2
                    try clear hfz28_0
                    try clear hfz28_1
                    try clear hfz28_2
                    try clear hfz30_0
                    try clear hfz30_1
                    try clear hfz30_2
                    try clear hx105_0
                    try clear hx105_1
                    try clear hx105_2
                    try clear p105
                    try clear p2
                    try clear q105
                    obtain ⟨kq, x32_15, rfl, HA, HJ15, HO_12, BK101, BK106, HB⟩ := hcut
                    cases kq with
                    | zero => exact absurd HA.out (by simp [impl_Cut_within.j2])
                    | succ kj15 =>
                      have H := HA.out
                      clear HA
                      simp only [impl_Cut_within.j2] at H
                      by_cases c31 : x32_15 = true
                      · subst c31
                        have H1 : (impl_Cut_within.l0 kj15 a1 a2 a3 a4 x12_2 l0_2 (l0_2.length : Int) (wrap64 (x27_2 + 1))) = some (r1, r2) := by rw [if_pos rfl] at H; exact H
                        clear H
                        have H := H1
                        clear H1
                        have H' := Aside0.mk H
                        clear H
                        go_wp2
                        go_roundg kj15
                        case measure => have := HJ5.out; have := HK2.out; have := HJ15.out; omega
                        case rel => exact ⟨(x12_2), (wrap64 (x27_2 + 1)), (by first | rfl | (simp; done) | (simp [*]; done)), H', ⟨by have := HJ5.out; have := HK2.out; have := HJ15.out; omega⟩, ⟨by (with_reducible repeat (first | apply Kd.R_alloc | apply Kd.R_drewN | apply Kd.R_drew)); exact HO_12.out⟩, ⟨by (with_reducible repeat (first | refine blk_drewN ?_ _ | refine blk_drew ?_ | refine blk_alloc ?_ _)); exact BK101.out⟩, ⟨by repeat (first | (with_reducible first | exact HB.out | apply below_alloc | apply pw_below_drewN | apply below_drew1 | refine below_set ?_ GE101.out | refine below_set ?_ GE106.out) | exact HB.out)⟩⟩
                      · replace c31 := Bool.eq_false_iff.mpr c31
                        subst c31
                        have H1 : (if ((rd_T56 l0_2 x27_2).f0) ≥ a1 then (if ((rd_T56 l0_2 x27_2).f1) ≥ a2 then (if (wrap64 (((rd_T56 l0_2 x27_2).f0) + ((rd_T56 l0_2 x27_2).f2))) ≤ a3 then (if (wrap64 (((rd_T56 l0_2 x27_2).f1) + ((rd_T56 l0_2 x27_2).f2))) ≤ a4 then (if x12_2.length < 17592186044416 then (impl_Cut_within.l0 kj15 a1 a2 a3 a4 (x12_2 ++ [x27_2]) l0_2 (l0_2.length : Int) (wrap64 (x27_2 + 1))) else (none)) else (some (([] : List Int), false))) else (some (([] : List Int), false))) else (some (([] : List Int), false))) else (some (([] : List Int), false))) = some (r1, r2) := by rw [if_neg (show ¬ (false = true) by decide)] at H; exact H
                        clear H
                        have H := H1
                        clear H1
                        by_cases c32 : ((rd_T56 l0_2 x27_2).f0) ≥ a1
                        · rw [if_pos c32] at H
                          have c32b0 : decide (a1 ≤ ((rd_T56 l0_2 x27_2).f0)) = true := decide_eq_true c32
                          clear c32
                          by_cases c33 : ((rd_T56 l0_2 x27_2).f1) ≥ a2
                          · rw [if_pos c33] at H
                            have c33b0 : decide (a2 ≤ ((rd_T56 l0_2 x27_2).f1)) = true := decide_eq_true c33
                            clear c33
                            by_cases c34 : (wrap64 (((rd_T56 l0_2 x27_2).f0) + ((rd_T56 l0_2 x27_2).f2))) ≤ a3
                            · rw [if_pos c34] at H
                              have c34b0 : decide ((wrap64 (((rd_T56 l0_2 x27_2).f0) + ((rd_T56 l0_2 x27_2).f2))) ≤ a3) = true := decide_eq_true c34
                              clear c34
                              by_cases c35 : (wrap64 (((rd_T56 l0_2 x27_2).f1) + ((rd_T56 l0_2 x27_2).f2))) ≤ a4
                              · rw [if_pos c35] at H
                                have c35b0 : decide ((wrap64 (((rd_T56 l0_2 x27_2).f1) + ((rd_T56 l0_2 x27_2).f2))) ≤ a4) = true := decide_eq_true c35
                                clear c35
                                by_cases c36 : x12_2.length < 17592186044416
                                · rw [if_pos c36] at H
                                  have LMc36 := Aside0.mk c36
                                  clear c36
                                  obtain ⟨y107, hy107⟩ : ∃ y_ : List Int, y_ = (x12_2 ++ [x27_2]) := ⟨_, rfl⟩
                                  replace H : (impl_Cut_within.l0 kj15 a1 a2 a3 a4 y107 l0_2 (l0_2.length : Int) (wrap64 (x27_2 + 1))) = some (r1, r2) := by first | (rw [hy107]; with_reducible exact H) | (have H2_ := (Option.bind_some _ _).symm.trans H; rw [hy107]; with_reducible exact H2_) | (have H2_ := (Option.bind_some _ _).symm.trans H; with_reducible exact H2_) | with_reducible exact H | (rw [hy107]; exact H) | exact H
                                  have Ny107 := Aside0.mk hy107
                                  clear hy107
                                  have H' := Aside0.mk H
                                  clear H
                                  have hnb37 := NB106_101.out
                                  have hnc37 := NB101_106.out
                                  have hcz38_0 : wc.cell? ⟨gb106, 0, none⟩ = some (.int .i64 ((rd_T56 l0_2 x27_2).f0)) := (blk_cell BK106.out 0).trans rfl
                                  have hcz38_1 : wc.cell? ⟨gb106, 1, none⟩ = some (.int .i64 ((rd_T56 l0_2 x27_2).f1)) := (blk_cell BK106.out 1).trans rfl
                                  have hcz38_2 : wc.cell? ⟨gb106, 2, none⟩ = some (.int .i64 ((rd_T56 l0_2 x27_2).f2)) := (blk_cell BK106.out 2).trans rfl
                                  have hfz38_0 := blk_frozen BK106.out 0
                                  have hfz38_1 := blk_frozen BK106.out 1
                                  have hfz38_2 := blk_frozen BK106.out 2
                                  go_wp2_with (first | ((with_reducible refine gate_builtin (b := .append) (xs := #[.tmp 90, .tmp 92]) rfl ?_); at_builtin; refine Kd.R_append (Kd.int .i64) (w0 := w) w.heap.size rfl (.tmp 90) (.tmp 92) 22 3 (.int .i64 0) 8 rfl Try.underlying22 info3 rfl (by decide) (by omega) u12 x12_2 x27_2 [.int .i64 x27_2] (fun _ => True) (fun _ => False) rfl rfl ?aP (fun _ hk => hk.elim) ?aF ?aO ?aB ?aS ?aL ?_; (case aP => exact rfl); (case aB => exact (by repeat (first | (with_reducible first | exact HB.out | apply below_alloc | apply pw_below_drewN | apply below_drew1 | refine below_set ?_ GE101.out | refine below_set ?_ GE106.out) | exact HB.out))); (case aF => exact (fun _ _ => trivial)); (case aO => exact (by (with_reducible repeat (first | apply Kd.R_alloc | apply Kd.R_drewN | apply Kd.R_drew)); exact HO_12.out)); (case aS => exact (below_size (by repeat (first | (with_reducible first | exact HB.out | apply below_alloc | apply pw_below_drewN | apply below_drew1 | refine below_set ?_ GE101.out | refine below_set ?_ GE106.out) | exact HB.out)))); (case aL => have := LMc36.out; omega); intro v108 w39 ho hb hg hat; rw [← Ny107.out] at ho; have n0_ := Aside0.mk (blk_grown (g := gb101) (o := .cells #[.int .i64 a0_0, .int .i64 a0_1, .slice (some ad105) l0_2.length c0_2] 37 (0, 0)) (by (with_reducible repeat (first | refine blk_drewN ?_ _ | refine blk_drew ?_ | refine blk_alloc ?_ _)); exact BK101.out) hg (Kd.R_ne HO_12.out BK101.out (by decide))); have n1_ := Aside0.mk (blk_grown (g := gb106) (o := .cells #[.int .i64 ((rd_T56 l0_2 x27_2).f0), .int .i64 ((rd_T56 l0_2 x27_2).f1), .int .i64 ((rd_T56 l0_2 x27_2).f2)] 56 (0, 0)) (by (with_reducible repeat (first | refine blk_drewN ?_ _ | refine blk_drew ?_ | refine blk_alloc ?_ _)); exact BK106.out) hg (Kd.R_ne HO_12.out BK106.out (by decide))); have n2_ := Aside0.mk (hb); have n3_ := Aside0.mk (ho); clear BK101; clear BK106; clear HB; clear HO_12; have BK101 := n0_; have BK106 := n1_; have HB := n2_; have HO109 := n3_; clear n0_ n1_ n2_ n3_; clear ho hb hg hat))
                                  go_roundg kj15
                                  case measure => have := HJ5.out; have := HK2.out; have := HJ15.out; omega
                                  case rel => exact ⟨(y107), (wrap64 (x27_2 + 1)), (by first | rfl | (simp; done) | (simp [*]; done)), H', ⟨by have := HJ5.out; have := HK2.out; have := HJ15.out; omega⟩, ⟨by (with_reducible repeat (first | apply Kd.R_alloc | apply Kd.R_drewN | apply Kd.R_drew)); exact HO109.out⟩, ⟨by (with_reducible repeat (first | refine blk_drewN ?_ _ | refine blk_drew ?_ | refine blk_alloc ?_ _)); exact BK101.out⟩, ⟨by repeat (first | (with_reducible first | exact HB.out | apply below_alloc | apply pw_below_drewN | apply below_drew1 | refine below_set ?_ GE101.out | refine below_set ?_ GE106.out) | exact HB.out)⟩⟩
                                · rw [if_neg c36] at H
                                  exact absurd H (by simp)
                              · rw [if_neg c35] at H
                                have c35b0 : decide ((wrap64 (((rd_T56 l0_2 x27_2).f1) + ((rd_T56 l0_2 x27_2).f2))) ≤ a4) = false := decide_eq_false c35
                                clear c35
                                simp only [Option.some.injEq, Prod.mk.injEq] at H
                                obtain ⟨rfl, rfl⟩ := H
                                have hnb40 := NB106_101.out
                                have hnc40 := NB101_106.out
                                have hcz41_0 : wc.cell? ⟨gb106, 0, none⟩ = some (.int .i64 ((rd_T56 l0_2 x27_2).f0)) := (blk_cell BK106.out 0).trans rfl
                                have hcz41_1 : wc.cell? ⟨gb106, 1, none⟩ = some (.int .i64 ((rd_T56 l0_2 x27_2).f1)) := (blk_cell BK106.out 1).trans rfl
                                have hcz41_2 : wc.cell? ⟨gb106, 2, none⟩ = some (.int .i64 ((rd_T56 l0_2 x27_2).f2)) := (blk_cell BK106.out 2).trans rfl
                                have hfz41_0 := blk_frozen BK106.out 0
                                have hfz41_1 := blk_frozen BK106.out 1
                                have hfz41_2 := blk_frozen BK106.out 2
                                go_wp2
                                go_ret2
                                exact ⟨_, by first | rfl | (simp [errW_none, errW_some] <;> rfl) | (simp [*, errW_none, errW_some] <;> rfl), by first | exact Kd.R_nil _ _ _ _ _ | exact Kd.N_nil _ _ _ _ _ | exact Kd.V_nil _ _ _ _ _ | exact Kd.Q_nil _ _ _ _ _ | exact Kd.S_nil _ _ _ _ _, by repeat (first | (with_reducible first | exact HB.out | apply below_alloc | apply pw_below_drewN | apply below_drew1 | refine below_set ?_ GE101.out | refine below_set ?_ GE106.out) | exact HB.out)⟩
                            · rw [if_neg c34] at H
                              have c34b0 : decide ((wrap64 (((rd_T56 l0_2 x27_2).f0) + ((rd_T56 l0_2 x27_2).f2))) ≤ a3) = false := decide_eq_false c34
                              clear c34
                              simp only [Option.some.injEq, Prod.mk.injEq] at H
                              obtain ⟨rfl, rfl⟩ := H
                              have hnb42 := NB106_101.out
                              have hnc42 := NB101_106.out
                              have hcz43_0 : wc.cell? ⟨gb106, 0, none⟩ = some (.int .i64 ((rd_T56 l0_2 x27_2).f0)) := (blk_cell BK106.out 0).trans rfl
                              have hcz43_1 : wc.cell? ⟨gb106, 1, none⟩ = some (.int .i64 ((rd_T56 l0_2 x27_2).f1)) := (blk_cell BK106.out 1).trans rfl
                              have hcz43_2 : wc.cell? ⟨gb106, 2, none⟩ = some (.int .i64 ((rd_T56 l0_2 x27_2).f2)) := (blk_cell BK106.out 2).trans rfl
                              have hfz43_0 := blk_frozen BK106.out 0
                              have hfz43_1 := blk_frozen BK106.out 1
                              have hfz43_2 := blk_frozen BK106.out 2
                              go_wp2
                              go_ret2
                              exact ⟨_, by first | rfl | (simp [errW_none, errW_some] <;> rfl) | (simp [*, errW_none, errW_some] <;> rfl), by first | exact Kd.R_nil _ _ _ _ _ | exact Kd.N_nil _ _ _ _ _ | exact Kd.V_nil _ _ _ _ _ | exact Kd.Q_nil _ _ _ _ _ | exact Kd.S_nil _ _ _ _ _, by repeat (first | (with_reducible first | exact HB.out | apply below_alloc | apply pw_below_drewN | apply below_drew1 | refine below_set ?_ GE101.out | refine below_set ?_ GE106.out) | exact HB.out)⟩
                          · rw [if_neg c33] at H
                            have c33b0 : decide (a2 ≤ ((rd_T56 l0_2 x27_2).f1)) = false := decide_eq_false c33
                            clear c33
                            simp only [Option.some.injEq, Prod.mk.injEq] at H
                            obtain ⟨rfl, rfl⟩ := H
                            have hnb44 := NB106_101.out
                            have hnc44 := NB101_106.out
                            have hcz45_0 : wc.cell? ⟨gb106, 0, none⟩ = some (.int .i64 ((rd_T56 l0_2 x27_2).f0)) := (blk_cell BK106.out 0).trans rfl
                            have hcz45_1 : wc.cell? ⟨gb106, 1, none⟩ = some (.int .i64 ((rd_T56 l0_2 x27_2).f1)) := (blk_cell BK106.out 1).trans rfl
                            have hcz45_2 : wc.cell? ⟨gb106, 2, none⟩ = some (.int .i64 ((rd_T56 l0_2 x27_2).f2)) := (blk_cell BK106.out 2).trans rfl
                            have hfz45_0 := blk_frozen BK106.out 0
                            have hfz45_1 := blk_frozen BK106.out 1
                            have hfz45_2 := blk_frozen BK106.out 2
                            go_wp2
                            go_ret2
                            exact ⟨_, by first | rfl | (simp [errW_none, errW_some] <;> rfl) | (simp [*, errW_none, errW_some] <;> rfl), by first | exact Kd.R_nil _ _ _ _ _ | exact Kd.N_nil _ _ _ _ _ | exact Kd.V_nil _ _ _ _ _ | exact Kd.Q_nil _ _ _ _ _ | exact Kd.S_nil _ _ _ _ _, by repeat (first | (with_reducible first | exact HB.out | apply below_alloc | apply pw_below_drewN | apply below_drew1 | refine below_set ?_ GE101.out | refine below_set ?_ GE106.out) | exact HB.out)⟩
                        · rw [if_neg c32] at H
                          have c32b0 : decide (a1 ≤ ((rd_T56 l0_2 x27_2).f0)) = false := decide_eq_false c32
                          clear c32
                          simp only [Option.some.injEq, Prod.mk.injEq] at H
                          obtain ⟨rfl, rfl⟩ := H
                          have hnb46 := NB106_101.out
                          have hnc46 := NB101_106.out
                          have hcz47_0 : wc.cell? ⟨gb106, 0, none⟩ = some (.int .i64 ((rd_T56 l0_2 x27_2).f0)) := (blk_cell BK106.out 0).trans rfl
                          have hcz47_1 : wc.cell? ⟨gb106, 1, none⟩ = some (.int .i64 ((rd_T56 l0_2 x27_2).f1)) := (blk_cell BK106.out 1).trans rfl
                          have hcz47_2 : wc.cell? ⟨gb106, 2, none⟩ = some (.int .i64 ((rd_T56 l0_2 x27_2).f2)) := (blk_cell BK106.out 2).trans rfl
                          have hfz47_0 := blk_frozen BK106.out 0
                          have hfz47_1 := blk_frozen BK106.out 1
                          have hfz47_2 := blk_frozen BK106.out 2
                          go_wp2
                          go_ret2
                          exact ⟨_, by first | rfl | (simp [errW_none, errW_some] <;> rfl) | (simp [*, errW_none, errW_some] <;> rfl), by first | exact Kd.R_nil _ _ _ _ _ | exact Kd.N_nil _ _ _ _ _ | exact Kd.V_nil _ _ _ _ _ | exact Kd.Q_nil _ _ _ _ _ | exact Kd.S_nil _ _ _ _ _, by repeat (first | (with_reducible first | exact HB.out | apply below_alloc | apply pw_below_drewN | apply below_drew1 | refine below_set ?_ GE101.out | refine below_set ?_ GE106.out) | exact HB.out)⟩
                · rw [if_neg c15] at H
                  exact absurd H (by simp)
              · rw [if_neg c14] at H
                exact absurd H (by simp)
            · rw [if_neg c13] at H
              have c13b0 : decide (x27_2 < (l0_2.length : Int)) = false := decide_eq_false c13
              clear c13
              simp only [Option.some.injEq, Prod.mk.injEq] at H
              obtain ⟨rfl, rfl⟩ := H
              go_wp2
              go_ret2
              exact ⟨_, by first | rfl | (simp [errW_none, errW_some] <;> rfl) | (simp [*, errW_none, errW_some] <;> rfl), by (with_reducible repeat (first | apply Kd.R_alloc | apply Kd.R_drewN | apply Kd.R_drew)); exact HO_12.out, by repeat (first | (with_reducible first | exact HB.out | apply below_alloc | apply pw_below_drewN | apply below_drew1 | refine below_set ?_ GE101.out) | exact HB.out)⟩
end Go.Proofs.Ytdfcljfajiihdaa.P

namespace Go.Proofs.Ytdfcljfajiihdaa.P
open Go.RowKit Go.Proofs.YtdfcljfajiihdaaW.PrintWords Go.Proofs.YtdfcljfajiihdaaW.PrintLast Go.Proofs.Ytdfcljfajiihdaa.Wm
attribute [local go_sem] max2_int min2_int max_two min_two
set_option linter.unusedVariables false
set_option linter.unusedSimpArgs false
def slices_Equal_int_int.l0 : Nat → List Int → List Int → Int → Int → Option (Bool)
  | 0, _, _, _, _ => none
  | k + 1, x0, x1, x12, x13 => if x13 < x12 then (if 0 ≤ x13 then (if x13 < (x0.length : Int) then (if x13 < (x1.length : Int) then (if (rd x0 x13) = (rd x1 x13) then (slices_Equal_int_int.l0 k x0 x1 x12 (wrap64 (x13 + 1))) else (some false)) else (none)) else (none)) else (none)) else (some true)
def slices_Equal_int_int.f (k : Nat) (l0 : List Int) (l1 : List Int) : Option (Bool) := if (l0.length : Int) = (l1.length : Int) then (slices_Equal_int_int.l0 k l0 l1 (l0.length : Int) 0) else (some false)
set_option maxHeartbeats 8000000 in
set_option maxRecDepth 100000 in
theorem slices_Equal_int_int.calls (k : Nat) (A0 : Option Addr) (c0 : Nat) (l0 : List Int) (A1 : Option Addr) (c1 : Nat) (l1 : List Int) (r : Bool) (w : World) (hr0 : Kd.C (Kd.int .i64) w A0 l0.length l0) (hc0 : l0.length ≤ c0) (hr1 : Kd.C (Kd.int .i64) w A1 l1.length l1) (hc1 : l1.length ≤ c1) (h : slices_Equal_int_int.f k l0 l1 = some r) :
    Calls Try.prog 57 #[.slice A0 l0.length c0, .slice A1 l1.length c1] w fun e w' => e = .returned (.bool r) ∧ Drawn0 w w' := by
  have HR0 := Aside0.mk hr0
  have HC0 := Aside0.mk hc0
  clear hr0 hc0
  have HR1 := Aside0.mk hr1
  have HC1 := Aside0.mk hc1
  clear hr1 hc1
  have H : (if (l0.length : Int) = (l1.length : Int) then (slices_Equal_int_int.l0 k l0 l1 (l0.length : Int) 0) else (some false)) = some r := h
  clear h
  by_cases c3 : (l0.length : Int) = (l1.length : Int)
  · rw [if_pos c3] at H
    have c3b0 : ((l0.length : Int) == (l1.length : Int)) = true := beq_iff_eq.mpr c3
    have c3b1 : ((l0.length : Int) != (l1.length : Int)) = false := bne_eq_false_iff_eq.mpr c3
    have c3b2 : (l0.length == l1.length) = true := by first | simpa using c3 | (simp at c3 ⊢; omega)
    clear c3
    have H' := Aside0.mk H
    clear H
    go_enter Try.func57, Try.ntmps57
    go_wp2
    repeat (go_quiet (fail); try go_wp2)
    go_loopg [13] k (fun kq v13 w' => ∃ (x13_1 : Int), v13 = .int .i64 x13_1 ∧ Aside0 (slices_Equal_int_int.l0 kq l0 l1 (l0.length : Int) x13_1 = some r) ∧ Aside0 (kq ≤ k) ∧ Drawn0 w w')
    case atStart => exact ⟨(0), (by first | rfl | (simp; done) | (simp [*]; done)), H', ⟨Nat.le_refl _⟩, by repeat (first | exact Drawn0.refl _ | apply Drawn0.step)⟩
    case round =>
      clear H'
      try clear c1
      try clear p2
      try clear c3
      try clear c3b0
      try clear c3b1
      try clear c3b2
      obtain ⟨x13_1, rfl, HA, HK1, ⟨m1, rfl⟩⟩ := hrel
      cases gk with
      | zero => exact absurd HA.out (by simp [slices_Equal_int_int.l0])
      | succ k1 =>
        have H := HA.out
        clear HA
        simp only [slices_Equal_int_int.l0] at H
        by_cases c4 : x13_1 < (l0.length : Int)
        · rw [if_pos c4] at H
          have c4b0 : decide (x13_1 < (l0.length : Int)) = true := decide_eq_true c4
          clear c4
          by_cases c5 : 0 ≤ x13_1
          · rw [if_pos c5] at H
            have c5b0 : decide (0 ≤ x13_1) = true := decide_eq_true c5
            clear c5
            by_cases c6 : x13_1 < (l0.length : Int)
            · rw [if_pos c6] at H
              have c6b0 : decide (x13_1 < (l0.length : Int)) = true := decide_eq_true c6
              clear c6
              by_cases c7 : x13_1 < (l1.length : Int)
              · rw [if_pos c7] at H
                have c7b0 : decide (x13_1 < (l1.length : Int)) = true := decide_eq_true c7
                clear c7
                by_cases c8 : (rd l0 x13_1) = (rd l1 x13_1)
                · rw [if_pos c8] at H
                  have c8b0 : ((rd l0 x13_1) == (rd l1 x13_1)) = true := beq_iff_eq.mpr c8
                  have c8b1 : ((rd l0 x13_1) != (rd l1 x13_1)) = false := bne_eq_false_iff_eq.mpr c8
                  clear c8
                  have H' := Aside0.mk H
                  clear H
                  have p101 : 0 ≤ (x13_1 : Int) := of_decide_eq_true (by first | (with_reducible assumption) | assumption)
                  have q101 : x13_1 < (l0.length : Int) := of_decide_eq_true (by first | (with_reducible assumption) | assumption)
                  obtain ⟨ad101, e101, hx101_0⟩ := Kd.at_int HR0.out x13_1 p101 q101
                  cases e101
                  replace p101 := eq_true p101
                  replace q101 := eq_true q101
                  have p102 : 0 ≤ (x13_1 : Int) := of_decide_eq_true (by first | (with_reducible assumption) | assumption)
                  have q102 : x13_1 < (l1.length : Int) := of_decide_eq_true (by first | (with_reducible assumption) | assumption)
                  obtain ⟨ad102, e102, hx102_0⟩ := Kd.at_int HR1.out x13_1 p102 q102
                  cases e102
                  replace p102 := eq_true p102
                  replace q102 := eq_true q102
                  go_wp2
                  repeat (go_quiet (fail); try go_wp2)
                  go_roundg k1
                  case measure => have := HK1.out; omega
                  case rel => exact ⟨(wrap64 (x13_1 + 1)), (by first | rfl | (simp; done) | (simp [*]; done)), H', ⟨by have := HK1.out; omega⟩, by repeat (first | exact Drawn0.refl _ | apply Drawn0.step)⟩
                · rw [if_neg c8] at H
                  have c8b0 : ((rd l0 x13_1) == (rd l1 x13_1)) = false := beq_eq_false_iff_ne.mpr c8
                  have c8b1 : ((rd l0 x13_1) != (rd l1 x13_1)) = true := bne_iff_ne.mpr c8
                  obtain rfl := Option.some.inj H
                  have p101 : 0 ≤ (x13_1 : Int) := of_decide_eq_true (by first | (with_reducible assumption) | assumption)
                  have q101 : x13_1 < (l0.length : Int) := of_decide_eq_true (by first | (with_reducible assumption) | assumption)
                  obtain ⟨ad101, e101, hx101_0⟩ := Kd.at_int HR0.out x13_1 p101 q101
                  cases e101
                  replace p101 := eq_true p101
                  replace q101 := eq_true q101
                  have p102 : 0 ≤ (x13_1 : Int) := of_decide_eq_true (by first | (with_reducible assumption) | assumption)
                  have q102 : x13_1 < (l1.length : Int) := of_decide_eq_true (by first | (with_reducible assumption) | assumption)
                  obtain ⟨ad102, e102, hx102_0⟩ := Kd.at_int HR1.out x13_1 p102 q102
                  cases e102
                  replace p102 := eq_true p102
                  replace q102 := eq_true q102
                  go_wp2
                  repeat (go_quiet (fail); try go_wp2)
                  go_ret
                  exact ⟨by first | rfl | (simp; done) | (simp [*]; done), by repeat (first | exact Drawn0.refl _ | apply Drawn0.step)⟩
              · rw [if_neg c7] at H
                exact absurd H (by simp)
            · rw [if_neg c6] at H
              exact absurd H (by simp)
          · rw [if_neg c5] at H
            exact absurd H (by simp)
        · rw [if_neg c4] at H
          have c4b0 : decide (x13_1 < (l0.length : Int)) = false := decide_eq_false c4
          clear c4
          obtain rfl := Option.some.inj H
          go_wp2
          repeat (go_quiet (fail); try go_wp2)
          go_ret
          exact ⟨by first | rfl | (simp; done) | (simp [*]; done), by repeat (first | exact Drawn0.refl _ | apply Drawn0.step)⟩
  · rw [if_neg c3] at H
    have c3b0 : ((l0.length : Int) == (l1.length : Int)) = false := beq_eq_false_iff_ne.mpr c3
    have c3b1 : ((l0.length : Int) != (l1.length : Int)) = true := bne_iff_ne.mpr c3
    have c3b2 : (l0.length == l1.length) = false := by first | simpa using c3 | (simp at c3 ⊢; omega)
    obtain rfl := Option.some.inj H
    go_enter Try.func57, Try.ntmps57
    go_wp2
    repeat (go_quiet (fail); try go_wp2)
    go_ret
    exact ⟨by first | rfl | (simp; done) | (simp [*]; done), by repeat (first | exact Drawn0.refl _ | apply Drawn0.step)⟩
end Go.Proofs.Ytdfcljfajiihdaa.P

namespace Go.Proofs.Ytdfcljfajiihdaa.P
open Go.RowKit Go.Proofs.YtdfcljfajiihdaaW.PrintWords Go.Proofs.YtdfcljfajiihdaaW.PrintLast Go.Proofs.Ytdfcljfajiihdaa.Wm
attribute [local go_sem] max2_int min2_int max_two min_two
set_option linter.unusedVariables false
set_option linter.unusedSimpArgs false
def impl_Cut_taken.l0 : Nat → Int → Int → List Int → Int → Int → Int → Int → List (S56) → Int → Int → List (S56) → Option (Int × Int × (List (S56)))
  | 0, _, _, _, _, _, _, _, _, _, _, _ => none
  | k + 1, x1, x2, x33, x34, x35, x102000, x102001, x102002, x108000, x108001, x108002 => if x35 < x34 then (if 0 ≤ x35 then (if x35 < (x33.length : Int) then (if 0 ≤ (rd x33 x35) then (if (rd x33 x35) < (x102002.length : Int) then (if x108002.length < 5864062014805 then (impl_Cut_taken.l0 k x1 x2 x33 x34 (wrap64 (x35 + 1)) x102000 x102001 x102002 x108000 x108001 (x108002 ++ [(⟨wrap64 (((rd_T56 x102002 (rd x33 x35)).f0) - x1), wrap64 (((rd_T56 x102002 (rd x33 x35)).f1) - x2), (rd_T56 x102002 (rd x33 x35)).f2⟩ : S56)])) else (none)) else (none)) else (none)) else (none)) else (none)) else (some (x108000, x108001, x108002))
def impl_Cut_taken.f (k : Nat) (a0_0 : Int) (a0_1 : Int) (l0_2 : List (S56)) (a1 : Int) (a2 : Int) (a3 : Int) (a4 : Int) : Option (Int × Int × (List (S56))) := (impl_Cut_within.f k a0_0 a0_1 l0_2 a1 a2 a3 a4).bind fun bt103 => (impl_Cut_taken.l0 k a1 a2 bt103.1 (bt103.1.length : Int) 0 a0_0 a0_1 l0_2 (wrap64 (a3 - a1)) (wrap64 (a4 - a2)) ([] : List (S56)))
set_option maxHeartbeats 8000000 in
set_option maxRecDepth 100000 in
theorem impl_Cut_taken.calls (k : Nat) (a0_0 : Int) (a0_1 : Int) (A0_2 : Option Addr) (c0_2 : Nat) (l0_2 : List (S56)) (a1 : Int) (a2 : Int) (a3 : Int) (a4 : Int) (r1 : Int) (r2 : Int) (r3 : List (S56)) (w : World) (hr0_2 : Kd.C k56 w A0_2 l0_2.length l0_2) (hc0_2 : l0_2.length ≤ c0_2) (h : impl_Cut_taken.f k a0_0 a0_1 l0_2 a1 a2 a3 a4 = some (r1, r2, r3)) :
    Calls Try.prog 58 #[.agg #[.int .i64 a0_0, .int .i64 a0_1, .slice A0_2 l0_2.length c0_2], .int .i64 a1, .int .i64 a2, .int .i64 a3, .int .i64 a4] w fun e w' => ∃ v2_ : Value, e = .returned (.agg #[.int .i64 r1, .int .i64 r2, v2_]) ∧ Kd.R k56 56 w' w.heap.size (fun _ => True) v2_ r3 ∧ Below w.heap.size w w' := by
  have hu37 := Try.underlying37
  have hu56 := Try.underlying56
  have HR0_2 := Aside0.mk hr0_2
  have HC0_2 := Aside0.mk hc0_2
  clear hr0_2 hc0_2
  have HB := Aside0.mk (Below.refl w.heap.size w)
  have H : ((impl_Cut_within.f k a0_0 a0_1 l0_2 a1 a2 a3 a4).bind fun bt103 => (impl_Cut_taken.l0 k a1 a2 bt103.1 (bt103.1.length : Int) 0 a0_0 a0_1 l0_2 (wrap64 (a3 - a1)) (wrap64 (a4 - a2)) ([] : List (S56)))) = some (r1, r2, r3) := h
  clear h
  replace H := Option.bind_eq_some_iff.mp H
  obtain ⟨⟨t103, t106⟩, A60, H⟩ := H
  replace H : (impl_Cut_taken.l0 k a1 a2 t103 (t103.length : Int) 0 a0_0 a0_1 l0_2 (wrap64 (a3 - a1)) (wrap64 (a4 - a2)) ([] : List (S56))) = some (r1, r2, r3) := H
  have A6 := Aside0.mk A60
  clear A60
  have H' := Aside0.mk H
  clear H
  go_enter Try.func58, Try.ntmps58
  go_wp2_with (first | ((with_reducible refine gate_dst (N := 5) rfl ?_); refine box_event ?hg (N := 5) ?hd (cs := #[.int .i64 a0_0, .int .i64 a0_1, .slice A0_2 l0_2.length c0_2]) (t := 37) ?hr ?_; (case hd => rfl); (case hg => rfl); (case hr => first | (go_simp; done) | (go_simp; rfl)); intro gb101 hg w7 hbox hb; have n0_ := Aside0.mk (below_step (by repeat (first | (with_reducible first | exact HB.out | apply below_alloc | apply pw_below_drewN | apply below_drew1) | exact HB.out)) hb); have n1_ := Aside0.mk (hbox); have n2_ := Aside0.mk ((by rw [hg]; exact (below_size (by repeat (first | (with_reducible first | exact HB.out | apply below_alloc | apply pw_below_drewN | apply below_drew1) | exact HB.out))) : w.heap.size ≤ gb101)); have n3_ := Aside0.mk ((by rw [hg]; exact (below_size (by repeat (first | (with_reducible first | exact HB.out | apply below_alloc | apply pw_below_drewN | apply below_drew1) | exact HB.out))) : w.heap.size ≤ gb101)); clear HB; have HB := n0_; have BK101 := n1_; have GW101 := n2_; have GE101 := n3_; clear n0_ n1_ n2_ n3_; clear hb hbox hg) | ((with_reducible refine gate_dst (N := 10) rfl ?_); refine box_event ?hg (N := 10) ?hd (cs := #[.int .i64 0, .int .i64 0, .slice none 0 0]) (t := 37) ?hr ?_; (case hd => rfl); (case hg => rfl); (case hr => first | (go_simp; done) | (go_simp; rfl)); intro gb102 hg w8 hbox hb; have n0_ := Aside0.mk (blk_below (g := gb101) (o := .cells #[.int .i64 a0_0, .int .i64 a0_1, .slice A0_2 l0_2.length c0_2] 37 (0, 0)) (by (with_reducible repeat (first | refine blk_drewN ?_ _ | refine blk_drew ?_ | refine blk_alloc ?_ _)); exact BK101.out) hb); have n1_ := Aside0.mk (below_step (by repeat (first | (with_reducible first | exact HB.out | apply below_alloc | apply pw_below_drewN | apply below_drew1 | refine below_set ?_ GE101.out) | exact HB.out)) hb); have n2_ := Aside0.mk (hbox); have n3_ := Aside0.mk ((by rw [hg]; exact (below_size (by repeat (first | (with_reducible first | exact HB.out | apply below_alloc | apply pw_below_drewN | apply below_drew1 | refine below_set ?_ GE101.out) | exact HB.out))) : w.heap.size ≤ gb102)); have n4_ := Aside0.mk ((by rw [hg]; exact (below_size (by repeat (first | (with_reducible first | exact HB.out | apply below_alloc | apply pw_below_drewN | apply below_drew1 | refine below_set ?_ GE101.out) | exact HB.out))) : w.heap.size ≤ gb102)); have n5_ := Aside0.mk ((by rw [hg]; exact Nat.ne_of_lt (blk_lt (g := gb101) (o := .cells #[.int .i64 a0_0, .int .i64 a0_1, .slice A0_2 l0_2.length c0_2] 37 (0, 0)) (by (with_reducible repeat (first | refine blk_drewN ?_ _ | refine blk_drew ?_ | refine blk_alloc ?_ _)); exact BK101.out)) : gb101 ≠ gb102)); have n6_ := Aside0.mk ((by rw [hg]; exact Nat.ne_of_gt (blk_lt (g := gb101) (o := .cells #[.int .i64 a0_0, .int .i64 a0_1, .slice A0_2 l0_2.length c0_2] 37 (0, 0)) (by (with_reducible repeat (first | refine blk_drewN ?_ _ | refine blk_drew ?_ | refine blk_alloc ?_ _)); exact BK101.out)) : gb102 ≠ gb101)); clear BK101; clear HB; have BK101 := n0_; have HB := n1_; have BK102 := n2_; have GW102 := n3_; have GE102 := n4_; have NB101_102 := n5_; have NB102_101 := n6_; clear n0_ n1_ n2_ n3_ n4_ n5_ n6_; clear hb hbox hg; have hnb9 := NB101_102.out; have hnc9 := NB102_101.out; have hcz10_0 : w8.cell? ⟨gb101, 0, none⟩ = some (.int .i64 a0_0) := (blk_cell BK101.out 0).trans rfl; have hcz10_1 : w8.cell? ⟨gb101, 1, none⟩ = some (.int .i64 a0_1) := (blk_cell BK101.out 1).trans rfl; have hcz10_2 : w8.cell? ⟨gb101, 2, none⟩ = some (.slice A0_2 l0_2.length c0_2) := (blk_cell BK101.out 2).trans rfl; have hfz10_0 := blk_frozen BK101.out 0; have hfz10_1 := blk_frozen BK101.out 1; have hfz10_2 := blk_frozen BK101.out 2) | ((with_reducible refine gate_callee (f := 56) rfl ?_); refine goesL_ (some 23) rfl rfl Try.func56 (by kernel_rfl) rfl #[.agg #[.int .i64 a0_0, .int .i64 a0_1, .slice A0_2 l0_2.length c0_2], .int .i64 a1, .int .i64 a2, .int .i64 a3, .int .i64 a4] rfl (by (try simp only [List.map_toArray, List.map_cons, List.map_nil]); first | done | rfl | (simp only [List.length_drop, List.length_take]; rfl)) ?_; (with_reducible refine (impl_Cut_within.calls k a0_0 a0_1 _ _ l0_2 a1 a2 a3 a4 t103 t106 _ ?side1 ?side2 A6.out).mono ?_); (case side1 => repeat (first | exact (Kd.C_below HR0_2.out HB.out) | (with_reducible refine Kd.C_alloc ?_ _) | (with_reducible refine Kd.C_drewN ?_ _) | (with_reducible refine Kd.C_drew ?_))); (case side2 => exact HC0_2.out); rintro e w11 ⟨v104, rfl, ho0, hb⟩; refine ⟨_, rfl, ?_⟩; have n0_ := Aside0.mk (Kd.R_lower ho0 (below_size (by repeat (first | (with_reducible first | exact HB.out | apply below_alloc | apply pw_below_drewN | apply below_drew1 | refine below_set ?_ GE101.out | refine below_set ?_ GE102.out) | exact HB.out)))); have n1_ := Aside0.mk (blk_below (g := gb101) (o := .cells #[.int .i64 a0_0, .int .i64 a0_1, .slice A0_2 l0_2.length c0_2] 37 (0, 0)) (by (with_reducible repeat (first | refine blk_drewN ?_ _ | refine blk_drew ?_ | refine blk_alloc ?_ _)); exact BK101.out) hb); have n2_ := Aside0.mk (blk_below (g := gb102) (o := .cells #[.int .i64 0, .int .i64 0, .slice none 0 0] 37 (0, 0)) (by (with_reducible repeat (first | refine blk_drewN ?_ _ | refine blk_drew ?_ | refine blk_alloc ?_ _)); exact BK102.out) hb); have n3_ := Aside0.mk (below_step (by repeat (first | (with_reducible first | exact HB.out | apply below_alloc | apply pw_below_drewN | apply below_drew1 | refine below_set ?_ GE101.out | refine below_set ?_ GE102.out) | exact HB.out)) hb); clear BK101; clear BK102; clear HB; have HO105 := n0_; have BK101 := n1_; have BK102 := n2_; have HB := n3_; clear n0_ n1_ n2_ n3_; (try clear hb); (try clear hb2); (try clear hk); (try clear hi); (try clear ho0)) | ((with_reducible refine gate_dst (N := 13) rfl ?_); refine box_event ?hg (N := 13) ?hd (cs := #[.int .i64 0, .int .i64 0, .slice none 0 0]) (t := 37) ?hr ?_; (case hd => rfl); (case hg => rfl); (case hr => first | (go_simp; done) | (go_simp; rfl)); intro gb107 hg w12 hbox hb; have n0_ := Aside0.mk (Kd.R_below (by (with_reducible repeat (first | apply Kd.R_alloc | apply Kd.R_drewN | apply Kd.R_drew)); exact HO105.out) hb); have n1_ := Aside0.mk (blk_below (g := gb101) (o := .cells #[.int .i64 a0_0, .int .i64 a0_1, .slice A0_2 l0_2.length c0_2] 37 (0, 0)) (by (with_reducible repeat (first | refine blk_drewN ?_ _ | refine blk_drew ?_ | refine blk_alloc ?_ _)); exact BK101.out) hb); have n2_ := Aside0.mk (blk_below (g := gb102) (o := .cells #[.int .i64 0, .int .i64 0, .slice none 0 0] 37 (0, 0)) (by (with_reducible repeat (first | refine blk_drewN ?_ _ | refine blk_drew ?_ | refine blk_alloc ?_ _)); exact BK102.out) hb); have n3_ := Aside0.mk (below_step (by repeat (first | (with_reducible first | exact HB.out | apply below_alloc | apply pw_below_drewN | apply below_drew1 | refine below_set ?_ GE101.out | refine below_set ?_ GE102.out) | exact HB.out)) hb); have n4_ := Aside0.mk (hbox); have n5_ := Aside0.mk ((by rw [hg]; exact (below_size (by repeat (first | (with_reducible first | exact HB.out | apply below_alloc | apply pw_below_drewN | apply below_drew1 | refine below_set ?_ GE101.out | refine below_set ?_ GE102.out) | exact HB.out))) : w.heap.size ≤ gb107)); have n6_ := Aside0.mk ((by rw [hg]; exact (below_size (by repeat (first | (with_reducible first | exact HB.out | apply below_alloc | apply pw_below_drewN | apply below_drew1 | refine below_set ?_ GE101.out | refine below_set ?_ GE102.out) | exact HB.out))) : w.heap.size ≤ gb107)); have n7_ := Aside0.mk ((by rw [hg]; exact Nat.ne_of_lt (blk_lt (g := gb101) (o := .cells #[.int .i64 a0_0, .int .i64 a0_1, .slice A0_2 l0_2.length c0_2] 37 (0, 0)) (by (with_reducible repeat (first | refine blk_drewN ?_ _ | refine blk_drew ?_ | refine blk_alloc ?_ _)); exact BK101.out)) : gb101 ≠ gb107)); have n8_ := Aside0.mk ((by rw [hg]; exact Nat.ne_of_gt (blk_lt (g := gb101) (o := .cells #[.int .i64 a0_0, .int .i64 a0_1, .slice A0_2 l0_2.length c0_2] 37 (0, 0)) (by (with_reducible repeat (first | refine blk_drewN ?_ _ | refine blk_drew ?_ | refine blk_alloc ?_ _)); exact BK101.out)) : gb107 ≠ gb101)); have n9_ := Aside0.mk ((by rw [hg]; exact Nat.ne_of_lt (blk_lt (g := gb102) (o := .cells #[.int .i64 0, .int .i64 0, .slice none 0 0] 37 (0, 0)) (by (with_reducible repeat (first | refine blk_drewN ?_ _ | refine blk_drew ?_ | refine blk_alloc ?_ _)); exact BK102.out)) : gb102 ≠ gb107)); have n10_ := Aside0.mk ((by rw [hg]; exact Nat.ne_of_gt (blk_lt (g := gb102) (o := .cells #[.int .i64 0, .int .i64 0, .slice none 0 0] 37 (0, 0)) (by (with_reducible repeat (first | refine blk_drewN ?_ _ | refine blk_drew ?_ | refine blk_alloc ?_ _)); exact BK102.out)) : gb107 ≠ gb102)); clear HO105; clear BK101; clear BK102; clear HB; have HO105 := n0_; have BK101 := n1_; have BK102 := n2_; have HB := n3_; have BK107 := n4_; have GW107 := n5_; have GE107 := n6_; have NB101_107 := n7_; have NB107_101 := n8_; have NB102_107 := n9_; have NB107_102 := n10_; clear n0_ n1_ n2_ n3_ n4_ n5_ n6_ n7_ n8_ n9_ n10_; clear hb hbox hg; have hnb13 := NB107_101.out; have hnc13 := NB101_107.out; have hnb14 := NB107_102.out; have hnc14 := NB102_107.out; have hcz15_0 : w12.cell? ⟨gb107, 0, none⟩ = some (.int .i64 0) := (blk_cell BK107.out 0).trans rfl; have hcz15_1 : w12.cell? ⟨gb107, 1, none⟩ = some (.int .i64 0) := (blk_cell BK107.out 1).trans rfl; have hcz15_2 : w12.cell? ⟨gb107, 2, none⟩ = some (.slice none 0 0) := (blk_cell BK107.out 2).trans rfl; have hfz15_0 := blk_frozen BK107.out 0; have hfz15_1 := blk_frozen BK107.out 1; have hfz15_2 := blk_frozen BK107.out 2; obtain ⟨Ao16, co16, eo16⟩ := Kd.R_slice HO105.out; subst eo16))
  go_loopg [35] k (fun kq v35 w' => ∃ (x35_1 : Int) (x108002_1 : List (S56)) (u108002 : Value), v35 = .int .i64 x35_1 ∧ Aside0 (impl_Cut_taken.l0 kq a1 a2 t103 (t103.length : Int) x35_1 a0_0 a0_1 l0_2 (wrap64 (a3 - a1)) (wrap64 (a4 - a2)) x108002_1 = some (r1, r2, r3)) ∧ Aside0 (kq ≤ k) ∧ Aside0 (Kd.R (Kd.int .i64) 3 w' w.heap.size (fun _ => True) (.slice Ao16 t103.length co16) t103) ∧ Aside0 (Kd.R k56 56 w' w.heap.size (fun _ => True) u108002 x108002_1) ∧ Aside0 (w'.heap[gb101]? = some (.cells #[.int .i64 a0_0, .int .i64 a0_1, (.slice A0_2 l0_2.length c0_2)] 37 (0, 0))) ∧ Aside0 (w'.heap[gb102]? = some (.cells #[.int .i64 0, .int .i64 0, (.slice none 0 0)] 37 (0, 0))) ∧ Aside0 (w'.heap[gb107]? = some (.cells #[.int .i64 (wrap64 (a3 - a1)), .int .i64 (wrap64 (a4 - a2)), u108002] 37 (0, 0))) ∧ Aside0 (Below w.heap.size w w'))
  case atStart => exact ⟨(0), (([] : List (S56))), (.slice none 0 0), (by first | rfl | (simp; done) | (simp [*]; done)), H', ⟨Nat.le_refl _⟩, ⟨by (with_reducible repeat (first | apply Kd.R_alloc | apply Kd.R_drewN | apply Kd.R_drew)); exact Kd.R_mono (Kd.R_far (p := ⟨gb107, 2, none⟩) (Kd.R_far (p := ⟨gb107, 1, none⟩) (Kd.R_far (p := ⟨gb107, 0, none⟩) (Kd.R_types HO105.out BK107.out (by decide)) (fun _ hk => hk.2) (.int .i64 (wrap64 (a3 - a1)))) (fun _ hk => hk.2) (.int .i64 (wrap64 (a4 - a2)))) (fun _ hk => hk.2) (.slice none 0 0)) (fun _ hk => trivial)⟩, ⟨by first | exact Kd.R_nil _ _ _ _ _ | exact Kd.N_nil _ _ _ _ _ | exact Kd.V_nil _ _ _ _ _ | exact Kd.Q_nil _ _ _ _ _ | exact Kd.S_nil _ _ _ _ _⟩, ⟨by (with_reducible repeat (first | refine blk_drewN ?_ _ | refine blk_drew ?_ | refine blk_alloc ?_ _)); refine blk_far ?_ NB101_107.out _; (with_reducible repeat (first | refine blk_drewN ?_ _ | refine blk_drew ?_ | refine blk_alloc ?_ _)); refine blk_far ?_ NB101_107.out _; (with_reducible repeat (first | refine blk_drewN ?_ _ | refine blk_drew ?_ | refine blk_alloc ?_ _)); refine blk_far ?_ NB101_107.out _; (with_reducible repeat (first | refine blk_drewN ?_ _ | refine blk_drew ?_ | refine blk_alloc ?_ _)); exact BK101.out⟩, ⟨by (with_reducible repeat (first | refine blk_drewN ?_ _ | refine blk_drew ?_ | refine blk_alloc ?_ _)); refine blk_far ?_ NB102_107.out _; (with_reducible repeat (first | refine blk_drewN ?_ _ | refine blk_drew ?_ | refine blk_alloc ?_ _)); refine blk_far ?_ NB102_107.out _; (with_reducible repeat (first | refine blk_drewN ?_ _ | refine blk_drew ?_ | refine blk_alloc ?_ _)); refine blk_far ?_ NB102_107.out _; (with_reducible repeat (first | refine blk_drewN ?_ _ | refine blk_drew ?_ | refine blk_alloc ?_ _)); exact BK102.out⟩, ⟨by (with_reducible repeat (first | refine blk_drewN ?_ _ | refine blk_drew ?_ | refine blk_alloc ?_ _)); refine blk_put (cs := #[.int .i64 (wrap64 (a3 - a1)), .int .i64 (wrap64 (a4 - a2)), .slice none 0 0]) ?_ 2 _ rfl; (with_reducible repeat (first | refine blk_drewN ?_ _ | refine blk_drew ?_ | refine blk_alloc ?_ _)); refine blk_put (cs := #[.int .i64 (wrap64 (a3 - a1)), .int .i64 0, .slice none 0 0]) ?_ 1 _ rfl; (with_reducible repeat (first | refine blk_drewN ?_ _ | refine blk_drew ?_ | refine blk_alloc ?_ _)); refine blk_put (cs := #[.int .i64 0, .int .i64 0, .slice none 0 0]) ?_ 0 _ rfl; (with_reducible repeat (first | refine blk_drewN ?_ _ | refine blk_drew ?_ | refine blk_alloc ?_ _)); exact BK107.out⟩, ⟨by repeat (first | (with_reducible first | exact HB.out | apply below_alloc | apply pw_below_drewN | apply below_drew1 | refine below_set ?_ GE101.out | refine below_set ?_ GE102.out | refine below_set ?_ GE107.out) | exact HB.out)⟩⟩
  case round =>
    clear H'
    try clear c1
    try clear p2
    try clear c5
    try clear p6
    try clear c9
    try clear c13
    try clear c14
    try clear hcz10_0
    try clear hcz10_1
    try clear hcz10_2
    try clear hcz15_0
    try clear hcz15_1
    try clear hcz15_2
    try clear hfz10_0
    try clear hfz10_1
    try clear hfz10_2
    try clear hfz15_0
    try clear hfz15_1
    try clear hfz15_2
    obtain ⟨x35_1, x108002_1, u108002, rfl, HA, HK1, HO_33, HO_108002, BK101, BK102, BK107, HB⟩ := hrel
    cases gk with
    | zero => exact absurd HA.out (by simp [impl_Cut_taken.l0])
    | succ k1 =>
      have H := HA.out
      clear HA
      simp only [impl_Cut_taken.l0] at H
      by_cases c17 : x35_1 < (t103.length : Int)
      · rw [if_pos c17] at H
        have c17b0 : decide (x35_1 < (t103.length : Int)) = true := decide_eq_true c17
        clear c17
        by_cases c18 : 0 ≤ x35_1
        · rw [if_pos c18] at H
          have c18b0 : decide (0 ≤ x35_1) = true := decide_eq_true c18
          clear c18
          by_cases c19 : x35_1 < (t103.length : Int)
          · rw [if_pos c19] at H
            have c19b0 : decide (x35_1 < (t103.length : Int)) = true := decide_eq_true c19
            clear c19
            by_cases c20 : 0 ≤ (rd t103 x35_1)
            · rw [if_pos c20] at H
              have c20b0 : decide (0 ≤ (rd t103 x35_1)) = true := decide_eq_true c20
              clear c20
              by_cases c21 : (rd t103 x35_1) < (l0_2.length : Int)
              · rw [if_pos c21] at H
                have c21b0 : decide ((rd t103 x35_1) < (l0_2.length : Int)) = true := decide_eq_true c21
                clear c21
                by_cases c22 : x108002_1.length < 5864062014805
                · rw [if_pos c22] at H
                  have LMc22 := Aside0.mk c22
                  clear c22
                  obtain ⟨y111, hy111⟩ : ∃ y_ : List (S56), y_ = (x108002_1 ++ [(⟨wrap64 (((rd_T56 l0_2 (rd t103 x35_1)).f0) - a1), wrap64 (((rd_T56 l0_2 (rd t103 x35_1)).f1) - a2), (rd_T56 l0_2 (rd t103 x35_1)).f2⟩ : S56)]) := ⟨_, rfl⟩
                  replace H : (impl_Cut_taken.l0 k1 a1 a2 t103 (t103.length : Int) (wrap64 (x35_1 + 1)) a0_0 a0_1 l0_2 (wrap64 (a3 - a1)) (wrap64 (a4 - a2)) y111) = some (r1, r2, r3) := by first | (rw [hy111]; with_reducible exact H) | (have H2_ := (Option.bind_some _ _).symm.trans H; rw [hy111]; with_reducible exact H2_) | (have H2_ := (Option.bind_some _ _).symm.trans H; with_reducible exact H2_) | with_reducible exact H | (rw [hy111]; exact H) | exact H
                  have Ny111 := Aside0.mk hy111
                  clear hy111
                  have H' := Aside0.mk H
                  clear H
                  have p108 : 0 ≤ (x35_1 : Int) := of_decide_eq_true (by first | (with_reducible assumption) | assumption)
                  have q108 : x35_1 < (t103.length : Int) := of_decide_eq_true (by first | (with_reducible assumption) | assumption)
                  obtain ⟨ad108, e108, hx108_0⟩ := Kd.at_int (Kd.R_reads' HO_33.out).2.2 x35_1 p108 q108
                  cases e108
                  replace p108 := eq_true p108
                  replace q108 := eq_true q108
                  have hnb23 := NB101_102.out
                  have hnc23 := NB102_101.out
                  have hnb24 := NB101_107.out
                  have hnc24 := NB107_101.out
                  have hcz25_0 : wr.cell? ⟨gb101, 0, none⟩ = some (.int .i64 a0_0) := (blk_cell BK101.out 0).trans rfl
                  have hcz25_1 : wr.cell? ⟨gb101, 1, none⟩ = some (.int .i64 a0_1) := (blk_cell BK101.out 1).trans rfl
                  have hcz25_2 : wr.cell? ⟨gb101, 2, none⟩ = some (.slice A0_2 l0_2.length c0_2) := (blk_cell BK101.out 2).trans rfl
                  have hfz25_0 := blk_frozen BK101.out 0
                  have hfz25_1 := blk_frozen BK101.out 1
                  have hfz25_2 := blk_frozen BK101.out 2
                  have p109 : 0 ≤ ((rd t103 x35_1) : Int) := of_decide_eq_true (by first | (with_reducible assumption) | assumption)
                  have q109 : (rd t103 x35_1) < (l0_2.length : Int) := of_decide_eq_true (by first | (with_reducible assumption) | assumption)
                  obtain ⟨ad109, e109, hx109_0, hx109_1, hx109_2⟩ := at_T56 HR0_2.out (rd t103 x35_1) p109 q109
                  cases e109
                  replace hx109_0 := (HB.out.cell (World.block_lt_of_cell? w _ hx109_0)).trans hx109_0
                  replace hx109_1 := (HB.out.cell (World.block_lt_of_cell? w _ hx109_1)).trans hx109_1
                  replace hx109_2 := (HB.out.cell (World.block_lt_of_cell? w _ hx109_2)).trans hx109_2
                  replace p109 := eq_true p109
                  replace q109 := eq_true q109
                  go_wp2_with (first | ((with_reducible refine gate_dst (N := 16) rfl ?_); refine box_event ?hg (N := 16) ?hd (cs := #[.int .i64 0, .int .i64 0, .int .i64 0]) (t := 56) ?hr ?_; (case hd => rfl); (case hg => rfl); (case hr => first | (go_simp; done) | (go_simp; rfl)); intro gb110 hg w26 hbox hb; have n0_ := Aside0.mk (Kd.R_below (by (with_reducible repeat (first | apply Kd.R_alloc | apply Kd.R_drewN | apply Kd.R_drew)); exact HO_33.out) hb); have n1_ := Aside0.mk (Kd.R_below (Kd.R_elderB (by (with_reducible repeat (first | apply Kd.R_alloc | apply Kd.R_drewN | apply Kd.R_drew)); exact HO_108002.out) gb110 (Nat.le_of_eq hg.symm)) hb); have n2_ := Aside0.mk (blk_below (g := gb101) (o := .cells #[.int .i64 a0_0, .int .i64 a0_1, .slice (some ad109) l0_2.length c0_2] 37 (0, 0)) (by (with_reducible repeat (first | refine blk_drewN ?_ _ | refine blk_drew ?_ | refine blk_alloc ?_ _)); exact BK101.out) hb); have n3_ := Aside0.mk (blk_below (g := gb102) (o := .cells #[.int .i64 0, .int .i64 0, .slice none 0 0] 37 (0, 0)) (by (with_reducible repeat (first | refine blk_drewN ?_ _ | refine blk_drew ?_ | refine blk_alloc ?_ _)); exact BK102.out) hb); have n4_ := Aside0.mk (blk_below (g := gb107) (o := .cells #[.int .i64 (wrap64 (a3 - a1)), .int .i64 (wrap64 (a4 - a2)), u108002] 37 (0, 0)) (by (with_reducible repeat (first | refine blk_drewN ?_ _ | refine blk_drew ?_ | refine blk_alloc ?_ _)); exact BK107.out) hb); have n5_ := Aside0.mk (below_step (by repeat (first | (with_reducible first | exact HB.out | apply below_alloc | apply pw_below_drewN | apply below_drew1 | refine below_set ?_ GE101.out | refine below_set ?_ GE102.out | refine below_set ?_ GE107.out) | exact HB.out)) hb); have n6_ := Aside0.mk (hbox); have n7_ := Aside0.mk ((by rw [hg]; exact (below_size (by repeat (first | (with_reducible first | exact HB.out | apply below_alloc | apply pw_below_drewN | apply below_drew1 | refine below_set ?_ GE101.out | refine below_set ?_ GE102.out | refine below_set ?_ GE107.out) | exact HB.out))) : w.heap.size ≤ gb110)); have n8_ := Aside0.mk ((by rw [hg]; exact (below_size (by repeat (first | (with_reducible first | exact HB.out | apply below_alloc | apply pw_below_drewN | apply below_drew1 | refine below_set ?_ GE101.out | refine below_set ?_ GE102.out | refine below_set ?_ GE107.out) | exact HB.out))) : w.heap.size ≤ gb110)); have n9_ := Aside0.mk ((by rw [hg]; exact Nat.ne_of_lt (blk_lt (g := gb101) (o := .cells #[.int .i64 a0_0, .int .i64 a0_1, .slice (some ad109) l0_2.length c0_2] 37 (0, 0)) (by (with_reducible repeat (first | refine blk_drewN ?_ _ | refine blk_drew ?_ | refine blk_alloc ?_ _)); exact BK101.out)) : gb101 ≠ gb110)); have n10_ := Aside0.mk ((by rw [hg]; exact Nat.ne_of_gt (blk_lt (g := gb101) (o := .cells #[.int .i64 a0_0, .int .i64 a0_1, .slice (some ad109) l0_2.length c0_2] 37 (0, 0)) (by (with_reducible repeat (first | refine blk_drewN ?_ _ | refine blk_drew ?_ | refine blk_alloc ?_ _)); exact BK101.out)) : gb110 ≠ gb101)); have n11_ := Aside0.mk ((by rw [hg]; exact Nat.ne_of_lt (blk_lt (g := gb102) (o := .cells #[.int .i64 0, .int .i64 0, .slice none 0 0] 37 (0, 0)) (by (with_reducible repeat (first | refine blk_drewN ?_ _ | refine blk_drew ?_ | refine blk_alloc ?_ _)); exact BK102.out)) : gb102 ≠ gb110)); have n12_ := Aside0.mk ((by rw [hg]; exact Nat.ne_of_gt (blk_lt (g := gb102) (o := .cells #[.int .i64 0, .int .i64 0, .slice none 0 0] 37 (0, 0)) (by (with_reducible repeat (first | refine blk_drewN ?_ _ | refine blk_drew ?_ | refine blk_alloc ?_ _)); exact BK102.out)) : gb110 ≠ gb102)); have n13_ := Aside0.mk ((by rw [hg]; exact Nat.ne_of_lt (blk_lt (g := gb107) (o := .cells #[.int .i64 (wrap64 (a3 - a1)), .int .i64 (wrap64 (a4 - a2)), u108002] 37 (0, 0)) (by (with_reducible repeat (first | refine blk_drewN ?_ _ | refine blk_drew ?_ | refine blk_alloc ?_ _)); exact BK107.out)) : gb107 ≠ gb110)); have n14_ := Aside0.mk ((by rw [hg]; exact Nat.ne_of_gt (blk_lt (g := gb107) (o := .cells #[.int .i64 (wrap64 (a3 - a1)), .int .i64 (wrap64 (a4 - a2)), u108002] 37 (0, 0)) (by (with_reducible repeat (first | refine blk_drewN ?_ _ | refine blk_drew ?_ | refine blk_alloc ?_ _)); exact BK107.out)) : gb110 ≠ gb107)); clear HO_33; clear HO_108002; clear BK101; clear BK102; clear BK107; clear HB; have HO_33 := n0_; have HO_108002 := n1_; have BK101 := n2_; have BK102 := n3_; have BK107 := n4_; have HB := n5_; have BK110 := n6_; have GW110 := n7_; have GE110 := n8_; have NB101_110 := n9_; have NB110_101 := n10_; have NB102_110 := n11_; have NB110_102 := n12_; have NB107_110 := n13_; have NB110_107 := n14_; clear n0_ n1_ n2_ n3_ n4_ n5_ n6_ n7_ n8_ n9_ n10_ n11_ n12_ n13_ n14_; clear hb hbox hg; have hnb27 := NB110_101.out; have hnc27 := NB101_110.out; have hnb28 := NB110_102.out; have hnc28 := NB102_110.out; have hnb29 := NB110_107.out; have hnc29 := NB107_110.out; have hcz30_0 : w26.cell? ⟨gb110, 0, none⟩ = some (.int .i64 0) := (blk_cell BK110.out 0).trans rfl; have hcz30_1 : w26.cell? ⟨gb110, 1, none⟩ = some (.int .i64 0) := (blk_cell BK110.out 1).trans rfl; have hcz30_2 : w26.cell? ⟨gb110, 2, none⟩ = some (.int .i64 0) := (blk_cell BK110.out 2).trans rfl; have hfz30_0 := blk_frozen BK110.out 0; have hfz30_1 := blk_frozen BK110.out 1; have hfz30_2 := blk_frozen BK110.out 2; have hnb31 := NB107_102.out; have hnc31 := NB102_107.out; have hcz32_0 : w26.cell? ⟨gb107, 0, none⟩ = some (.int .i64 (wrap64 (a3 - a1))) := (blk_cell BK107.out 0).trans rfl; have hcz32_1 : w26.cell? ⟨gb107, 1, none⟩ = some (.int .i64 (wrap64 (a4 - a2))) := (blk_cell BK107.out 1).trans rfl; have hcz32_2 : w26.cell? ⟨gb107, 2, none⟩ = some (u108002) := (blk_cell BK107.out 2).trans rfl; have hfz32_0 := blk_frozen BK107.out 0; have hfz32_1 := blk_frozen BK107.out 1; have hfz32_2 := blk_frozen BK107.out 2) | ((with_reducible refine gate_builtin (b := .append) (xs := #[.tmp 45, .tmp 57]) rfl ?_); at_builtin; refine Kd.R_append k56 (w0 := w) w.heap.size rfl (.tmp 45) (.tmp 57) 35 56 (.agg #[(.int .i64 0), (.int .i64 0), (.int .i64 0)]) 24 rfl Try.underlying35 info56 rfl (by decide) (by omega) u108002 x108002_1 (⟨wrap64 (((rd_T56 l0_2 (rd t103 x35_1)).f0) - a1), wrap64 (((rd_T56 l0_2 (rd t103 x35_1)).f1) - a2), (rd_T56 l0_2 (rd t103 x35_1)).f2⟩ : S56) [.int .i64 (wrap64 (((rd_T56 l0_2 (rd t103 x35_1)).f0) - a1)), .int .i64 (wrap64 (((rd_T56 l0_2 (rd t103 x35_1)).f1) - a2)), .int .i64 ((rd_T56 l0_2 (rd t103 x35_1)).f2)] (fun k_ => k_ ≠ gb110) (fun _ => False) rfl (by first | (go_simp; done) | (go_simp; rfl)) ?aP (fun _ hk => hk.elim) ?aF ?aO ?aB ?aS ?aL ?_; (case aP => exact k56_mkM _ _ _ (⟨wrap64 (((rd_T56 l0_2 (rd t103 x35_1)).f0) - a1), wrap64 (((rd_T56 l0_2 (rd t103 x35_1)).f1) - a2), (rd_T56 l0_2 (rd t103 x35_1)).f2⟩ : S56)); (case aB => exact (by repeat (first | (with_reducible first | exact HB.out | apply below_alloc | apply pw_below_drewN | apply below_drew1 | refine below_set ?_ GE101.out | refine below_set ?_ GE102.out | refine below_set ?_ GE107.out | refine below_set ?_ GE110.out) | exact HB.out))); (case aF => exact (fun k_ hk => Kd.freshB (g := gb110) (o := .cells #[.int .i64 ((rd_T56 l0_2 (rd t103 x35_1)).f0), .int .i64 ((rd_T56 l0_2 (rd t103 x35_1)).f1), .int .i64 ((rd_T56 l0_2 (rd t103 x35_1)).f2)] 56 (0, 0)) (by (with_reducible repeat (first | refine blk_drewN ?_ _ | refine blk_drew ?_ | refine blk_alloc ?_ _)); refine blk_put (cs := #[.int .i64 ((rd_T56 l0_2 (rd t103 x35_1)).f0), .int .i64 ((rd_T56 l0_2 (rd t103 x35_1)).f1), .int .i64 0]) ?_ 2 _ rfl; (with_reducible repeat (first | refine blk_drewN ?_ _ | refine blk_drew ?_ | refine blk_alloc ?_ _)); refine blk_put (cs := #[.int .i64 ((rd_T56 l0_2 (rd t103 x35_1)).f0), .int .i64 0, .int .i64 0]) ?_ 1 _ rfl; (with_reducible repeat (first | refine blk_drewN ?_ _ | refine blk_drew ?_ | refine blk_alloc ?_ _)); refine blk_put (cs := #[.int .i64 0, .int .i64 0, .int .i64 0]) ?_ 0 _ rfl; (with_reducible repeat (first | refine blk_drewN ?_ _ | refine blk_drew ?_ | refine blk_alloc ?_ _)); exact BK110.out) k_ hk)); (case aO => exact (by (with_reducible repeat (first | apply Kd.R_alloc | apply Kd.R_drewN | apply Kd.R_drew)); exact Kd.R_mono (Kd.R_far (p := ⟨gb110, 2, none⟩) (Kd.R_far (p := ⟨gb110, 1, none⟩) (Kd.R_far (p := ⟨gb110, 0, none⟩) (Kd.R_mono HO_108002.out (fun k_ hk => (⟨hk, hk.2⟩ : _ ∧ k_ ≠ gb110))) (fun _ hk => hk.2) (.int .i64 ((rd_T56 l0_2 (rd t103 x35_1)).f0))) (fun _ hk => hk.2) (.int .i64 ((rd_T56 l0_2 (rd t103 x35_1)).f1))) (fun _ hk => hk.2) (.int .i64 ((rd_T56 l0_2 (rd t103 x35_1)).f2))) (fun _ hk => hk.1.2))); (case aS => exact (below_size (by repeat (first | (with_reducible first | exact HB.out | apply below_alloc | apply pw_below_drewN | apply below_drew1 | refine below_set ?_ GE101.out | refine below_set ?_ GE102.out | refine below_set ?_ GE107.out | refine below_set ?_ GE110.out) | exact HB.out)))); (case aL => have := LMc22.out; omega); intro v112 w33 ho hb hg hat; rw [← Ny111.out] at ho; have n0_ := Aside0.mk (Kd.R_over' (by (with_reducible repeat (first | apply Kd.R_alloc | apply Kd.R_drewN | apply Kd.R_drew)); exact (Kd.R_mono (Kd.R_far (p := ⟨gb110, 2, none⟩) (Kd.R_far (p := ⟨gb110, 1, none⟩) (Kd.R_far (p := ⟨gb110, 0, none⟩) (Kd.R_types HO_33.out BK110.out (by decide)) (fun _ hk => hk.2) (.int .i64 ((rd_T56 l0_2 (rd t103 x35_1)).f0))) (fun _ hk => hk.2) (.int .i64 ((rd_T56 l0_2 (rd t103 x35_1)).f1))) (fun _ hk => hk.2) (.int .i64 ((rd_T56 l0_2 (rd t103 x35_1)).f2))) (fun _ h_ => h_.1))) (Kd.R_typed (by (with_reducible repeat (first | apply Kd.R_alloc | apply Kd.R_drewN | apply Kd.R_drew)); exact (Kd.R_mono (Kd.R_far (p := ⟨gb110, 2, none⟩) (Kd.R_far (p := ⟨gb110, 1, none⟩) (Kd.R_far (p := ⟨gb110, 0, none⟩) (Kd.R_mono HO_108002.out (fun k_ hk => (⟨hk, hk.2⟩ : _ ∧ k_ ≠ gb110))) (fun _ hk => hk.2) (.int .i64 ((rd_T56 l0_2 (rd t103 x35_1)).f0))) (fun _ hk => hk.2) (.int .i64 ((rd_T56 l0_2 (rd t103 x35_1)).f1))) (fun _ hk => hk.2) (.int .i64 ((rd_T56 l0_2 (rd t103 x35_1)).f2))) (fun _ h_ => h_.1)))) (by decide) hg); have n1_ := Aside0.mk (blk_grown (g := gb101) (o := .cells #[.int .i64 a0_0, .int .i64 a0_1, .slice (some ad109) l0_2.length c0_2] 37 (0, 0)) (by (with_reducible repeat (first | refine blk_drewN ?_ _ | refine blk_drew ?_ | refine blk_alloc ?_ _)); refine blk_far ?_ NB101_110.out _; (with_reducible repeat (first | refine blk_drewN ?_ _ | refine blk_drew ?_ | refine blk_alloc ?_ _)); refine blk_far ?_ NB101_110.out _; (with_reducible repeat (first | refine blk_drewN ?_ _ | refine blk_drew ?_ | refine blk_alloc ?_ _)); refine blk_far ?_ NB101_110.out _; (with_reducible repeat (first | refine blk_drewN ?_ _ | refine blk_drew ?_ | refine blk_alloc ?_ _)); exact BK101.out) hg (Kd.R_ne HO_108002.out BK101.out (by decide))); have n2_ := Aside0.mk (blk_grown (g := gb102) (o := .cells #[.int .i64 0, .int .i64 0, .slice none 0 0] 37 (0, 0)) (by (with_reducible repeat (first | refine blk_drewN ?_ _ | refine blk_drew ?_ | refine blk_alloc ?_ _)); refine blk_far ?_ NB102_110.out _; (with_reducible repeat (first | refine blk_drewN ?_ _ | refine blk_drew ?_ | refine blk_alloc ?_ _)); refine blk_far ?_ NB102_110.out _; (with_reducible repeat (first | refine blk_drewN ?_ _ | refine blk_drew ?_ | refine blk_alloc ?_ _)); refine blk_far ?_ NB102_110.out _; (with_reducible repeat (first | refine blk_drewN ?_ _ | refine blk_drew ?_ | refine blk_alloc ?_ _)); exact BK102.out) hg (Kd.R_ne HO_108002.out BK102.out (by decide))); have n3_ := Aside0.mk (blk_grown (g := gb107) (o := .cells #[.int .i64 (wrap64 (a3 - a1)), .int .i64 (wrap64 (a4 - a2)), u108002] 37 (0, 0)) (by (with_reducible repeat (first | refine blk_drewN ?_ _ | refine blk_drew ?_ | refine blk_alloc ?_ _)); refine blk_far ?_ NB107_110.out _; (with_reducible repeat (first | refine blk_drewN ?_ _ | refine blk_drew ?_ | refine blk_alloc ?_ _)); refine blk_far ?_ NB107_110.out _; (with_reducible repeat (first | refine blk_drewN ?_ _ | refine blk_drew ?_ | refine blk_alloc ?_ _)); refine blk_far ?_ NB107_110.out _; (with_reducible repeat (first | refine blk_drewN ?_ _ | refine blk_drew ?_ | refine blk_alloc ?_ _)); exact BK107.out) hg (Kd.R_ne HO_108002.out BK107.out (by decide))); have n4_ := Aside0.mk (blk_grown (g := gb110) (o := .cells #[.int .i64 ((rd_T56 l0_2 (rd t103 x35_1)).f0), .int .i64 ((rd_T56 l0_2 (rd t103 x35_1)).f1), .int .i64 ((rd_T56 l0_2 (rd t103 x35_1)).f2)] 56 (0, 0)) (by (with_reducible repeat (first | refine blk_drewN ?_ _ | refine blk_drew ?_ | refine blk_alloc ?_ _)); refine blk_put (cs := #[.int .i64 ((rd_T56 l0_2 (rd t103 x35_1)).f0), .int .i64 ((rd_T56 l0_2 (rd t103 x35_1)).f1), .int .i64 0]) ?_ 2 _ rfl; (with_reducible repeat (first | refine blk_drewN ?_ _ | refine blk_drew ?_ | refine blk_alloc ?_ _)); refine blk_put (cs := #[.int .i64 ((rd_T56 l0_2 (rd t103 x35_1)).f0), .int .i64 0, .int .i64 0]) ?_ 1 _ rfl; (with_reducible repeat (first | refine blk_drewN ?_ _ | refine blk_drew ?_ | refine blk_alloc ?_ _)); refine blk_put (cs := #[.int .i64 0, .int .i64 0, .int .i64 0]) ?_ 0 _ rfl; (with_reducible repeat (first | refine blk_drewN ?_ _ | refine blk_drew ?_ | refine blk_alloc ?_ _)); exact BK110.out) hg (Kd.R_away HO_108002.out (fun _ hk => hk.2))); have n5_ := Aside0.mk (hb); have n6_ := Aside0.mk (ho); clear HO_33; clear BK101; clear BK102; clear BK107; clear BK110; clear HB; clear HO_108002; have HO_33 := n0_; have BK101 := n1_; have BK102 := n2_; have BK107 := n3_; have BK110 := n4_; have HB := n5_; have HO113 := n6_; clear n0_ n1_ n2_ n3_ n4_ n5_ n6_; clear ho hb hg hat; obtain ⟨Ao34, co34, eo34⟩ := Kd.R_slice HO113.out; subst eo34; have hcz35_0 : w33.cell? ⟨gb107, 0, none⟩ = some (.int .i64 (wrap64 (a3 - a1))) := (blk_cell BK107.out 0).trans rfl; have hcz35_1 : w33.cell? ⟨gb107, 1, none⟩ = some (.int .i64 (wrap64 (a4 - a2))) := (blk_cell BK107.out 1).trans rfl; have hcz35_2 : w33.cell? ⟨gb107, 2, none⟩ = some (u108002) := (blk_cell BK107.out 2).trans rfl; have hfz35_0 := blk_frozen BK107.out 0; have hfz35_1 := blk_frozen BK107.out 1; have hfz35_2 := blk_frozen BK107.out 2))
                  go_roundg k1
                  case measure => have := HK1.out; omega
                  case rel => exact ⟨(wrap64 (x35_1 + 1)), (y111), (.slice Ao34 y111.length co34), (by first | rfl | (simp; done) | (simp [*]; done)), H', ⟨by have := HK1.out; omega⟩, ⟨by (with_reducible repeat (first | apply Kd.R_alloc | apply Kd.R_drewN | apply Kd.R_drew)); exact Kd.R_mono (Kd.R_far (p := ⟨gb107, 2, none⟩) (Kd.R_types HO_33.out BK107.out (by decide)) (fun _ hk => hk.2) (.slice Ao34 y111.length co34)) (fun _ hk => trivial)⟩, ⟨by (with_reducible repeat (first | apply Kd.R_alloc | apply Kd.R_drewN | apply Kd.R_drew)); exact Kd.R_mono (Kd.R_far (p := ⟨gb107, 2, none⟩) (Kd.R_types HO113.out BK107.out (by decide)) (fun _ hk => hk.2) (.slice Ao34 y111.length co34)) (fun _ hk => trivial)⟩, ⟨by (with_reducible repeat (first | refine blk_drewN ?_ _ | refine blk_drew ?_ | refine blk_alloc ?_ _)); refine blk_far ?_ NB101_107.out _; (with_reducible repeat (first | refine blk_drewN ?_ _ | refine blk_drew ?_ | refine blk_alloc ?_ _)); exact BK101.out⟩, ⟨by (with_reducible repeat (first | refine blk_drewN ?_ _ | refine blk_drew ?_ | refine blk_alloc ?_ _)); refine blk_far ?_ NB102_107.out _; (with_reducible repeat (first | refine blk_drewN ?_ _ | refine blk_drew ?_ | refine blk_alloc ?_ _)); exact BK102.out⟩, ⟨by (with_reducible repeat (first | refine blk_drewN ?_ _ | refine blk_drew ?_ | refine blk_alloc ?_ _)); refine blk_put (cs := #[.int .i64 (wrap64 (a3 - a1)), .int .i64 (wrap64 (a4 - a2)), u108002]) ?_ 2 _ rfl; (with_reducible repeat (first | refine blk_drewN ?_ _ | refine blk_drew ?_ | refine blk_alloc ?_ _)); exact BK107.out⟩, ⟨by repeat (first | (with_reducible first | exact HB.out | apply below_alloc | apply pw_below_drewN | apply below_drew1 | refine below_set ?_ GE101.out | refine below_set ?_ GE102.out | refine below_set ?_ GE107.out | refine below_set ?_ GE110.out) | exact HB.out)⟩⟩
                · rw [if_neg c22] at H
                  exact absurd H (by simp)
              · rw [if_neg c21] at H
                exact absurd H (by simp)
            · rw [if_neg c20] at H
              exact absurd H (by simp)
          · rw [if_neg c19] at H
            exact absurd H (by simp)
        · rw [if_neg c18] at H
          exact absurd H (by simp)
      · rw [if_neg c17] at H
        have c17b0 : decide (x35_1 < (t103.length : Int)) = false := decide_eq_false c17
        clear c17
        simp only [Option.some.injEq, Prod.mk.injEq] at H
        obtain ⟨rfl, rfl, rfl⟩ := H
        have hnb36 := NB107_101.out
        have hnc36 := NB101_107.out
        have hnb37 := NB107_102.out
        have hnc37 := NB102_107.out
        have hcz38_0 : wr.cell? ⟨gb107, 0, none⟩ = some (.int .i64 (wrap64 (a3 - a1))) := (blk_cell BK107.out 0).trans rfl
        have hcz38_1 : wr.cell? ⟨gb107, 1, none⟩ = some (.int .i64 (wrap64 (a4 - a2))) := (blk_cell BK107.out 1).trans rfl
        have hcz38_2 : wr.cell? ⟨gb107, 2, none⟩ = some (u108002) := (blk_cell BK107.out 2).trans rfl
        have hfz38_0 := blk_frozen BK107.out 0
        have hfz38_1 := blk_frozen BK107.out 1
        have hfz38_2 := blk_frozen BK107.out 2
        have hnb39 := NB102_101.out
        have hnc39 := NB101_102.out
        have hcz40_0 : wr.cell? ⟨gb102, 0, none⟩ = some (.int .i64 0) := (blk_cell BK102.out 0).trans rfl
        have hcz40_1 : wr.cell? ⟨gb102, 1, none⟩ = some (.int .i64 0) := (blk_cell BK102.out 1).trans rfl
        have hcz40_2 : wr.cell? ⟨gb102, 2, none⟩ = some (.slice none 0 0) := (blk_cell BK102.out 2).trans rfl
        have hfz40_0 := blk_frozen BK102.out 0
        have hfz40_1 := blk_frozen BK102.out 1
        have hfz40_2 := blk_frozen BK102.out 2
        obtain ⟨Ao41, co41, eo41⟩ := Kd.R_slice HO_108002.out
        subst eo41
        go_wp2
        refine bodyPost_ret (results_cell_row rfl _ _ gb102 37 #[.int .i64 (wrap64 (a3 - a1)), .int .i64 (wrap64 (a4 - a2)), .slice Ao41 x108002_1.length co41] (0, 0) _ rfl (by (with_reducible repeat (first | refine blk_drewN ?_ _ | refine blk_drew ?_ | refine blk_alloc ?_ _)); refine blk_put (cs := #[.int .i64 (wrap64 (a3 - a1)), .int .i64 (wrap64 (a4 - a2)), .slice none 0 0]) ?_ 2 _ rfl; (with_reducible repeat (first | refine blk_drewN ?_ _ | refine blk_drew ?_ | refine blk_alloc ?_ _)); refine blk_put (cs := #[.int .i64 (wrap64 (a3 - a1)), .int .i64 0, .slice none 0 0]) ?_ 1 _ rfl; (with_reducible repeat (first | refine blk_drewN ?_ _ | refine blk_drew ?_ | refine blk_alloc ?_ _)); refine blk_put (cs := #[.int .i64 0, .int .i64 0, .slice none 0 0]) ?_ 0 _ rfl; (with_reducible repeat (first | refine blk_drewN ?_ _ | refine blk_drew ?_ | refine blk_alloc ?_ _)); exact BK102.out) Try.underlying37 rfl (by kernel_rfl)) rfl ?_
        exact ⟨_, by first | rfl | (simp [errW_none, errW_some] <;> rfl) | (simp [*, errW_none, errW_some] <;> rfl), by (with_reducible repeat (first | apply Kd.R_alloc | apply Kd.R_drewN | apply Kd.R_drew)); exact Kd.R_mono (Kd.R_far (p := ⟨gb102, 2, none⟩) (Kd.R_far (p := ⟨gb102, 1, none⟩) (Kd.R_far (p := ⟨gb102, 0, none⟩) (Kd.R_types HO_108002.out BK102.out (by decide)) (fun _ hk => hk.2) (.int .i64 (wrap64 (a3 - a1)))) (fun _ hk => hk.2) (.int .i64 (wrap64 (a4 - a2)))) (fun _ hk => hk.2) (.slice Ao41 x108002_1.length co41)) (fun _ hk => trivial), by repeat (first | (with_reducible first | exact HB.out | apply below_alloc | apply pw_below_drewN | apply below_drew1 | refine below_set ?_ GE101.out | refine below_set ?_ GE102.out | refine below_set ?_ GE107.out) | exact HB.out)⟩
end Go.Proofs.Ytdfcljfajiihdaa.P
