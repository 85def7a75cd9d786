import Derived.Test.YtdfcljfajiihdaaMFnExactCutByLineswWords
import Derived.Test.YtdfcljfajiihdaaMFnExactCutByLineswLast
import Derived.Test.YtdfcljfajiihdaaMFnExactCutByLineswTab
import Derived.Test.YtdfcljfajiihdaaMFnExactCutByLineswApart
import Derived.Test.YtdfcljfajiihdaaMFnExactCutByLineswFoot
import Derived.Test.YtdfcljfajiihdaaMFnExactCutByLineswKept
import Derived.Test.YtdfcljfajiihdaaMFnExactCutByLineswShare
import Derived.Test.YtdfcljfajiihdaaMFnExactCutByLineswN
import Derived.Test.YtdfcljfajiihdaaMFnExactCutByLineswFootNe
import Derived.Test.YtdfcljfajiihdaaMFnExactCutByLineswAt
import Derived.Test.YtdfcljfajiihdaaMFnExactCutByLineswRepsOne
import Derived.Test.YtdfcljfajiihdaaMFnExactCutByLineswGuard
import Derived.Test.YtdfcljfajiihdaaMFnExactCutByLineswMore
import Derived.Test.YtdfcljfajiihdaaMFnExactCutByLinesx0
import Derived.Test.YtdfcljfajiihdaaMFnExactCutByLinesx1
import Derived.Test.YtdfcljfajiihdaaMFnExactCutByLinesx2
import Derived.Test.YtdfcljfajiihdaaMFnExactCutByLinesx3
import Derived.Test.YtdfcljfajiihdaaMFnExactCutByLinesx4
import Derived.Laws.IdiomCopy
import Derived.Sort.LotA
import Derived.Sort.WalkA
import Derived.Shelf.SlicesQ.Load
import Derived.Shelf.Abstract
import Derived.BigRegion
import Derived.Deep.DeepCutAuto
import Derived.Deep.RegionLaw
import Derived.Deep.CutRange
import Derived.Lib.SmallJoins
import Derived.Deep.Slices
import Derived.ChangeArms
import Derived.ChangeShapes
import Derived.ChangeSlices
namespace Go.Proofs.Ytdfcljfajiihdaa.Sk
set_option linter.unusedVariables false
set_option linter.unusedSimpArgs false
set_option linter.unusedSectionVars false
open Go Go.RowKit Go.Sort Go.Proofs Go.Proofs.Ytdfcljfajiihdaa.P Go.Proofs.Ytdfcljfajiihdaa.T Go.Proofs.YtdfcljfajiihdaaW.PrintWords Go.Proofs.YtdfcljfajiihdaaW.PrintLast Go.Proofs.YtdfcljfajiihdaaW.PrintMore
theorem sk_put {B : Nat} {w w1 : World} (h : Below B w w1) {p : Addr} (hp : B ≤ p.block) (u : Value) : Below B w (w1.setCell p u) :=
  ⟨h.os, h.tape, h.output, by simpa [World.setCell] using h.size, fun k hk => (Below.heap_setCell w1 p u k (by omega)).trans (h.block k hk)⟩
def encQ (q : Sq) : List Value := [.int .i64 q.f0, .int .i64 q.f1, .int .i64 q.f2]
variable {α : Type} [Inhabited α] {val : α → Sq} {base g cap : Nat} {w0 W W1 : World} {d : Array α}
structure SB (val : α → Sq) (base : Nat) (w0 : World) (g cap : Nat) (d : Array α) (W : World) : Prop where
  row : Kd.R k56 56 W base (fun k => k = g) (.slice (some ⟨g, 0, none⟩) d.size cap) (d.toList.map val)
  kept : Kept w0 W (fun k => k = g)
  be : Below base w0 W
theorem SB.ge (h : SB val base w0 g cap d W) : base ≤ g := Kd.R_base h.row g rfl
theorem SB.lt (h : SB val base w0 g cap d W) : g < W.heap.size := Kd.R_lt h.row g rfl
theorem SB.below (h : SB val base w0 g cap d W) (hb : Below W.heap.size W W1) : SB val base w0 g cap d W1 :=
  ⟨Kd.R_below h.row hb, h.kept.below hb, h.be.trans (hb.mono (Nat.le_of_lt (Nat.lt_of_le_of_lt h.ge h.lt)))⟩
theorem SB.drew (h : SB val base w0 g cap d W) : SB val base w0 g cap d W.drew := h.below (below_drew (Below.refl _ _))
theorem getD_val (d : Array α) (i : Nat) (hi : i < d.size) (z : Sq) : (d.toList.map val).getD i z = val d[i]! := by
  rw [List.getD_eq_getElem?_getD, List.getElem?_map, List.getElem?_eq_getElem (by simpa using hi)]
  simp [hi]
theorem SB.cells (h : SB val base w0 g cap d W) {i : Nat} (hi : i < d.size) :
    (W.cell? ⟨g, i * 3, none⟩ = some (.int .i64 (val d[i]!).f0) ∧ W.cell? ⟨g, i * 3 + 1, none⟩ = some (.int .i64 (val d[i]!).f1) ∧ W.cell? ⟨g, i * 3 + 2, none⟩ = some (.int .i64 (val d[i]!).f2)) ∧
    (W.frozen? ⟨g, i * 3, none⟩ = false ∧ W.frozen? ⟨g, i * 3 + 1, none⟩ = false ∧ W.frozen? ⟨g, i * 3 + 2, none⟩ = false) := by
  obtain ⟨c, hcl, hM, hcc, hfr⟩ := Kd.R_elem h.row (⟨0, 0, 0⟩ : Sq) (i : Int) (by omega) (by omega)
  obtain rfl := k56_openM hM
  simp only [Int.toNat_natCast, getD_val d i hi] at hcc hfr
  exact ⟨⟨hcc 0 _ rfl, hcc 1 _ rfl, hcc 2 _ rfl⟩, hfr 0, hfr 1, hfr 2⟩
theorem map_set (d : Array α) (i : Nat) (x : α) : (d.setIfInBounds i x).toList.map val = (d.toList.map val).set i (val x) := by
  rw [Array.toList_setIfInBounds, List.map_set]
theorem SB.set (h : SB val base w0 g cap d W) {i : Nat} (hi : i < d.size) (x : α) : SB val base w0 g cap (d.setIfInBounds i x) (W.setCells g (i * 3) (encQ (val x))) := by
  obtain ⟨c, hcl, hM, hcc, hfr⟩ := Kd.R_elem h.row (⟨0, 0, 0⟩ : Sq) (i : Int) (by omega) (by omega)
  have hc3 : c.length = 3 := hcl
  have hs := Kd.R_seg h.row (i : Int) (by omega) (by omega) (c := c) (seg := encQ (val x)) (j := 0) hcl hcc (show 3 ≤ 3 by omega) (x' := val x) (okp := fun _ => False) (by
    have e : c.take 0 ++ encQ (val x) ++ c.drop (0 + (encQ (val x)).length) = encQ (val x) := by
      rw [List.take_zero, List.nil_append, List.drop_of_length_le (by rw [hc3]; show 3 ≤ 0 + 3; omega), List.append_nil]
    rw [e]
    exact k56_mkM _ _ _ _) (fun _ h => h.elim)
  have hw : W.setCells g ((i : Int).toNat * (k56).sz + 0) (encQ (val x)) = W.setCells g (i * 3) (encQ (val x)) := by rw [Int.toNat_natCast]; rfl
  rw [hw, Int.toNat_natCast] at hs
  refine ⟨?_, Kept.of_grown hs.2 h.kept (fun k e => .inl (by injection e with e; exact e.symm)), ?_⟩
  · rw [map_set, Array.size_setIfInBounds]; exact hs.1
  · have hge := h.ge
    exact sk_put (sk_put (sk_put h.be hge _) hge _) hge _
theorem SB.swap (h : SB val base w0 g cap d W) {i j : Nat} (hi : i < d.size) (hj : j < d.size) :
    SB val base w0 g cap (swp d i j) ((W.setCells g (i * 3) (encQ (val d[j]!))).setCells g (j * 3) (encQ (val d[i]!))) :=
  (h.set hi d[j]!).set (by rw [Array.size_setIfInBounds]; exact hj) d[i]!
theorem ex_cell {W : World} {a b : Addr} {x : Value} (h : ∃ v, W.cell? b = some v) : ∃ v, (W.setCell a x).cell? b = some v := by
  obtain ⟨v, h⟩ := h
  by_cases e : a = b
  · subst e; exact ⟨x, World.cell?_setCell_same W a x h⟩
  · exact ⟨v, (World.cell?_setCell_other W a b x e).trans h⟩
theorem SB.six (h : SB val base w0 g cap d W) {p q : Nat} (hp : p < d.size) (hq : q < d.size) (a0 a1 a2 b0 : Value) (b1 : Value) :
    ∃ x1 x2 y0 y1 y2, (W.setCell ⟨g, p * 3, none⟩ a0).cell? ⟨g, p * 3 + 1, none⟩ = some x1 ∧ ((W.setCell ⟨g, p * 3, none⟩ a0).setCell ⟨g, p * 3 + 1, none⟩ a1).cell? ⟨g, p * 3 + 2, none⟩ = some x2 ∧
      (((W.setCell ⟨g, p * 3, none⟩ a0).setCell ⟨g, p * 3 + 1, none⟩ a1).setCell ⟨g, p * 3 + 2, none⟩ a2).cell? ⟨g, q * 3, none⟩ = some y0 ∧
      ((((W.setCell ⟨g, p * 3, none⟩ a0).setCell ⟨g, p * 3 + 1, none⟩ a1).setCell ⟨g, p * 3 + 2, none⟩ a2).setCell ⟨g, q * 3, none⟩ b0).cell? ⟨g, q * 3 + 1, none⟩ = some y1 ∧
      (((((W.setCell ⟨g, p * 3, none⟩ a0).setCell ⟨g, p * 3 + 1, none⟩ a1).setCell ⟨g, p * 3 + 2, none⟩ a2).setCell ⟨g, q * 3, none⟩ b0).setCell ⟨g, q * 3 + 1, none⟩ b1).cell? ⟨g, q * 3 + 2, none⟩ = some y2 := by
  obtain ⟨⟨l0, l1, l2⟩, _⟩ := h.cells hp
  obtain ⟨⟨m0, m1, m2⟩, _⟩ := h.cells hq
  obtain ⟨x1, h1⟩ := ex_cell (a := ⟨g, p * 3, none⟩) (x := a0) ⟨_, l1⟩
  obtain ⟨x2, h2⟩ := ex_cell (a := ⟨g, p * 3 + 1, none⟩) (x := a1) (ex_cell (a := ⟨g, p * 3, none⟩) (x := a0) ⟨_, l2⟩)
  have e3 : ∀ {b : Addr}, (∃ v, W.cell? b = some v) → ∃ v, (((W.setCell ⟨g, p * 3, none⟩ a0).setCell ⟨g, p * 3 + 1, none⟩ a1).setCell ⟨g, p * 3 + 2, none⟩ a2).cell? b = some v := fun h => ex_cell (ex_cell (ex_cell h))
  obtain ⟨y0, h3⟩ := e3 ⟨_, m0⟩
  obtain ⟨y1, h4⟩ := ex_cell (a := ⟨g, q * 3, none⟩) (x := b0) (e3 ⟨_, m1⟩)
  obtain ⟨y2, h5⟩ := ex_cell (a := ⟨g, q * 3 + 1, none⟩) (x := b1) (ex_cell (a := ⟨g, q * 3, none⟩) (x := b0) (e3 ⟨_, m2⟩))
  exact ⟨x1, x2, y0, y1, y2, h1, h2, h3, h4, h5⟩
theorem SB.swap6 (h : SB val base w0 g cap d W) {i j : Nat} (hi : i < d.size) (hj : j < d.size) {P Q : Sq} (hP : val d[i]! = P) (hQ : val d[j]! = Q) :
    SB val base w0 g cap (swp d i j) ((((((W.setCell ⟨g, i * 3, none⟩ (.int .i64 Q.f0)).setCell ⟨g, i * 3 + 1, none⟩ (.int .i64 Q.f1)).setCell ⟨g, i * 3 + 2, none⟩ (.int .i64 Q.f2)).setCell ⟨g, j * 3, none⟩ (.int .i64 P.f0)).setCell ⟨g, j * 3 + 1, none⟩ (.int .i64 P.f1)).setCell ⟨g, j * 3 + 2, none⟩ (.int .i64 P.f2)) := by
  subst hP hQ
  exact h.swap hi hj
def ltC (cf : α → α → Int) (x y : α) : Bool := decide (cf x y < 0)
structure CmpSq (P : Program) (val : α → Sq) (cf : α → α → Int) (f : Nat) : Prop where
  eg : ∀ args w, (callFunc f args).run P w = .ok (.enter f args) w
  call : ∀ (W : World) (x y : α), Calls P f #[.agg #[.int .i64 (val x).f0, .int .i64 (val x).f1, .int .i64 (val x).f2], .agg #[.int .i64 (val y).f0, .int .i64 (val y).f1, .int .i64 (val y).f2]] W fun e w' => e = .returned (.int .i64 (cf x y)) ∧ Below W.heap.size W w'
end Go.Proofs.Ytdfcljfajiihdaa.Sk

namespace Go.Proofs.Ytdfcljfajiihdaa.P
open Go.RowKit Go.Proofs.YtdfcljfajiihdaaW.PrintWords Go.Proofs.YtdfcljfajiihdaaW.PrintLast Go.Proofs.YtdfcljfajiihdaaW.PrintMore
attribute [local go_sem] max2_int min2_int max_two min_two max_three min_three max_four min_four
set_option linter.unusedVariables false
set_option linter.unusedSimpArgs false
open Go.Proofs.Ytdfcljfajiihdaa.T Go.Proofs.Ytdfcljfajiihdaa.Aid Go.Proofs.Ytdfcljfajiihdaa.Sk Go.Proofs.Ytdfcljfajiihdaa.Gr Go.Sort
set_option maxHeartbeats 4000000 in
theorem insertion_sq {α : Type} [Inhabited α] {val : α → Sq} {cf : α → α → Int} {f : Nat} {base g cap : Nat} {w0 w : World} (hF : CmpSq Try.prog val cf f) (d : Array α) (a b : Nat) (h : SB val base w0 g cap d w) (hab : a ≤ b) (hb : b ≤ d.size) (hsz : d.size ≤ 1000000000000) :
    Calls Try.prog 103 #[.slice (some ⟨g, 0, none⟩) d.size cap, .int .i64 (a : Int), .int .i64 (b : Int), .func (.func f) #[] #[]] w fun e w' => e = .returned (.tuple #[]) ∧ SB val base w0 g cap (insertionSort (ltC cf) d a b) w' := by
  have H0 := Aside0.mk h
  have HH := Aside0.mk (And.intro hab (And.intro hb hsz))
  have eg := hF.eg
  have HCALL := Aside0.mk hF.call
  have E1 : Aside0 (wrap64 ((a : Int) + 1) = ((a + 1 : Nat) : Int)) := ⟨by rw [w64 (by omega) (by omega)]; omega⟩
  have mixed : Try.prog.follows .mixedOrders = true := by kernel_rfl
  clear h hab hb hsz hF
  go_enter Try.func103, Try.ntmps103
  go_wp2
  go_loopg [8] (b - a) (fun kq v8 wc => ∃ (i : Nat) (D : Array α), v8 = .int .i64 (i : Int) ∧ Aside0 (a < i ∧ i ≤ b + 1 ∧ b - i ≤ kq ∧ D.size = d.size) ∧ Aside0 (insOuter (ltC cf) a b i D = insOuter (ltC cf) a b (a + 1) d) ∧ Aside0 (SB val base w0 g cap D wc))
  case atStart => exact ⟨a + 1, d, by first | rfl | rw [E1.out], ⟨by have := HH.out; omega, by have := HH.out; omega, by have := HH.out; omega, rfl⟩, ⟨rfl⟩, H0⟩
  case round =>
    clear H0
    obtain ⟨i, D, rfl, HI, HO, HS⟩ := hrel
    by_cases hlt : i < b
    · have c1 : decide (i < b) = true := decide_eq_true hlt
      have HLT := Aside0.mk hlt
      clear hlt
      go_wp2_with fail
      go_loopg [9] i (fun kq v9 wc => ∃ (j : Nat) (D' : Array α), v9 = .int .i64 (j : Int) ∧ Aside0 (a ≤ j ∧ j ≤ i ∧ j ≤ kq ∧ D'.size = d.size) ∧ Aside0 (insInner (ltC cf) a j D' = insInner (ltC cf) a i D) ∧ Aside0 (SB val base w0 g cap D' wc))
      case atStart => exact ⟨i, D, rfl, ⟨by have := HI.out; omega, Nat.le_refl _, Nat.le_refl _, HI.out.2.2.2⟩, ⟨rfl⟩, HS⟩
      case round =>
        clear HS
        obtain ⟨j, D', rfl, HJ, HIN, HS⟩ := hrel
        have HOUT : Aside0 ((j ≤ a ∨ ltC cf D'[j]! D'[j - 1]! = false) → insOuter (ltC cf) a b (i + 1) D' = insOuter (ltC cf) a b (a + 1) d) := ⟨fun hs => by
          rw [← HO.out, insOuter_go _ _ _ _ _ HLT.out, ← HIN.out, insInner_stop _ _ _ _ hs]⟩
        have EI : Aside0 (wrap64 ((i : Int) + 1) = ((i + 1 : Nat) : Int)) := ⟨by have h1 := HI.out; have h2 := HH.out; rw [w64 (by omega) (by omega)]; omega⟩
        have hjj := HJ.out
        by_cases hja : a < j
        · obtain ⟨jp, hjp⟩ : ∃ jp, j - 1 = jp := ⟨_, rfl⟩
          have g1 : decide (a < j) = true := decide_eq_true hja
          have g2 : decide ((j : Int) > (a : Int)) = true := decide_eq_true (by omega)
          have hii := HI.out
          have hhh := HH.out
          have hlt' := HLT.out
          obtain ⟨⟨l0, l1, l2⟩, f0, f1, f2⟩ := HS.out.cells (i := j) (by omega)
          obtain ⟨⟨m0, m1, m2⟩, g0, g1', g2'⟩ := HS.out.cells (i := jp) (by omega)
          have HCL0 := HCALL.out
          obtain ⟨x, hx⟩ : ∃ x, D'[j]! = x := ⟨_, rfl⟩
          obtain ⟨y, hy⟩ : ∃ y, D'[jp]! = y := ⟨_, rfl⟩
          obtain ⟨X, hX⟩ : ∃ X, val x = X := ⟨_, rfl⟩
          obtain ⟨Y, hY⟩ : ∃ Y, val y = Y := ⟨_, rfl⟩
          rw [hx, hX] at l0 l1 l2
          rw [hy, hY] at m0 m1 m2
          have hcl := fun W => HCALL.out W x y
          rw [hX, hY] at hcl
          have HCL := Aside0.mk hcl
          have hpw : IntKind.i64.wrap ((j : Int) - 1) = (jp : Int) := by rw [IntKind.wrap_i64]; omega
          have HPW := Aside0.mk hpw
          have EJ : Aside0 (wrap64 ((j : Int) - 1) = (jp : Int)) := ⟨by rw [w64 (by omega) (by omega)]; omega⟩
          have p1 := eq_true (show (0 : Int) ≤ (j : Int) by omega)
          have p2 := eq_true (show (j : Int) < (d.size : Int) by omega)
          have q1 := eq_true (show (0 : Int) ≤ (jp : Int) by omega)
          have q2 := eq_true (show (jp : Int) < (d.size : Int) by omega)
          have x0 := fun p => cell_gr (p := p) (World.block_lt_of_cell? wr _ l0) l0
          have x1 := fun p => cell_gr (p := p) (World.block_lt_of_cell? wr _ l1) l1
          have x2 := fun p => cell_gr (p := p) (World.block_lt_of_cell? wr _ l2) l2
          have x3 := fun p => cell_gr (p := p) (World.block_lt_of_cell? wr _ m0) m0
          have x4 := fun p => cell_gr (p := p) (World.block_lt_of_cell? wr _ m1) m1
          have x5 := fun p => cell_gr (p := p) (World.block_lt_of_cell? wr _ m2) m2
          have HJP : Aside0 (j - 1 = jp ∧ a < j ∧ D'[j]! = x ∧ D'[jp]! = y ∧ val x = X ∧ val y = Y) := ⟨hjp, hja, hx, hy, hX, hY⟩
          clear hjj hii hhh hlt' hjp hja l0 l1 l2 f0 f1 f2 m0 m1 m2 g0 g1' g2' hcl HCL0 hx hy hX hY
          by_cases hlv : cf x y < 0
          · have HLV := Aside0.mk hlv
            have b1 := decide_eq_true hlv
            go_wp2_with fail
            refine wp_region_gr (by kernel_rfl) (by kernel_rfl) ?_
            repeat (go_big_quiet_step (first | (go_at_fn f; refine Calls.gr_of (HCL.out _))))
            refine wpQuiet_nil ?_
            intro W2 hw'
            obtain ⟨⟨V2, hB2⟩, hw''⟩ := hw'
            replace hw'' : W2 = V2 := hw''
            subst hw''
            clear x0 x1 x2 x3 x4 x5 hpw
            have HS2 := Aside0.mk (HS.out.below hB2)
            clear hB2 HS
            go_wp2_with fail
            have hj2 := HJP.out
            have hjj := HJ.out
            have hii := HI.out
            have hhh := HH.out
            have hlt' := HLT.out
            obtain ⟨⟨l0, l1, l2⟩, f0, f1, f2⟩ := HS2.out.cells (i := j) (by omega)
            obtain ⟨⟨m0, m1, m2⟩, g0, g1', g2'⟩ := HS2.out.cells (i := jp) (by omega)
            rw [hj2.2.2.1, hj2.2.2.2.2.1] at l0 l1 l2
            rw [hj2.2.2.2.1, hj2.2.2.2.2.2] at m0 m1 m2
            have SW := Aside0.mk (HS2.out.swap6 (i := j) (j := jp) (P := X) (Q := Y) (by omega) (by omega) (by rw [hj2.2.2.1, hj2.2.2.2.2.1]) (by rw [hj2.2.2.2.1, hj2.2.2.2.2.2])).drew
            obtain ⟨y1, y2, y3, y4, y5, s1, s2, s3, s4, s5⟩ := HS2.out.six (p := j) (q := jp) (by omega) (by omega) (.int .i64 Y.f0) (.int .i64 Y.f1) (.int .i64 Y.f2) (.int .i64 X.f0) (.int .i64 X.f1)
            have HN : Aside0 (a ≤ jp ∧ jp ≤ i ∧ jp < gk ∧ (swp D' j jp).size = d.size ∧ insInner (ltC cf) a jp (swp D' j jp) = insInner (ltC cf) a i D) := ⟨by omega, by omega, by omega, by rw [swpSize]; exact hjj.2.2.2, by
              rw [← HIN.out, insInner_go (ltC cf) a j D' hj2.2.1 (by rw [hj2.1, hj2.2.2.1, hj2.2.2.2.1]; exact decide_eq_true HLV.out), hj2.1]⟩
            have hpw := HPW.out
            clear hj2 hjj hii hhh hlt' g1 g2 hlv b1
            go_region_law (fail)
            all_goals
              generalize ((((((W2.setCell ⟨g, j * 3, none⟩ (.int .i64 Y.f0)).setCell ⟨g, j * 3 + 1, none⟩ (.int .i64 Y.f1)).setCell ⟨g, j * 3 + 2, none⟩ (.int .i64 Y.f2)).setCell ⟨g, jp * 3, none⟩ (.int .i64 X.f0)).setCell ⟨g, jp * 3 + 1, none⟩ (.int .i64 X.f1)).setCell ⟨g, jp * 3 + 2, none⟩ (.int .i64 X.f2)).drew = W3 at SW ⊢
              clear l0 l1 l2 f0 f1 f2 m0 m1 m2 g0 g1' g2' s1 s2 s3 s4 s5 p1 p2 q1 q2 hpw HS2
              have ej := EJ.out
              go_wp2_with fail
              clear ej
              go_roundg jp
              case measure => have := HN.out; omega
              case rel => exact ⟨jp, _, by first | rfl | rw [EJ.out], ⟨HN.out.1, HN.out.2.1, Nat.le_refl _, HN.out.2.2.2.1⟩, ⟨HN.out.2.2.2.2⟩, SW⟩
          · have HLV := Aside0.mk hlv
            have b1 := decide_eq_false hlv
            go_wp2_with fail
            refine wp_region_gr (by kernel_rfl) (by kernel_rfl) ?_
            repeat (go_big_quiet_step (first | (go_at_fn f; refine Calls.gr_of (HCL.out _))))
            refine wpQuiet_nil ?_
            intro W2 hw'
            obtain ⟨⟨V2, hB2⟩, hw''⟩ := hw'
            replace hw'' : W2 = V2 := hw''
            subst hw''
            clear x0 x1 x2 x3 x4 x5 hpw p1 p2 q1 q2
            have HS2 := Aside0.mk (HS.out.below hB2)
            clear hB2 HS
            have ei := EI.out
            go_wp2_with fail
            clear ei
            go_roundg (b - (i + 1))
            case measure => have h1 := HI.out; have h2 := HLT.out; omega
            case rel => exact ⟨i + 1, D', by first | rfl | rw [EI.out], ⟨by have := HI.out; omega, by have := HLT.out; omega, Nat.le_refl _, HJ.out.2.2.2⟩, ⟨HOUT.out (.inr (by rw [HJP.out.1, HJP.out.2.2.1, HJP.out.2.2.2.1]; exact decide_eq_false (by have := HLV.out; omega)))⟩, HS2⟩
        · have g1 : decide (a < j) = false := decide_eq_false hja
          have g2 : decide ((j : Int) > (a : Int)) = false := decide_eq_false (by omega)
          have HJA := Aside0.mk hja
          clear hja hjj
          go_wp2_with fail
          refine wp_region_gr (by kernel_rfl) (by kernel_rfl) ?_
          repeat (go_big_quiet_step (fail))
          refine wpQuiet_nil ?_
          intro W2 hw'
          obtain ⟨⟨V2, hB2⟩, hw''⟩ := hw'
          replace hw'' : W2 = V2 := hw''
          subst hw''
          have HS2 := Aside0.mk (HS.out.below hB2)
          clear hB2 HS
          have ei := EI.out
          go_wp2_with fail
          clear ei
          go_roundg (b - (i + 1))
          case measure => have h1 := HI.out; have h2 := HLT.out; omega
          case rel => exact ⟨i + 1, D', by first | rfl | rw [EI.out], ⟨by have := HI.out; omega, by have := HLT.out; omega, Nat.le_refl _, HJ.out.2.2.2⟩, ⟨HOUT.out (.inl (by have := HJA.out; omega))⟩, HS2⟩
    · have c1 : decide (i < b) = false := decide_eq_false hlt
      have HE : Aside0 (insertionSort (ltC cf) d a b = D) := ⟨by unfold insertionSort; rw [← HO.out, insOuter_stop _ _ _ _ _ hlt]⟩
      go_wp2_with fail
      (first | go_end0 | skip)
      exact ⟨rfl, by rw [HE.out]; exact HS.out⟩
end Go.Proofs.Ytdfcljfajiihdaa.P

namespace Go.Proofs.Ytdfcljfajiihdaa.P
open Go.RowKit Go.Proofs.YtdfcljfajiihdaaW.PrintWords Go.Proofs.YtdfcljfajiihdaaW.PrintLast Go.Proofs.YtdfcljfajiihdaaW.PrintMore
attribute [local go_sem] max2_int min2_int max_two min_two max_three min_three max_four min_four
set_option linter.unusedVariables false
set_option linter.unusedSimpArgs false
open Go.Proofs.Ytdfcljfajiihdaa.T Go.Proofs.Ytdfcljfajiihdaa.Aid Go.Proofs.Ytdfcljfajiihdaa.Sk Go.Sort
set_option maxHeartbeats 2000000 in
theorem swapRange_sq {α : Type} [Inhabited α] {val : α → Sq} {base g cap : Nat} {w0 w : World} (d : Array α) (a b n : Nat) (cv : Value) (h : SB val base w0 g cap d w) (ha : a + n ≤ d.size) (hb : b + n ≤ d.size) (hsz : d.size ≤ 1000000000000) :
    Calls Try.prog 106 #[.slice (some ⟨g, 0, none⟩) d.size cap, .int .i64 (a : Int), .int .i64 (b : Int), .int .i64 (n : Int), cv] w fun e w' => e = .returned (.tuple #[]) ∧ SB val base w0 g cap (swpN d a b n) w' := by
  have H0 := Aside0.mk h
  have mixed : Try.prog.follows .mixedOrders = true := by kernel_rfl
  clear h
  go_enter Try.func106, Try.ntmps106
  go_wp2
  go_loopg [10] n (fun kq v10 wc => ∃ i : Nat, i ≤ n ∧ n - i ≤ kq ∧ v10 = .int .i64 (i : Int) ∧ Aside0 (SB val base w0 g cap (swpN d a b i) wc))
  case atStart => exact ⟨0, Nat.zero_le _, Nat.le_refl _, rfl, H0⟩
  case round =>
    clear H0
    obtain ⟨i, hi, hk, rfl, HS⟩ := hrel
    by_cases hlt : i < n
    · have c1 : decide (i < n) = true := decide_eq_true hlt
      have hs := swpN_size d a b i
      obtain ⟨p, hp⟩ : ∃ p, a + i = p := ⟨_, rfl⟩
      obtain ⟨q, hq⟩ : ∃ q, b + i = q := ⟨_, rfl⟩
      obtain ⟨D, hD⟩ : ∃ D, swpN d a b i = D := ⟨_, rfl⟩
      have HNX : Aside0 (swpN d a b (i + 1) = swp D p q) := ⟨by rw [swpN, hD, hp, hq]⟩
      rw [hD] at HS hs
      obtain ⟨⟨l0, l1, l2⟩, f0, f1, f2⟩ := HS.out.cells (i := p) (by omega)
      obtain ⟨⟨m0, m1, m2⟩, g0, g1, g2⟩ := HS.out.cells (i := q) (by omega)
      obtain ⟨P, hP⟩ : ∃ P, val D[p]! = P := ⟨_, rfl⟩
      obtain ⟨Q, hQ⟩ : ∃ Q, val D[q]! = Q := ⟨_, rfl⟩
      rw [hP] at l0 l1 l2
      rw [hQ] at m0 m1 m2
      have SW := Aside0.mk (HS.out.swap6 (i := p) (j := q) (by omega) (by omega) hP hQ).drew
      clear hP hQ
      obtain ⟨x1, x2, y0, y1, y2, s1, s2, s3, s4, s5⟩ := HS.out.six (p := p) (q := q) (by omega) (by omega) (.int .i64 Q.f0) (.int .i64 Q.f1) (.int .i64 Q.f2) (.int .i64 P.f0) (.int .i64 P.f1)
      have e1 : IntKind.i64.wrap ((a : Int) + (i : Int)) = (p : Int) := by rw [IntKind.wrap_i64]; omega
      have e2 : IntKind.i64.wrap ((b : Int) + (i : Int)) = (q : Int) := by rw [IntKind.wrap_i64]; omega
      have p1 := eq_true (show (0 : Int) ≤ (p : Int) by omega)
      have p2 := eq_true (show (p : Int) < (d.size : Int) by omega)
      have q1 := eq_true (show (0 : Int) ≤ (q : Int) by omega)
      have q2 := eq_true (show (q : Int) < (d.size : Int) by omega)
      have HI := Aside0.mk (And.intro hi (And.intro hk (And.intro hlt ha)))
      clear hi hk hlt hp hq hD hs HS ha hb
      have HSZ := Aside0.mk hsz
      clear hsz
      go_wp2_with fail
      go_region_law (fail)
      all_goals
        generalize ((((((wr.setCell ⟨g, p * 3, none⟩ (.int .i64 Q.f0)).setCell ⟨g, p * 3 + 1, none⟩ (.int .i64 Q.f1)).setCell ⟨g, p * 3 + 2, none⟩ (.int .i64 Q.f2)).setCell ⟨g, q * 3, none⟩ (.int .i64 P.f0)).setCell ⟨g, q * 3 + 1, none⟩ (.int .i64 P.f1)).setCell ⟨g, q * 3 + 2, none⟩ (.int .i64 P.f2)).drew = W2 at SW ⊢
        clear l0 l1 l2 f0 f1 f2 m0 m1 m2 g0 g1 g2 s1 s2 s3 s4 s5 e1 e2 p1 p2 q1 q2 c1
        have hw : wrap64 ((i : Int) + 1) = ((i + 1 : Nat) : Int) := by have h1 := HI.out; have h2 := HSZ.out; rw [w64 (by omega) (by omega)]; omega
        go_wp2_with fail
        go_roundg (n - (i + 1))
        case measure => have := HI.out; omega
        case rel => exact ⟨i + 1, by have := HI.out; omega, Nat.le_refl _, by first | rfl | rw [hw], ⟨by rw [HNX.out]; exact SW.out⟩⟩
    · have c1 : decide (i < n) = false := decide_eq_false hlt
      obtain rfl : i = n := by omega
      go_wp2_with fail
      (first | go_end0 | skip)
      exact ⟨rfl, HS.out⟩
end Go.Proofs.Ytdfcljfajiihdaa.P

namespace Go.Proofs.Ytdfcljfajiihdaa.P
open Go.RowKit Go.Proofs.YtdfcljfajiihdaaW.PrintWords Go.Proofs.YtdfcljfajiihdaaW.PrintLast Go.Proofs.YtdfcljfajiihdaaW.PrintMore
attribute [local go_sem] max2_int min2_int max_two min_two max_three min_three max_four min_four
set_option linter.unusedVariables false
set_option linter.unusedSimpArgs false
open Go.Proofs.Ytdfcljfajiihdaa.T Go.Proofs.Ytdfcljfajiihdaa.Aid Go.Proofs.Ytdfcljfajiihdaa.Sk Go.Sort
set_option maxHeartbeats 2000000 in
theorem rotate_sq {α : Type} [Inhabited α] {val : α → Sq} {base g cap : Nat} {w0 w : World} (d : Array α) (a m b : Nat) (cv : Value) (h : SB val base w0 g cap d w) (ham : a < m) (hmb : m < b) (hb : b ≤ d.size) (hsz : d.size ≤ 1000000000000) :
    Calls Try.prog 105 #[.slice (some ⟨g, 0, none⟩) d.size cap, .int .i64 (a : Int), .int .i64 (m : Int), .int .i64 (b : Int), cv] w fun e w' => e = .returned (.tuple #[]) ∧ ∃ d', Rot d a m b d' ∧ PermIn a b d d' ∧ SB val base w0 g cap d' w' := by
  have H0 := Aside0.mk h
  have HH := Aside0.mk (And.intro ham (And.intro hmb (And.intro hb hsz)))
  have e1 : wrap64 ((m : Int) - (a : Int)) = ((m - a : Nat) : Int) := by rw [w64 (by omega) (by omega)]; omega
  have e2 : wrap64 ((b : Int) - (m : Int)) = ((b - m : Nat) : Int) := by rw [w64 (by omega) (by omega)]; omega
  clear h ham hmb hb hsz
  go_enter Try.func105, Try.ntmps105
  go_wp2
  have E1 := Aside0.mk e1
  have E2 := Aside0.mk e2
  clear e1 e2
  go_loopg [10, 11] (b - a) (fun kq v10 v11 wc => ∃ (i j : Nat) (D : Array α), v10 = .int .i64 (i : Int) ∧ v11 = .int .i64 (j : Int) ∧ Aside0 (0 < i ∧ 0 < j ∧ i ≤ m - a ∧ j ≤ b - m ∧ i + j ≤ kq ∧ D.size = d.size) ∧ Aside0 (PermIn a b d D) ∧ Aside0 (∀ d', Rot D (m - i) m (m + j) d' → Rot d a m b d') ∧ Aside0 (SB val base w0 g cap D wc))
  case atStart =>
    have hh := HH.out
    refine ⟨m - a, b - m, d, by first | rfl | rw [E1.out], by first | rfl | rw [E2.out], ⟨by omega, by omega, by omega, by omega, by omega, rfl⟩, ⟨permIn_refl _ _ _⟩, ⟨fun d' h => ?_⟩, H0⟩
    rwa [show m - (m - a) = a by omega, show m + (b - m) = b by omega] at h
  case round =>
    clear H0
    obtain ⟨i, j, D, rfl, rfl, HI, HP, HR, HS⟩ := hrel
    have hi := HI.out
    have hh := HH.out
    rcases Nat.lt_trichotomy i j with hc | hc | hc
    · -- the right part is the longer one
      have c1 : ((i : Int) == (j : Int)) = false := by simp; omega
      have c1' : ((i : Int) != (j : Int)) = true := by simp; omega
      have c2 : decide (j < i) = false := decide_eq_false (by omega)
      have c2' : decide ((i : Int) > (j : Int)) = false := decide_eq_false (by omega)
      obtain ⟨r, hr⟩ : ∃ r, m - i = r := ⟨_, rfl⟩
      obtain ⟨s, hs⟩ : ∃ s, m + j = s := ⟨_, rfl⟩
      obtain ⟨t, ht⟩ : ∃ t, m + j - i = t := ⟨_, rfl⟩
      obtain ⟨u, hu⟩ : ∃ u, j - i = u := ⟨_, rfl⟩
      have E1 : Aside0 (wrap64 ((m : Int) - (i : Int)) = (r : Int)) := ⟨by rw [w64 (by omega) (by omega)]; omega⟩
      have E2 : Aside0 (wrap64 ((m : Int) + (j : Int)) = (s : Int)) := ⟨by rw [w64 (by omega) (by omega)]; omega⟩
      have E3 : Aside0 (wrap64 ((s : Int) - (i : Int)) = (t : Int)) := ⟨by rw [w64 (by omega) (by omega)]; omega⟩
      have E4 : Aside0 (wrap64 ((j : Int) - (i : Int)) = (u : Int)) := ⟨by rw [w64 (by omega) (by omega)]; omega⟩
      have hsz : D.size = d.size := hi.2.2.2.2.2
      have HC := Aside0.mk (swapRange_sq D (m - i) (m + j - i) i cv HS.out (by omega) (by omega) (by omega))
      rw [hsz] at HC
      have HN : Aside0 (0 < i ∧ 0 < j - i ∧ i ≤ m - a ∧ j - i ≤ b - m ∧ i + (j - i) < gk ∧ (swpN D (m - i) (m + j - i) i).size = d.size) := ⟨by omega, by omega, by omega, by omega, by omega, by rw [swpN_size]; exact hsz⟩
      have HPN : Aside0 (PermIn a b d (swpN D (m - i) (m + j - i) i)) := ⟨permIn_trans _ _ _ _ _ HP.out (swpN_perm D a b (m - i) (m + j - i) i (by omega) (by omega) (by omega) (by omega) (by omega))⟩
      have HRN : Aside0 (∀ d', Rot (swpN D (m - i) (m + j - i) i) (m - i) m (m + (j - i)) d' → Rot d a m b d') := ⟨fun d' h => HR.out d' (Rot.right (by omega) hc (by omega) h)⟩
      rw [hr, ht] at HC
      rw [hu] at HN
      have HU := Aside0.mk hu
      have HT := Aside0.mk ht
      have HR1 := Aside0.mk hr
      clear hi hh hc hsz HS HP HR HI hr hs ht hu
      have e1 := E1.out
      have e2 := E2.out
      have e3 := E3.out
      have e4 := E4.out
      go_wp2_with (go_at_call 106; refine HC.out.mono ?_; rintro e w' ⟨rfl, hS⟩; have HS2 := Aside0.mk hS; clear hS)
      clear e1 e2 e3 e4
      go_roundg (i + u)
      case measure => have := HN.out; omega
      case rel => exact ⟨i, u, _, rfl, by first | rfl | rw [E4.out], ⟨by have := HN.out; omega, by have := HN.out; omega, by have := HN.out; omega, by have := HN.out; omega, by have := HN.out; omega, by rw [← HT.out, ← HR1.out]; exact HN.out.2.2.2.2.2⟩, ⟨by rw [← HT.out, ← HR1.out]; exact HPN.out⟩, ⟨by rw [← HU.out, ← HT.out, ← HR1.out]; exact HRN.out⟩, HS2⟩
    · subst hc
      have c1 : ((i : Int) == (i : Int)) = true := by simp
      have c1' : ((i : Int) != (i : Int)) = false := by simp
      have E1 : Aside0 (wrap64 ((m : Int) - (i : Int)) = ((m - i : Nat) : Int)) := ⟨by rw [w64 (by omega) (by omega)]; omega⟩
      have hsz : D.size = d.size := hi.2.2.2.2.2
      have HC := Aside0.mk (swapRange_sq D (m - i) m i cv HS.out (by omega) (by omega) (by omega))
      rw [hsz] at HC
      have HPN : Aside0 (PermIn a b d (swpN D (m - i) m i)) := ⟨permIn_trans _ _ _ _ _ HP.out (swpN_perm D a b (m - i) m i (by omega) (by omega) (by omega) (by omega) (by omega))⟩
      have HRN : Aside0 (Rot d a m b (swpN D (m - i) m i)) := ⟨HR.out _ (Rot.last D m i (by omega) (by omega))⟩
      clear hi hh hsz HS HP HR HI
      have e1 := E1.out
      go_wp2_with (go_at_call 106; refine HC.out.mono ?_; rintro e w' ⟨rfl, hS⟩; have HS2 := Aside0.mk hS; clear hS)
      (first | go_end0 | skip)
      exact ⟨rfl, _, HRN.out, HPN.out, HS2.out⟩
    · have c1 : ((i : Int) == (j : Int)) = false := by simp; omega
      have c1' : ((i : Int) != (j : Int)) = true := by simp; omega
      have c2 : decide (j < i) = true := decide_eq_true (by omega)
      have c2' : decide ((i : Int) > (j : Int)) = true := decide_eq_true (by omega)
      have E1 : Aside0 (wrap64 ((m : Int) - (i : Int)) = ((m - i : Nat) : Int)) := ⟨by rw [w64 (by omega) (by omega)]; omega⟩
      have E4 : Aside0 (wrap64 ((i : Int) - (j : Int)) = ((i - j : Nat) : Int)) := ⟨by rw [w64 (by omega) (by omega)]; omega⟩
      have hsz : D.size = d.size := hi.2.2.2.2.2
      have HC := Aside0.mk (swapRange_sq D (m - i) m j cv HS.out (by omega) (by omega) (by omega))
      rw [hsz] at HC
      have HN : Aside0 (0 < i - j ∧ 0 < j ∧ i - j ≤ m - a ∧ j ≤ b - m ∧ i - j + j < gk ∧ (swpN D (m - i) m j).size = d.size) := ⟨by omega, by omega, by omega, by omega, by omega, by rw [swpN_size]; exact hsz⟩
      have HPN : Aside0 (PermIn a b d (swpN D (m - i) m j)) := ⟨permIn_trans _ _ _ _ _ HP.out (swpN_perm D a b (m - i) m j (by omega) (by omega) (by omega) (by omega) (by omega))⟩
      have HRN : Aside0 (∀ d', Rot (swpN D (m - i) m j) (m - (i - j)) m (m + j) d' → Rot d a m b d') := ⟨fun d' h => HR.out d' (Rot.left (by omega) hc (by omega) h)⟩
      clear hi hh hc hsz HS HP HR HI
      have e1 := E1.out
      have e4 := E4.out
      go_wp2_with (go_at_call 106; refine HC.out.mono ?_; rintro e w' ⟨rfl, hS⟩; have HS2 := Aside0.mk hS; clear hS)
      clear e1 e4
      go_roundg (i - j + j)
      case measure => have := HN.out; omega
      case rel => exact ⟨i - j, j, _, by first | rfl | rw [E4.out], rfl, ⟨by have := HN.out; omega, by have := HN.out; omega, by have := HN.out; omega, by have := HN.out; omega, by have := HN.out; omega, HN.out.2.2.2.2.2⟩, HPN, HRN, HS2⟩
end Go.Proofs.Ytdfcljfajiihdaa.P

namespace Go.Proofs.Ytdfcljfajiihdaa.T
open Go.Sort
set_option linter.unusedSectionVars false
variable {α : Type} [Inhabited α] {lt : α → α → Bool}
theorem rot_up {d D : Array α} {a k : Nat} (hak : a ≤ k) (hk : k + 1 < D.size) (h : Rot d a (a + 1) (k + 1) D) : Rot d a (a + 1) (k + 2) (swp D k (k + 1)) := by
  have g := swpGet D (i := k) (j := k + 1) (by omega) hk
  refine ⟨(swpSize _ _ _).trans h.size, fun x hx => ?_, fun x hx => ?_, fun x hx => ?_⟩
  · rw [g, if_neg (by omega), if_neg (by omega)]; exact h.out x (by omega)
  · rw [g]
    by_cases c : a + x = k
    · rw [if_neg (by omega), if_pos c, h.out (k + 1) (.inr (Nat.le_refl _))]; congr 1; omega
    · rw [if_neg (by omega), if_neg c]; exact h.lo x (by omega)
  · obtain rfl : x = 0 := by omega
    rw [g, if_pos (by omega)]
    have := h.hi 0 (by omega)
    rw [← this]; congr 1; omega
theorem rot_down {d D : Array α} {m k : Nat} (hk : k < m) (hm : m < D.size) (h : Rot d (k + 1) m (m + 1) D) : Rot d k m (m + 1) (swp D (k + 1) k) := by
  have g := swpGet D (i := k + 1) (j := k) (by omega) (by omega)
  refine ⟨(swpSize _ _ _).trans h.size, fun x hx => ?_, fun x hx => ?_, fun x hx => ?_⟩
  · rw [g, if_neg (by omega), if_neg (by omega)]; exact h.out x (by omega)
  · obtain rfl : x = 0 := by omega
    rw [g, if_pos (by omega)]
    have := h.lo 0 (by omega)
    rw [← this]
  · rw [g]
    rcases Nat.eq_zero_or_pos x with c | c
    · subst c
      rw [if_neg (by omega), if_pos (by omega), h.out k (.inl (by omega))]; rfl
    · obtain ⟨x, rfl⟩ : ∃ y, x = y + 1 := ⟨x - 1, by omega⟩
      rw [if_neg (by omega), if_neg (by omega)]
      have := h.hi x (by omega)
      rw [show k + (m + 1 - m) + (x + 1) = k + 1 + (m + 1 - m) + x by omega, this]; congr 1; omega
theorem swo_asymm (O : SWO lt) {x y : α} (h : lt x y = true) : lt y x = false := by
  cases hc : lt y x with
  | false => rfl
  | true => have := O.trans _ _ _ hc h; rw [O.irrefl] at this; cases this
theorem ins_left (O : SWO lt) {d D : Array α} {a i b : Nat} (hai : a + 1 ≤ i) (hib : i ≤ b) (hS : SortedIn lt (a + 1) b d)
    (h1 : ∀ k, a + 1 ≤ k → k < i → lt d[k]! d[a]! = true) (h2 : ∀ k, i ≤ k → k < b → lt d[k]! d[a]! = false) (hR : Rot d a (a + 1) i D) : SortedIn lt a b D := by
  have g1 : ∀ x, a ≤ x → x + 1 < i → D[x]! = d[x + 1]! := fun x hx h => by
    have := hR.lo (x - a) (by omega)
    rw [show a + (x - a) = x by omega] at this
    rw [this]; congr 1; omega
  have g2 : D[i - 1]! = d[a]! := by
    have := hR.hi 0 (by omega)
    rw [show a + (i - (a + 1)) + 0 = i - 1 by omega] at this
    rw [this]; rfl
  have g3 : ∀ x, i ≤ x → D[x]! = d[x]! := fun x hx => hR.out x (.inr hx)
  intro x y hx hxy hy
  by_cases c1 : x + 1 < i
  · rw [g1 x hx c1]
    by_cases c2 : y + 1 < i
    · rw [g1 y (by omega) c2]; exact hS _ _ (by omega) (by omega) (by omega)
    · by_cases c3 : y = i - 1
      · rw [c3, g2]; exact swo_asymm O (h1 _ (by omega) c1)
      · rw [g3 y (by omega)]; exact hS _ _ (by omega) (by omega) hy
  · by_cases c3 : x = i - 1
    · rw [c3, g2, g3 y (by omega)]; exact h2 y (by omega) hy
    · rw [g3 x (by omega), g3 y (by omega)]; exact hS _ _ (by omega) hxy hy
theorem ins_right (O : SWO lt) {d D : Array α} {a i m : Nat} (hai : a ≤ i) (him : i ≤ m) (hS : SortedIn lt a m d)
    (h1 : ∀ k, a ≤ k → k < i → lt d[m]! d[k]! = false) (h2 : ∀ k, i ≤ k → k < m → lt d[m]! d[k]! = true) (hR : Rot d i m (m + 1) D) : SortedIn lt a (m + 1) D := by
  have g1 : ∀ x, x < i → D[x]! = d[x]! := fun x hx => hR.out x (.inl hx)
  have g2 : D[i]! = d[m]! := by have := hR.lo 0 (by omega); exact this
  have g3 : ∀ x, i < x → x ≤ m → D[x]! = d[x - 1]! := fun x hx h => by
    have := hR.hi (x - 1 - i) (by omega)
    rw [show i + (m + 1 - m) + (x - 1 - i) = x by omega] at this
    rw [this]; congr 1; omega
  intro x y hx hxy hy
  by_cases c1 : x < i
  · rw [g1 x c1]
    by_cases c2 : y < i
    · rw [g1 y c2]; exact hS _ _ hx hxy (by omega)
    · by_cases c3 : y = i
      · rw [c3, g2]; exact h1 x hx c1
      · rw [g3 y (by omega) (by omega)]; exact hS _ _ hx (by omega) (by omega)
  · by_cases c3 : x = i
    · rw [c3, g2, g3 y (by omega) (by omega)]; exact swo_asymm O (h2 _ (by omega) (by omega))
    · rw [g3 x (by omega) (by omega), g3 y (by omega) (by omega)]; exact hS _ _ (by omega) (by omega) (by omega)
end Go.Proofs.Ytdfcljfajiihdaa.T

namespace Go.Proofs.Ytdfcljfajiihdaa.P
open Go.RowKit Go.Proofs.YtdfcljfajiihdaaW.PrintWords Go.Proofs.YtdfcljfajiihdaaW.PrintLast Go.Proofs.YtdfcljfajiihdaaW.PrintMore
attribute [local go_sem] max2_int min2_int max_two min_two max_three min_three max_four min_four
set_option linter.unusedVariables false
set_option linter.unusedSimpArgs false
open Go.Proofs.Ytdfcljfajiihdaa.T Go.Proofs.Ytdfcljfajiihdaa.Aid Go.Proofs.Ytdfcljfajiihdaa.Sk Go.Proofs.Ytdfcljfajiihdaa.Gr Go.Sort
theorem half_w (i j : Nat) (h : i < j) (hj : j ≤ 1000000000000) : ∃ s q : Nat, s = i + j ∧ q = (i + j) / 2 ∧ i ≤ q ∧ q < j ∧ wrap64 ((i : Int) + (j : Int)) = (s : Int) ∧ IntKind.u64.wrap (s : Int) = (s : Int) ∧ wrap64 ((s : Int) / 2) = (q : Int) := by
  refine ⟨i + j, (i + j) / 2, rfl, rfl, by omega, by omega, ?_, ?_, ?_⟩
  · rw [w64 (by omega) (by omega)]; omega
  · simp only [IntKind.wrap, IntKind.bits, IntKind.signed]; simp; omega
  · rw [w64 (by omega) (by omega)]; omega
set_option maxHeartbeats 8000000 in
set_option maxRecDepth 100000 in
theorem sym_left {α : Type} [Inhabited α] {val : α → Sq} {cf : α → α → Int} {f : Nat} {base g cap : Nat} {w0 w : World} (hO : SWO (ltC cf)) (hF : CmpSq Try.prog val cf f) (d : Array α) (a m b : Nat) (hm : a + 1 = m) (h : SB val base w0 g cap d w) (hab : m < b) (hb : b ≤ d.size) (hS : SortedIn (ltC cf) m b d) (hsz : d.size ≤ 1000000000000) :
    Calls Try.prog 104 #[.slice (some ⟨g, 0, none⟩) d.size cap, .int .i64 (a : Int), .int .i64 (m : Int), .int .i64 (b : Int), .func (.func f) #[] #[]] w fun e w' => e = .returned (.tuple #[]) ∧ ∃ d', PermIn a b d d' ∧ SortedIn (ltC cf) a b d' ∧ SB val base w0 g cap d' w' := by
  have H0 := Aside0.mk h
  have HH : Aside0 (a + 1 = m ∧ m < b ∧ b ≤ d.size ∧ d.size ≤ 1000000000000) := ⟨hm, hab, hb, hsz⟩
  have HSO := Aside0.mk hS
  have HO := Aside0.mk hO
  have eg := hF.eg
  have HCALL := Aside0.mk hF.call
  have e1 : wrap64 ((m : Int) - (a : Int)) = 1 := by rw [w64 (by omega) (by omega)]; omega
  have mixed : Try.prog.follows .mixedOrders = true := by kernel_rfl
  clear h hab hb hsz hF hO hS hm
  go_enter Try.func104, Try.ntmps104
  go_wp2
  clear e1
  go_loopg [10, 11] (b - m) (fun kq v10 v11 wc => ∃ (i j : Nat), v10 = .int .i64 (i : Int) ∧ v11 = .int .i64 (j : Int) ∧ Aside0 (m ≤ i ∧ i ≤ j ∧ j ≤ b ∧ j - i ≤ kq ∧ (∀ k, m ≤ k → k < i → ltC cf d[k]! d[a]! = true) ∧ (∀ k, j ≤ k → k < b → ltC cf d[k]! d[a]! = false)) ∧ Aside0 (SB val base w0 g cap d wc))
  case atStart => exact ⟨m, b, rfl, rfl, ⟨Nat.le_refl _, by have := HH.out; omega, Nat.le_refl _, Nat.le_refl _, fun k h1 h2 => by omega, fun k h1 h2 => by omega⟩, H0⟩
  case round =>
    clear H0
    obtain ⟨i, j, rfl, rfl, HI, HS⟩ := hrel
    by_cases hlt : i < j
    · have c1 : decide (i < j) = true := decide_eq_true hlt
      have hi := HI.out
      have hh := HH.out
      obtain ⟨s, q, hs, hq, hq1, hq2, e2, e3, e4⟩ := half_w i j hlt (by omega)
      have E2 := Aside0.mk e2
      have E3 := Aside0.mk e3
      have E4 := Aside0.mk e4
      clear e2 e3 e4
      have EQ : Aside0 (wrap64 ((q : Int) + 1) = ((q + 1 : Nat) : Int)) := ⟨by rw [w64 (by omega) (by omega)]; omega⟩
      have HQ : Aside0 (i ≤ q ∧ q < j) := ⟨hq1, hq2⟩
      have p1 := eq_true (show (0 : Int) ≤ (q : Int) by omega)
      have p2 := eq_true (show (q : Int) < (d.size : Int) by omega)
      have q1 := eq_true (show (0 : Int) ≤ (a : Int) by omega)
      have q2 := eq_true (show (a : Int) < (d.size : Int) by omega)
      obtain ⟨⟨l0, l1, l2⟩, _⟩ := HS.out.cells (i := q) (by omega)
      obtain ⟨⟨m0, m1, m2⟩, _⟩ := HS.out.cells (i := a) (by omega)
      obtain ⟨x, hx⟩ : ∃ x, d[q]! = x := ⟨_, rfl⟩
      obtain ⟨y, hy⟩ : ∃ y, d[a]! = y := ⟨_, rfl⟩
      obtain ⟨X, hX⟩ : ∃ X, val x = X := ⟨_, rfl⟩
      obtain ⟨Y, hY⟩ : ∃ Y, val y = Y := ⟨_, rfl⟩
      rw [hx, hX] at l0 l1 l2
      rw [hy, hY] at m0 m1 m2
      have hcl := fun W => HCALL.out W x y
      rw [hX, hY] at hcl
      have HCL := Aside0.mk hcl
      have HXY : Aside0 (d[q]! = x ∧ d[a]! = y) := ⟨hx, hy⟩
      have x0 := fun p => cell_gr (p := p) (World.block_lt_of_cell? wr _ l0) l0
      have x1 := fun p => cell_gr (p := p) (World.block_lt_of_cell? wr _ l1) l1
      have x2 := fun p => cell_gr (p := p) (World.block_lt_of_cell? wr _ l2) l2
      have x3 := fun p => cell_gr (p := p) (World.block_lt_of_cell? wr _ m0) m0
      have x4 := fun p => cell_gr (p := p) (World.block_lt_of_cell? wr _ m1) m1
      have x5 := fun p => cell_gr (p := p) (World.block_lt_of_cell? wr _ m2) m2
      clear l0 l1 l2 m0 m1 m2 hx hy hX hY hcl
      have HLT := Aside0.mk hlt
      clear hs hq hq1 hq2 hlt hi hh
      have e2 := E2.out
      have e3 := E3.out
      have e4 := E4.out
      by_cases hlv : cf x y < 0
      · have HLV := Aside0.mk hlv
        have b1 := decide_eq_true hlv
        clear hlv
        go_wp2_with fail
        refine wp_region_gr (by kernel_rfl) (by kernel_rfl) ?_
        repeat (go_big_quiet_step (first | (go_at_fn f; refine Calls.gr_of (HCL.out _))))
        refine wpQuiet_nil ?_
        intro W2 hw'
        obtain ⟨⟨V2, hB2⟩, hw''⟩ := hw'
        replace hw'' : W2 = V2 := hw''
        subst hw''
        clear x0 x1 x2 x3 x4 x5
        have HS2 := Aside0.mk (HS.out.below hB2)
        clear hB2 HS
        have eq := EQ.out
        go_wp2_with fail
        clear eq e2 e3 e4
        go_roundg (j - (q + 1))
        case measure => have h1 := HI.out; have h2 := HQ.out; omega
        case rel => exact ⟨q + 1, j, by first | rfl | rw [EQ.out], rfl, ⟨by have h1 := HI.out; have h2 := HQ.out; omega, by have h2 := HQ.out; omega, HI.out.2.2.1, Nat.le_refl _, (fun k h1 h2 => by
          by_cases hk : k < i
          · exact HI.out.2.2.2.2.1 k h1 hk
          · have hq : ltC cf d[q]! d[a]! = true := by rw [HXY.out.1, HXY.out.2]; exact decide_eq_true HLV.out
            by_cases hkq : k = q
            · rw [hkq]; exact hq
            · have hs := HSO.out k q (by have := HI.out; omega) (by omega) (by have h3 := HI.out; have h4 := HQ.out; omega)
              cases hc : ltC cf d[k]! d[a]! with
              | true => rfl
              | false => have := HO.out.ntrans _ _ _ hs hc; rw [hq] at this; cases this), HI.out.2.2.2.2.2⟩, HS2⟩
      · have HLV := Aside0.mk hlv
        have b1 := decide_eq_false hlv
        clear hlv
        go_wp2_with fail
        refine wp_region_gr (by kernel_rfl) (by kernel_rfl) ?_
        repeat (go_big_quiet_step (first | (go_at_fn f; refine Calls.gr_of (HCL.out _))))
        refine wpQuiet_nil ?_
        intro W2 hw'
        obtain ⟨⟨V2, hB2⟩, hw''⟩ := hw'
        replace hw'' : W2 = V2 := hw''
        subst hw''
        clear x0 x1 x2 x3 x4 x5
        have HS2 := Aside0.mk (HS.out.below hB2)
        clear hB2 HS
        go_wp2_with fail
        clear e2 e3 e4
        go_roundg (q - i)
        case measure => have h1 := HI.out; have h2 := HQ.out; omega
        case rel => exact ⟨i, q, rfl, by first | rfl | rw [E4.out], ⟨HI.out.1, HQ.out.1, by have h1 := HI.out; have h2 := HQ.out; omega, Nat.le_refl _, HI.out.2.2.2.2.1, fun k h1 h2 => by
          have hq : ltC cf d[q]! d[a]! = false := by rw [HXY.out.1, HXY.out.2]; exact decide_eq_false (by have := HLV.out; omega)
          by_cases hkq : k = q
          · rw [hkq]; exact hq
          · exact HO.out.ntrans _ _ _ (HSO.out q k (by have h3 := HI.out; have h4 := HQ.out; omega) (by omega) h2) hq⟩, HS2⟩
    · have c1 : decide (i < j) = false := decide_eq_false hlt
      have hi := HI.out
      have hh := HH.out
      obtain rfl : i = j := by omega
      have EI : Aside0 (wrap64 ((i : Int) - 1) = ((i - 1 : Nat) : Int)) := ⟨by rw [w64 (by omega) (by omega)]; omega⟩
      obtain ⟨ip, hip⟩ : ∃ ip, i - 1 = ip := ⟨_, rfl⟩
      rw [hip] at EI
      have HIP : Aside0 (i - 1 = ip ∧ m ≤ i ∧ i ≤ b) := ⟨hip, by omega, by omega⟩
      have HU : Aside0 ((∀ k, m ≤ k → k < i → ltC cf d[k]! d[a]! = true) ∧ (∀ k, i ≤ k → k < b → ltC cf d[k]! d[a]! = false)) := ⟨hi.2.2.2.2.1, hi.2.2.2.2.2⟩
      clear hi hh hip hlt HI
      go_wp2_with fail
      go_loopg [13] (ip - a) (fun kq v13 wc => ∃ (k : Nat) (D : Array α), v13 = .int .i64 (k : Int) ∧ Aside0 (a ≤ k ∧ k ≤ ip ∧ ip - k ≤ kq ∧ D.size = d.size) ∧ Aside0 (Rot d a (a + 1) (k + 1) D) ∧ Aside0 (PermIn a b d D) ∧ Aside0 (SB val base w0 g cap D wc))
      case atStart => exact ⟨a, d, rfl, ⟨Nat.le_refl _, by have h1 := HH.out; have h2 := HIP.out; omega, Nat.le_refl _, rfl⟩, ⟨Rot.nil_right⟩, ⟨permIn_refl _ _ _⟩, HS⟩
      case round =>
        clear HS
        obtain ⟨k, D, rfl, HK, HR, HP, HS⟩ := hrel
        have ei := EI.out
        by_cases hk : k < ip
        · have c2 : decide (k < ip) = true := decide_eq_true hk
          have c3 : decide ((k : Int) < (ip : Int)) = true := decide_eq_true (by omega)
          have hkk := HK.out
          have hh := HH.out
          have hii := HIP.out
          clear ei
          obtain ⟨k1, hk1⟩ : ∃ k1, k + 1 = k1 := ⟨_, rfl⟩
          have ek0 : IntKind.i64.wrap ((k : Int) + 1) = (k1 : Int) := by rw [IntKind.wrap_i64]; omega
          have EK0 := Aside0.mk ek0
          clear ek0
          have EK : Aside0 (wrap64 ((k : Int) + 1) = (k1 : Int)) := ⟨by rw [w64 (by omega) (by omega)]; omega⟩
          obtain ⟨⟨l0, l1, l2⟩, f0, f1, f2⟩ := HS.out.cells (i := k) (by omega)
          obtain ⟨⟨m0, m1, m2⟩, g0, g1, g2⟩ := HS.out.cells (i := k1) (by omega)
          obtain ⟨X, hX⟩ : ∃ X, val D[k]! = X := ⟨_, rfl⟩
          obtain ⟨Y, hY⟩ : ∃ Y, val D[k1]! = Y := ⟨_, rfl⟩
          rw [hX] at l0 l1 l2
          rw [hY] at m0 m1 m2
          have SW := Aside0.mk (HS.out.swap6 (i := k) (j := k1) (by omega) (by omega) hX hY).drew
          obtain ⟨y1, y2, y3, y4, y5, s1, s2, s3, s4, s5⟩ := HS.out.six (p := k) (q := k1) (by omega) (by omega) (.int .i64 Y.f0) (.int .i64 Y.f1) (.int .i64 Y.f2) (.int .i64 X.f0) (.int .i64 X.f1)
          clear hX hY
          have HN : Aside0 (a ≤ k1 ∧ k1 ≤ ip ∧ ip - k1 < gk ∧ (swp D k k1).size = d.size) := ⟨by omega, by omega, by omega, by rw [swpSize]; exact hkk.2.2.2⟩
          have HRN : Aside0 (Rot d a (a + 1) (k1 + 1) (swp D k k1)) := ⟨by rw [← hk1]; exact rot_up hkk.1 (by omega) HR.out⟩
          have HPN : Aside0 (PermIn a b d (swp D k k1)) := ⟨permIn_trans _ _ _ _ _ HP.out (swp_permIn _ _ _ _ _ (by omega) (by omega) (by omega) (by omega) (by omega))⟩
          have p1 := eq_true (show (0 : Int) ≤ (k : Int) by omega)
          have p2 := eq_true (show (k : Int) < (d.size : Int) by omega)
          have q1 := eq_true (show (0 : Int) ≤ (k1 : Int) by omega)
          have q2 := eq_true (show (k1 : Int) < (d.size : Int) by omega)
          clear hkk hh hii hk1 hk
          have ei := EI.out
          have ek0 := EK0.out
          have ek := EK.out
          go_wp2_with fail
          go_region_law (fail)
          all_goals
            generalize ((((((wr.setCell ⟨g, k * 3, none⟩ (.int .i64 Y.f0)).setCell ⟨g, k * 3 + 1, none⟩ (.int .i64 Y.f1)).setCell ⟨g, k * 3 + 2, none⟩ (.int .i64 Y.f2)).setCell ⟨g, k1 * 3, none⟩ (.int .i64 X.f0)).setCell ⟨g, k1 * 3 + 1, none⟩ (.int .i64 X.f1)).setCell ⟨g, k1 * 3 + 2, none⟩ (.int .i64 X.f2)).drew = W3 at SW ⊢
            clear l0 l1 l2 f0 f1 f2 m0 m1 m2 g0 g1 g2 s1 s2 s3 s4 s5 HS
            go_wp2_with fail
            clear ei ek ek0
            go_roundg (ip - k1)
            case measure => exact HN.out.2.2.1
            case rel => exact ⟨k1, _, by first | rfl | rw [EK.out], ⟨HN.out.1, HN.out.2.1, Nat.le_refl _, HN.out.2.2.2⟩, HRN, HPN, SW⟩
        · have c2 : decide (k < ip) = false := decide_eq_false hk
          have c3 : decide ((k : Int) < (ip : Int)) = false := decide_eq_false (by omega)
          have HE : Aside0 (SortedIn (ltC cf) a b D) := ⟨by
            have hkk := HK.out
            have hh := HH.out
            have hii := HIP.out
            have hr := HR.out
            rw [show k + 1 = i by omega] at hr
            refine ins_left HO.out (i := i) (by omega) (by omega) (by rw [hh.1]; exact HSO.out) (fun k h1 h2 => HU.out.1 k (by omega) h2) HU.out.2 hr⟩
          go_wp2_with fail
          (try simp only [Exit.inBlock, Exit.then]); refine bodyPost_ret (results_none rfl _ _ _) rfl ?_
          exact ⟨rfl, D, HP.out, HE.out, HS.out⟩
set_option maxHeartbeats 8000000 in
set_option maxRecDepth 100000 in
theorem sym_right {α : Type} [Inhabited α] {val : α → Sq} {cf : α → α → Int} {f : Nat} {base g cap : Nat} {w0 w : World} (hO : SWO (ltC cf)) (hF : CmpSq Try.prog val cf f) (d : Array α) (a m b : Nat) (hm : m + 1 = b) (h : SB val base w0 g cap d w) (ham : a + 1 < m) (hb : b ≤ d.size) (hS : SortedIn (ltC cf) a m d) (hsz : d.size ≤ 1000000000000) :
    Calls Try.prog 104 #[.slice (some ⟨g, 0, none⟩) d.size cap, .int .i64 (a : Int), .int .i64 (m : Int), .int .i64 (b : Int), .func (.func f) #[] #[]] w fun e w' => e = .returned (.tuple #[]) ∧ ∃ d', PermIn a b d d' ∧ SortedIn (ltC cf) a b d' ∧ SB val base w0 g cap d' w' := by
  have H0 := Aside0.mk h
  have HH : Aside0 (m + 1 = b ∧ a + 1 < m ∧ b ≤ d.size ∧ d.size ≤ 1000000000000) := ⟨hm, ham, hb, hsz⟩
  have HSO := Aside0.mk hS
  have HO := Aside0.mk hO
  have eg := hF.eg
  have HCALL := Aside0.mk hF.call
  obtain ⟨z, hz⟩ : ∃ z : Int, (m : Int) - (a : Int) = z := ⟨_, rfl⟩
  have e1 : wrap64 ((m : Int) - (a : Int)) = z := by rw [w64 (by omega) (by omega)]; exact hz
  have e1b : (z == 1) = false := by simp; omega
  have e2 : wrap64 ((b : Int) - (m : Int)) = 1 := by rw [w64 (by omega) (by omega)]; omega
  have mixed : Try.prog.follows .mixedOrders = true := by kernel_rfl
  clear h ham hb hsz hF hO hS hm hz
  go_enter Try.func104, Try.ntmps104
  go_wp2
  clear e1 e1b e2
  go_loopg [14, 15] (m - a) (fun kq v10 v11 wc => ∃ (i j : Nat), v10 = .int .i64 (i : Int) ∧ v11 = .int .i64 (j : Int) ∧ Aside0 (a ≤ i ∧ i ≤ j ∧ j ≤ m ∧ j - i ≤ kq ∧ (∀ k, a ≤ k → k < i → ltC cf d[m]! d[k]! = false) ∧ (∀ k, j ≤ k → k < m → ltC cf d[m]! d[k]! = true)) ∧ Aside0 (SB val base w0 g cap d wc))
  case atStart => exact ⟨a, m, rfl, rfl, ⟨Nat.le_refl _, by have := HH.out; omega, Nat.le_refl _, Nat.le_refl _, fun k h1 h2 => by omega, fun k h1 h2 => by omega⟩, H0⟩
  case round =>
    clear H0
    obtain ⟨i, j, rfl, rfl, HI, HS⟩ := hrel
    by_cases hlt : i < j
    · have c1 : decide (i < j) = true := decide_eq_true hlt
      have hi := HI.out
      have hh := HH.out
      obtain ⟨s, q, hs, hq, hq1, hq2, e2, e3, e4⟩ := half_w i j hlt (by omega)
      have E2 := Aside0.mk e2
      have E3 := Aside0.mk e3
      have E4 := Aside0.mk e4
      clear e2 e3 e4
      have EQ : Aside0 (wrap64 ((q : Int) + 1) = ((q + 1 : Nat) : Int)) := ⟨by rw [w64 (by omega) (by omega)]; omega⟩
      have HQ : Aside0 (i ≤ q ∧ q < j) := ⟨hq1, hq2⟩
      have p1 := eq_true (show (0 : Int) ≤ (q : Int) by omega)
      have p2 := eq_true (show (q : Int) < (d.size : Int) by omega)
      have q1 := eq_true (show (0 : Int) ≤ (m : Int) by omega)
      have q2 := eq_true (show (m : Int) < (d.size : Int) by omega)
      obtain ⟨⟨l0, l1, l2⟩, _⟩ := HS.out.cells (i := m) (by omega)
      obtain ⟨⟨m0, m1, m2⟩, _⟩ := HS.out.cells (i := q) (by omega)
      obtain ⟨x, hx⟩ : ∃ x, d[m]! = x := ⟨_, rfl⟩
      obtain ⟨y, hy⟩ : ∃ y, d[q]! = y := ⟨_, rfl⟩
      obtain ⟨X, hX⟩ : ∃ X, val x = X := ⟨_, rfl⟩
      obtain ⟨Y, hY⟩ : ∃ Y, val y = Y := ⟨_, rfl⟩
      rw [hx, hX] at l0 l1 l2
      rw [hy, hY] at m0 m1 m2
      have hcl := fun W => HCALL.out W x y
      rw [hX, hY] at hcl
      have HCL := Aside0.mk hcl
      have HXY : Aside0 (d[m]! = x ∧ d[q]! = y) := ⟨hx, hy⟩
      have x0 := fun p => cell_gr (p := p) (World.block_lt_of_cell? wr _ l0) l0
      have x1 := fun p => cell_gr (p := p) (World.block_lt_of_cell? wr _ l1) l1
      have x2 := fun p => cell_gr (p := p) (World.block_lt_of_cell? wr _ l2) l2
      have x3 := fun p => cell_gr (p := p) (World.block_lt_of_cell? wr _ m0) m0
      have x4 := fun p => cell_gr (p := p) (World.block_lt_of_cell? wr _ m1) m1
      have x5 := fun p => cell_gr (p := p) (World.block_lt_of_cell? wr _ m2) m2
      clear l0 l1 l2 m0 m1 m2 hx hy hX hY hcl
      have HLT := Aside0.mk hlt
      clear hs hq hq1 hq2 hlt hi hh
      have e2 := E2.out
      have e3 := E3.out
      have e4 := E4.out
      by_cases hlv : cf x y < 0
      · have HLV := Aside0.mk hlv
        have b1 := decide_eq_true hlv
        clear hlv
        go_wp2_with fail
        refine wp_region_gr (by kernel_rfl) (by kernel_rfl) ?_
        repeat (go_big_quiet_step (first | (go_at_fn f; refine Calls.gr_of (HCL.out _))))
        refine wpQuiet_nil ?_
        intro W2 hw'
        obtain ⟨⟨V2, hB2⟩, hw''⟩ := hw'
        replace hw'' : W2 = V2 := hw''
        subst hw''
        clear x0 x1 x2 x3 x4 x5
        have HS2 := Aside0.mk (HS.out.below hB2)
        clear hB2 HS
        go_wp2_with fail
        clear e2 e3 e4
        go_roundg (q - i)
        case measure => have h1 := HI.out; have h2 := HQ.out; omega
        case rel => exact ⟨i, q, rfl, by first | rfl | rw [E4.out], ⟨HI.out.1, HQ.out.1, by have h1 := HI.out; have h2 := HQ.out; omega, Nat.le_refl _, HI.out.2.2.2.2.1, (fun k h1 h2 => by
          have hq : ltC cf d[m]! d[q]! = true := by rw [HXY.out.1, HXY.out.2]; exact decide_eq_true HLV.out
          by_cases hkq : k = q
          · rw [hkq]; exact hq
          · have hs := HSO.out q k (by have h3 := HI.out; have h4 := HQ.out; omega) (by omega) h2
            cases hc : ltC cf d[m]! d[k]! with
            | true => rfl
            | false => have := HO.out.ntrans _ _ _ hc hs; rw [hq] at this; cases this)⟩, HS2⟩
      · have HLV := Aside0.mk hlv
        have b1 := decide_eq_false hlv
        clear hlv
        go_wp2_with fail
        refine wp_region_gr (by kernel_rfl) (by kernel_rfl) ?_
        repeat (go_big_quiet_step (first | (go_at_fn f; refine Calls.gr_of (HCL.out _))))
        refine wpQuiet_nil ?_
        intro W2 hw'
        obtain ⟨⟨V2, hB2⟩, hw''⟩ := hw'
        replace hw'' : W2 = V2 := hw''
        subst hw''
        clear x0 x1 x2 x3 x4 x5
        have HS2 := Aside0.mk (HS.out.below hB2)
        clear hB2 HS
        have eq := EQ.out
        go_wp2_with fail
        clear eq e2 e3 e4
        go_roundg (j - (q + 1))
        case measure => have h1 := HI.out; have h2 := HQ.out; omega
        case rel => exact ⟨q + 1, j, by first | rfl | rw [EQ.out], rfl, ⟨by have h1 := HI.out; have h2 := HQ.out; omega, by have h2 := HQ.out; omega, HI.out.2.2.1, Nat.le_refl _, (fun k h1 h2 => by
          have hq : ltC cf d[m]! d[q]! = false := by rw [HXY.out.1, HXY.out.2]; exact decide_eq_false (by have := HLV.out; omega)
          by_cases hkq : k = q
          · rw [hkq]; exact hq
          · exact HO.out.ntrans _ _ _ hq (HSO.out k q h1 (by omega) (by have h3 := HI.out; have h4 := HQ.out; omega))), HI.out.2.2.2.2.2⟩, HS2⟩
    · have c1 : decide (i < j) = false := decide_eq_false hlt
      have hi := HI.out
      have hh := HH.out
      obtain rfl : i = j := by omega
      have HIP : Aside0 (a ≤ i ∧ i ≤ m) := ⟨by omega, by omega⟩
      have HU : Aside0 ((∀ k, a ≤ k → k < i → ltC cf d[m]! d[k]! = false) ∧ (∀ k, i ≤ k → k < m → ltC cf d[m]! d[k]! = true)) := ⟨hi.2.2.2.2.1, hi.2.2.2.2.2⟩
      clear hi hh hlt HI
      go_wp2_with fail
      go_loopg [17] (m - i) (fun kq v13 wc => ∃ (k : Nat) (D : Array α), v13 = .int .i64 (k : Int) ∧ Aside0 (i ≤ k ∧ k ≤ m ∧ k - i ≤ kq ∧ D.size = d.size) ∧ Aside0 (Rot d k m (m + 1) D) ∧ Aside0 (PermIn a b d D) ∧ Aside0 (SB val base w0 g cap D wc))
      case atStart => exact ⟨m, d, rfl, ⟨by have h2 := HIP.out; omega, Nat.le_refl _, Nat.le_refl _, rfl⟩, ⟨Rot.nil_left⟩, ⟨permIn_refl _ _ _⟩, HS⟩
      case round =>
        clear HS
        obtain ⟨k, D, rfl, HK, HR, HP, HS⟩ := hrel
        by_cases hk : i < k
        · have c2 : decide (i < k) = true := decide_eq_true hk
          have c3 : decide ((k : Int) > (i : Int)) = true := decide_eq_true (by omega)
          have hkk := HK.out
          have hh := HH.out
          have hii := HIP.out
          obtain ⟨k1, hk1⟩ : ∃ k1, k - 1 = k1 := ⟨_, rfl⟩
          have ek0 : IntKind.i64.wrap ((k : Int) - 1) = (k1 : Int) := by rw [IntKind.wrap_i64]; omega
          have EK0 := Aside0.mk ek0
          clear ek0
          have EK : Aside0 (wrap64 ((k : Int) - 1) = (k1 : Int)) := ⟨by rw [w64 (by omega) (by omega)]; omega⟩
          obtain ⟨⟨l0, l1, l2⟩, f0, f1, f2⟩ := HS.out.cells (i := k) (by omega)
          obtain ⟨⟨m0, m1, m2⟩, g0, g1, g2⟩ := HS.out.cells (i := k1) (by omega)
          obtain ⟨X, hX⟩ : ∃ X, val D[k]! = X := ⟨_, rfl⟩
          obtain ⟨Y, hY⟩ : ∃ Y, val D[k1]! = Y := ⟨_, rfl⟩
          rw [hX] at l0 l1 l2
          rw [hY] at m0 m1 m2
          have SW := Aside0.mk (HS.out.swap6 (i := k) (j := k1) (by omega) (by omega) hX hY).drew
          obtain ⟨y1, y2, y3, y4, y5, s1, s2, s3, s4, s5⟩ := HS.out.six (p := k) (q := k1) (by omega) (by omega) (.int .i64 Y.f0) (.int .i64 Y.f1) (.int .i64 Y.f2) (.int .i64 X.f0) (.int .i64 X.f1)
          clear hX hY
          have HN : Aside0 (i ≤ k1 ∧ k1 ≤ m ∧ k1 - i < gk ∧ (swp D k k1).size = d.size) := ⟨by omega, by omega, by omega, by rw [swpSize]; exact hkk.2.2.2⟩
          have HRN : Aside0 (Rot d k1 m (m + 1) (swp D k k1)) := ⟨by
            obtain rfl : k = k1 + 1 := by omega
            exact rot_down (by omega) (by omega) HR.out⟩
          have HPN : Aside0 (PermIn a b d (swp D k k1)) := ⟨permIn_trans _ _ _ _ _ HP.out (swp_permIn _ _ _ _ _ (by omega) (by omega) (by omega) (by omega) (by omega))⟩
          have p1 := eq_true (show (0 : Int) ≤ (k : Int) by omega)
          have p2 := eq_true (show (k : Int) < (d.size : Int) by omega)
          have q1 := eq_true (show (0 : Int) ≤ (k1 : Int) by omega)
          have q2 := eq_true (show (k1 : Int) < (d.size : Int) by omega)
          clear hkk hh hii hk1 hk
          have ek0 := EK0.out
          have ek := EK.out
          go_wp2_with fail
          go_region_law (fail)
          all_goals
            generalize ((((((wr.setCell ⟨g, k * 3, none⟩ (.int .i64 Y.f0)).setCell ⟨g, k * 3 + 1, none⟩ (.int .i64 Y.f1)).setCell ⟨g, k * 3 + 2, none⟩ (.int .i64 Y.f2)).setCell ⟨g, k1 * 3, none⟩ (.int .i64 X.f0)).setCell ⟨g, k1 * 3 + 1, none⟩ (.int .i64 X.f1)).setCell ⟨g, k1 * 3 + 2, none⟩ (.int .i64 X.f2)).drew = W3 at SW ⊢
            clear l0 l1 l2 f0 f1 f2 m0 m1 m2 g0 g1 g2 s1 s2 s3 s4 s5 HS
            go_wp2_with fail
            clear ek ek0
            go_roundg (k1 - i)
            case measure => exact HN.out.2.2.1
            case rel => exact ⟨k1, _, by first | rfl | rw [EK.out], ⟨HN.out.1, HN.out.2.1, Nat.le_refl _, HN.out.2.2.2⟩, HRN, HPN, SW⟩
        · have c2 : decide (i < k) = false := decide_eq_false hk
          have c3 : decide ((k : Int) > (i : Int)) = false := decide_eq_false (by omega)
          have HE : Aside0 (SortedIn (ltC cf) a b D) := ⟨by
            have hkk := HK.out
            have hh := HH.out
            have hii := HIP.out
            have hr := HR.out
            obtain rfl : k = i := by omega
            rw [← hh.1]
            exact ins_right HO.out hii.1 hii.2 HSO.out HU.out.1 HU.out.2 hr⟩
          go_wp2_with fail
          (try simp only [Exit.inBlock, Exit.then]); refine bodyPost_ret (results_none rfl _ _ _) rfl ?_
          exact ⟨rfl, D, HP.out, HE.out, HS.out⟩
theorem sorted_keep {α : Type} [Inhabited α] {lt : α → α → Bool} {x y : Nat} {d1 d2 : Array α} (h : SortedIn lt x y d1) (he : ∀ i, x ≤ i → i < y → d2[i]! = d1[i]!) : SortedIn lt x y d2 := fun i j h1 h2 h3 => by
  rw [he i h1 (by omega), he j (by omega) h3]; exact h i j h1 h2 h3
set_option maxHeartbeats 8000000 in
set_option maxRecDepth 100000 in
theorem symMerge_sq {α : Type} [Inhabited α] {val : α → Sq} {cf : α → α → Int} {f : Nat} {base g cap : Nat} {w0 : World} (hO : SWO (ltC cf)) (hF : CmpSq Try.prog val cf f) : ∀ (N : Nat) (d : Array α) (a m b : Nat) (w : World), SB val base w0 g cap d w → a < m → m < b → b ≤ d.size → d.size ≤ 1000000000000 → SortedIn (ltC cf) a m d → SortedIn (ltC cf) m b d → b - a ≤ N →
    Calls Try.prog 104 #[.slice (some ⟨g, 0, none⟩) d.size cap, .int .i64 (a : Int), .int .i64 (m : Int), .int .i64 (b : Int), .func (.func f) #[] #[]] w fun e w' => e = .returned (.tuple #[]) ∧ ∃ d', PermIn a b d d' ∧ SortedIn (ltC cf) a b d' ∧ SB val base w0 g cap d' w'
  | 0, d, a, m, b, w, h, ham, hmb, hb, hsz, hS1, hS2, hN => by omega
  | N + 1, d, a, m, b, w, h, ham, hmb, hb, hsz, hS1, hS2, hN => by
    by_cases c1 : a + 1 = m
    · exact sym_left hO hF d a m b c1 h hmb hb hS2 hsz
    · by_cases c2 : m + 1 = b
      · exact sym_right hO hF d a m b c2 h (by omega) hb hS1 hsz
      · have IH := Aside0.mk (symMerge_sq (base := base) (g := g) (cap := cap) (w0 := w0) hO hF N)
        have H0 := Aside0.mk h
        have HS12 := Aside0.mk (And.intro hS1 hS2)
        have HO := Aside0.mk hO
        have eg := hF.eg
        have HCALL := Aside0.mk hF.call
        obtain ⟨z1, hz1⟩ : ∃ z : Int, (m : Int) - (a : Int) = z := ⟨_, rfl⟩
        obtain ⟨z2, hz2⟩ : ∃ z : Int, (b : Int) - (m : Int) = z := ⟨_, rfl⟩
        obtain ⟨s0, mid, hs0, hmid, hm1, hm2, e3, e4, e5⟩ := half_w a b (by omega) (by omega)
        have E345 := Aside0.mk (And.intro e3 (And.intro e4 e5))
        clear e3 e4 e5
        obtain ⟨n, hn⟩ : ∃ n, mid + m = n := ⟨_, rfl⟩
        obtain ⟨lo, hlo⟩ : ∃ lo, (if mid < m then n - b else a) = lo := ⟨_, rfl⟩
        obtain ⟨hi, hhi⟩ : ∃ hi, (if mid < m then mid else m) = hi := ⟨_, rfl⟩
        obtain ⟨p, hp⟩ : ∃ p, n - 1 = p := ⟨_, rfl⟩
        have e1 : wrap64 ((m : Int) - (a : Int)) = z1 := by rw [w64 (by omega) (by omega)]; exact hz1
        have E1 := Aside0.mk e1
        clear e1
        have e2 : wrap64 ((b : Int) - (m : Int)) = z2 := by rw [w64 (by omega) (by omega)]; exact hz2
        have E2 := Aside0.mk e2
        clear e2
        have E6 : Aside0 (wrap64 ((mid : Int) + (m : Int)) = (n : Int)) := ⟨by rw [w64 (by omega) (by omega)]; omega⟩
        have E7 : Aside0 (mid < m → wrap64 ((n : Int) - (b : Int)) = (lo : Int)) := ⟨fun h => by rw [w64 (by omega) (by omega)]; rw [if_pos h] at hlo; omega⟩
        have E8 : Aside0 (wrap64 ((n : Int) - 1) = (p : Int)) := ⟨by rw [w64 (by omega) (by omega)]; omega⟩
        have hb0 : a ≤ lo ∧ lo ≤ hi ∧ hi ≤ m ∧ hi ≤ mid ∧ n - b ≤ lo := by
          rw [← hlo, ← hhi]
          by_cases c : mid < m
          · rw [if_pos c, if_pos c]; omega
          · rw [if_neg c, if_neg c]; omega
        have HH : Aside0 ((a + 1 < m ∧ m + 1 < b ∧ b ≤ d.size ∧ d.size ≤ 1000000000000 ∧ b - a ≤ N + 1) ∧ (a ≤ lo ∧ lo ≤ hi ∧ hi ≤ m ∧ hi ≤ mid ∧ n - b ≤ lo) ∧ (a ≤ mid ∧ mid < b) ∧ mid + m = n ∧ mid = (a + b) / 2 ∧ n - 1 = p) := ⟨⟨by omega, by omega, hb, hsz, hN⟩, hb0, ⟨hm1, hm2⟩, hn, hmid, hp⟩
        have HLO := Aside0.mk (And.intro hlo hhi)
        have e1b : (z1 == 1) = false := by simp; omega
        have e2b : (z2 == 1) = false := by simp; omega
        have mixed : Try.prog.follows .mixedOrders = true := by kernel_rfl
        clear h ham hmb hb hsz hS1 hS2 hN c1 c2 hz1 hz2 hs0 hmid hm1 hm2 hn hlo hhi hp hb0 hF hO
        have e1 := E1.out
        have e2 := E2.out
        have e3 := E345.out.1
        have e4 := E345.out.2.1
        have e5 := E345.out.2.2
        have e6 := E6.out
        go_enter Try.func104, Try.ntmps104
        go_upto_if 140 with (fail)
        clear e1 e2 e3 e4 e1b e2b
        go_cut [18, 19, 20, 21] from 141 to 146 (fun v18 v19 v20 v21 wc => v18 = .int .i64 (mid : Int) ∧ v19 = .int .i64 (n : Int) ∧ v20 = .int .i64 (lo : Int) ∧ v21 = .int .i64 (hi : Int) ∧ Aside0 (SB val base w0 g cap d wc))
        case first => as_aux_lemma =>
          clear e5 e6
          by_cases hmm : mid < m
          · have c1 : decide (mid < m) = true := decide_eq_true hmm
            have e7 := E7.out hmm
            have hl := HLO.out
            rw [if_pos hmm, if_pos hmm] at hl
            have HL := Aside0.mk hl
            clear hl
            have e5 := E345.out.2.2
            have e6 := E6.out
            go_wp2_with fail
            clear e7
            go_meet
            case rel => exact ⟨by first | rfl | simp only [E345.out.2.2], by first | rfl | simp only [E345.out.2.2, E6.out], by first | rfl | simp only [E345.out.2.2, E6.out, E7.out (of_decide_eq_true c1)], by first | rfl | (rw [← HL.out.2, E345.out.2.2]; done) | (rw [← HL.out.2]; done), H0⟩
          · have c1 : decide (mid < m) = false := decide_eq_false hmm
            have hl := HLO.out
            rw [if_neg hmm, if_neg hmm] at hl
            have HL := Aside0.mk hl
            clear hl
            have e5 := E345.out.2.2
            have e6 := E6.out
            go_wp2_with fail
            go_meet
            case rel => exact ⟨by first | rfl | simp only [E345.out.2.2], by first | rfl | simp only [E345.out.2.2, E6.out], by first | rfl | (rw [← HL.out.1]; done), by first | rfl | (rw [← HL.out.2]; done), H0⟩
        case rest =>
          clear H0 e5 e6
          obtain ⟨rfl, rfl, rfl, rfl, HS⟩ := hcut
          go_upto_region 32 with (fail)
          go_cut [22] from 147 to 148 (fun v22 wc => v22 = .int .i64 (p : Int) ∧ Aside0 (SB val base w0 g cap d wc))
          case first => as_aux_lemma =>
            have e8 := E8.out
            go_wp2_with fail
            go_meet
            case rel => exact ⟨by first | rfl | rw [E8.out], HS⟩
          case rest =>
          clear HS
          obtain ⟨rfl, HS⟩ := hcut
          go_wp2_with fail
          go_loopg [20, 21] (hi - lo) (fun kq v20 v21 wc => ∃ (s r : Nat), v20 = .int .i64 (s : Int) ∧ v21 = .int .i64 (r : Int) ∧ Aside0 ((lo ≤ s ∧ s ≤ r ∧ r ≤ hi ∧ r - s ≤ kq) ∧ (s = lo ∨ ltC cf d[n - s]! d[s - 1]! = false) ∧ (r = hi ∨ ltC cf d[n - 1 - r]! d[r]! = true)) ∧ Aside0 (SB val base w0 g cap d wc))
          case atStart => exact ⟨lo, hi, rfl, rfl, ⟨⟨Nat.le_refl _, HH.out.2.1.2.1, Nat.le_refl _, Nat.le_refl _⟩, .inl rfl, .inl rfl⟩, HS⟩
          case round =>
            clear HS
            obtain ⟨s, r, rfl, rfl, HI, HS⟩ := hrel
            by_cases hlt : s < r
            · as_aux_lemma =>
              have c1 : decide (s < r) = true := decide_eq_true hlt
              have hi' := HI.out.1
              have hh := HH.out
              obtain ⟨sq, q, hsq, hq, hq1, hq2, e2, e3, e4⟩ := half_w s r hlt (by omega)
              have E2 := Aside0.mk e2
              have E3 := Aside0.mk e3
              have E4 := Aside0.mk e4
              clear e2 e3 e4
              obtain ⟨pq, hpq⟩ : ∃ pq, p - q = pq := ⟨_, rfl⟩
              have EQ : Aside0 (wrap64 ((q : Int) + 1) = ((q + 1 : Nat) : Int)) := ⟨by rw [w64 (by omega) (by omega)]; omega⟩
              have EP : Aside0 (IntKind.i64.wrap ((p : Int) - (q : Int)) = (pq : Int)) := ⟨by rw [IntKind.wrap_i64]; omega⟩
              have HQ : Aside0 ((s ≤ q ∧ q < r) ∧ n - 1 - q = pq ∧ n - (q + 1) = pq) := ⟨⟨hq1, hq2⟩, by omega, by omega⟩
              have p1 := eq_true (show (0 : Int) ≤ (pq : Int) by omega)
              have p2 := eq_true (show (pq : Int) < (d.size : Int) by omega)
              have q1 := eq_true (show (0 : Int) ≤ (q : Int) by omega)
              have q2 := eq_true (show (q : Int) < (d.size : Int) by omega)
              obtain ⟨⟨l0, l1, l2⟩, _⟩ := HS.out.cells (i := pq) (by omega)
              obtain ⟨⟨m0, m1, m2⟩, _⟩ := HS.out.cells (i := q) (by omega)
              obtain ⟨x, hx⟩ : ∃ x, d[pq]! = x := ⟨_, rfl⟩
              obtain ⟨y, hy⟩ : ∃ y, d[q]! = y := ⟨_, rfl⟩
              obtain ⟨X, hX⟩ : ∃ X, val x = X := ⟨_, rfl⟩
              obtain ⟨Y, hY⟩ : ∃ Y, val y = Y := ⟨_, rfl⟩
              rw [hx, hX] at l0 l1 l2
              rw [hy, hY] at m0 m1 m2
              have hcl := fun W => HCALL.out W x y
              rw [hX, hY] at hcl
              have HCL := Aside0.mk hcl
              have HXY : Aside0 (d[pq]! = x ∧ d[q]! = y) := ⟨hx, hy⟩
              have x0 := fun p => cell_gr (p := p) (World.block_lt_of_cell? wr _ l0) l0
              have x1 := fun p => cell_gr (p := p) (World.block_lt_of_cell? wr _ l1) l1
              have x2 := fun p => cell_gr (p := p) (World.block_lt_of_cell? wr _ l2) l2
              have x3 := fun p => cell_gr (p := p) (World.block_lt_of_cell? wr _ m0) m0
              have x4 := fun p => cell_gr (p := p) (World.block_lt_of_cell? wr _ m1) m1
              have x5 := fun p => cell_gr (p := p) (World.block_lt_of_cell? wr _ m2) m2
              clear l0 l1 l2 m0 m1 m2 hx hy hX hY hcl
              have HLT := Aside0.mk hlt
              clear hsq hq hq1 hq2 hlt hi' hh hpq
              have e2 := E2.out
              have e3 := E3.out
              have e4 := E4.out
              have ep := EP.out
              by_cases hlv : cf x y < 0
              · have HLV := Aside0.mk hlv
                have b1 := decide_eq_true hlv
                clear hlv
                go_wp2_with fail
                refine wp_region_gr (by kernel_rfl) (by kernel_rfl) ?_
                repeat (go_big_quiet_step (first | (go_at_fn f; refine Calls.gr_of (HCL.out _))))
                refine wpQuiet_nil ?_
                intro W2 hw'
                obtain ⟨⟨V2, hB2⟩, hw''⟩ := hw'
                replace hw'' : W2 = V2 := hw''
                subst hw''
                clear x0 x1 x2 x3 x4 x5
                have HS2 := Aside0.mk (HS.out.below hB2)
                clear hB2 HS
                go_wp2_with fail
                clear e2 e3 e4 ep
                go_roundg (q - s)
                case measure => have h1 := HI.out.1; have h2 := HQ.out; omega
                case rel => exact ⟨s, q, rfl, by first | rfl | rw [E4.out], ⟨⟨HI.out.1.1, HQ.out.1.1, by have h1 := HI.out.1; have h2 := HQ.out; omega, Nat.le_refl _⟩, HI.out.2.1, .inr (by rw [HQ.out.2.1, HXY.out.1, HXY.out.2]; exact decide_eq_true HLV.out)⟩, HS2⟩
              · have HLV := Aside0.mk hlv
                have b1 := decide_eq_false hlv
                clear hlv
                go_wp2_with fail
                refine wp_region_gr (by kernel_rfl) (by kernel_rfl) ?_
                repeat (go_big_quiet_step (first | (go_at_fn f; refine Calls.gr_of (HCL.out _))))
                refine wpQuiet_nil ?_
                intro W2 hw'
                obtain ⟨⟨V2, hB2⟩, hw''⟩ := hw'
                replace hw'' : W2 = V2 := hw''
                subst hw''
                clear x0 x1 x2 x3 x4 x5
                have HS2 := Aside0.mk (HS.out.below hB2)
                clear hB2 HS
                have eq := EQ.out
                go_wp2_with fail
                clear eq e2 e3 e4 ep
                go_roundg (r - (q + 1))
                case measure => have h1 := HI.out.1; have h2 := HQ.out; omega
                case rel => exact ⟨q + 1, r, by first | rfl | rw [EQ.out], rfl, ⟨⟨by have h1 := HI.out.1; have h2 := HQ.out; omega, by have h2 := HQ.out; omega, HI.out.1.2.2.1, Nat.le_refl _⟩, .inr (by rw [HQ.out.2.2, Nat.add_sub_cancel, HXY.out.1, HXY.out.2]; exact decide_eq_false (by have := HLV.out; omega)), HI.out.2.2⟩, HS2⟩
            · have c1 : decide (s < r) = false := decide_eq_false hlt
              obtain rfl : s = r := by have := HI.out.1; omega
              obtain ⟨e, he⟩ : ∃ e, n - s = e := ⟨_, rfl⟩
              have hh := HH.out
              have hi' := HI.out.1
              have E9 : Aside0 (wrap64 ((n : Int) - (s : Int)) = (e : Int)) := ⟨by rw [w64 (by omega) (by omega)]; omega⟩
              have HE : Aside0 (n - s = e ∧ a ≤ s ∧ s ≤ m ∧ s ≤ mid ∧ m ≤ e ∧ mid ≤ e ∧ e ≤ b) := ⟨he, by omega, by omega, by omega, by omega, by omega, by omega⟩
              have HPARTS : Aside0 (∀ d1, Rot d s m e d1 → Parts (ltC cf) a s mid e b d1) := ⟨fun d1 hR => sym_parts HO.out (by omega) (by omega) hh.2.2.2.2.1 hh.2.2.2.1.symm HLO.out.1.symm HLO.out.2.symm hi'.1 hi'.2.2.1 he.symm HI.out.2.1 HI.out.2.2 HS12.out.1 HS12.out.2 hR⟩
              clear hlt hh hi' he HI
              have e9 := E9.out
              go_upto_region 39 with (fail)
              go_cut [24, 185] from 178 to 185 (fun v24 v185 wc => ∃ b1 : Bool, v24 = .int .i64 (e : Int) ∧ v185 = .bool b1 ∧ Aside0 (b1 = true ↔ s < m ∧ m < e) ∧ Aside0 (SB val base w0 g cap d wc))
              case first => as_aux_lemma =>
                by_cases hc1 : s < m
                · have g1 : decide (s < m) = true := decide_eq_true hc1
                  by_cases hc2 : m < e
                  · have g2 : decide (m < e) = true := decide_eq_true hc2
                    have HC := Aside0.mk (And.intro hc1 hc2)
                    clear hc1 hc2
                    go_wp2_with fail
                    go_meet
                    case rel => exact ⟨true, by first | rfl | rw [E9.out], rfl, ⟨fun _ => HC.out, fun _ => rfl⟩, HS⟩
                  · have g2 : decide (m < e) = false := decide_eq_false hc2
                    have HC := Aside0.mk hc2
                    clear hc1 hc2
                    go_wp2_with fail
                    go_meet
                    case rel => exact ⟨false, by first | rfl | rw [E9.out], rfl, ⟨(fun h => by cases h), fun h => absurd h.2 HC.out⟩, HS⟩
                · have g1 : decide (s < m) = false := decide_eq_false hc1
                  have HC := Aside0.mk hc1
                  clear hc1
                  go_wp2_with fail
                  go_meet
                  case rel => exact ⟨false, by first | rfl | rw [E9.out], rfl, ⟨(fun h => by cases h), fun h => absurd h.1 HC.out⟩, HS⟩
              case rest =>
              clear HS e9
              obtain ⟨b1, rfl, rfl, HB1, HS⟩ := hcut
              go_upto_if 185 with (fail)
              go_cut [24] from 186 to 191 (fun v24 wc => v24 = .int .i64 (e : Int) ∧ ∃ d1, Aside0 (Rot d s m e d1 ∧ PermIn a b d d1) ∧ Aside0 (SB val base w0 g cap d1 wc))
              case first => as_aux_lemma =>
                cases hbb : b1 with
                | true =>
                  rw [hbb] at HB1
                  subst hbb
                  have hc := HB1.out.1 rfl
                  have hee := HE.out
                  have hh := HH.out
                  have HROT := Aside0.mk (rotate_sq d s m e (.func (.func f) #[] #[]) HS.out hc.1 hc.2 (by omega) (by omega))
                  clear hc hee hh HS
                  go_wp2_with (go_at_call 105; refine HROT.out.mono ?_; rintro e_ w' ⟨rfl, d1, hR, hP, hS⟩; have HR := Aside0.mk hR; have HP := Aside0.mk hP; have HS2 := Aside0.mk hS; clear hR hP hS)
                  go_meet
                  case rel => exact ⟨rfl, d1, ⟨HR.out, permIn_mono _ _ _ _ _ _ HE.out.2.1 HE.out.2.2.2.2.2.2 HH.out.1.2.2.1 HP.out⟩, HS2⟩
                | false =>
                  rw [hbb] at HB1
                  subst hbb
                  have HRR : Aside0 (Rot d s m e d) := ⟨by
                    have hee := HE.out
                    have hnc : ¬ (s < m ∧ m < e) := fun h => by have := HB1.out.2 h; cases this
                    rcases (by omega : s = m ∨ e = m) with h | h
                    · subst h; exact Rot.nil_left
                    · subst h; exact Rot.nil_right⟩
                  go_wp2_with fail
                  go_meet
                  case rel => exact ⟨rfl, d, ⟨HRR.out, permIn_refl _ _ _⟩, HS⟩
              case rest =>
                clear HS
                obtain ⟨rfl, d1, HRP, HS⟩ := hcut
                have HPT := Aside0.mk (HPARTS.out d1 HRP.out.1)
                have HD1 : Aside0 (d1.size = d.size) := ⟨HRP.out.1.size⟩
                go_upto_region 41 with (fail)
                go_cut [199] from 192 to 199 (fun v199 wc => ∃ b2 : Bool, v199 = .bool b2 ∧ Aside0 (b2 = true ↔ a < s ∧ s < mid) ∧ Aside0 (SB val base w0 g cap d1 wc))
                case first => as_aux_lemma =>
                  by_cases hc1 : a < s
                  · have g1 : decide (a < s) = true := decide_eq_true hc1
                    by_cases hc2 : s < mid
                    · have g2 : decide (s < mid) = true := decide_eq_true hc2
                      have HC := Aside0.mk (And.intro hc1 hc2)
                      clear hc1 hc2
                      go_wp2_with fail
                      go_meet
                      case rel => exact ⟨true, rfl, ⟨fun _ => HC.out, fun _ => rfl⟩, HS⟩
                    · have g2 : decide (s < mid) = false := decide_eq_false hc2
                      have HC := Aside0.mk hc2
                      clear hc1 hc2
                      go_wp2_with fail
                      go_meet
                      case rel => exact ⟨false, rfl, ⟨(fun h => by cases h), fun h => absurd h.2 HC.out⟩, HS⟩
                  · have g1 : decide (a < s) = false := decide_eq_false hc1
                    have HC := Aside0.mk hc1
                    clear hc1
                    go_wp2_with fail
                    go_meet
                    case rel => exact ⟨false, rfl, ⟨(fun h => by cases h), fun h => absurd h.1 HC.out⟩, HS⟩
                case rest =>
                clear HS
                obtain ⟨b2, rfl, HB2, HS⟩ := hcut
                go_upto_if 199 with (fail)
                go_cut [24] from 200 to 205 (fun v24 wc => v24 = .int .i64 (e : Int) ∧ ∃ d2, Aside0 (PermIn a mid d1 d2 ∧ SortedIn (ltC cf) a mid d2) ∧ Aside0 (SB val base w0 g cap d2 wc))
                case first => as_aux_lemma =>
                  have hee := HE.out
                  have hh := HH.out
                  have hd1 := HD1.out
                  cases hbb : b2 with
                  | true =>
                    rw [hbb] at HB2
                    subst hbb
                    have hc := HB2.out.1 rfl
                    have HM := Aside0.mk (IH.out d1 a s mid _ HS.out hc.1 hc.2 (by omega) (by omega) HPT.out.p1 HPT.out.p2 (by omega))
                    rw [hd1] at HM
                    clear hc hee hh hd1 HS
                    go_wp2_with (go_at_call 104; refine HM.out.mono ?_; rintro e_ w' ⟨rfl, d2, hP, hR, hS⟩; have HR := Aside0.mk hR; have HP := Aside0.mk hP; have HS2 := Aside0.mk hS; clear hR hP hS)
                    go_meet
                    case rel => exact ⟨rfl, d2, ⟨HP.out, HR.out⟩, HS2⟩
                  | false =>
                    rw [hbb] at HB2
                    subst hbb
                    have HSS : Aside0 (SortedIn (ltC cf) a mid d1) := ⟨by
                      have hnc : ¬ (a < s ∧ s < mid) := fun h => by have := HB2.out.2 h; cases this
                      rcases (by omega : s = a ∨ s = mid) with h | h
                      · have := HPT.out.p2; rw [h] at this; exact this
                      · have := HPT.out.p1; rw [h] at this; exact this⟩
                    clear hee hh hd1
                    go_wp2_with fail
                    go_meet
                    case rel => exact ⟨rfl, d1, ⟨permIn_refl _ _ _, HSS.out⟩, HS⟩
                case rest =>
                  clear HS
                  obtain ⟨rfl, d2, HP2, HS⟩ := hcut
                  have HD2 : Aside0 (d2.size = d.size) := ⟨HP2.out.1.1.trans HD1.out⟩
                  have HKEEP : Aside0 (∀ i, mid ≤ i → d2[i]! = d1[i]!) := ⟨fun i hi => HP2.out.1.2.1 i (.inr hi)⟩
                  have HDONE : Aside0 (∀ d3, PermIn mid b d2 d3 → SortedIn (ltC cf) mid b d3 → PermIn a b d d3 ∧ SortedIn (ltC cf) a b d3) := ⟨fun d3 h1 h2 => by
                    have hh := HH.out
                    have hd1 := HD1.out
                    have := sym_done (d1 := d1) (d2 := d2) (d3 := d3) (by omega) hh.2.2.1.1 (by omega) HPT.out.cross HP2.out.1 HP2.out.2 h1 h2
                    exact ⟨permIn_trans _ _ _ _ _ HRP.out.2 this.1, this.2⟩⟩
                  have hee := HE.out
                  have hh := HH.out
                  have hd2 := HD2.out
                  by_cases hc : mid < e ∧ e < b
                  · have g1 : decide (mid < e) = true := decide_eq_true hc.1
                    have g2 : decide (e < b) = true := decide_eq_true hc.2
                    have HM := Aside0.mk (IH.out d2 mid e b _ HS.out hc.1 hc.2 (by omega) (by omega) (sorted_keep HPT.out.p3 (fun i h1 _ => HKEEP.out i h1)) (sorted_keep HPT.out.p4 (fun i h1 _ => HKEEP.out i (by omega))) (by omega))
                    rw [hd2] at HM
                    clear hc hee hh hd2 HS
                    go_wp2_with (go_at_call 104; refine HM.out.mono ?_; rintro e_ w' ⟨rfl, d3, hP, hR, hS⟩; have HR := Aside0.mk hR; have HP := Aside0.mk hP; have HS2 := Aside0.mk hS; clear hR hP hS)
                    (first | go_end0 | ((try simp only [Exit.inBlock, Exit.then]); refine bodyPost_ret (results_none rfl _ _ _) rfl ?_))
                    exact ⟨rfl, d3, (HDONE.out d3 HP.out HR.out).1, (HDONE.out d3 HP.out HR.out).2, HS2.out⟩
                  · have HSS : Aside0 (SortedIn (ltC cf) mid b d2) := ⟨by
                      rcases (by omega : e = mid ∨ e = b) with h | h
                      · have := HPT.out.p4; rw [h] at this; exact sorted_keep this (fun i h1 _ => HKEEP.out i h1)
                      · have := HPT.out.p3; rw [h] at this; exact sorted_keep this (fun i h1 _ => HKEEP.out i h1)⟩
                    have HF := Aside0.mk (HDONE.out d2 (permIn_refl _ _ _) HSS.out)
                    by_cases hc1 : mid < e
                    · have g1 : decide (mid < e) = true := decide_eq_true hc1
                      have g2 : decide (e < b) = false := decide_eq_false (fun h => hc ⟨hc1, h⟩)
                      clear hc hc1 hee hh hd2
                      go_wp2_with fail
                      (first | go_end0 | ((try simp only [Exit.inBlock, Exit.then]); refine bodyPost_ret (results_none rfl _ _ _) rfl ?_))
                      exact ⟨rfl, d2, HF.out.1, HF.out.2, HS.out⟩
                    · have g1 : decide (mid < e) = false := decide_eq_false hc1
                      clear hc hc1 hee hh hd2
                      go_wp2_with fail
                      (first | go_end0 | ((try simp only [Exit.inBlock, Exit.then]); refine bodyPost_ret (results_none rfl _ _ _) rfl ?_))
                      exact ⟨rfl, d2, HF.out.1, HF.out.2, HS.out⟩
end Go.Proofs.Ytdfcljfajiihdaa.P

namespace Go.Proofs.Ytdfcljfajiihdaa.T
open Go.Sort
set_option linter.unusedSectionVars false
variable {α : Type} [Inhabited α] {lt : α → α → Bool} {L a b n : Nat} {D D' : Array α}
theorem dvd_eq {y : Nat} (h1 : L ∣ y) (h2 : L ∣ a) (h3 : y ≤ a) (h4 : a < y + L) : y = a := by
  have h := Nat.dvd_sub h2 h1
  have := Nat.eq_zero_of_dvd_of_lt h (by omega)
  omega
theorem dvd_next {y : Nat} (h1 : L ∣ y) (h2 : L ∣ a) (h3 : a < y) : a + L ≤ y := by
  have h := Nat.dvd_sub h1 h2
  have := Nat.le_of_dvd (by omega) h
  omega
def AllB (lt : α → α → Bool) (L n : Nat) (D : Array α) : Prop := ∀ y, L ∣ y → SortedIn lt y (min (y + L) n) D
def LoB (lt : α → α → Bool) (L a : Nat) (D : Array α) : Prop := ∀ y, L ∣ y → y + L ≤ a → SortedIn lt y (y + L) D
def HiB (lt : α → α → Bool) (L a n : Nat) (D : Array α) : Prop := ∀ y, L ∣ y → a ≤ y → SortedIn lt y (min (y + L) n) D
theorem sorted_out {x y : Nat} (h : SortedIn lt x y D) (hp : PermIn a b D D') (ho : y ≤ a ∨ b ≤ x) : SortedIn lt x y D' := fun i j h1 h2 h3 => by
  rw [hp.2.1 i (by omega), hp.2.1 j (by omega)]; exact h i j h1 h2 h3
theorem LoB.step (h : LoB lt L a D) (hL : L ∣ a) (hp : PermIn a (a + L) D D') (hs : SortedIn lt a (a + L) D') : LoB lt L (a + L) D' := fun y hy hle => by
  by_cases c : y + L ≤ a
  · exact sorted_out (h y hy c) hp (.inl c)
  · have e := dvd_eq hy hL (by omega) (by omega)
    rw [e]; exact hs
theorem LoB.last (h : LoB lt L a D) (hL : L ∣ a) (han : a ≤ n) (hn : n < a + L) (hp : PermIn a n D D') (hs : SortedIn lt a n D') : AllB lt L n D' := fun y hy => by
  by_cases c : y + L ≤ a
  · rw [Nat.min_eq_left (by omega)]; exact sorted_out (h y hy c) hp (.inl c)
  · by_cases c2 : y ≤ a
    · have e := dvd_eq hy hL c2 (by omega)
      rw [e, Nat.min_eq_right (by omega)]; exact hs
    · have := dvd_next hy hL (by omega)
      intro i j h1 h2 h3; omega
theorem HiB.step (h : HiB lt L a n D) (hab : a ≤ b) (hp : PermIn a b D D') : HiB lt L b n D' := fun y hy hle => sorted_out (h y hy (by omega)) hp (.inr hle)
theorem AllB.hi (h : AllB lt L n D) (a : Nat) : HiB lt L a n D := fun y hy _ => h y hy
theorem LoB.zero : LoB lt L 0 D := fun y hy h i j h1 h2 h3 => by
  have : L = 0 := by omega
  omega
theorem AllB.whole (h : AllB lt L n D) (hn : n ≤ L) : SortedIn lt 0 n D := by
  have := h 0 (Nat.dvd_zero _)
  rwa [Nat.zero_add, Nat.min_eq_right hn] at this
end Go.Proofs.Ytdfcljfajiihdaa.T

namespace Go.Proofs.Ytdfcljfajiihdaa.P
open Go.RowKit Go.Proofs.YtdfcljfajiihdaaW.PrintWords Go.Proofs.YtdfcljfajiihdaaW.PrintLast Go.Proofs.YtdfcljfajiihdaaW.PrintMore
attribute [local go_sem] max2_int min2_int max_two min_two max_three min_three max_four min_four
set_option linter.unusedVariables false
set_option linter.unusedSimpArgs false
open Go.Proofs.Ytdfcljfajiihdaa.T Go.Proofs.Ytdfcljfajiihdaa.Aid Go.Proofs.Ytdfcljfajiihdaa.Sk Go.Proofs.Ytdfcljfajiihdaa.Gr Go.Sort
set_option maxHeartbeats 8000000 in
theorem stable_sq {α : Type} [Inhabited α] {val : α → Sq} {cf : α → α → Int} {f : Nat} {base g cap : Nat} {w0 w : World} (hO : SWO (ltC cf)) (hF : CmpSq Try.prog val cf f) (d : Array α) (n : Nat) (hn : d.size = n) (h : SB val base w0 g cap d w) (hsz : n ≤ 1000000000000) :
    Calls Try.prog 98 #[.slice (some ⟨g, 0, none⟩) n cap, .int .i64 (n : Int), .func (.func f) #[] #[]] w fun e w' => e = .returned (.tuple #[]) ∧ ∃ d', PermIn 0 n d d' ∧ SortedIn (ltC cf) 0 n d' ∧ SB val base w0 g cap d' w' := by
  have H0 := Aside0.mk h
  have HH : Aside0 (d.size = n ∧ n ≤ 1000000000000) := ⟨hn, hsz⟩
  have HO := Aside0.mk hO
  have HF := Aside0.mk hF
  clear h hn hsz hF hO
  go_enter Try.func98, Try.ntmps98
  go_wp2
  go_loopg [7, 8] n (fun kq v7 v8 wc => ∃ (a b : Nat) (D : Array α), v7 = .int .i64 (a : Int) ∧ v8 = .int .i64 (b : Int) ∧ Aside0 (a + 20 = b ∧ a ≤ n ∧ n - a ≤ kq ∧ 20 ∣ a ∧ D.size = n) ∧ Aside0 (LoB (ltC cf) 20 a D) ∧ Aside0 (PermIn 0 n d D) ∧ Aside0 (SB val base w0 g cap D wc))
  case atStart => exact ⟨0, 20, d, by first | rfl | simp, by first | rfl | simp, ⟨rfl, Nat.zero_le _, by omega, Nat.dvd_zero _, HH.out.1⟩, ⟨LoB.zero⟩, ⟨permIn_refl _ _ _⟩, H0⟩
  case round =>
    clear H0
    obtain ⟨a, b, D, rfl, rfl, HI, HL, HP, HS⟩ := hrel
    have hi := HI.out
    have hh := HH.out
    have hsD := hi.2.2.2.2
    by_cases hb : b ≤ n
    · have c1 : decide (b ≤ n) = true := decide_eq_true hb
      have HC := Aside0.mk (insertion_sq HF.out D a b HS.out (by omega) (by omega) (by omega))
      rw [hsD] at HC
      have hins := insertionSort_holds (lt := ltC cf) HO.out D a b (by omega) (by omega)
      have HN : Aside0 (b + 20 = b + 20 ∧ b ≤ n ∧ n - b < gk ∧ 20 ∣ b ∧ (insertionSort (ltC cf) D a b).size = n) := ⟨rfl, hb, by omega, by rw [← hi.1]; exact Nat.dvd_add hi.2.2.2.1 (Nat.dvd_refl _), hins.1.1.trans hsD⟩
      have HLN : Aside0 (LoB (ltC cf) 20 b (insertionSort (ltC cf) D a b)) := ⟨by
        have e := hi.1
        rw [← e]
        rw [← e] at hins
        exact HL.out.step hi.2.2.2.1 hins.1 hins.2⟩
      have HPN : Aside0 (PermIn 0 n d (insertionSort (ltC cf) D a b)) := ⟨permIn_trans _ _ _ _ _ HP.out (permIn_mono _ _ _ _ _ _ (Nat.zero_le _) hb (by omega) hins.1)⟩
      obtain ⟨b2, hb2⟩ : ∃ b2, b + 20 = b2 := ⟨_, rfl⟩
      have EB : Aside0 (wrap64 ((b : Int) + 20) = (b2 : Int)) := ⟨by rw [w64 (by omega) (by omega)]; omega⟩
      have HB2 := Aside0.mk hb2
      clear hi hh hsD hb hins hb2 HS HL HP
      have eb := EB.out
      go_wp2_with (go_at_call 103; refine HC.out.mono ?_; rintro e_ w' ⟨rfl, hS⟩; have HS2 := Aside0.mk hS; clear hS)
      clear eb
      go_roundg (n - b)
      case measure => exact HN.out.2.2.1
      case rel => exact ⟨b, b2, _, rfl, by first | rfl | rw [EB.out], ⟨HB2.out, HN.out.2.1, Nat.le_refl _, HN.out.2.2.2.1, HN.out.2.2.2.2⟩, HLN, HPN, HS2⟩
    · have c1 : decide (b ≤ n) = false := decide_eq_false hb
      have HC := Aside0.mk (insertion_sq HF.out D a n HS.out (by omega) (by omega) (by omega))
      rw [hsD] at HC
      have hins := insertionSort_holds (lt := ltC cf) HO.out D a n (by omega) (by omega)
      obtain ⟨D1, hD1⟩ : ∃ D1, insertionSort (ltC cf) D a n = D1 := ⟨_, rfl⟩
      rw [hD1] at HC hins
      have HALL : Aside0 (AllB (ltC cf) 20 n D1) := ⟨HL.out.last hi.2.2.2.1 hi.2.1 (by omega) hins.1 hins.2⟩
      have HPN : Aside0 (PermIn 0 n d D1) := ⟨permIn_trans _ _ _ _ _ HP.out (permIn_mono _ _ _ _ _ _ (Nat.zero_le _) (Nat.le_refl _) (by omega) hins.1)⟩
      have HSZ : Aside0 (D1.size = n) := ⟨hins.1.1.trans hsD⟩
      clear hi hh hsD hb hins hD1 HS HL HP HI
      go_wp2_with (go_at_call 103; refine HC.out.mono ?_; rintro e_ w' ⟨rfl, hS⟩; have HS2 := Aside0.mk hS; clear hS)
      go_loopg [6] n (fun kq v6 wc => ∃ (L : Nat) (D : Array α), v6 = .int .i64 (L : Int) ∧ Aside0 (20 ≤ L ∧ L ≤ 2 * n + 20 ∧ n - L ≤ kq ∧ D.size = n) ∧ Aside0 (AllB (ltC cf) L n D) ∧ Aside0 (PermIn 0 n d D) ∧ Aside0 (SB val base w0 g cap D wc))
      case atStart => exact ⟨20, D1, by first | rfl | simp, ⟨Nat.le_refl _, by omega, by omega, HSZ.out⟩, HALL, HPN, HS2⟩
      case round =>
        clear HS2 HALL HPN HSZ
        obtain ⟨L, D, rfl, HI, HA, HP, HS⟩ := hrel
        have hi := HI.out
        have hh := HH.out
        by_cases hL : L < n
        · have c1 : decide (L < n) = true := decide_eq_true hL
          obtain ⟨M, hM⟩ : ∃ M, 2 * L = M := ⟨_, rfl⟩
          have EM : Aside0 (wrap64 (2 * (L : Int)) = (M : Int)) := ⟨by rw [w64 (by omega) (by omega)]; omega⟩
          have EM2 : Aside0 (wrap64 ((L : Int) * 2) = (M : Int)) := ⟨by rw [w64 (by omega) (by omega)]; omega⟩
          have HM : Aside0 (2 * L = M ∧ L < n ∧ n - L ≤ gk ∧ 20 ≤ L) := ⟨hM, hL, hi.2.2.1, hi.1⟩
          have HSZ := Aside0.mk hi.2.2.2
          clear hi hh hL hM HI
          have em := EM.out
          go_wp2_with fail
          clear em
          go_loopg [7, 8] n (fun kq v7 v8 wc => ∃ (a b : Nat) (D : Array α), v7 = .int .i64 (a : Int) ∧ v8 = .int .i64 (b : Int) ∧ Aside0 (a + M = b ∧ a ≤ n ∧ n - a ≤ kq ∧ M ∣ a ∧ D.size = n) ∧ Aside0 (LoB (ltC cf) M a D ∧ HiB (ltC cf) L a n D) ∧ Aside0 (PermIn 0 n d D) ∧ Aside0 (SB val base w0 g cap D wc))
          case atStart => exact ⟨0, M, D, by first | rfl | simp, by first | rfl | rw [EM.out] | simp, ⟨Nat.zero_add _, Nat.zero_le _, by omega, Nat.dvd_zero _, HSZ.out⟩, ⟨LoB.zero, HA.out.hi 0⟩, HP, HS⟩
          case round =>
            clear HA HP HS HSZ
            obtain ⟨a, b, D, rfl, rfl, HI, HL, HP, HS⟩ := hrel
            have hi := HI.out
            have hh := HH.out
            have hm := HM.out
            have hsD := hi.2.2.2.2
            have hdL : L ∣ a := Nat.dvd_trans ⟨2, by omega⟩ hi.2.2.2.1
            obtain ⟨m, hma⟩ : ∃ m, a + L = m := ⟨_, rfl⟩
            have EMM : Aside0 (wrap64 ((a : Int) + (L : Int)) = (m : Int)) := ⟨by rw [w64 (by omega) (by omega)]; omega⟩
            have hdm : L ∣ m := by rw [← hma]; exact Nat.dvd_add hdL (Nat.dvd_refl _)
            by_cases hb : b ≤ n
            · have c1 : decide (b ≤ n) = true := decide_eq_true hb
              have s1 : SortedIn (ltC cf) a m D := by
                have := HL.out.2 a hdL (Nat.le_refl _)
                rwa [hma, Nat.min_eq_left (by omega)] at this
              have s2 : SortedIn (ltC cf) m b D := by
                have := HL.out.2 m hdm (by omega)
                rwa [Nat.min_eq_left (by omega), show m + L = b by omega] at this
              have HC := Aside0.mk (symMerge_sq (base := base) (g := g) (cap := cap) (w0 := w0) HO.out HF.out (b - a) D a m b _ HS.out (by omega) (by omega) (by omega) (by omega) s1 s2 (Nat.le_refl _))
              rw [hsD] at HC
              obtain ⟨b2, hb2⟩ : ∃ b2, b + M = b2 := ⟨_, rfl⟩
              have EB : Aside0 (wrap64 ((b : Int) + (M : Int)) = (b2 : Int)) := ⟨by rw [w64 (by omega) (by omega)]; omega⟩
              have HN : Aside0 (b + M = b2 ∧ b ≤ n ∧ n - b < gk ∧ M ∣ b) := ⟨hb2, hb, by omega, by rw [← hi.1]; exact Nat.dvd_add hi.2.2.2.1 (Nat.dvd_refl _)⟩
              have HLN : Aside0 (∀ D', PermIn a b D D' → SortedIn (ltC cf) a b D' → (LoB (ltC cf) M b D' ∧ HiB (ltC cf) L b n D') ∧ PermIn 0 n d D' ∧ D'.size = n) := ⟨fun D' h1 h2 => by
                have e := hi.1
                refine ⟨⟨?_, HL.out.2.step (by omega) h1⟩, permIn_trans _ _ _ _ _ HP.out (permIn_mono _ _ _ _ _ _ (Nat.zero_le _) hb (by omega) h1), h1.1.trans hsD⟩
                rw [← e]
                rw [← e] at h1 h2
                exact HL.out.1.step hi.2.2.2.1 h1 h2⟩
              clear hi hh hm hsD hdL hdm hma s1 s2 hb hb2 HS HL HP
              have emm := EMM.out
              go_wp2_with (go_at_call 104; refine HC.out.mono ?_; rintro e_ w' ⟨rfl, D', hP, hR, hS⟩; have HX := Aside0.mk (HLN.out D' hP hR); have HS2 := Aside0.mk hS; clear hS hP hR)
              clear emm
              go_roundg (n - b)
              case measure => exact HN.out.2.2.1
              case rel => exact ⟨b, b2, D', rfl, by first | rfl | (rw [EM.out, EB.out]; done) | (rw [EB.out]; done), ⟨HN.out.1, HN.out.2.1, Nat.le_refl _, HN.out.2.2.2, HX.out.2.2⟩, ⟨HX.out.1⟩, ⟨HX.out.2.1⟩, HS2⟩
            · have c1 : decide (b ≤ n) = false := decide_eq_false hb
              by_cases hmn : m < n
              · have c2 : decide (m < n) = true := decide_eq_true hmn
                have s1 : SortedIn (ltC cf) a m D := by
                  have := HL.out.2 a hdL (Nat.le_refl _)
                  rwa [hma, Nat.min_eq_left (by omega)] at this
                have s2 : SortedIn (ltC cf) m n D := by
                  have := HL.out.2 m hdm (by omega)
                  rwa [Nat.min_eq_right (by omega)] at this
                have HC := Aside0.mk (symMerge_sq (base := base) (g := g) (cap := cap) (w0 := w0) HO.out HF.out (n - a) D a m n _ HS.out (by omega) (by omega) (by omega) (by omega) s1 s2 (Nat.le_refl _))
                rw [hsD] at HC
                have HLN : Aside0 (∀ D', PermIn a n D D' → SortedIn (ltC cf) a n D' → AllB (ltC cf) M n D' ∧ PermIn 0 n d D' ∧ D'.size = n) := ⟨fun D' h1 h2 => ⟨HL.out.1.last hi.2.2.2.1 hi.2.1 (by omega) h1 h2, permIn_trans _ _ _ _ _ HP.out (permIn_mono _ _ _ _ _ _ (Nat.zero_le _) (Nat.le_refl _) (by omega) h1), h1.1.trans hsD⟩⟩
                clear hi hh hm hsD hdL hdm hma s1 s2 hb hmn HS HL HP
                have emm := EMM.out
                have em2 := EM2.out
                go_wp2_with (go_at_call 104; refine HC.out.mono ?_; rintro e_ w' ⟨rfl, D', hP, hR, hS⟩; have HX := Aside0.mk (HLN.out D' hP hR); have HS2 := Aside0.mk hS; clear hS hP hR)
                clear emm em2
                go_roundg (n - M)
                case measure => have := HM.out; omega
                case rel => exact ⟨M, D', by first | rfl | rw [EM2.out], ⟨by have := HM.out; omega, by have := HM.out; omega, Nat.le_refl _, HX.out.2.2⟩, ⟨HX.out.1⟩, ⟨HX.out.2.1⟩, HS2⟩
              · have c2 : decide (m < n) = false := decide_eq_false hmn
                have s1 : SortedIn (ltC cf) a n D := by
                  have := HL.out.2 a hdL (Nat.le_refl _)
                  rwa [Nat.min_eq_right (by omega)] at this
                have HX : Aside0 (AllB (ltC cf) M n D ∧ D.size = n) := ⟨HL.out.1.last hi.2.2.2.1 hi.2.1 (by omega) (permIn_refl _ _ _) s1, hsD⟩
                clear hi hh hm hsD hdL hdm hma s1 hb hmn HL
                have emm := EMM.out
                have em2 := EM2.out
                go_wp2_with fail
                clear emm em2
                go_roundg (n - M)
                case measure => have := HM.out; omega
                case rel => exact ⟨M, D, by first | rfl | rw [EM2.out], ⟨by have := HM.out; omega, by have := HM.out; omega, Nat.le_refl _, HX.out.2⟩, ⟨HX.out.1⟩, HP, HS⟩
        · have c1 : decide (L < n) = false := decide_eq_false hL
          have HE : Aside0 (SortedIn (ltC cf) 0 n D) := ⟨HA.out.whole (by omega)⟩
          clear hi hh hL
          go_wp2_with fail
          (first | go_end0 | ((try simp only [Exit.inBlock, Exit.then]); refine bodyPost_ret (results_none rfl _ _ _) rfl ?_))
          exact ⟨rfl, D, HP.out, HE.out, HS.out⟩
end Go.Proofs.Ytdfcljfajiihdaa.P

namespace Go.Proofs.Ytdfcljfajiihdaa.P
open Go.RowKit Go.Proofs.YtdfcljfajiihdaaW.PrintWords Go.Proofs.YtdfcljfajiihdaaW.PrintLast Go.Proofs.YtdfcljfajiihdaaW.PrintMore
attribute [local go_sem] max2_int min2_int max_two min_two max_three min_three max_four min_four
set_option linter.unusedVariables false
set_option linter.unusedSimpArgs false
open Go.Proofs.Ytdfcljfajiihdaa.T Go.Proofs.Ytdfcljfajiihdaa.Aid Go.Proofs.Ytdfcljfajiihdaa.Sk Go.Proofs.Ytdfcljfajiihdaa.Gr Go.Sort
set_option maxHeartbeats 2000000 in
theorem sortStable_sq {α : Type} [Inhabited α] {val : α → Sq} {cf : α → α → Int} {f : Nat} {base g cap : Nat} {w0 w : World} (hO : SWO (ltC cf)) (hF : CmpSq Try.prog val cf f) (d : Array α) (n : Nat) (hn : d.size = n) (h : SB val base w0 g cap d w) (hsz : n ≤ 1000000000000) :
    Calls Try.prog 92 #[.slice (some ⟨g, 0, none⟩) n cap, .func (.func f) #[] #[]] w fun e w' => e = .returned (.tuple #[]) ∧ ∃ d', PermIn 0 n d d' ∧ SortedIn (ltC cf) 0 n d' ∧ SB val base w0 g cap d' w' := by
  have HC := Aside0.mk (stable_sq hO hF d n hn h hsz)
  clear h hn hsz hF hO
  go_enter Try.func92, Try.ntmps92
  go_wp2_with (go_at_call 98; refine HC.out.mono ?_; rintro e_ w' ⟨rfl, hS⟩; have HS2 := Aside0.mk hS; clear hS)
  (first | go_end0 | ((try simp only [Exit.inBlock, Exit.then]); refine bodyPost_ret (results_none rfl _ _ _) rfl ?_))
  exact ⟨rfl, HS2.out⟩
end Go.Proofs.Ytdfcljfajiihdaa.P

namespace Go.Proofs.Ytdfcljfajiihdaa.P
open Go.RowKit Go.Proofs.YtdfcljfajiihdaaW.PrintWords Go.Proofs.YtdfcljfajiihdaaW.PrintLast Go.Proofs.YtdfcljfajiihdaaW.PrintMore
attribute [local go_sem] max2_int min2_int max_two min_two max_three min_three max_four min_four
set_option linter.unusedVariables false
set_option linter.unusedSimpArgs false
end Go.Proofs.Ytdfcljfajiihdaa.P

namespace Go.Proofs.Ytdfcljfajiihdaa.Pure
set_option linter.unusedVariables false
set_option linter.unusedSimpArgs false
open Go.RowKit Go.Proofs.Ytdfcljfajiihdaa.P Go.Proofs.YtdfcljfajiihdaaW.PrintWords Go.Proofs.YtdfcljfajiihdaaW.PrintLast Go.Proofs.Ytdfcljfajiihdaa.Aid
theorem l1In_f (n lo hi : Int) : spec_l1In.f n lo hi = some (inR n lo hi) := by
  unfold spec_l1In.f inR; by_cases c : lo ≤ n <;> simp [c]
theorem within_f (n lo hi : Int) : impl_within.f n lo hi = some (inR n lo hi) := by
  unfold impl_within.f inR; by_cases c : lo ≤ n <;> simp [c]
theorem l1Least_f (a b : Int) : spec_l1Least.f a b = some (min a b) := by
  unfold spec_l1Least.f; split <;> simp <;> omega
theorem feSize_f (a b m : Int) : spec_feSize.f a b m = some (inR a 1 m && inR b 1 m) := by
  unfold spec_feSize.f; simp only [l1In_f, Option.bind_some]; cases inR a 1 m <;> simp
theorem isLined_f (a b : Int) : impl_isLined.f a b = some (inR a 1 60 && inR b 1 60) := by
  unfold impl_isLined.f; simp only [within_f, Option.bind_some]; cases inR a 1 60 <;> simp
end Go.Proofs.Ytdfcljfajiihdaa.Pure

namespace Go.Proofs.Ytdfcljfajiihdaa.Pure
set_option linter.unusedVariables false
set_option linter.unusedSimpArgs false
open Go.RowKit Go.Proofs.Ytdfcljfajiihdaa.P Go.Proofs.YtdfcljfajiihdaaW.PrintWords Go.Proofs.YtdfcljfajiihdaaW.PrintLast Go.Proofs.YtdfcljfajiihdaaW.PrintMore Go.Proofs.Ytdfcljfajiihdaa.Aid Go.Proofs.Ytdfcljfajiihdaa.T
theorem rdq (l : List Sq) (i : Nat) : rd_T56 l (i : Int) = nq l i := by unfold rd_T56 nq; rw [Int.toNat_natCast]; rfl
end Go.Proofs.Ytdfcljfajiihdaa.Pure

namespace Go.Proofs.Ytdfcljfajiihdaa.Pure
set_option linter.unusedVariables false
set_option linter.unusedSimpArgs false
open Go.RowKit Go.Proofs.Ytdfcljfajiihdaa.P Go.Proofs.YtdfcljfajiihdaaW.PrintWords Go.Proofs.YtdfcljfajiihdaaW.PrintLast Go.Proofs.YtdfcljfajiihdaaW.PrintMore Go.Proofs.Ytdfcljfajiihdaa.Aid Go.Proofs.Ytdfcljfajiihdaa.T
theorem apart_ovl (a b : Sq) (ha : inBox 500 500 a) (hb : inBox 500 500 b) : ovl a b = false ↔ Apart a b := by
  unfold inBox at ha hb
  unfold ovl Apart
  rw [w64 (by omega) (by omega), w64 (by omega) (by omega), w64 (by omega) (by omega), w64 (by omega) (by omega), Bool.eq_false_iff]
  simp only [ne_eq, Bool.and_eq_true, decide_eq_true_eq]
  constructor <;> intro h h' <;> exact h (by omega)
theorem inBox_mono {W H W' H' : Int} {q : Sq} (h : inBox W H q) (hw : W ≤ W') (hh : H ≤ H') : inBox W' H' q := by unfold inBox at *; omega
theorem lt_cmpP (a b : Sq) (ha : inBox 500 500 a) (hb : inBox 500 500 b) : cmpP a b < 0 ↔ Lt a b := by
  unfold inBox at ha hb
  unfold cmpP Lt
  split
  · rw [w64 (by omega) (by omega)]; omega
  · rw [w64 (by omega) (by omega)]; omega
theorem okAt_iff (W H : Int) (l : List Sq) (hW : 1 ≤ W ∧ W ≤ 500) (hH : 1 ≤ H ∧ H ≤ 500) (i : Nat) (hi : i < l.length) (hold : ∀ j, j < i → inBox W H (nq l j)) : okAt W H l i = true ↔ OkS W H l i := by
  unfold okAt OkS
  simp only [rdq, Bool.and_eq_true, Bool.not_eq_true']
  have hbox : (ok1 W H (nq l i) = true ∧ ok2 W (nq l i) = true ∧ ok3 H (nq l i) = true) ↔ inBox W H (nq l i) := by
    unfold ok1 ok2 ok3 inBox
    simp only [Bool.and_eq_true, decide_eq_true_eq, mn_min]
    constructor
    · rintro ⟨⟨h1, h2⟩, ⟨h3, h4⟩, h5, h6⟩
      rw [w64 (by omega) (by omega)] at h4 h6
      omega
    · intro h
      rw [w64 (by omega) (by omega), w64 (by omega) (by omega)]
      omega
  have big : ∀ {q : Sq}, inBox W H q → inBox 500 500 q := fun h => inBox_mono h hW.2 hH.2
  constructor
  · rintro ⟨⟨⟨⟨h1, h2⟩, h3⟩, h4⟩, h5⟩
    have hb := hbox.1 ⟨h1, h2, h3⟩
    refine ⟨hb, fun j hj => ⟨?_, fun e => ?_⟩⟩
    · rw [List.any_eq_false] at h5
      have := h5 (nq l j) (by rw [← nq_take l i j hj]; exact nq_mem _ _ (by simp; omega))
      exact (apart_ovl _ _ (big hb) (big (hold j hj))).1 (Bool.eq_false_iff.2 this)
    · unfold ok4 at h4
      subst e
      rw [Bool.or_eq_true, decide_eq_true_eq, decide_eq_true_eq] at h4
      rcases h4 with h4 | h4
      · cases h4
      · rw [show j + 1 - 1 = j by omega, rdq] at h4
        exact (lt_cmpP _ _ (big (hold j hj)) (big hb)).1 h4
  · rintro ⟨hb, hs⟩
    obtain ⟨h1, h2, h3⟩ := hbox.2 hb
    refine ⟨⟨⟨⟨h1, h2⟩, h3⟩, ?_⟩, ?_⟩
    · unfold ok4
      rw [Bool.or_eq_true, decide_eq_true_eq, decide_eq_true_eq]
      rcases Nat.eq_zero_or_pos i with h0 | h0
      · exact .inl h0
      · refine .inr ?_
        rw [rdq]
        exact (lt_cmpP _ _ (big (hold _ (by omega))) (big hb)).2 ((hs (i - 1) (by omega)).2 (by omega))
    · rw [List.any_eq_false]
      intro q hq
      obtain ⟨j, hj, rfl⟩ := List.getElem_of_mem hq
      rw [List.length_take] at hj
      rw [← nq_get, nq_take l i j (by omega)]
      rw [Bool.not_eq_true]
      exact (apart_ovl _ _ (big hb) (big (hold j (by omega)))).2 (hs j (by omega)).1
theorem okAt_all (W H : Int) (l : List Sq) (hW : 1 ≤ W ∧ W ≤ 500) (hH : 1 ≤ H ∧ H ≤ 500) : (∀ i, i < l.length → okAt W H l i = true) ↔ ∀ i, i < l.length → OkS W H l i := by
  constructor
  · intro h i
    induction i using Nat.strongRecOn with
    | _ i ih => exact fun hi => (okAt_iff W H l hW hH i hi (fun j hj => (ih j hj (by omega)).1)).1 (h i hi)
  · intro h i hi
    exact (okAt_iff W H l hW hH i hi (fun j hj => (h j (by omega)).1)).2 (h i hi)
theorem areaW_area (l : List Sq) : ∀ n, n ≤ l.length → l.length ≤ 30 → (∀ i, i < n → 0 ≤ (nq l i).f2 ∧ (nq l i).f2 ≤ 500) → areaW (l.take n) 0 = area (l.take n)
  | 0, _, _, _ => by simp [areaW, area]
  | n + 1, hn, hl, hb => by
    have ih := areaW_area l n (by omega) hl (fun i hi => hb i (by omega))
    have hq := sq_le (hb n (by omega)).1 (hb n (by omega)).2
    have ha := area_bd l 500 n (by omega) (fun i hi => hb i (by omega))
    rw [area_take l n (by omega), List.take_succ_eq_append_getElem (by omega), areaW_snoc, ih, ← nq_get l n (by omega), w64 (e := (nq l n).f2 * (nq l n).f2) (by omega) (by omega), w64 (by omega) (by omega)]
theorem isCutB_good (W H : Int) (l : List Sq) : isCutB W H l = goodB W H l := by
  rw [Bool.eq_iff_iff, goodB_iff, good_iff]
  unfold isCutB
  simp only [Bool.and_eq_true, decide_eq_true_eq, List.all_eq_true, List.mem_range, and_assoc]
  constructor
  · rintro ⟨h1, h2, h3, h4, h5, h6, h7⟩
    have hs := (okAt_all W H l ⟨h1, h2⟩ ⟨h3, h4⟩).1 h6
    refine ⟨h1, h2, h3, h4, h5, hs, ?_⟩
    have hb : ∀ i, i < l.length → 0 ≤ (nq l i).f2 ∧ (nq l i).f2 ≤ 500 := fun i hi => by have := (hs i hi).1; unfold inBox at this; omega
    have ha := areaW_area l l.length (Nat.le_refl _) h5 hb
    rw [List.take_length] at ha
    have hp : 0 ≤ W * H ∧ W * H ≤ 500 * 500 := ⟨Int.mul_nonneg (by omega) (by omega), Int.mul_le_mul h2 h4 (by omega) (by omega)⟩
    rw [ha, w64 (by omega) (by omega)] at h7
    exact h7
  · rintro ⟨h1, h2, h3, h4, h5, hs, h7⟩
    refine ⟨h1, h2, h3, h4, h5, (okAt_all W H l ⟨h1, h2⟩ ⟨h3, h4⟩).2 hs, ?_⟩
    have hb : ∀ i, i < l.length → 0 ≤ (nq l i).f2 ∧ (nq l i).f2 ≤ 500 := fun i hi => by have := (hs i hi).1; unfold inBox at this; omega
    have ha := areaW_area l l.length (Nat.le_refl _) h5 hb
    rw [List.take_length] at ha
    have hp : 0 ≤ W * H ∧ W * H ≤ 500 * 500 := ⟨Int.mul_nonneg (by omega) (by omega), Int.mul_le_mul h2 h4 (by omega) (by omega)⟩
    rw [ha, w64 (by omega) (by omega)]
    exact h7
def PairOk (l : List Sq) (i j : Nat) : Prop := Apart (nq l i) (nq l j) ∧ (j + 1 = i → Lt (nq l j) (nq l i))
theorem cuLess_f (a b : Sq) : spec_cuLess.f a.f0 a.f1 a.f2 b.f0 b.f1 b.f2 = some (decide (a.f1 < b.f1) || (decide (a.f1 = b.f1) && decide (a.f0 < b.f0))) := by
  unfold spec_cuLess.f
  by_cases c1 : a.f1 < b.f1
  · simp [c1]
  · by_cases c2 : a.f1 = b.f1 <;> simp [c1, c2]
theorem lt_less (a b : Sq) : (decide (a.f1 < b.f1) || (decide (a.f1 = b.f1) && decide (a.f0 < b.f0))) = true ↔ Lt a b := by
  unfold Lt; simp
section
variable (W H : Int) (l : List Sq)
theorem good_l1_step (a : Int) (i m : Nat) (hm : m < i) (hi : i < l.length) {r : Bool}
    (h : Ev (fun k => spec_cuGood.j4 k a i m l l.length i (l.take i) i m (ovl (nq l i) (nq l m)) W H l (nq l i).f0 (nq l i).f1 (nq l i).f2 (nq l m).f0 (nq l m).f1 (nq l m).f2) r) :
    Ev (fun k => spec_cuGood.l1 k a i l l.length i (l.take i) i m W H l (nq l i).f0 (nq l i).f1 (nq l i).f2) r := by
  have e : rd_T56 (l.take i) (m : Int) = nq l m := by rw [rdq, nq_take l i m hm]
  refine Ev.step (fun _ => spec_cuGood.l1.eq_2 ..) (ev_pos (by omega) (ev_pos (by omega) (ev_pos (by simp; omega) ?_)))
  simp only [e]
  unfold ovl at h
  by_cases c1 : (nq l i).f0 < wrap64 ((nq l m).f0 + (nq l m).f2)
  · refine ev_pos c1 ?_
    by_cases c2 : (nq l m).f0 < wrap64 ((nq l i).f0 + (nq l i).f2)
    · refine ev_pos c2 ?_
      by_cases c3 : (nq l i).f1 < wrap64 ((nq l m).f1 + (nq l m).f2)
      · refine ev_pos c3 ?_
        simpa [c1, c2, c3] using h
      · refine ev_neg c3 ?_
        simpa [c1, c2, c3] using h
    · refine ev_neg c2 ?_
      simpa [c1, c2] using h
  · refine ev_neg c1 ?_
    simpa [c1] using h
theorem good_pass (hl : l.length ≤ 30) (a : Int) (i : Nat) (hi : i < l.length) (hb : ∀ j, j ≤ i → inBox 500 500 (nq l j)) {r : Bool} (h : Ev (fun k => spec_cuGood.l0 k a l l.length (i + 1 : Nat) W H l) r) :
    ∀ (d m : Nat), m + d = i → (∀ j, m ≤ j → j < i → PairOk l i j) → Ev (fun k => spec_cuGood.l1 k a i l l.length i (l.take i) i m W H l (nq l i).f0 (nq l i).f1 (nq l i).f2) r
  | 0, m, hd, hp => by
    refine Ev.step (fun _ => spec_cuGood.l1.eq_2 ..) (ev_neg (by omega) ?_)
    rw [w64 (by omega) (by omega)]
    exact h
  | d + 1, m, hd, hp => by
    have ih := good_pass hl a i hi hb h d (m + 1) (by omega) (fun j h1 h2 => hp j (by omega) h2)
    obtain ⟨p1, p2⟩ := hp m (Nat.le_refl _) (by omega)
    refine good_l1_step W H l a i m (by omega) hi ?_
    rw [(apart_ovl _ _ (hb i (Nat.le_refl _)) (hb m (by omega))).2 p1]
    refine Ev.step (fun _ => spec_cuGood.j4.eq_2 ..) (ev_neg (by simp) ?_)
    rw [w64 (by omega) (by omega), w64 (by omega) (by omega)]
    by_cases c : m + 1 = i
    · refine ev_pos (by omega) (ev_call (cuLess_f (nq l m) (nq l i)) (ev_pos ((lt_less _ _).2 (p2 c)) ?_))
      exact ih
    · exact ev_neg (by omega) ih
theorem good_fail (hl : l.length ≤ 30) (a : Int) (i : Nat) (hi : i < l.length) (hb : ∀ j, j ≤ i → inBox 500 500 (nq l j)) :
    ∀ (d m : Nat), m + d = i → (∃ j, m ≤ j ∧ j < i ∧ ¬ PairOk l i j) → Ev (fun k => spec_cuGood.l1 k a i l l.length i (l.take i) i m W H l (nq l i).f0 (nq l i).f1 (nq l i).f2) false
  | 0, m, hd, hp => by obtain ⟨j, h1, h2, _⟩ := hp; omega
  | d + 1, m, hd, hp => by
    refine good_l1_step W H l a i m (by omega) hi ?_
    by_cases p1 : Apart (nq l i) (nq l m)
    · rw [(apart_ovl _ _ (hb i (Nat.le_refl _)) (hb m (by omega))).2 p1]
      refine Ev.step (fun _ => spec_cuGood.j4.eq_2 ..) (ev_neg (by simp) ?_)
      rw [w64 (by omega) (by omega), w64 (by omega) (by omega)]
      by_cases c : m + 1 = i
      · by_cases p2 : Lt (nq l m) (nq l i)
        · exfalso
          obtain ⟨j, h1, h2, h3⟩ := hp
          have : j = m := by omega
          subst this
          exact h3 ⟨p1, fun _ => p2⟩
        · refine ev_pos (by omega) (ev_call (cuLess_f (nq l m) (nq l i)) (ev_neg (fun h => p2 ((lt_less _ _).1 h)) (ev_some rfl)))
      · refine ev_neg (by omega) (good_fail hl a i hi hb d (m + 1) (by omega) ?_)
        obtain ⟨j, h1, h2, h3⟩ := hp
        refine ⟨j, ?_, h2, h3⟩
        rcases Nat.lt_or_ge m j with h | h
        · omega
        · have : j = m := by omega
          subst this
          exact absurd ⟨p1, fun h => absurd h c⟩ h3
    · have : ovl (nq l i) (nq l m) = true := by
        rw [← Bool.not_eq_false]
        intro h
        exact p1 ((apart_ovl _ _ (hb i (Nat.le_refl _)) (hb m (by omega))).1 h)
      rw [this]
      exact Ev.step (fun _ => spec_cuGood.j4.eq_2 ..) (ev_pos rfl (ev_some rfl))
theorem good_round (a : Int) (i : Nat) (hi : i < l.length) (hW : 1 ≤ W ∧ W ≤ 500) (hH : 1 ≤ H ∧ H ≤ 500) {r : Bool}
    (h : inBox W H (nq l i) → Ev (fun k => spec_cuGood.l1 k (wrap64 (a + wrap64 ((nq l i).f2 * (nq l i).f2))) i l l.length i (l.take i) i (0 : Nat) W H l (nq l i).f0 (nq l i).f1 (nq l i).f2) r) (hf : ¬ inBox W H (nq l i) → r = false) :
    Ev (fun k => spec_cuGood.l0 k a l l.length i W H l) r := by
  refine Ev.step (fun _ => spec_cuGood.l0.eq_2 ..) (ev_pos (by omega) (ev_pos (by omega) (ev_pos (by omega) ?_)))
  simp only [rdq]
  refine ev_call (l1In_f _ _ _) ?_
  by_cases c1 : inR (nq l i).f2 1 500 = true
  · refine ev_pos c1 (ev_call (l1In_f _ _ _) ?_)
    rw [inR_iff] at c1
    rw [w64 (by omega) (by omega)]
    by_cases c2 : inR (nq l i).f0 0 (W - (nq l i).f2) = true
    · refine ev_pos c2 ?_
      rw [w64 (by omega) (by omega)]
      refine ev_call (l1In_f _ _ _) ?_
      rw [inR_iff] at c2
      by_cases c3 : inR (nq l i).f1 0 (H - (nq l i).f2) = true
      · rw [c3]
        rw [inR_iff] at c3
        refine Ev.step (fun _ => spec_cuGood.j2.eq_2 ..) (ev_neg (by simp) (ev_pos (by omega) (ev_pos (by omega) ?_)))
        refine ev_call rfl ?_
        simp only [Int.toNat_natCast]
        have := h (by unfold inBox; omega)
        simpa [Nat.min_eq_left (Nat.le_of_lt hi)] using this
      · have : r = false := hf (fun hb => c3 (inR_iff.2 (by unfold inBox at hb; omega)))
        subst this
        rw [Bool.not_eq_true] at c3
        rw [c3]
        exact Ev.step (fun _ => spec_cuGood.j2.eq_2 ..) (ev_pos rfl (ev_some rfl))
    · have : r = false := hf (fun hb => c2 (inR_iff.2 (by unfold inBox at hb; omega)))
      subst this
      exact ev_neg c2 (Ev.step (fun _ => spec_cuGood.j2.eq_2 ..) (ev_pos rfl (ev_some rfl)))
  · have : r = false := hf (fun hb => c1 (inR_iff.2 (by unfold inBox at hb; omega)))
    subst this
    exact ev_neg c1 (Ev.step (fun _ => spec_cuGood.j2.eq_2 ..) (ev_pos rfl (ev_some rfl)))
theorem good_l0 (hl : l.length ≤ 30) (hW : 1 ≤ W ∧ W ≤ 500) (hH : 1 ≤ H ∧ H ≤ 500) : ∀ (d i : Nat), i + d = l.length → (∀ j, j < i → OkS W H l j) → Ev (fun k => spec_cuGood.l0 k (area (l.take i)) l l.length i W H l) (goodB W H l)
  | 0, i, hd, hs => by
    refine Ev.step (fun _ => spec_cuGood.l0.eq_2 ..) (ev_neg (by omega) (ev_some ?_))
    have hp : 0 ≤ W * H ∧ W * H ≤ 500 * 500 := ⟨Int.mul_nonneg (by omega) (by omega), Int.mul_le_mul hW.2 hH.2 (by omega) (by omega)⟩
    rw [w64 (by omega) (by omega), show i = l.length by omega, List.take_length, Bool.eq_iff_iff, goodB_iff, good_iff, beq_iff_eq]
    exact ⟨fun h => ⟨hW, hH, hl, fun j hj => hs j (by omega), h⟩, fun h => h.2.2.2.2⟩
  | d + 1, i, hd, hs => by
    have hnot : ¬ OkS W H l i → goodB W H l = false := fun h => by
      rw [Bool.eq_false_iff]
      intro hg
      rw [goodB_iff, good_iff] at hg
      exact h (hg.2.2.2.1 i (by omega))
    refine good_round W H l _ i (by omega) hW hH (fun hb => ?_) (fun hb => hnot (fun h => hb h.1))
    have hbb : ∀ j, j ≤ i → inBox 500 500 (nq l j) := fun j hj => by
      rcases Nat.lt_or_ge j i with h | h
      · exact inBox_mono (hs j h).1 hW.2 hH.2
      · rw [show j = i by omega]; exact inBox_mono hb hW.2 hH.2
    have ha := area_bd l 500 i (by omega) (fun j hj => by have := hbb j (by omega); unfold inBox at this; omega)
    have hq := hbb i (Nat.le_refl _)
    unfold inBox at hq
    have hsq := sq_le (a := (nq l i).f2) (m := 500) (by omega) (by omega)
    rw [w64 (e := (nq l i).f2 * (nq l i).f2) (by omega) (by omega), w64 (by omega) (by omega), ← area_take l i (by omega)]
    by_cases c : ∃ j, 0 ≤ j ∧ j < i ∧ ¬ PairOk l i j
    · rw [hnot (fun h => by obtain ⟨j, _, h2, h3⟩ := c; exact h3 (h.2 j h2))]
      exact good_fail W H l hl _ i (by omega) hbb i 0 (by omega) c
    · have hp : ∀ j, j < i → PairOk l i j := fun j hj => Classical.byContradiction fun h => c ⟨j, by omega, hj, h⟩
      refine good_pass W H l hl _ i (by omega) hbb ?_ i 0 (by omega) (fun j _ h => hp j h)
      exact good_l0 hl hW hH d (i + 1) (by omega) (fun j hj => by
        rcases Nat.lt_or_ge j i with h | h
        · exact hs j h
        · rw [show j = i by omega]; exact ⟨hb, hp⟩)
end
theorem cuGood_ev (W H : Int) (l : List Sq) (hlen : l.length ≤ 9223372036854775807) : Ev (fun k => spec_cuGood.f k W H l) (goodB W H l) := by
  have bad : ¬ ((1 ≤ W ∧ W ≤ 500) ∧ (1 ≤ H ∧ H ≤ 500) ∧ (1 ≤ l.length ∧ l.length ≤ 30)) → goodB W H l = false := fun h => by
    rw [Bool.eq_false_iff]
    intro hg
    rw [goodB_iff] at hg
    exact h ⟨hg.w, hg.h, hg.pos, hg.len⟩
  refine ev_call (l1In_f _ _ _) ?_
  by_cases c1 : inR W 1 500 = true
  · refine ev_pos c1 (ev_call (l1In_f _ _ _) ?_)
    by_cases c2 : inR H 1 500 = true
    · refine ev_pos c2 (ev_call (l1In_f _ _ _) ?_)
      rw [inR_iff] at c1 c2
      by_cases c3 : inR (l.length : Int) 1 30 = true
      · rw [c3]
        rw [inR_iff] at c3
        refine Ev.step (fun _ => spec_cuGood.j0.eq_2 ..) (ev_neg (by simp) ?_)
        have := good_l0 W H l (by omega) c1 c2 l.length 0 (by omega) (fun j hj => by omega)
        simpa [area] using this
      · have e := bad (fun h => c3 (inR_iff.2 (by omega)))
        rw [Bool.not_eq_true] at c3
        rw [c3, e]
        exact Ev.step (fun _ => spec_cuGood.j0.eq_2 ..) (ev_pos rfl (ev_some rfl))
    · rw [bad (fun h => c2 (inR_iff.2 h.2.1))]
      exact ev_neg c2 (Ev.step (fun _ => spec_cuGood.j0.eq_2 ..) (ev_pos rfl (ev_some rfl)))
  · rw [bad (fun h => c1 (inR_iff.2 h.1))]
    exact ev_neg c1 (Ev.step (fun _ => spec_cuGood.j0.eq_2 ..) (ev_pos rfl (ev_some rfl)))
end Go.Proofs.Ytdfcljfajiihdaa.Pure

namespace Go.Proofs.Ytdfcljfajiihdaa.P
set_option linter.unusedVariables false
set_option linter.unusedSimpArgs false
open Go.RowKit Go.Proofs.YtdfcljfajiihdaaW.PrintWords Go.Proofs.YtdfcljfajiihdaaW.PrintLast Go.Proofs.YtdfcljfajiihdaaW.PrintMore Go.Proofs.Ytdfcljfajiihdaa.T Go.Proofs.Ytdfcljfajiihdaa.Aid Go.Proofs.Ytdfcljfajiihdaa.Sk Go.Sort
def okQ (q : Sq) : Bool := decide (-100000000000000000 ≤ q.f0) && decide (q.f0 ≤ 100000000000000000) && decide (-100000000000000000 ≤ q.f1) && decide (q.f1 ≤ 100000000000000000)
theorem okQ_iff {q : Sq} : okQ q = true ↔ ((-100000000000000000 ≤ q.f0 ∧ q.f0 ≤ 100000000000000000) ∧ -100000000000000000 ≤ q.f1) ∧ q.f1 ≤ 100000000000000000 := by
  simp [okQ, and_assoc]
abbrev BSq := { q : Sq // okQ q = true }
instance : Inhabited BSq := ⟨⟨⟨0, 0, 0⟩, by decide⟩⟩
def cfB (x y : BSq) : Int := cmpP x.1 y.1
theorem ltC_b (x y : BSq) : ltC cfB x y = ltb x.1 y.1 := by
  have hx := okQ_iff.1 x.2
  have hy := okQ_iff.1 y.2
  unfold ltC cfB cmpP ltb
  by_cases c : x.1.f1 = y.1.f1
  · rw [if_pos c, w64 (by omega) (by omega), decide_eq_false (show ¬ x.1.f1 < y.1.f1 by omega), decide_eq_true c, Bool.false_or, Bool.true_and]
    exact decide_eq_decide.2 (by omega)
  · rw [if_neg c, w64 (by omega) (by omega), decide_eq_false c, Bool.false_and, Bool.or_false]
    exact decide_eq_decide.2 (by omega)
theorem swo_b : SWO (ltC cfB) where
  irrefl := fun x => by rw [ltC_b, ltb_not]; unfold Lt; omega
  trans := fun x y z h k => by rw [ltC_b, ltb_iff] at *; unfold Lt at *; omega
  ntrans := fun x y z h k => by rw [ltC_b] at *; exact ltb_ntrans _ _ _ h k
theorem lift_b (l : List Sq) (h : ∀ q ∈ l, okQ q = true) : ∃ L : List BSq, L.map (·.1) = l := ⟨l.attach.map (fun x => ⟨x.1, h x.1 x.2⟩), by simp⟩
theorem sorted_list {d d' : Array BSq} (hp : PermIn 0 d.size d d') (hs : SortedIn (ltC cfB) 0 d.size d') : (d'.toList.map (·.1)).Perm (d.toList.map (·.1)) ∧ Up ltb (d'.toList.map (·.1)) := by
  refine ⟨List.Perm.map _ ?_, ?_⟩
  · have h := hp.2.2
    rw [← hp.1] at h
    rw [Array.extract_size] at h
    rw [hp.1, Array.extract_size] at h
    exact h
  · unfold Up
    rw [List.pairwise_map, List.pairwise_iff_getElem]
    intro i j hi hj hij
    have h := hs i j (Nat.zero_le _) hij (by rw [← hp.1]; simpa using hj)
    rw [ltC_b] at h
    have e1 : d'[i]! = d'.toList[i] := by simp at hi; simp [hi]
    have e2 : d'[j]! = d'.toList[j] := by simp at hj; simp [hj]
    rw [e1, e2] at h
    exact h
end Go.Proofs.Ytdfcljfajiihdaa.P

namespace Go.Proofs.Ytdfcljfajiihdaa.P
open Go.RowKit Go.Proofs.YtdfcljfajiihdaaW.PrintWords Go.Proofs.YtdfcljfajiihdaaW.PrintLast Go.Proofs.YtdfcljfajiihdaaW.PrintMore
attribute [local go_sem] max2_int min2_int max_two min_two max_three min_three max_four min_four
set_option linter.unusedVariables false
set_option linter.unusedSimpArgs false
open Go.Proofs.Ytdfcljfajiihdaa.T Go.Proofs.Ytdfcljfajiihdaa.Aid Go.Proofs.Ytdfcljfajiihdaa.Sk Go.Sort
theorem good_same {W H : Int} {l l' : List Sq} (hp : l'.Perm l) (hu : Up ltb l') : isCutB W H l' = isCutB W H (srt l) ∧ (isCutB W H l' = true → l' = srt l) := by
  rw [Go.Proofs.Ytdfcljfajiihdaa.Pure.isCutB_good, Go.Proofs.Ytdfcljfajiihdaa.Pure.isCutB_good]
  by_cases h1 : goodB W H l' = true
  · have e := srt_eq hp (goodB_iff.1 h1).lt
    rw [e]
    exact ⟨rfl, fun _ => rfl⟩
  · refine ⟨?_, fun h => absurd h h1⟩
    by_cases h2 : goodB W H (srt l) = true
    · have e : srt l = l' := up_unique ((srt_perm l).trans hp.symm) ((goodB_iff.1 h2).lt.imp (fun h => ltb_iff.2 h)) hu
      rw [e]
    · rw [Bool.eq_false_iff.2 h1, Bool.eq_false_iff.2 h2]
def impl_cutOf.f (a0 a1 : Int) (l : List Sq) : Option (Int × Int × List Sq × Bool) := if 0 < l.length ∧ l.length ≤ 1000000 ∧ l.all okQ = true then (if isCutB a0 a1 (srt l) = true then some (a0, a1, srt l, true) else some (0, 0, [], false)) else none
theorem cmpSq_b : CmpSq Try.prog (fun x : BSq => x.1) cfB 77 where
  eg := enters_of Try.func77 (by kernel_rfl) rfl
  call := fun W x y => impl_comparePlaces.calls _ _ _ _ _ _ _ W (cmpP_f x.1 y.1)
theorem co_put3 {W : World} {B : Nat} {t : TypeId} {a b c x y z : Value} (h : W.heap[B]? = some (.cells #[a, b, c] t (0, 0))) : (((W.setCell ⟨B, 0, none⟩ x).setCell ⟨B, 1, none⟩ y).setCell ⟨B, 2, none⟩ z).heap[B]? = some (.cells #[x, y, z] t (0, 0)) := by
  have h1 := blk_put h 0 x rfl
  have h2 := blk_put h1 1 y rfl
  exact blk_put h2 2 z rfl
theorem co_below3 {N : Nat} {w W : World} (h : Below N w W) {B : Nat} (hB : N ≤ B) (x y z : Value) : Below N w (((W.setCell ⟨B, 0, none⟩ x).setCell ⟨B, 1, none⟩ y).setCell ⟨B, 2, none⟩ z) := sk_put (sk_put (sk_put h hB x) hB y) hB z
set_option maxHeartbeats 8000000 in
theorem impl_cutOf.calls (a0 a1 : Int) (A2 : Option Addr) (c2 : Nat) (l2 : List Sq) (r1 r2 : Int) (r3 : List Sq) (r4 : Bool) (w : World) (hr2 : Kd.C k56 w A2 l2.length l2) (hc2 : l2.length ≤ c2) (h : impl_cutOf.f a0 a1 l2 = some (r1, r2, r3, r4)) :
    Calls Try.prog 68 #[.int .i64 a0, .int .i64 a1, .slice A2 l2.length c2] w fun e w' => ∃ v2_ : Value, e = .returned (.tuple #[.agg #[.int .i64 r1, .int .i64 r2, v2_], .bool r4]) ∧ Kd.R k56 56 w' w.heap.size (fun _ => True) v2_ r3 ∧ Below w.heap.size w w' := by
  unfold impl_cutOf.f at h
  by_cases hl : 0 < l2.length ∧ l2.length ≤ 1000000 ∧ l2.all okQ = true
  · rw [if_pos hl] at h
    obtain ⟨hl0, hl1, hl2⟩ := hl
    obtain ⟨L, hL⟩ := lift_b l2 (fun q hq => List.all_eq_true.1 hl2 q hq)
    obtain ⟨n, hn⟩ : ∃ n, l2.length = n := ⟨_, rfl⟩
    have HSET : Aside0 (L.map (·.1) = l2 ∧ L.length = n ∧ l2.length = n ∧ 0 < n ∧ n ≤ 1000000) := ⟨hL, by rw [← hn, ← hL, List.length_map], hn, by omega, by omega⟩
    have HRES := Aside0.mk h
    have HCLO := Aside0.mk (fun (V : World) (hV : Below w.heap.size w V) => slices_Clone_sq l2 A2 c2 V (Kd.C_below hr2 hV) hc2 hl1)
    have HCUT : Aside0 (∀ l' A c V b, Kd.C k56 V A l'.length l' → l'.length ≤ c → isCutB a0 a1 l' = b → Calls Try.prog 45 #[.agg #[.int .i64 a0, .int .i64 a1, .slice A l'.length c]] V fun e w' => e = .returned (.bool b) ∧ Below V.heap.size V w') := ⟨fun l' A c V b h1 h2 h3 => impl_IsCut.calls a0 a1 A c l' b V h1 h2 (by unfold impl_IsCut.f; rw [h3])⟩
    have hu29 := Try.underlying37
    rw [hn]
    clear h hl0 hl1 hl2 hL hr2 hc2 hn
    go_enter Try.func68, Try.ntmps68
    have HW1 : Aside0 (Below w.heap.size w (w.alloc (.cells #[.int .i64 0, .int .i64 0, .slice none 0 0] 37))) := ⟨below_alloc (Below.refl _ _) _⟩
    have HC1 := Aside0.mk (HCLO.out _ HW1.out)
    rw [HSET.out.2.2.1] at HC1
    have HRX1 := Aside0.mk (heap_alloc_new w (.cells #[.int .i64 0, .int .i64 0, .slice none 0 0] 37))
    go_upto_region 2 with (first | (go_at_call 88; refine HC1.out.mono ?_; rintro e w1 ⟨v, rfl, ho, hb⟩; obtain ⟨g, cap, hv, hg0, hg1, _⟩ := Kd.R_form ho (by have := HSET.out; omega); rw [HSET.out.2.2.1] at hv; subst hv; have HO := Aside0.mk ho; have HB := Aside0.mk hb; clear ho hb))
    have HLT : Aside0 (w.heap.size < g ∧ g < w1.heap.size ∧ w.heap.size < w1.heap.size) := ⟨by have := HB.out.size; simp at hg0 this; omega⟩
    have HRX2 := Aside0.mk (blk_below HRX1.out HB.out)
    have HW2 : Aside0 (Below w.heap.size w (w1.alloc (.cells #[.int .i64 a0, .int .i64 a1, .slice (some ⟨g, 0, none⟩) n cap] 37))) := ⟨below_alloc (HW1.out.trans (HB.out.mono (by simp))) _⟩
    have HSB : Aside0 (SB (fun x : BSq => x.1) w.heap.size (w1.alloc (.cells #[.int .i64 a0, .int .i64 a1, .slice (some ⟨g, 0, none⟩) n cap] 37)) g cap L.toArray (w1.alloc (.cells #[.int .i64 a0, .int .i64 a1, .slice (some ⟨g, 0, none⟩) n cap] 37))) := ⟨⟨by
      have h1 := Kd.R_mono (ok' := fun k => k = g) (Kd.R_tight rfl (Kd.R_lower HO.out (base' := w.heap.size) (by simp))) (fun k hk => by simpa [Value.ownBlock] using hk)
      rw [show (L.toArray).size = n by simpa using HSET.out.2.1]
      show Kd.R _ _ _ _ _ _ (L.map (·.1))
      rw [HSET.out.1]
      exact Kd.R_alloc h1 _, Kept.refl _ _, Below.refl _ _⟩⟩
    have HSORT := Aside0.mk (sortStable_sq swo_b cmpSq_b L.toArray n (by simpa using HSET.out.2.1) HSB.out (by have := HSET.out; omega))
    have HBX2 := Aside0.mk (heap_alloc_new w1 (.cells #[.int .i64 a0, .int .i64 a1, .slice (some ⟨g, 0, none⟩) n cap] 37))
    have HRX3 := Aside0.mk (blk_alloc HRX2.out (.cells #[.int .i64 a0, .int .i64 a1, .slice (some ⟨g, 0, none⟩) n cap] 37))
    clear hg0 hg1 HO HB HC1 HW1 HRX1 HRX2 HSB
    go_upto_region 3 with (first | (go_at_call 92; refine HSORT.out.mono ?_; rintro e w3 ⟨rfl, d', hP, hS, hB⟩; have HP := Aside0.mk (And.intro hP hS); have HS := Aside0.mk hB; clear hP hS hB))
    have hsz0 : (L.toArray).size = n := by simpa using HSET.out.2.1
    have hpp := HP.out
    rw [← hsz0] at hpp
    have hso := sorted_list hpp.1 hpp.2
    have hgs := good_same (W := a0) (H := a1) hso.1 hso.2
    have hll : (L.toArray).toList.map (fun x : BSq => x.1) = l2 := HSET.out.1
    rw [hll] at hgs
    have hd' : d'.size = n := HP.out.1.1.trans hsz0
    obtain ⟨l', hl'⟩ : ∃ l', d'.toList.map (fun x : BSq => x.1) = l' := ⟨_, rfl⟩
    have hrow := HS.out.row
    rw [hl', hd'] at hrow
    change isCutB a0 a1 (d'.toList.map (fun x : BSq => x.1)) = _ ∧ _ at hgs
    rw [hl'] at hgs
    have hrd := Kd.R_reads' hrow
    have HGS := Aside0.mk hgs
    have HROW := Aside0.mk hrow
    have HBX := Aside0.mk (blk_kept HBX2.out HS.out.kept (by have := HLT.out; omega))
    have HRX := Aside0.mk (blk_kept HRX3.out HS.out.kept (by have := HLT.out; omega))
    have HW3 := Aside0.mk (HW2.out.trans HS.out.be)
    have HGZ : Aside0 (w.heap.size < w1.heap.size) := ⟨HLT.out.2.2⟩
    have HCALL := Aside0.mk (HCUT.out l' (some ⟨g, 0, none⟩) cap w3 (isCutB a0 a1 l') hrd.2.2 (by rw [← hrd.1]; exact hrd.2.1) rfl)
    rw [← hrd.1] at HCALL
    have n0 : w3.cell? ⟨w1.heap.size, 0, none⟩ = some (.int .i64 a0) := (blk_cell HBX.out 0).trans rfl
    have n1 : w3.cell? ⟨w1.heap.size, 1, none⟩ = some (.int .i64 a1) := (blk_cell HBX.out 1).trans rfl
    have n2 : w3.cell? ⟨w1.heap.size, 2, none⟩ = some (.slice (some ⟨g, 0, none⟩) n cap) := (blk_cell HBX.out 2).trans rfl
    clear hsz0 hpp hso hgs hll hd' hl' hrow hrd HP HS HCUT HCLO HSORT HW2 HLT HRX3 HBX2
    have h := HRES.out
    rw [← HGS.out.1] at h
    have HWL := Aside0.mk (show w.heap.size ≤ w3.heap.size from HW3.out.size)
    cases hb : isCutB a0 a1 l' with
    | false =>
      rw [hb] at h HCALL
      rw [if_neg (by decide)] at h
      obtain ⟨rfl, rfl, rfl, rfl⟩ : (0 : Int) = r1 ∧ (0 : Int) = r2 ∧ [] = r3 ∧ false = r4 := by simpa using h
      clear h hb
      go_wp2_with (first | (go_at_call 45; refine HCALL.out.mono ?_; rintro e w4 ⟨rfl, hb⟩; have HB4 := Aside0.mk hb; have hx := blk_below HRX.out hb; have HX4 := Aside0.mk hx; have m0 : w4.cell? ⟨w.heap.size, 0, none⟩ = some (.int .i64 0) := (blk_cell hx 0).trans rfl; have m1 : w4.cell? ⟨w.heap.size, 1, none⟩ = some (.int .i64 0) := (blk_cell hx 1).trans rfl; have m2 : w4.cell? ⟨w.heap.size, 2, none⟩ = some (.slice none 0 0) := (blk_cell hx 2).trans rfl; have f0 := blk_frozen hx 0; have f1 := blk_frozen hx 1; have f2 := blk_frozen hx 2; clear hx hb))
      refine bodyPost_ret (results_ct rfl _ _ w.heap.size 37 #[.int .i64 0, .int .i64 0, .slice none 0 0] (0, 0) _ rfl (co_put3 HX4.out) Try.underlying37 rfl (by kernel_rfl)) rfl ?_
      exact ⟨_, rfl, Kd.R_nil _ _ _ _ _, co_below3 (HW3.out.trans (HB4.out.mono HWL.out)) (Nat.le_refl _) _ _ _⟩
    | true =>
      have hls := HGS.out.2 hb
      rw [hb] at h HCALL
      rw [if_pos rfl] at h
      obtain ⟨rfl, rfl, rfl, rfl⟩ : a0 = r1 ∧ a1 = r2 ∧ srt l2 = r3 ∧ true = r4 := by simpa using h
      have HLS := Aside0.mk hls
      clear h hb hls
      go_wp2_with (first | (go_at_call 45; refine HCALL.out.mono ?_; rintro e w4 ⟨rfl, hb⟩; have HB4 := Aside0.mk hb; have hx := blk_below HRX.out hb; have HX4 := Aside0.mk hx; have m0 : w4.cell? ⟨w.heap.size, 0, none⟩ = some (.int .i64 0) := (blk_cell hx 0).trans rfl; have m1 : w4.cell? ⟨w.heap.size, 1, none⟩ = some (.int .i64 0) := (blk_cell hx 1).trans rfl; have m2 : w4.cell? ⟨w.heap.size, 2, none⟩ = some (.slice none 0 0) := (blk_cell hx 2).trans rfl; have f0 := blk_frozen hx 0; have f1 := blk_frozen hx 1; have f2 := blk_frozen hx 2; have hy := blk_below HBX.out hb; have k0 : w4.cell? ⟨w1.heap.size, 0, none⟩ = some (.int .i64 a0) := (blk_cell hy 0).trans rfl; have k1 : w4.cell? ⟨w1.heap.size, 1, none⟩ = some (.int .i64 a1) := (blk_cell hy 1).trans rfl; have k2 : w4.cell? ⟨w1.heap.size, 2, none⟩ = some (.slice (some ⟨g, 0, none⟩) n cap) := (blk_cell hy 2).trans rfl; clear hx hy hb))
      refine bodyPost_ret (results_ct rfl _ _ w.heap.size 37 #[.int .i64 a0, .int .i64 a1, .slice (some ⟨g, 0, none⟩) n cap] (0, 0) _ rfl (co_put3 HX4.out) Try.underlying37 rfl (by kernel_rfl)) rfl ?_
      have h1 := Kd.R_types (Kd.R_below HROW.out HB4.out) HX4.out (by decide)
      refine ⟨_, rfl, ?_, co_below3 (HW3.out.trans (HB4.out.mono HWL.out)) (Nat.le_refl _) _ _ _⟩
      rw [← HLS.out]
      exact Kd.R_mono (Kd.R_far (p := ⟨w.heap.size, 2, none⟩) (Kd.R_far (p := ⟨w.heap.size, 1, none⟩) (Kd.R_far (p := ⟨w.heap.size, 0, none⟩) h1 (fun _ hk => hk.2) _) (fun _ hk => hk.2) _) (fun _ hk => hk.2) _) (fun _ _ => trivial)
  · rw [if_neg hl] at h; cases h
end Go.Proofs.Ytdfcljfajiihdaa.P

namespace Go.Proofs.Ytdfcljfajiihdaa.P
open Go.RowKit Go.Proofs.YtdfcljfajiihdaaW.PrintWords Go.Proofs.YtdfcljfajiihdaaW.PrintLast Go.Proofs.YtdfcljfajiihdaaW.PrintMore
attribute [local go_sem] max2_int min2_int max_two min_two max_three min_three max_four min_four
set_option linter.unusedVariables false
set_option linter.unusedSimpArgs false
def impl_CutByLines.f (k : Nat) (a0 : Int) (a1 : Int) : Option (Int × Int × (List (S56)) × Bool) := (impl_isLined.f a0 a1).bind fun t102 => (if t102 = true then ((impl_byLines.f k a0 a1).bind fun t103 => ((impl_lined.f k t103 0 0 a0 a1).bind fun t106 => ((impl_cutOf.f a0 a1 t106).bind fun bt109 => (some (bt109.1, bt109.2.1, bt109.2.2.1, bt109.2.2.2))))) else (some (0, 0, ([] : List (S56)), false)))
set_option maxHeartbeats 8000000 in
set_option maxRecDepth 100000 in
theorem impl_CutByLines.calls (k : Nat) (a0 : Int) (a1 : Int) (r1 : Int) (r2 : Int) (r3 : List (S56)) (r4 : Bool) (w : World) (h : impl_CutByLines.f k a0 a1 = some (r1, r2, r3, r4)) :
    Calls Try.prog 29 #[.int .i64 a0, .int .i64 a1] w fun e w' => ∃ v2_ : Value, e = .returned (.tuple #[.agg #[.int .i64 r1, .int .i64 r2, v2_], .bool r4]) ∧ Kd.R k56 56 w' w.heap.size (fun _ => True) v2_ r3 ∧ Below w.heap.size w w' := by
  have hu37 := Try.underlying37
  have HB := Aside0.mk (Below.refl w.heap.size w)
  have H : ((impl_isLined.f a0 a1).bind fun t102 => (if t102 = true then ((impl_byLines.f k a0 a1).bind fun t103 => ((impl_lined.f k t103 0 0 a0 a1).bind fun t106 => ((impl_cutOf.f a0 a1 t106).bind fun bt109 => (some (bt109.1, bt109.2.1, bt109.2.2.1, bt109.2.2.2))))) else (some (0, 0, ([] : List (S56)), false)))) = some (r1, r2, r3, r4) := h
  clear h
  replace H := Option.bind_eq_some_iff.mp H
  obtain ⟨t102, A30, H⟩ := H
  replace H : (if t102 = true then ((impl_byLines.f k a0 a1).bind fun t103 => ((impl_lined.f k t103 0 0 a0 a1).bind fun t106 => ((impl_cutOf.f a0 a1 t106).bind fun bt109 => (some (bt109.1, bt109.2.1, bt109.2.2.1, bt109.2.2.2))))) else (some (0, 0, ([] : List (S56)), false))) = some (r1, r2, r3, r4) := H
  have A3 := Aside0.mk A30
  clear A30
  by_cases c4 : t102 = true
  · subst c4
    have H1 : ((impl_byLines.f k a0 a1).bind fun t103 => ((impl_lined.f k t103 0 0 a0 a1).bind fun t106 => ((impl_cutOf.f a0 a1 t106).bind fun bt109 => (some (bt109.1, bt109.2.1, bt109.2.2.1, bt109.2.2.2))))) = some (r1, r2, r3, r4) := by rw [if_pos rfl] at H; exact H
    clear H
    have H := H1
    clear H1
    replace H := Option.bind_eq_some_iff.mp H
    obtain ⟨t103, A50, H⟩ := H
    replace H : ((impl_lined.f k t103 0 0 a0 a1).bind fun t106 => ((impl_cutOf.f a0 a1 t106).bind fun bt109 => (some (bt109.1, bt109.2.1, bt109.2.2.1, bt109.2.2.2)))) = some (r1, r2, r3, r4) := H
    have A5 := Aside0.mk A50
    clear A50
    replace H := Option.bind_eq_some_iff.mp H
    obtain ⟨t106, A60, H⟩ := H
    replace H : ((impl_cutOf.f a0 a1 t106).bind fun bt109 => (some (bt109.1, bt109.2.1, bt109.2.2.1, bt109.2.2.2))) = some (r1, r2, r3, r4) := H
    have A6 := Aside0.mk A60
    clear A60
    replace H := Option.bind_eq_some_iff.mp H
    obtain ⟨⟨t109, t110, t111, t114⟩, A70, H⟩ := H
    replace H : (some (t109, t110, t111, t114)) = some (r1, r2, r3, r4) := H
    have A7 := Aside0.mk A70
    clear A70
    simp only [Option.some.injEq, Prod.mk.injEq] at H
    obtain ⟨rfl, rfl, rfl, rfl⟩ := H
    go_enter Try.func29, Try.ntmps29
    go_wp2_with (first | ((with_reducible refine gate_dst (N := 4) rfl ?_); refine box_event ?hg (N := 4) ?hd (cs := #[.int .i64 0, .int .i64 0, .slice none 0 0]) (t := 37) ?hr ?_; (case hd => rfl); (case hg => rfl); (case hr => first | (go_simp; done) | (go_simp; rfl)); intro gb101 hg w8 hbox hb; have n0_ := Aside0.mk (below_step (by repeat (first | (with_reducible first | exact HB.out | apply below_alloc | apply pw_below_drewN | apply below_drew1) | exact HB.out)) hb); have n1_ := Aside0.mk (hbox); have n2_ := Aside0.mk ((by rw [hg]; exact (below_size (by repeat (first | (with_reducible first | exact HB.out | apply below_alloc | apply pw_below_drewN | apply below_drew1) | exact HB.out))) : w.heap.size ≤ gb101)); have n3_ := Aside0.mk ((by rw [hg]; exact (below_size (by repeat (first | (with_reducible first | exact HB.out | apply below_alloc | apply pw_below_drewN | apply below_drew1) | exact HB.out))) : w.heap.size ≤ gb101)); clear HB; have HB := n0_; have BK101 := n1_; have GW101 := n2_; have GE101 := n3_; clear n0_ n1_ n2_ n3_; clear hb hbox hg) | ((with_reducible refine gate_callee (f := 67) rfl ?_); refine goesL_ (some 8) rfl rfl Try.func67 (by kernel_rfl) rfl #[.int .i64 a0, .int .i64 a1] rfl (by (try simp only [List.map_toArray, List.map_cons, List.map_nil]); first | done | rfl | (simp only [List.length_drop, List.length_take]; rfl)) ?_; (with_reducible refine (impl_isLined.calls a0 a1 true _ A3.out).mono ?_); rintro e w' ⟨rfl, ⟨nd, rfl⟩⟩; refine ⟨_, rfl, ?_⟩; (try (rw [drewN_self w8]; generalize hq_ : World.drewN w8 _ = w8; have n0_ : Aside0 (w8.heap[gb101]? = some (.cells #[.int .i64 0, .int .i64 0, .slice none 0 0] 37 (0, 0))) := ⟨by rw [← hq_]; exact (by (with_reducible repeat (first | refine blk_drewN ?_ _ | refine blk_drew ?_ | refine blk_alloc ?_ _)); exact BK101.out)⟩; have n1_ : Aside0 (Below w.heap.size w w8) := ⟨by rw [← hq_]; exact (by repeat (first | (with_reducible first | exact HB.out | apply below_alloc | apply pw_below_drewN | apply below_drew1 | refine below_set ?_ GE101.out) | exact HB.out))⟩; clear BK101 HB hq_; have BK101 := n0_; have HB := n1_; clear n0_ n1_))) | ((with_reducible refine gate_callee (f := 33) rfl ?_); refine goesL_ (some 15) rfl rfl Try.func33 (by kernel_rfl) rfl #[.int .i64 a0, .int .i64 a1] rfl (by (try simp only [List.map_toArray, List.map_cons, List.map_nil]); first | done | rfl | (simp only [List.length_drop, List.length_take]; rfl)) ?_; (with_reducible refine (impl_byLines.calls k a0 a1 t103 _ A5.out).mono ?_); rintro e w9 ⟨v104, rfl, ho0, hb⟩; refine ⟨_, rfl, ?_⟩; have n0_ := Aside0.mk (Kd.S_lower ho0 (below_size (by repeat (first | (with_reducible first | exact HB.out | apply below_alloc | apply pw_below_drewN | apply below_drew1 | refine below_set ?_ GE101.out) | exact HB.out)))); have n1_ := Aside0.mk (blk_below (g := gb101) (o := .cells #[.int .i64 0, .int .i64 0, .slice none 0 0] 37 (0, 0)) (by (with_reducible repeat (first | refine blk_drewN ?_ _ | refine blk_drew ?_ | refine blk_alloc ?_ _)); exact BK101.out) hb); have n2_ := Aside0.mk (below_step (by repeat (first | (with_reducible first | exact HB.out | apply below_alloc | apply pw_below_drewN | apply below_drew1 | refine below_set ?_ GE101.out) | exact HB.out)) hb); clear BK101; clear HB; have HO105 := n0_; have BK101 := n1_; have HB := n2_; clear n0_ n1_ n2_; (try clear hb); (try clear hb2); (try clear hk); (try clear hi); (try clear ho0); obtain ⟨Ao10, co10, eo10⟩ := Kd.S_slice HO105.out; subst eo10) | ((with_reducible refine gate_callee (f := 69) rfl ?_); refine goesL_ (some 18) rfl rfl Try.func69 (by kernel_rfl) rfl #[.slice Ao10 t103.length co10, .int .i64 0, .int .i64 0, .int .i64 a0, .int .i64 a1] rfl (by (try simp only [List.map_toArray, List.map_cons, List.map_nil]); first | done | rfl | (simp only [List.length_drop, List.length_take]; rfl)) ?_; (with_reducible refine (impl_lined.calls k _ _ t103 0 0 a0 a1 t106 _ ?side1 ?side2 A6.out).mono ?_); (case side1 => repeat (first | exact (Kd.S_reads' HO105.out).2.2 | (with_reducible refine Kd.C_alloc ?_ _) | (with_reducible refine Kd.C_drewN ?_ _) | (with_reducible refine Kd.C_drew ?_))); (case side2 => exact (Kd.S_reads' HO105.out).2.1); rintro e w11 ⟨v107, rfl, ho0, hb⟩; refine ⟨_, rfl, ?_⟩; have n0_ := Aside0.mk (Kd.S_below (by (with_reducible repeat (first | apply Kd.S_alloc | apply Kd.S_drewN | apply Kd.S_drew)); exact HO105.out) hb); have n1_ := Aside0.mk (Kd.R_lower ho0 (below_size (by repeat (first | (with_reducible first | exact HB.out | apply below_alloc | apply pw_below_drewN | apply below_drew1 | refine below_set ?_ GE101.out) | exact HB.out)))); have n2_ := Aside0.mk (blk_below (g := gb101) (o := .cells #[.int .i64 0, .int .i64 0, .slice none 0 0] 37 (0, 0)) (by (with_reducible repeat (first | refine blk_drewN ?_ _ | refine blk_drew ?_ | refine blk_alloc ?_ _)); exact BK101.out) hb); have n3_ := Aside0.mk (below_step (by repeat (first | (with_reducible first | exact HB.out | apply below_alloc | apply pw_below_drewN | apply below_drew1 | refine below_set ?_ GE101.out) | exact HB.out)) hb); clear HO105; clear BK101; clear HB; have HO105 := n0_; have HO108 := n1_; have BK101 := n2_; have HB := n3_; clear n0_ n1_ n2_ n3_; (try clear hb); (try clear hb2); (try clear hk); (try clear hi); (try clear ho0); obtain ⟨Ao12, co12, eo12⟩ := Kd.R_slice HO108.out; subst eo12) | ((with_reducible refine gate_callee (f := 68) rfl ?_); refine goesL_ (some 19) rfl rfl Try.func68 (by kernel_rfl) rfl #[.int .i64 a0, .int .i64 a1, .slice Ao12 t106.length co12] rfl (by (try simp only [List.map_toArray, List.map_cons, List.map_nil]); first | done | rfl | (simp only [List.length_drop, List.length_take]; rfl)) ?_; (with_reducible refine (impl_cutOf.calls a0 a1 _ _ t106 t109 t110 t111 t114 _ ?side1 ?side2 A7.out).mono ?_); (case side1 => repeat (first | exact (Kd.R_reads' HO108.out).2.2 | (with_reducible refine Kd.C_alloc ?_ _) | (with_reducible refine Kd.C_drewN ?_ _) | (with_reducible refine Kd.C_drew ?_))); (case side2 => exact (Kd.R_reads' HO108.out).2.1); rintro e w13 ⟨v112, rfl, ho0, hb⟩; refine ⟨_, rfl, ?_⟩; have n0_ := Aside0.mk (Kd.S_below (by (with_reducible repeat (first | apply Kd.S_alloc | apply Kd.S_drewN | apply Kd.S_drew)); exact HO105.out) hb); have n1_ := Aside0.mk (Kd.R_elder' (by (with_reducible repeat (first | apply Kd.R_alloc | apply Kd.R_drewN | apply Kd.R_drew)); exact HO108.out) (Kd.R_base ho0) hb); have n2_ := Aside0.mk (Kd.R_lower (Kd.R_new' ho0 (Kd.R_lt (by (with_reducible repeat (first | apply Kd.R_alloc | apply Kd.R_drewN | apply Kd.R_drew)); exact HO108.out))) (below_size (by repeat (first | (with_reducible first | exact HB.out | apply below_alloc | apply pw_below_drewN | apply below_drew1 | refine below_set ?_ GE101.out) | exact HB.out)))); have n3_ := Aside0.mk (blk_below (g := gb101) (o := .cells #[.int .i64 0, .int .i64 0, .slice none 0 0] 37 (0, 0)) (by (with_reducible repeat (first | refine blk_drewN ?_ _ | refine blk_drew ?_ | refine blk_alloc ?_ _)); exact BK101.out) hb); have n4_ := Aside0.mk (below_step (by repeat (first | (with_reducible first | exact HB.out | apply below_alloc | apply pw_below_drewN | apply below_drew1 | refine below_set ?_ GE101.out) | exact HB.out)) hb); clear HO105; clear HO108; clear BK101; clear HB; have HO105 := n0_; have HO108 := n1_; have HO113 := n2_; have BK101 := n3_; have HB := n4_; clear n0_ n1_ n2_ n3_ n4_; (try clear hb); (try clear hb2); (try clear hk); (try clear hi); (try clear ho0); have hcz14_0 : w13.cell? ⟨gb101, 0, none⟩ = some (.int .i64 0) := (blk_cell BK101.out 0).trans rfl; have hcz14_1 : w13.cell? ⟨gb101, 1, none⟩ = some (.int .i64 0) := (blk_cell BK101.out 1).trans rfl; have hcz14_2 : w13.cell? ⟨gb101, 2, none⟩ = some (.slice none 0 0) := (blk_cell BK101.out 2).trans rfl; have hfz14_0 := blk_frozen BK101.out 0; have hfz14_1 := blk_frozen BK101.out 1; have hfz14_2 := blk_frozen BK101.out 2; obtain ⟨Ao15, co15, eo15⟩ := Kd.R_slice HO113.out; subst eo15))
    refine bodyPost_ret (results_ct rfl _ _ gb101 37 #[.int .i64 t109, .int .i64 t110, .slice Ao15 t111.length co15] (0, 0) _ rfl (by (with_reducible repeat (first | refine blk_drewN ?_ _ | refine blk_drew ?_ | refine blk_alloc ?_ _)); refine blk_put (cs := #[.int .i64 t109, .int .i64 t110, .slice none 0 0]) ?_ 2 _ rfl; (with_reducible repeat (first | refine blk_drewN ?_ _ | refine blk_drew ?_ | refine blk_alloc ?_ _)); refine blk_put (cs := #[.int .i64 t109, .int .i64 0, .slice none 0 0]) ?_ 1 _ rfl; (with_reducible repeat (first | refine blk_drewN ?_ _ | refine blk_drew ?_ | refine blk_alloc ?_ _)); refine blk_put (cs := #[.int .i64 0, .int .i64 0, .slice none 0 0]) ?_ 0 _ rfl; (with_reducible repeat (first | refine blk_drewN ?_ _ | refine blk_drew ?_ | refine blk_alloc ?_ _)); exact BK101.out) Try.underlying37 rfl (by kernel_rfl)) rfl ?_
    exact ⟨_, by first | rfl | (simp [errW_none, errW_some] <;> rfl) | (simp [*, errW_none, errW_some] <;> rfl), by (with_reducible repeat (first | apply Kd.R_alloc | apply Kd.R_drewN | apply Kd.R_drew)); exact Kd.R_mono (Kd.R_far (p := ⟨gb101, 2, none⟩) (Kd.R_far (p := ⟨gb101, 1, none⟩) (Kd.R_far (p := ⟨gb101, 0, none⟩) (Kd.R_types HO113.out BK101.out (by decide)) (fun _ hk => hk.2) (.int .i64 t109)) (fun _ hk => hk.2) (.int .i64 t110)) (fun _ hk => hk.2) (.slice Ao15 t111.length co15)) (fun _ hk => trivial), by repeat (first | (with_reducible first | exact HB.out | apply below_alloc | apply pw_below_drewN | apply below_drew1 | refine below_set ?_ GE101.out) | exact HB.out)⟩
  · replace c4 := Bool.eq_false_iff.mpr c4
    subst c4
    have H1 : (some (0, 0, ([] : List (S56)), false)) = some (r1, r2, r3, r4) := by rw [if_neg (show ¬ (false = true) by decide)] at H; exact H
    clear H
    have H := H1
    clear H1
    simp only [Option.some.injEq, Prod.mk.injEq] at H
    obtain ⟨rfl, rfl, rfl, rfl⟩ := H
    go_enter Try.func29, Try.ntmps29
    go_wp2_with (first | ((with_reducible refine gate_dst (N := 4) rfl ?_); refine box_event ?hg (N := 4) ?hd (cs := #[.int .i64 0, .int .i64 0, .slice none 0 0]) (t := 37) ?hr ?_; (case hd => rfl); (case hg => rfl); (case hr => first | (go_simp; done) | (go_simp; rfl)); intro gb101 hg w16 hbox hb; have n0_ := Aside0.mk (below_step (by repeat (first | (with_reducible first | exact HB.out | apply below_alloc | apply pw_below_drewN | apply below_drew1) | exact HB.out)) hb); have n1_ := Aside0.mk (hbox); have n2_ := Aside0.mk ((by rw [hg]; exact (below_size (by repeat (first | (with_reducible first | exact HB.out | apply below_alloc | apply pw_below_drewN | apply below_drew1) | exact HB.out))) : w.heap.size ≤ gb101)); have n3_ := Aside0.mk ((by rw [hg]; exact (below_size (by repeat (first | (with_reducible first | exact HB.out | apply below_alloc | apply pw_below_drewN | apply below_drew1) | exact HB.out))) : w.heap.size ≤ gb101)); clear HB; have HB := n0_; have BK101 := n1_; have GW101 := n2_; have GE101 := n3_; clear n0_ n1_ n2_ n3_; clear hb hbox hg) | ((with_reducible refine gate_callee (f := 67) rfl ?_); refine goesL_ (some 8) rfl rfl Try.func67 (by kernel_rfl) rfl #[.int .i64 a0, .int .i64 a1] rfl (by (try simp only [List.map_toArray, List.map_cons, List.map_nil]); first | done | rfl | (simp only [List.length_drop, List.length_take]; rfl)) ?_; (with_reducible refine (impl_isLined.calls a0 a1 false _ A3.out).mono ?_); rintro e w' ⟨rfl, ⟨nd, rfl⟩⟩; refine ⟨_, rfl, ?_⟩; (try (rw [drewN_self w16]; generalize hq_ : World.drewN w16 _ = w16; have n0_ : Aside0 (w16.heap[gb101]? = some (.cells #[.int .i64 0, .int .i64 0, .slice none 0 0] 37 (0, 0))) := ⟨by rw [← hq_]; exact (by (with_reducible repeat (first | refine blk_drewN ?_ _ | refine blk_drew ?_ | refine blk_alloc ?_ _)); exact BK101.out)⟩; have n1_ : Aside0 (Below w.heap.size w w16) := ⟨by rw [← hq_]; exact (by repeat (first | (with_reducible first | exact HB.out | apply below_alloc | apply pw_below_drewN | apply below_drew1 | refine below_set ?_ GE101.out) | exact HB.out))⟩; clear BK101 HB hq_; have BK101 := n0_; have HB := n1_; clear n0_ n1_)); have hcz17_0 : w16.cell? ⟨gb101, 0, none⟩ = some (.int .i64 0) := (blk_cell BK101.out 0).trans rfl; have hcz17_1 : w16.cell? ⟨gb101, 1, none⟩ = some (.int .i64 0) := (blk_cell BK101.out 1).trans rfl; have hcz17_2 : w16.cell? ⟨gb101, 2, none⟩ = some (.slice none 0 0) := (blk_cell BK101.out 2).trans rfl; have hfz17_0 := blk_frozen BK101.out 0; have hfz17_1 := blk_frozen BK101.out 1; have hfz17_2 := blk_frozen BK101.out 2))
    refine bodyPost_ret (results_ct rfl _ _ gb101 37 #[.int .i64 0, .int .i64 0, .slice none 0 0] (0, 0) _ rfl (by (with_reducible repeat (first | refine blk_drewN ?_ _ | refine blk_drew ?_ | refine blk_alloc ?_ _)); refine blk_put (cs := #[.int .i64 0, .int .i64 0, .slice none 0 0]) ?_ 2 _ rfl; (with_reducible repeat (first | refine blk_drewN ?_ _ | refine blk_drew ?_ | refine blk_alloc ?_ _)); refine blk_put (cs := #[.int .i64 0, .int .i64 0, .slice none 0 0]) ?_ 1 _ rfl; (with_reducible repeat (first | refine blk_drewN ?_ _ | refine blk_drew ?_ | refine blk_alloc ?_ _)); refine blk_put (cs := #[.int .i64 0, .int .i64 0, .slice none 0 0]) ?_ 0 _ rfl; (with_reducible repeat (first | refine blk_drewN ?_ _ | refine blk_drew ?_ | refine blk_alloc ?_ _)); exact BK101.out) Try.underlying37 rfl (by kernel_rfl)) rfl ?_
    exact ⟨_, by first | rfl | (simp [errW_none, errW_some] <;> rfl) | (simp [*, errW_none, errW_some] <;> rfl), by first | exact Kd.R_nil _ _ _ _ _ | exact Kd.N_nil _ _ _ _ _ | exact Kd.V_nil _ _ _ _ _ | exact Kd.Q_nil _ _ _ _ _ | exact Kd.S_nil _ _ _ _ _, by repeat (first | (with_reducible first | exact HB.out | apply below_alloc | apply pw_below_drewN | apply below_drew1 | refine below_set ?_ GE101.out) | exact HB.out)⟩
end Go.Proofs.Ytdfcljfajiihdaa.P

namespace Go.Proofs.Ytdfcljfajiihdaa.RowAid
open Go.RowKit Go.ChangeShapes Go.WideShapes Go.Deep Go.Joins Go.Proofs.YtdfcljfajiihdaaW.PrintWords Go.Proofs.Ytdfcljfajiihdaa.T
set_option linter.unusedVariables false
def kq : Kd Sq := Kd.iso (Kd.pair (Kd.int .i64) (Kd.pair (Kd.int .i64) (Kd.int .i64))) (fun x : Sq => (x.f0, x.f1, x.f2))
section
variable {H : Type} {enc : TypeId × Value → H} {P : Program} {w : World} {base : Nat} {spare : Nat → Bool} {held : Bool}
end
end Go.Proofs.Ytdfcljfajiihdaa.RowAid

namespace Go.Proofs.Ytdfcljfajiihdaa.LawAid
open Go.RowKit Go.Proofs.YtdfcljfajiihdaaW.PrintWords Go.Proofs.YtdfcljfajiihdaaW.PrintLast Go.Proofs.YtdfcljfajiihdaaW.PrintMore
theorem blk3 {W : World} {g : Nat} {t : TypeId} {a b c : Value} (h : W.heap[g]? = some (.cells #[a, b, c] t (0, 0))) : W.cell? ⟨g, 0, none⟩ = some a ∧ W.cell? ⟨g, 1, none⟩ = some b ∧ W.cell? ⟨g, 2, none⟩ = some c :=
  ⟨(blk_cell h 0).trans rfl, (blk_cell h 1).trans rfl, (blk_cell h 2).trans rfl⟩
section
variable {P : World → Prop} {w W W2 : World} {α : Type} {d : Kd α} {e base : Nat} {ok : Nat → Prop} {v u : Value} {xs : List α}
theorem hs_step (hb : Below W.heap.size W W2) (h : ∀ V, Below W.heap.size W V → P V) : ∀ V, Below W2.heap.size W2 V → P V := fun V hV => h V (hb.trans (hV.mono hb.size))
theorem hs_row (ho : d.R e W base ok v xs) (h : ∀ V, Below W.heap.size W V → P V) : ∀ V, Below W.heap.size W V → d.R e V base ok v xs ∧ P V := fun V hV => ⟨Kd.R_below ho hV, h V hV⟩
theorem hs_box {cs : Array Value} {t : TypeId} (n : Nat) (hn : W.heap.size = n) (h : ∀ V, Below W.heap.size W V → P V) : ∀ V, Below (W.alloc (.cells cs t (0, 0))).heap.size (W.alloc (.cells cs t (0, 0))) V → V.heap[n]? = some (.cells cs t (0, 0)) ∧ P V :=
  fun V hV => ⟨blk_below (by rw [← hn]; exact heap_alloc_new W _) hV, hs_step (below_alloc (Below.refl _ _) _) h V hV⟩
theorem ne_new {α' : Type} {d' : Kd α'} {e' base' : Nat} {ok' : Nat → Prop} {ys : List α'} (hu : d'.R e' W base' ok' u ys) (ho : d.R e W2 W.heap.size ok v xs) : ∀ k, v.ownBlock = some k → u.ownBlock = some k → False :=
  fun k h1 h2 => Nat.lt_irrefl _ (Nat.lt_of_lt_of_le (Kd.R_lt hu k h2) (Kd.R_base ho k h1))
theorem row_tight (hE : d.E = []) (ho : d.R e W2 W.heap.size ok v xs) (hb : Below w.heap.size w W) : d.R e W2 w.heap.size (fun k => some k = v.ownBlock) v xs := Kd.R_tight hE (Kd.R_lower ho hb.size)
theorem row_away' (h : d.R e W base (fun k => some k = v.ownBlock) v xs) (hk : Kept W W2 (fun k => some k = u.ownBlock)) (hn : ∀ k, u.ownBlock = some k → v.ownBlock = some k → False) : d.R e W2 base (fun k => some k = v.ownBlock) v xs :=
  Kd.R_step h (fun k ho hlt => hk.2 k hlt (fun hs => hn k hs.symm ho.symm))
theorem box_away {g t : Nat} {cs : Array Value} (h : W.heap[g]? = some (.cells cs t (0, 0))) (hr : d.R e W base ok u xs) (ht : e ≠ t) (hk : Kept W W2 (fun k => some k = u.ownBlock)) : W2.heap[g]? = some (.cells cs t (0, 0)) := blk_kept h hk (Kd.R_ne hr h ht)
theorem hs_blk {o : Obj} {g : Nat} (hb : W.heap[g]? = some o) (h : ∀ V, Below W.heap.size W V → P V) : ∀ V, Below W.heap.size W V → V.heap[g]? = some o ∧ P V := fun V hV => ⟨blk_below hb hV, h V hV⟩
theorem hs_start (hb : Below w.heap.size w W) : ∀ V, Below W.heap.size W V → Below w.heap.size w V := fun V hV => hb.trans (hV.mono hb.size)
end
end Go.Proofs.Ytdfcljfajiihdaa.LawAid

namespace Go.Proofs.Ytdfcljfajiihdaa.P
open Go.RowKit Go.Proofs.YtdfcljfajiihdaaW.PrintWords Go.Proofs.YtdfcljfajiihdaaW.PrintLast Go.Proofs.YtdfcljfajiihdaaW.PrintMore
attribute [local go_sem] max2_int min2_int max_two min_two max_three min_three max_four min_four
set_option linter.unusedVariables false
set_option linter.unusedSimpArgs false
open Go.Proofs.Ytdfcljfajiihdaa.T Go.Proofs.Ytdfcljfajiihdaa.LawAid
def laws_FnExactCutByLines.Pure : Prop := ∀ (a0 : Int) (a1 : Int), (Lit.int .i64 a0).wf = true → (Lit.int .i64 a1).wf = true → ∃ (r1 : Int) (r2 : Int) (r3 : List Sq) (r4 : Bool) (m1 : Int) (ym1 : List Sq), (∃ k, spec_CutByLines.f k a0 a1 = some (r1, r2, r3, r4)) ∧ (∃ k, impl_CutByLines.f k a0 a1 = some (r1, r2, r3, r4)) ∧ (∃ k, laws_eqCut.f k r1 r2 r3 r1 r2 r3 = some (true)) ∧ (∃ k, laws_markCut.f k r1 r2 r3 1 = some (m1, ym1)) ∧ (∃ k, laws_heldCut.f k r1 r2 ym1 1 = some (m1)) ∧ ¬ m1 < 0
set_option maxHeartbeats 8000000 in
set_option maxRecDepth 100000 in
theorem laws_FnExactCutByLines.walk (P : laws_FnExactCutByLines.Pure) (a0 : Int) (a1 : Int) (w : World) (u0_0 : (Lit.int .i64 a0).wf = true) (u1_0 : (Lit.int .i64 a1).wf = true)  :
    Calls Try.prog 8 #[.int .i64 a0, .int .i64 a1] w fun e w' => e = .returned (.bool true) ∧ Below w.heap.size w w' := by
  have hui := Try.underlying37
  have P := P a0 a1 u0_0 u1_0
  clear u0_0 u1_0
  obtain ⟨r1, r2, r3, r4, m1, ym1, g1, g2, g3, g4, g5, pm1⟩ := P
  have G1 := Aside0.mk g1
  have G2 := Aside0.mk g2
  have G3 := Aside0.mk g3
  have G4 := Aside0.mk g4
  have G5 := Aside0.mk g5
  have bm1 := decide_eq_false pm1
  clear g1 g2 g3 g4 g5 pm1
  go_enter Try.func8, Try.ntmps8
  have HS1 := Aside0.mk (hs_start (Below.refl w.heap.size w))
  go_wp2_with fail
  refine (spec_CutByLines.calls (k := _) (a0 := a0) (a1 := a1)  (w := _) (h := G1.out.choose_spec)).mono ?_
  rintro e w1 ⟨vw10, rfl, ho0, hb⟩
  replace ho0 := row_tight rfl ho0 (HS1.out _ (Below.refl _ _))
  obtain ⟨Aw10, cw10, rfl⟩ := Kd.R_slice ho0
  have HS2 := Aside0.mk (hs_row ho0 (hs_step hb HS1.out))
  clear HS1
  clear hb ho0
  have HS3 := Aside0.mk (hs_box (W := w1) (cs := #[.int .i64 r1, .int .i64 r2, .slice Aw10 r3.length cw10]) (t := 37) w1.heap.size rfl HS2.out)
  clear HS2
  go_wp2_with fail
  refine (impl_CutByLines.calls (k := _) (a0 := a0) (a1 := a1)  (w := _) (h := G2.out.choose_spec)).mono ?_
  rintro e w2 ⟨vw20, rfl, ho0, hb⟩
  have NEw20_w10 := Aside0.mk (ne_new (HS3.out _ (Below.refl _ _)).2.1 ho0)
  replace ho0 := row_tight rfl ho0 (HS3.out _ (Below.refl _ _)).2.2
  obtain ⟨Aw20, cw20, rfl⟩ := Kd.R_slice ho0
  have HS4 := Aside0.mk (hs_row ho0 (hs_step hb HS3.out))
  clear HS3
  clear hb ho0
  have HS5 := Aside0.mk (hs_box (W := w2) (cs := #[.int .i64 r1, .int .i64 r2, .slice Aw20 r3.length cw20]) (t := 37) w2.heap.size rfl HS4.out)
  clear HS4
  obtain ⟨x1a, x1b, x1c⟩ := blk3 (HS5.out _ (Below.refl _ _)).1
  obtain ⟨x2a, x2b, x2c⟩ := blk3 (HS5.out _ (Below.refl _ _)).2.2.1
  go_wp2_with fail
  refine (laws_eqCut.calls (k := _) (a0_0 := r1) (a0_1 := r2) (l0_2 := r3) (a1_0 := r1) (a1_1 := r2) (l1_2 := r3) (hr0_2 := (Kd.R_reads' (HS5.out _ (Below.refl _ _)).2.1).2.2) (hc0_2 := (Kd.R_reads' (HS5.out _ (Below.refl _ _)).2.1).2.1) (hr1_2 := (Kd.R_reads' (HS5.out _ (Below.refl _ _)).2.2.2.1).2.2) (hc1_2 := (Kd.R_reads' (HS5.out _ (Below.refl _ _)).2.2.2.1).2.1) (w := _) (h := G3.out.choose_spec)).mono ?_
  rintro e w3 ⟨rfl, hb⟩
  have HS6 := Aside0.mk (hs_step hb HS5.out)
  clear HS5
  clear hb
  clear x1a x1b x1c x2a x2b x2c
  obtain ⟨x3a, x3b, x3c⟩ := blk3 (HS6.out _ (Below.refl _ _)).1
  go_wp2_with fail
  refine (laws_markCut.calls _ r1 r2 (fun k_ => some k_ = (.slice Aw20 r3.length cw20 : Value).ownBlock) (.slice Aw20 r3.length cw20) r3 1 _ _ w _ (HS6.out _ (Below.refl _ _)).2.2.2.2 (HS6.out _ (Below.refl _ _)).2.1 G4.out.choose_spec).mono ?_
  rintro e w4 ⟨rfl, ho, hb, hk⟩
  have HLNw4 : Aside0 (r3.length = ym1.length) := ⟨(Kd.R_reads' ho).1⟩
  replace ho := Kd.R_tight rfl ho
  have HS7 := Aside0.mk (hs_blk (box_away (HS6.out _ (Below.refl _ _)).1 (HS6.out _ (Below.refl _ _)).2.1 (by decide) hk) (hs_row ho (hs_blk (box_away (HS6.out _ (Below.refl _ _)).2.2.1 (HS6.out _ (Below.refl _ _)).2.1 (by decide) hk) (hs_row (row_away' (HS6.out _ (Below.refl _ _)).2.2.2.1 hk NEw20_w10.out) (hs_start hb)))))
  clear HS6
  clear ho hb hk
  clear x3a x3b x3c
  obtain ⟨x4a, x4b, x4c⟩ := blk3 (HS7.out _ (Below.refl _ _)).1
  go_wp2_with fail
  have hc := laws_heldCut.calls (k := _) (a0_0 := r1) (a0_1 := r2) (l0_2 := ym1) (a1 := 1) (hr0_2 := (Kd.R_reads' (HS7.out _ (Below.refl _ _)).2.1).2.2) (hc0_2 := (by rw [← HLNw4.out]; exact (Kd.R_reads' (HS7.out _ (Below.refl _ _)).2.1).2.1)) (w := w4) (h := G5.out.choose_spec)
  rw [← HLNw4.out] at hc
  refine (hc).mono ?_
  rintro e w5 ⟨rfl, hb⟩
  have HS8 := Aside0.mk (hs_step hb HS7.out)
  clear HS7
  clear hb
  clear x4a x4b x4c
  clear hc
  go_wp2_with fail
  refine (impl_CutByLines.calls (k := _) (a0 := a0) (a1 := a1)  (w := _) (h := G2.out.choose_spec)).mono ?_
  rintro e w6 ⟨vw60, rfl, ho0, hb⟩
  have NEw60_w10 := Aside0.mk (ne_new (HS8.out _ (Below.refl _ _)).2.2.2.1 ho0)
  have NEw60_w20 := Aside0.mk (ne_new (HS8.out _ (Below.refl _ _)).2.1 ho0)
  replace ho0 := row_tight rfl ho0 (HS8.out _ (Below.refl _ _)).2.2.2.2
  obtain ⟨Aw60, cw60, rfl⟩ := Kd.R_slice ho0
  have HS9 := Aside0.mk (hs_row ho0 (hs_step hb HS8.out))
  clear HS8
  clear hb ho0
  have HS10 := Aside0.mk (hs_box (W := w6) (cs := #[.int .i64 r1, .int .i64 r2, .slice Aw60 r3.length cw60]) (t := 37) w6.heap.size rfl HS9.out)
  clear HS9
  obtain ⟨x5a, x5b, x5c⟩ := blk3 (HS10.out _ (Below.refl _ _)).1
  obtain ⟨x6a, x6b, x6c⟩ := blk3 (HS10.out _ (Below.refl _ _)).2.2.2.2.1
  go_wp2_with fail
  refine (laws_eqCut.calls (k := _) (a0_0 := r1) (a0_1 := r2) (l0_2 := r3) (a1_0 := r1) (a1_1 := r2) (l1_2 := r3) (hr0_2 := (Kd.R_reads' (HS10.out _ (Below.refl _ _)).2.1).2.2) (hc0_2 := (Kd.R_reads' (HS10.out _ (Below.refl _ _)).2.1).2.1) (hr1_2 := (Kd.R_reads' (HS10.out _ (Below.refl _ _)).2.2.2.2.2.1).2.2) (hc1_2 := (Kd.R_reads' (HS10.out _ (Below.refl _ _)).2.2.2.2.2.1).2.1) (w := _) (h := G3.out.choose_spec)).mono ?_
  rintro e w7 ⟨rfl, hb⟩
  have HS11 := Aside0.mk (hs_step hb HS10.out)
  clear HS10
  clear hb
  clear x5a x5b x5c x6a x6b x6c
  obtain ⟨x7a, x7b, x7c⟩ := blk3 (HS11.out _ (Below.refl _ _)).2.2.1
  go_wp2_with fail
  have hc := laws_heldCut.calls (k := _) (a0_0 := r1) (a0_1 := r2) (l0_2 := ym1) (a1 := 1) (hr0_2 := (Kd.R_reads' (HS11.out _ (Below.refl _ _)).2.2.2.1).2.2) (hc0_2 := (by rw [← HLNw4.out]; exact (Kd.R_reads' (HS11.out _ (Below.refl _ _)).2.2.2.1).2.1)) (w := w7) (h := G5.out.choose_spec)
  rw [← HLNw4.out] at hc
  refine (hc).mono ?_
  rintro e w8 ⟨rfl, hb⟩
  have HS12 := Aside0.mk (hs_step hb HS11.out)
  clear HS11
  clear hb
  clear x7a x7b x7c
  clear hc
  go_wp2_with fail
  go_ret
  exact ⟨rfl, (HS12.out _ (Below.refl _ _)).2.2.2.2.2.2⟩
end Go.Proofs.Ytdfcljfajiihdaa.P

namespace Go.Proofs.Ytdfcljfajiihdaa.P
end Go.Proofs.Ytdfcljfajiihdaa.P

namespace Go.Proofs.Ytdfcljfajiihdaa.T
def minUp (g : Nat → Int) (b : Int) (k : Nat) : Nat → Int
  | 0 => b
  | n + 1 => minUp g (min b (g k)) (k + 1) n
theorem minUp_le (g : Nat → Int) : ∀ (n : Nat) (b : Int) (k : Nat), minUp g b k n ≤ b
  | 0, b, k => Int.le_refl _
  | n + 1, b, k => by have := minUp_le g n (min b (g k)) (k + 1); simp only [minUp]; omega
theorem minUp_le_at (g : Nat → Int) : ∀ (n : Nat) (b : Int) (k i : Nat), k ≤ i → i < k + n → minUp g b k n ≤ g i
  | 0, b, k, i, h1, h2 => by omega
  | n + 1, b, k, i, h1, h2 => by
    simp only [minUp]
    by_cases e : i = k
    · subst e; have := minUp_le g n (min b (g i)) (i + 1); omega
    · exact minUp_le_at g n _ (k + 1) i (by omega) (by omega)
theorem minUp_ge (g : Nat → Int) (m : Int) : ∀ (n : Nat) (b : Int) (k : Nat), m ≤ b → (∀ i, k ≤ i → i < k + n → m ≤ g i) → m ≤ minUp g b k n
  | 0, b, k, h, _ => h
  | n + 1, b, k, h, hg => minUp_ge g m n _ (k + 1) (by have := hg k (by omega) (by omega); omega) (fun i h1 h2 => hg i (by omega) (by omega))
theorem minUp_congr {g g' : Nat → Int} : ∀ (n : Nat) (b : Int) (k : Nat), (∀ i, k ≤ i → i < k + n → g i = g' i) → minUp g b k n = minUp g' b k n
  | 0, b, k, _ => rfl
  | n + 1, b, k, h => by
    simp only [minUp]
    rw [h k (by omega) (by omega)]
    exact minUp_congr n _ (k + 1) (fun i h1 h2 => h i (by omega) (by omega))
theorem minUp_is (g : Nat → Int) : ∀ (n : Nat) (b : Int) (k : Nat), minUp g b k n = b ∨ ∃ i, k ≤ i ∧ i < k + n ∧ minUp g b k n = g i
  | 0, b, k => .inl rfl
  | n + 1, b, k => by
    simp only [minUp]
    rcases minUp_is g n (min b (g k)) (k + 1) with h | ⟨i, h1, h2, h3⟩
    · rcases Int.le_total b (g k) with e | e
      · exact .inl (by rw [h]; omega)
      · exact .inr ⟨k, by omega, by omega, by rw [h]; omega⟩
    · exact .inr ⟨i, by omega, by omega, h3⟩
def blF : Nat → Nat → Nat → Int
  | 0, _, _ => 0
  | n + 1, w, h => if w = 0 ∨ h = 0 then 0 else
    minUp (fun k => blF n w k + blF n w (h - k)) (minUp (fun k => blF n k h + blF n (w - k) h) (if w = h then 1 else (w : Int) * h) 1 (w / 2)) 1 (h / 2)
theorem blF_more : ∀ (n m w h : Nat), w + h ≤ n → w + h ≤ m → blF n w h = blF m w h
  | 0, 0, _, _, _, _ => rfl
  | 0, m + 1, w, h, hn, _ => by simp only [blF]; rw [if_pos (by omega)]
  | n + 1, 0, w, h, _, hm => by simp only [blF]; rw [if_pos (by omega)]
  | n + 1, m + 1, w, h, hn, hm => by
    simp only [blF]
    split
    · rfl
    · rw [minUp_congr (g' := fun k => blF m k h + blF m (w - k) h) (w / 2) _ 1 (fun i h1 h2 => by rw [blF_more n m i h (by omega) (by omega), blF_more n m (w - i) h (by omega) (by omega)])]
      exact minUp_congr _ _ 1 (fun i h1 h2 => by rw [blF_more n m w i (by omega) (by omega), blF_more n m w (h - i) (by omega) (by omega)])
def bl (w h : Nat) : Int := blF (w + h) w h
theorem bl_eq (w h : Nat) (hw : 0 < w) (hh : 0 < h) : bl w h =
    minUp (fun k => bl w k + bl w (h - k)) (minUp (fun k => bl k h + bl (w - k) h) (if w = h then 1 else (w : Int) * h) 1 (w / 2)) 1 (h / 2) := by
  obtain ⟨n, hn⟩ : ∃ n, w + h = n + 1 := ⟨w + h - 1, by omega⟩
  unfold bl
  rw [hn]
  simp only [blF]
  rw [if_neg (by omega)]
  rw [minUp_congr (g' := fun k => blF (k + h) k h + blF (w - k + h) (w - k) h) (w / 2) _ 1 (fun i h1 h2 => by rw [blF_more n (i + h) i h (by omega) (by omega), blF_more n (w - i + h) (w - i) h (by omega) (by omega)])]
  exact minUp_congr _ _ 1 (fun i h1 h2 => by rw [blF_more n (w + i) w i (by omega) (by omega), blF_more n (w + (h - i)) w (h - i) (by omega) (by omega)])
theorem bl_zero (w h : Nat) (h0 : w = 0 ∨ h = 0) : bl w h = 0 := by
  unfold bl
  cases e : w + h with
  | zero => rfl
  | succ n => simp only [blF]; rw [if_pos h0]
theorem bl_nonneg : ∀ (n w h : Nat), 0 ≤ blF n w h
  | 0, _, _ => by simp [blF]
  | n + 1, w, h => by
    simp only [blF]
    split
    · omega
    · refine minUp_ge _ _ _ _ _ (minUp_ge _ _ _ _ _ ?_ (fun i _ _ => ?_)) (fun i _ _ => ?_)
      · split
        · omega
        · exact Int.mul_nonneg (by omega) (by omega)
      · have := bl_nonneg n i h; have := bl_nonneg n (w - i) h; omega
      · have := bl_nonneg n w i; have := bl_nonneg n w (h - i); omega
theorem bl_pos : ∀ (n w h : Nat), 0 < w → 0 < h → w + h ≤ n → 1 ≤ blF n w h
  | 0, _, _, h1, h2, h3 => by omega
  | n + 1, w, h, h1, h2, h3 => by
    simp only [blF]
    rw [if_neg (by omega)]
    refine minUp_ge _ _ _ _ _ (minUp_ge _ _ _ _ _ ?_ (fun i _ _ => ?_)) (fun i _ _ => ?_)
    · split
      · omega
      · have : (1 : Int) * 1 ≤ w * h := Int.mul_le_mul (by omega) (by omega) (by omega) (by omega)
        omega
    · have := bl_pos n i h (by omega) h2 (by omega); have := bl_nonneg n (w - i) h; omega
    · have := bl_pos n w i h1 (by omega) (by omega); have := bl_nonneg n w (h - i); omega
theorem bl_ge (w h : Nat) : 0 ≤ bl w h := bl_nonneg _ _ _
theorem bl_ge_one (w h : Nat) (hw : 0 < w) (hh : 0 < h) : 1 ≤ bl w h := bl_pos _ _ _ hw hh (Nat.le_refl _)
theorem bl_le (w h : Nat) : bl w h ≤ w * h := by
  by_cases h0 : w = 0 ∨ h = 0
  · rw [bl_zero w h h0]; exact Int.mul_nonneg (by omega) (by omega)
  · rw [bl_eq w h (by omega) (by omega)]
    have h1 := minUp_le (fun k => bl w k + bl w (h - k)) (h / 2) (minUp (fun k => bl k h + bl (w - k) h) (if w = h then 1 else (w : Int) * h) 1 (w / 2)) 1
    have h2 := minUp_le (fun k => bl k h + bl (w - k) h) (w / 2) (if w = h then 1 else (w : Int) * h) 1
    have : (if w = h then 1 else (w : Int) * h) ≤ w * h := by
      split
      · have : (1 : Int) * 1 ≤ w * h := Int.mul_le_mul (by omega) (by omega) (by omega) (by omega)
        omega
      · omega
    omega
def rowN (w H n : Nat) : List Int := (List.range (H + 1)).map fun h => if h < n then bl w h else 0
def tabN (W H w : Nat) (row : List Int) : List (List Int) := (List.range (W + 1)).map fun i => if i < w then rowN i H (H + 1) else if i = w then row else []
theorem rowN_length (w H n : Nat) : (rowN w H n).length = H + 1 := by simp [rowN]
theorem tabN_length (W H w : Nat) (r : List Int) : (tabN W H w r).length = W + 1 := by simp [tabN]
theorem rowN_get (w H n h : Nat) (hh : h ≤ H) : (rowN w H n).getD h 0 = if h < n then bl w h else 0 := by
  simp [rowN, List.getD_eq_getElem?_getD, show h < H + 1 by omega]
theorem rowN_set (w H n : Nat) (hn : n ≤ H) : (rowN w H n).set n (bl w n) = rowN w H (n + 1) := by
  apply List.ext_getElem?
  intro i
  unfold rowN
  rw [List.getElem?_set, List.length_map, List.length_range, List.getElem?_map, List.getElem?_map]
  by_cases hi : i < H + 1
  · rw [List.getElem?_range hi]
    by_cases e : n = i
    · subst e; simp [hi]
    · rw [if_neg e]
      simp only [Option.map_some, Option.some.injEq]
      by_cases c : i < n
      · rw [if_pos c, if_pos (by omega)]
      · rw [if_neg c, if_neg (by omega)]
  · rw [if_neg (by omega), List.getElem?_eq_none (by simp; omega)]; rfl
theorem rowN_zero (w H : Nat) : List.replicate (H + 1) 0 = rowN w H 1 := by
  apply List.ext_getElem?
  intro i
  unfold rowN
  rw [List.getElem?_replicate, List.getElem?_map]
  by_cases hi : i < H + 1
  · rw [if_pos hi, List.getElem?_range hi]
    simp only [Option.map_some, Option.some.injEq]
    split
    · rw [bl_zero w i (by omega)]
    · rfl
  · rw [if_neg hi, List.getElem?_eq_none (by simp; omega)]; rfl
theorem rowN_null (H n : Nat) : rowN 0 H n = rowN 0 H (H + 1) := by
  unfold rowN
  apply List.map_congr_left
  intro h _
  rw [bl_zero 0 h (.inl rfl)]; simp
theorem tabN_get (W H w i : Nat) (r : List Int) (hi : i ≤ W) : (tabN W H w r).getD i [] = if i < w then rowN i H (H + 1) else if i = w then r else [] := by
  simp [tabN, List.getD_eq_getElem?_getD, show i < W + 1 by omega]
theorem tabN_set (W H w : Nat) (r r' : List Int) (hw : w ≤ W) : (tabN W H w r).set w r' = tabN W H w r' := by
  apply List.ext_getElem?
  intro i
  unfold tabN
  rw [List.getElem?_set, List.length_map, List.length_range, List.getElem?_map, List.getElem?_map]
  by_cases hi : i < W + 1
  · rw [List.getElem?_range hi]
    by_cases e : w = i
    · subst e; simp [hi]
    · rw [if_neg e]
      simp only [Option.map_some, Option.some.injEq]
      rw [if_neg (show ¬ i = w from fun k => e k.symm), if_neg (show ¬ i = w from fun k => e k.symm)]
  · rw [if_neg (by omega), List.getElem?_eq_none (by simp; omega)]; rfl
theorem tabN_next (W H w : Nat) : tabN W H w (rowN w H (H + 1)) = tabN W H (w + 1) [] := by
  unfold tabN
  apply List.map_congr_left
  intro i _
  by_cases h1 : i < w
  · rw [if_pos h1, if_pos (by omega)]
  · rw [if_neg h1]
    by_cases h2 : i = w
    · subst h2; rw [if_pos rfl, if_pos (by omega)]
    · rw [if_neg h2, if_neg (by omega)]; split <;> rfl
theorem tabN_start (W H : Nat) : List.replicate (W + 1) [] = tabN W H 0 [] := by
  apply List.ext_getElem?
  intro i
  unfold tabN
  rw [List.getElem?_replicate, List.getElem?_map]
  by_cases hi : i < W + 1
  · rw [if_pos hi, List.getElem?_range hi]; simp
  · rw [if_neg hi, List.getElem?_eq_none (by simp; omega)]; rfl
end Go.Proofs.Ytdfcljfajiihdaa.T

namespace Go.Proofs.Ytdfcljfajiihdaa.Pure
set_option linter.unusedVariables false
set_option linter.unusedSimpArgs false
open Go.RowKit Go.Proofs.Ytdfcljfajiihdaa.P Go.Proofs.YtdfcljfajiihdaaW.PrintWords Go.Proofs.YtdfcljfajiihdaaW.PrintLast Go.Proofs.YtdfcljfajiihdaaW.PrintMore Go.Proofs.Ytdfcljfajiihdaa.Aid Go.Proofs.Ytdfcljfajiihdaa.T
theorem bl_le_sq (W H i j : Nat) (hi : i ≤ W) (hj : j ≤ H) (hW : W ≤ 60) (hH : H ≤ 60) : bl i j ≤ 3600 := by
  have h1 := bl_le i j
  have h2 : ((i : Int) * j) ≤ 60 * 60 := Int.mul_le_mul (by omega) (by omega) (by omega) (by omega)
  omega
theorem tab_rd (W H w : Nat) (i : Nat) (hi : i < w) (hw : w ≤ W) (r : List Int) : rd_L1 (tabN W H w r) (i : Int) = rowN i H (H + 1) := by
  have := tabN_get W H w i r (by omega)
  rw [if_pos hi] at this
  exact this
theorem tab_rd_now (W H w : Nat) (hw : w ≤ W) (r : List Int) : rd_L1 (tabN W H w r) (w : Int) = r := by
  have := tabN_get W H w w r hw
  rw [if_neg (by omega), if_pos rfl] at this
  exact this
theorem row_rd (w H n h : Nat) (hh : h ≤ H) : rd (rowN w H n) (h : Int) = if h < n then bl w h else 0 := rowN_get w H n h hh
theorem half_w (n : Nat) (hn : n ≤ 60) : wrap64 (Int.tdiv (n : Int) 2) = ((n / 2 : Nat) : Int) := by
  rw [Int.tdiv_eq_ediv_of_nonneg (by omega), w64 (by omega) (by omega)]; omega
theorem sub_w (n m : Nat) (hm : m ≤ n) (hn : n ≤ 60) : wrap64 ((n : Int) - m) = ((n - m : Nat) : Int) := by
  rw [w64 (by omega) (by omega)]; omega
theorem inc_w (n : Nat) (hn : n ≤ 1000) : wrap64 ((n : Int) + 1) = ((n + 1 : Nat) : Int) := by
  rw [w64 (by omega) (by omega)]; omega
section
variable (W H : Nat) (hW : W ≤ 60) (hH : H ≤ 60)
include hW hH
-- the reference's loops
theorem fe_l3 (w h : Nat) (hw : w ≤ W) (hh : h ≤ H) (hw1 : 1 ≤ w) (hh1 : 1 ≤ h) (X : List (List Int)) :
    Ev (fun k => spec_feLines.l1 k H (tabN W H w (rowN w H (h + 1))) w (h + 1 : Nat) (W + 1 : Nat) w) X →
    ∀ (d a : Nat) (b : Int), 1 ≤ a → a + d = h / 2 + 1 → -10000 ≤ b → b ≤ 10000 → minUp (fun k => bl w k + bl w (h - k)) b a d = bl w h → Ev (fun k => spec_feLines.l3 k H (tabN W H w (rowN w H h)) w h b a (W + 1 : Nat) w) X
  | hX, 0, a, b, h1, h2, _, _, hb => by
    have hbl : b = bl w h := hb
    refine Ev.step (fun _ => spec_feLines.l3.eq_2 ..) (ev_neg (by rw [w64 (by omega) (by omega)]; omega) (ev_pos (by omega) (ev_pos (by rw [tabN_length]; omega) (ev_pos (by omega) (ev_pos (by rw [tab_rd_now W H w hw, rowN_length]; omega) ?_)))))
    rw [w64 (by omega) (by omega), tab_rd_now W H w hw, hbl, Int.toNat_natCast, Int.toNat_natCast, rowN_set w H h hh, tabN_set W H w _ _ hw]
    exact hX
  | hX, d + 1, a, b, h1, h2, hb1, hb2, hb => by
    have l1 := bl_le_sq W H w a hw (by omega) hW hH
    have l2 := bl_le_sq W H w (h - a) hw (by omega) hW hH
    have g1 := bl_ge w a
    have g2 := bl_ge w (h - a)
    have e := Aside0.mk (sub_w h a (by omega) (by omega))
    refine Ev.step (fun _ => spec_feLines.l3.eq_2 ..) (ev_pos (by rw [w64 (by omega) (by omega)]; omega) (ev_pos (by omega) (ev_pos (by rw [tabN_length]; omega) (ev_pos (by omega) (ev_pos (by rw [tab_rd_now W H w hw, rowN_length]; omega) (ev_pos (by rw [e.out]; omega) (ev_pos (by rw [e.out, tab_rd_now W H w hw, rowN_length]; omega) ?_)))))))
    rw [e.out, tab_rd_now W H w hw, row_rd w H h a (by omega), row_rd w H h (h - a) (by omega), if_pos (by omega), if_pos (by omega), w64 (e := (a : Int) + 1) (by omega) (by omega), w64 (by omega) (by omega)]
    refine ev_call (l1Least_f _ _) ?_
    exact fe_l3 w h hw hh hw1 hh1 X hX d (a + 1) _ (by omega) (by omega) (by omega) (by omega) hb
theorem fe_l2 (w h : Nat) (hw : w ≤ W) (hh : h ≤ H) (hw1 : 1 ≤ w) (hh1 : 1 ≤ h) (X : List (List Int))
    (hX : Ev (fun k => spec_feLines.l1 k H (tabN W H w (rowN w H (h + 1))) w (h + 1 : Nat) (W + 1 : Nat) w) X) :
    ∀ (d a : Nat) (b : Int), 1 ≤ a → a + d = w / 2 + 1 → -10000 ≤ b → b ≤ 10000 → minUp (fun k => bl w k + bl w (h - k)) (minUp (fun k => bl k h + bl (w - k) h) b a d) 1 (h / 2) = bl w h → Ev (fun k => spec_feLines.l2 k H (tabN W H w (rowN w H h)) w h b a (W + 1 : Nat) w) X
  | 0, a, b, h1, h2, hb1, hb2, hb => by
    refine Ev.step (fun _ => spec_feLines.l2.eq_2 ..) (ev_neg (by rw [w64 (by omega) (by omega)]; omega) ?_)
    exact fe_l3 W H hW hH w h hw hh hw1 hh1 X hX (h / 2) 1 b (by omega) (by omega) hb1 hb2 hb
  | d + 1, a, b, h1, h2, hb1, hb2, hb => by
    have l1 := bl_le_sq W H a h (by omega) hh hW hH
    have l2 := bl_le_sq W H (w - a) h (by omega) hh hW hH
    have g1 := bl_ge a h
    have g2 := bl_ge (w - a) h
    have e := Aside0.mk (sub_w w a (by omega) (by omega))
    refine Ev.step (fun _ => spec_feLines.l2.eq_2 ..) (ev_pos (by rw [w64 (by omega) (by omega)]; omega) (ev_pos (by omega) (ev_pos (by rw [tabN_length]; omega) (ev_pos (by omega) (ev_pos (by rw [tab_rd W H w a (by omega) hw, rowN_length]; omega) (ev_pos (by rw [e.out]; omega) (ev_pos (by rw [e.out, tabN_length]; omega) (ev_pos (by rw [e.out, tab_rd W H w (w - a) (by omega) hw, rowN_length]; omega) ?_))))))))
    rw [e.out, tab_rd W H w a (by omega) hw, tab_rd W H w (w - a) (by omega) hw, row_rd a H _ h hh, row_rd (w - a) H _ h hh, if_pos (by omega), if_pos (by omega), w64 (e := (a : Int) + 1) (by omega) (by omega), w64 (by omega) (by omega)]
    refine ev_call (l1Least_f _ _) ?_
    exact fe_l2 w h hw hh hw1 hh1 X hX d (a + 1) _ (by omega) (by omega) (by omega) (by omega) hb
theorem fe_l1 (w : Nat) (hw : w ≤ W) (hw1 : 1 ≤ w) (X : List (List Int)) (hX : Ev (fun k => spec_feLines.l0 k H (tabN W H w (rowN w H (H + 1))) (W + 1 : Nat) (w + 1 : Nat)) X) :
    ∀ (d h : Nat), 1 ≤ h → h + d = H + 1 → Ev (fun k => spec_feLines.l1 k H (tabN W H w (rowN w H h)) w h (W + 1 : Nat) w) X
  | 0, h, h1, h2 => by
    obtain rfl : h = H + 1 := by omega
    refine Ev.step (fun _ => spec_feLines.l1.eq_2 ..) (ev_pos (by omega) (Ev.step (fun _ => spec_feLines.j2.eq_2 ..) (ev_neg (by simp; omega) ?_)))
    rw [w64 (by omega) (by omega)]
    exact hX
  | d + 1, h, h1, h2 => by
    have ih := fe_l1 w hw hw1 X hX d (h + 1) (by omega) (by omega)
    refine Ev.step (fun _ => spec_feLines.l1.eq_2 ..) (ev_pos (by omega) (Ev.step (fun _ => spec_feLines.j2.eq_2 ..) (ev_pos (by simp; omega) ?_)))
    have hb := bl_eq w h (by omega) (by omega)
    by_cases e : w = h
    · refine ev_pos (by omega) (Ev.step (fun _ => spec_feLines.j3.eq_2 ..) ?_)
      exact fe_l2 W H hW hH w h hw (by omega) hw1 h1 X ih (w / 2) 1 1 (by omega) (by omega) (by omega) (by omega) (by rw [hb, if_pos e])
    · have hm : ((w : Int) * h) ≤ 60 * 60 := Int.mul_le_mul (by omega) (by omega) (by omega) (by omega)
      have hm0 : 0 ≤ ((w : Int) * h) := Int.mul_nonneg (by omega) (by omega)
      refine ev_neg (by omega) (Ev.step (fun _ => spec_feLines.j3.eq_2 ..) ?_)
      rw [w64 (e := (w : Int) * h) (by omega) (by omega)]
      exact fe_l2 W H hW hH w h hw (by omega) hw1 h1 X ih (w / 2) 1 _ (by omega) (by omega) (by omega) (by omega) (by rw [hb, if_neg e])
theorem fe_l0 : ∀ (d w : Nat), w + d = W + 1 → Ev (fun k => spec_feLines.l0 k H (tabN W H w []) (W + 1 : Nat) w) (tabN W H (W + 1) [])
  | 0, w, hd => by
    obtain rfl : w = W + 1 := by omega
    exact Ev.step (fun _ => spec_feLines.l0.eq_2 ..) (ev_neg (by omega) (ev_some rfl))
  | d + 1, w, hd => by
    have ih := fe_l0 d (w + 1) (by omega)
    rw [← tabN_next] at ih
    have e := Aside0.mk (inc_w H (by omega))
    refine Ev.step (fun _ => spec_feLines.l0.eq_2 ..) (ev_pos (by omega) (ev_pos (by rw [e.out]; omega) (ev_pos (by rw [e.out]; omega) (ev_pos (by omega) (ev_pos (by rw [tabN_length]; omega) ?_)))))
    rw [e.out, Int.toNat_natCast, Int.toNat_natCast, tabN_set W H w _ _ (by omega), rowN_zero w H]
    by_cases h0 : w = 0
    · subst h0
      refine Ev.step (fun _ => spec_feLines.l1.eq_2 ..) (ev_neg (by simp) (Ev.step (fun _ => spec_feLines.j2.eq_2 ..) (ev_neg (by simp) ?_)))
      rw [rowN_null H 1, w64 (by omega) (by omega)]
      exact ih
    · exact fe_l1 W H hW hH w (by omega) (by omega) _ ih H 1 (by omega) (by omega)
theorem feLines_ev : Ev (fun k => spec_feLines.f k W H) (tabN W H (W + 1) []) := by
  have e := Aside0.mk (inc_w W (by omega))
  refine ev_pos (by rw [e.out]; omega) (ev_pos (by rw [e.out]; omega) (ev_call rfl ?_))
  rw [e.out, Int.toNat_natCast, tabN_start W H, tabN_length]
  exact fe_l0 W H hW hH (W + 1) 0 (by omega)
-- the program's loops
theorem by_l3 (w h : Nat) (hw : w ≤ W) (hh : h ≤ H) (hw1 : 1 ≤ w) (hh1 : 1 ≤ h) (X : List (List Int)) :
    Ev (fun k => impl_byLines.l1 k H (tabN W H w (rowN w H (h + 1))) w (h + 1 : Nat) (W + 1 : Nat) w) X →
    ∀ (d a : Nat) (b : Int), 1 ≤ a → a + d = h / 2 + 1 → -10000 ≤ b → b ≤ 10000 → minUp (fun k => bl w k + bl w (h - k)) b a d = bl w h → Ev (fun k => impl_byLines.l3 k H (tabN W H w (rowN w H h)) w h b a (W + 1 : Nat) w) X
  | hX, 0, a, b, h1, h2, _, _, hb => by
    have hbl : b = bl w h := hb
    have t := Aside0.mk (half_w h (by omega))
    refine Ev.step (fun _ => impl_byLines.l3.eq_2 ..) ?_
    rw [t.out]
    refine (ev_neg (by omega) (ev_pos (by omega) (ev_pos (by rw [tabN_length]; omega) (ev_pos (by omega) (ev_pos (by rw [tab_rd_now W H w hw, rowN_length]; omega) ?_)))))
    rw [w64 (by omega) (by omega), tab_rd_now W H w hw, hbl, Int.toNat_natCast, Int.toNat_natCast, rowN_set w H h hh, tabN_set W H w _ _ hw]
    exact hX
  | hX, d + 1, a, b, h1, h2, hb1, hb2, hb => by
    have l1 := bl_le_sq W H w a hw (by omega) hW hH
    have l2 := bl_le_sq W H w (h - a) hw (by omega) hW hH
    have g1 := bl_ge w a
    have g2 := bl_ge w (h - a)
    have t := Aside0.mk (half_w h (by omega))
    have e := Aside0.mk (sub_w h a (by omega) (by omega))
    refine Ev.step (fun _ => impl_byLines.l3.eq_2 ..) ?_
    rw [t.out]
    refine (ev_pos (by omega) (ev_pos (by omega) (ev_pos (by rw [tabN_length]; omega) (ev_pos (by omega) (ev_pos (by rw [tab_rd_now W H w hw, rowN_length]; omega) (ev_pos (by rw [e.out]; omega) (ev_pos (by rw [e.out, tab_rd_now W H w hw, rowN_length]; omega) ?_)))))))
    rw [e.out, tab_rd_now W H w hw, row_rd w H h a (by omega), row_rd w H h (h - a) (by omega), if_pos (by omega), if_pos (by omega), w64 (e := (a : Int) + 1) (by omega) (by omega), w64 (by omega) (by omega), mn_min]
    exact by_l3 w h hw hh hw1 hh1 X hX d (a + 1) _ (by omega) (by omega) (by omega) (by omega) hb
theorem by_l2 (w h : Nat) (hw : w ≤ W) (hh : h ≤ H) (hw1 : 1 ≤ w) (hh1 : 1 ≤ h) (X : List (List Int))
    (hX : Ev (fun k => impl_byLines.l1 k H (tabN W H w (rowN w H (h + 1))) w (h + 1 : Nat) (W + 1 : Nat) w) X) :
    ∀ (d a : Nat) (b : Int), 1 ≤ a → a + d = w / 2 + 1 → -10000 ≤ b → b ≤ 10000 → minUp (fun k => bl w k + bl w (h - k)) (minUp (fun k => bl k h + bl (w - k) h) b a d) 1 (h / 2) = bl w h → Ev (fun k => impl_byLines.l2 k H (tabN W H w (rowN w H h)) w h b a (W + 1 : Nat) w) X
  | 0, a, b, h1, h2, hb1, hb2, hb => by
    have t := Aside0.mk (half_w w (by omega))
    refine Ev.step (fun _ => impl_byLines.l2.eq_2 ..) ?_
    rw [t.out]
    refine (ev_neg (by omega) ?_)
    exact by_l3 W H hW hH w h hw hh hw1 hh1 X hX (h / 2) 1 b (by omega) (by omega) hb1 hb2 hb
  | d + 1, a, b, h1, h2, hb1, hb2, hb => by
    have l1 := bl_le_sq W H a h (by omega) hh hW hH
    have l2 := bl_le_sq W H (w - a) h (by omega) hh hW hH
    have g1 := bl_ge a h
    have g2 := bl_ge (w - a) h
    have t := Aside0.mk (half_w w (by omega))
    have e := Aside0.mk (sub_w w a (by omega) (by omega))
    refine Ev.step (fun _ => impl_byLines.l2.eq_2 ..) ?_
    rw [t.out]
    refine (ev_pos (by omega) (ev_pos (by omega) (ev_pos (by rw [tabN_length]; omega) (ev_pos (by omega) (ev_pos (by rw [tab_rd W H w a (by omega) hw, rowN_length]; omega) (ev_pos (by rw [e.out]; omega) (ev_pos (by rw [e.out, tabN_length]; omega) (ev_pos (by rw [e.out, tab_rd W H w (w - a) (by omega) hw, rowN_length]; omega) ?_))))))))
    rw [e.out, tab_rd W H w a (by omega) hw, tab_rd W H w (w - a) (by omega) hw, row_rd a H _ h hh, row_rd (w - a) H _ h hh, if_pos (by omega), if_pos (by omega), w64 (e := (a : Int) + 1) (by omega) (by omega), w64 (by omega) (by omega), mn_min]
    exact by_l2 w h hw hh hw1 hh1 X hX d (a + 1) _ (by omega) (by omega) (by omega) (by omega) hb
theorem by_l1 (w : Nat) (hw : w ≤ W) (hw1 : 1 ≤ w) (X : List (List Int)) (hX : Ev (fun k => impl_byLines.l0 k H (tabN W H w (rowN w H (H + 1))) (W + 1 : Nat) (w + 1 : Nat)) X) :
    ∀ (d h : Nat), 1 ≤ h → h + d = H + 1 → Ev (fun k => impl_byLines.l1 k H (tabN W H w (rowN w H h)) w h (W + 1 : Nat) w) X
  | 0, h, h1, h2 => by
    obtain rfl : h = H + 1 := by omega
    refine Ev.step (fun _ => impl_byLines.l1.eq_2 ..) (ev_neg (by omega) (Ev.step (fun _ => impl_byLines.j2.eq_2 ..) (ev_neg (by simp) ?_)))
    rw [w64 (by omega) (by omega)]
    exact hX
  | d + 1, h, h1, h2 => by
    have ih := by_l1 w hw hw1 X hX d (h + 1) (by omega) (by omega)
    refine Ev.step (fun _ => impl_byLines.l1.eq_2 ..) (ev_pos (by omega) (Ev.step (fun _ => impl_byLines.j2.eq_2 ..) (ev_pos (by simp; omega) ?_)))
    have hb := bl_eq w h (by omega) (by omega)
    by_cases e : w = h
    · refine ev_pos (by omega) (Ev.step (fun _ => impl_byLines.j3.eq_2 ..) ?_)
      exact by_l2 W H hW hH w h hw (by omega) hw1 h1 X ih (w / 2) 1 1 (by omega) (by omega) (by omega) (by omega) (by rw [hb, if_pos e])
    · have hm : ((w : Int) * h) ≤ 60 * 60 := Int.mul_le_mul (by omega) (by omega) (by omega) (by omega)
      have hm0 : 0 ≤ ((w : Int) * h) := Int.mul_nonneg (by omega) (by omega)
      refine ev_neg (by omega) (Ev.step (fun _ => impl_byLines.j3.eq_2 ..) ?_)
      rw [w64 (e := (w : Int) * h) (by omega) (by omega)]
      exact by_l2 W H hW hH w h hw (by omega) hw1 h1 X ih (w / 2) 1 _ (by omega) (by omega) (by omega) (by omega) (by rw [hb, if_neg e])
theorem by_l0 (hH1 : 1 ≤ H) : ∀ (d w : Nat), w + d = W + 1 → Ev (fun k => impl_byLines.l0 k H (tabN W H w []) (W + 1 : Nat) w) (tabN W H (W + 1) [])
  | 0, w, hd => by
    obtain rfl : w = W + 1 := by omega
    exact Ev.step (fun _ => impl_byLines.l0.eq_2 ..) (ev_neg (by omega) (ev_some rfl))
  | d + 1, w, hd => by
    have ih := by_l0 hH1 d (w + 1) (by omega)
    rw [← tabN_next] at ih
    have e := Aside0.mk (inc_w H (by omega))
    refine Ev.step (fun _ => impl_byLines.l0.eq_2 ..) (ev_pos (by omega) (ev_pos (by rw [e.out]; omega) (ev_pos (by rw [e.out]; omega) (ev_pos (by omega) (ev_pos (by rw [tabN_length]; omega) ?_)))))
    rw [e.out, Int.toNat_natCast, Int.toNat_natCast, tabN_set W H w _ _ (by omega), rowN_zero w H]
    by_cases h0 : w = 0
    · subst h0
      refine Ev.step (fun _ => impl_byLines.l1.eq_2 ..) (ev_pos (by omega) (Ev.step (fun _ => impl_byLines.j2.eq_2 ..) (ev_neg (by simp) ?_)))
      rw [rowN_null H 1, w64 (by omega) (by omega)]
      exact ih
    · exact by_l1 W H hW hH w (by omega) (by omega) _ ih H 1 (by omega) (by omega)
theorem byLines_ev (hH1 : 1 ≤ H) : Ev (fun k => impl_byLines.f k W H) (tabN W H (W + 1) []) := by
  have e := Aside0.mk (inc_w W (by omega))
  refine ev_pos (by rw [e.out]; omega) (ev_pos (by rw [e.out]; omega) (ev_call rfl ?_))
  rw [e.out, Int.toNat_natCast, tabN_start W H, tabN_length]
  exact by_l0 W H hW hH hH1 (W + 1) 0 (by omega)
end
theorem tab_end (W H : Nat) (i : Nat) (hi : i ≤ W) : rd_L1 (tabN W H (W + 1) []) (i : Int) = rowN i H (H + 1) := by
  have := tabN_get W H (W + 1) i [] hi
  rw [if_pos (by omega)] at this
  exact this
end Go.Proofs.Ytdfcljfajiihdaa.Pure

namespace Go.Proofs.Ytdfcljfajiihdaa.Pure
set_option linter.unusedVariables false
set_option linter.unusedSimpArgs false
open Go.RowKit Go.Proofs.Ytdfcljfajiihdaa.P Go.Proofs.YtdfcljfajiihdaaW.PrintWords Go.Proofs.YtdfcljfajiihdaaW.PrintLast Go.Proofs.YtdfcljfajiihdaaW.PrintMore Go.Proofs.Ytdfcljfajiihdaa.Aid Go.Proofs.Ytdfcljfajiihdaa.T
def cutV (W H : Int) (l : List Sq) : Int × Int × List Sq × Bool := if isCutB W H (srt l) = true then (W, H, srt l, true) else (0, 0, [], false)
theorem cutOf_f (W H : Int) (l : List Sq) (h0 : 0 < l.length) (h1 : l.length ≤ 1000000) (hk : l.all okQ = true) : impl_cutOf.f W H l = some (cutV W H l) := by
  unfold impl_cutOf.f cutV
  rw [if_pos ⟨h0, h1, hk⟩]
  split <;> rfl
theorem cutV_len (W H : Int) (l : List Sq) : (cutV W H l).2.2.1.length ≤ 30 := by
  unfold cutV
  by_cases h : isCutB W H (srt l) = true
  · rw [if_pos h]
    rw [isCutB_good] at h
    exact (goodB_iff.1 h).len
  · rw [if_neg h]; simp
theorem cuMake_ev (W H : Int) (l : List Sq) (h1 : l.length ≤ 500000) : Ev (fun k => spec_cuMake.f k W H l) (cutV W H l) := by
  unfold spec_cuMake.f
  by_cases hl : (l.length : Int) > 30
  · refine ev_pos hl (ev_some ?_)
    unfold cutV
    rw [if_neg]
    intro h
    rw [isCutB_good] at h
    have := (goodB_iff.1 h).len
    rw [(srt_perm l).length_eq] at this
    omega
  · refine ev_neg hl (ev_bind (a := srt l) ⟨0, fun k _ => if_pos h1⟩ (ev_bind (cuGood_ev W H (srt l) (by rw [(srt_perm l).length_eq]; omega)) ?_))
    unfold cutV
    rw [isCutB_good]
    by_cases h : goodB W H (srt l) = true
    · simp only [if_pos h]; exact ev_some rfl
    · simp only [if_neg h]; exact ev_some rfl
end Go.Proofs.Ytdfcljfajiihdaa.Pure

namespace Go.Proofs.Ytdfcljfajiihdaa.Pure
set_option linter.unusedVariables false
set_option linter.unusedSimpArgs false
open Go.RowKit Go.Proofs.Ytdfcljfajiihdaa.P Go.Proofs.YtdfcljfajiihdaaW.PrintWords Go.Proofs.YtdfcljfajiihdaaW.PrintLast Go.Proofs.YtdfcljfajiihdaaW.PrintMore Go.Proofs.Ytdfcljfajiihdaa.Aid Go.Proofs.Ytdfcljfajiihdaa.T
theorem bl_split (w h : Nat) (hw : 1 ≤ w) (hh : 1 ≤ h) (hn : w ≠ h) : (∃ a, 1 ≤ a ∧ a ≤ w / 2 ∧ bl a h + bl (w - a) h = bl w h) ∨ (∃ a, 1 ≤ a ∧ a ≤ h / 2 ∧ bl w a + bl w (h - a) = bl w h) := by
  have e := bl_eq w h (by omega) (by omega)
  rw [if_neg hn] at e
  rcases minUp_is (fun k => bl w k + bl w (h - k)) (h / 2) (minUp (fun k => bl k h + bl (w - k) h) ((w : Int) * h) 1 (w / 2)) 1 with m | ⟨i, i1, i2, m⟩
  · rcases minUp_is (fun k => bl k h + bl (w - k) h) (w / 2) ((w : Int) * h) 1 with m2 | ⟨i, i1, i2, m2⟩
    · have ev : bl w h = (w : Int) * h := e.trans (m.trans m2)
      by_cases c : 2 ≤ w
      · have g : (w : Int) * h ≤ bl 1 h + bl (w - 1) h := by
          rw [← m2]; exact minUp_le_at (fun k => bl k h + bl (w - k) h) (w / 2) ((w : Int) * h) 1 1 (by omega) (by omega)
        have g1 := bl_le 1 h
        have g2 := bl_le (w - 1) h
        have e1 : ((w - 1 : Nat) : Int) * h = (w : Int) * h - h := by
          rw [show ((w - 1 : Nat) : Int) = (w : Int) - 1 by omega, Int.sub_mul, Int.one_mul]
        rw [e1] at g2
        have e2 : ((1 : Nat) : Int) * h = h := by rw [show ((1 : Nat) : Int) = 1 from rfl, Int.one_mul]
        rw [e2] at g1
        exact .inl ⟨1, by omega, by omega, by omega⟩
      · have g : (w : Int) * h ≤ bl w 1 + bl w (h - 1) := by
          rw [← m2, ← m]; exact minUp_le_at (fun k => bl w k + bl w (h - k)) (h / 2) (minUp (fun k => bl k h + bl (w - k) h) ((w : Int) * h) 1 (w / 2)) 1 1 (by omega) (by omega)
        have g1 := bl_le w 1
        have g2 := bl_le w (h - 1)
        have e1 : (w : Int) * ((h - 1 : Nat) : Int) = (w : Int) * h - w := by
          rw [show ((h - 1 : Nat) : Int) = (h : Int) - 1 by omega, Int.mul_sub, Int.mul_one]
        rw [e1] at g2
        have e2 : (w : Int) * ((1 : Nat) : Int) = w := by rw [show ((1 : Nat) : Int) = 1 from rfl, Int.mul_one]
        rw [e2] at g1
        exact .inr ⟨1, by omega, by omega, by omega⟩
    · exact .inl ⟨i, i1, by omega, (e.trans (m.trans m2)).symm⟩
  · exact .inr ⟨i, i1, by omega, (e.trans m).symm⟩
theorem bl_one (w : Nat) (hw : 1 ≤ w) : bl w w = 1 := by
  have e := bl_eq w w (by omega) (by omega)
  rw [if_pos rfl] at e
  have h1 := minUp_le (fun k => bl w k + bl w (w - k)) (w / 2) (minUp (fun k => bl k w + bl (w - k) w) 1 1 (w / 2)) 1
  have h2 := minUp_le (fun k => bl k w + bl (w - k) w) (w / 2) 1 1
  have h3 := bl_ge_one w w (by omega) (by omega)
  omega
set_option linter.unusedSectionVars false
section
variable (W H : Nat) (hW : W ≤ 60) (hH : H ≤ 60)
include hW hH
theorem tab_bl (i j : Nat) (hi : i ≤ W) (hj : j ≤ H) : rd (rd_L1 (tabN W H (W + 1) []) (i : Int)) (j : Int) = bl i j := by
  rw [tab_end W H i hi, row_rd i H (H + 1) j hj, if_pos (by omega)]
theorem tab_row (i : Nat) (hi : i ≤ W) : (rd_L1 (tabN W H (W + 1) []) (i : Int)).length = H + 1 := by
  rw [tab_end W H i hi, rowN_length]
def Lin (W H : Nat) (x y : Int) (w h : Nat) (l : List Sq) : Prop := Ev (fun k => impl_lined.f k (tabN W H (W + 1) []) x y w h) l ∧ (l.length : Int) = bl w h ∧ l.all okQ = true
theorem lined_l1 (x y : Int) (w h : Nat) (hw : 1 ≤ w) (hwW : w ≤ W) (hh : 1 ≤ h) (hhH : h ≤ H) (hy : 0 ≤ y ∧ y + h ≤ 1000)
    (IH : ∀ (a : Nat) (y' : Int), 1 ≤ a → a < h → 0 ≤ y' → y' + a ≤ 1000 → ∃ l, Lin W H x y' w a l) : ∀ (d a : Nat), a + d = h / 2 + 1 → 1 ≤ a → (∃ b, a ≤ b ∧ b ≤ h / 2 ∧ bl w b + bl w (h - b) = bl w h) →
    ∃ l, Ev (fun k => impl_lined.l1 k (tabN W H (W + 1) []) x y w h a) l ∧ (l.length : Int) = bl w h ∧ l.all okQ = true
  | 0, a, hd, ha, hb => by
    obtain ⟨b, b1, b2, -⟩ := hb
    omega
  | d + 1, a, hd, ha, hb => by
    have hlen := tabN_length W H (W + 1) []
    have r0 := tab_row W H hW hH w hwW
    have v1 := tab_bl W H hW hH w a hwW (by omega)
    have v2 := tab_bl W H hW hH w (h - a) hwW (by omega)
    have v3 := tab_bl W H hW hH w h hwW hhH
    have q1 := bl_ge w a
    have q2 := bl_ge w (h - a)
    have q3 := bl_le_sq W H w a hwW (by omega) hW hH
    have q4 := bl_le_sq W H w (h - a) hwW (by omega) hW hH
    have q5 := bl_le_sq W H w h hwW hhH hW hH
    by_cases c : bl w a + bl w (h - a) = bl w h
    · obtain ⟨l1, e1, n1, o1⟩ := IH a y ha (by omega) hy.1 (by omega)
      obtain ⟨l2, e2, n2, o2⟩ := IH (h - a) (y + a) (by omega) (by omega) (by omega) (by omega)
      refine ⟨l1 ++ l2, Ev.step (fun _ => impl_lined.l1.eq_2 ..) ?_, by rw [List.length_append]; omega, by rw [List.all_append, o1, o2]; rfl⟩
      rw [half_w h (by omega), sub_w h a (by omega) (by omega), v1, v2, v3, r0, hlen, w64 (e := y + a) (by omega) (by omega), w64 (e := bl w a + bl w (h - a)) (by omega) (by omega)]
      refine ev_pos (by omega) (ev_pos (by omega) (ev_pos (by omega) (ev_pos (by omega) (ev_pos (by omega) (ev_pos (by omega) (ev_pos (by omega) (ev_pos (by omega) (ev_pos (by omega) (ev_pos c ?_)))))))))
      exact ev_bind e1 (ev_bind e2 (ev_pos (by omega) (ev_some rfl)))
    · obtain ⟨l, e1, n1, o1⟩ := lined_l1 x y w h hw hwW hh hhH hy IH d (a + 1) (by omega) (by omega) (by
        obtain ⟨b, b1, b2, b3⟩ := hb
        have : b ≠ a := fun k => by subst k; exact c b3
        exact ⟨b, by omega, b2, b3⟩)
      refine ⟨l, Ev.step (fun _ => impl_lined.l1.eq_2 ..) ?_, n1, o1⟩
      rw [half_w h (by omega), sub_w h a (by omega) (by omega), v1, v2, v3, r0, hlen, inc_w a (by omega), w64 (e := bl w a + bl w (h - a)) (by omega) (by omega)]
      exact ev_pos (by obtain ⟨b, b1, b2, b3⟩ := hb; omega) (ev_pos (by omega) (ev_pos (by omega) (ev_pos (by omega) (ev_pos (by omega) (ev_pos (by omega) (ev_pos (by omega) (ev_pos (by omega) (ev_pos (by omega) (ev_neg c e1)))))))))
theorem lined_l0 (x y : Int) (w h : Nat) (hw : 1 ≤ w) (hwW : w ≤ W) (hh : 1 ≤ h) (hhH : h ≤ H) (hx : 0 ≤ x ∧ x + w ≤ 1000)
    (IH : ∀ (a : Nat) (x' : Int), 1 ≤ a → a < w → 0 ≤ x' → x' + a ≤ 1000 → ∃ l, Lin W H x' y a h l) : ∀ (d a : Nat), a + d = w / 2 + 1 → 1 ≤ a → ((∃ b, a ≤ b ∧ b ≤ w / 2 ∧ bl b h + bl (w - b) h = bl w h) ∨ ∃ l, Ev (fun k => impl_lined.l1 k (tabN W H (W + 1) []) x y w h 1) l ∧ (l.length : Int) = bl w h ∧ l.all okQ = true) →
    ∃ l, Ev (fun k => impl_lined.l0 k (tabN W H (W + 1) []) x y w h a) l ∧ (l.length : Int) = bl w h ∧ l.all okQ = true
  | 0, a, hd, ha, hb => by
    rcases hb with ⟨b, b1, b2, -⟩ | ⟨l, e, n, o⟩
    · omega
    · refine ⟨l, Ev.step (fun _ => impl_lined.l0.eq_2 ..) ?_, n, o⟩
      rw [half_w w (by omega)]
      exact ev_neg (by omega) e
  | d + 1, a, hd, ha, hb => by
    have hlen := tabN_length W H (W + 1) []
    have r1 := tab_row W H hW hH a (by omega)
    have r2 := tab_row W H hW hH (w - a) (by omega)
    have r3 := tab_row W H hW hH w hwW
    have v1 := tab_bl W H hW hH a h (by omega) hhH
    have v2 := tab_bl W H hW hH (w - a) h (by omega) hhH
    have v3 := tab_bl W H hW hH w h hwW hhH
    have q1 := bl_ge a h
    have q2 := bl_ge (w - a) h
    have q3 := bl_le_sq W H a h (by omega) hhH hW hH
    have q4 := bl_le_sq W H (w - a) h (by omega) hhH hW hH
    have q5 := bl_le_sq W H w h hwW hhH hW hH
    by_cases c : bl a h + bl (w - a) h = bl w h
    · obtain ⟨l1, e1, n1, o1⟩ := IH a x ha (by omega) hx.1 (by omega)
      obtain ⟨l2, e2, n2, o2⟩ := IH (w - a) (x + a) (by omega) (by omega) (by omega) (by omega)
      refine ⟨l1 ++ l2, Ev.step (fun _ => impl_lined.l0.eq_2 ..) ?_, by rw [List.length_append]; omega, by rw [List.all_append, o1, o2]; rfl⟩
      rw [half_w w (by omega), sub_w w a (by omega) (by omega), v1, v2, v3, r1, r2, r3, hlen, w64 (e := x + a) (by omega) (by omega), w64 (e := bl a h + bl (w - a) h) (by omega) (by omega)]
      refine ev_pos (by omega) (ev_pos (by omega) (ev_pos (by omega) (ev_pos (by omega) (ev_pos (by omega) (ev_pos (by omega) (ev_pos (by omega) (ev_pos (by omega) (ev_pos (by omega) (ev_pos (by omega) (ev_pos (by omega) (ev_pos c ?_)))))))))))
      exact ev_bind e1 (ev_bind e2 (ev_pos (by omega) (ev_some rfl)))
    · obtain ⟨l, e1, n1, o1⟩ := lined_l0 x y w h hw hwW hh hhH hx IH d (a + 1) (by omega) (by omega) (by
        rcases hb with ⟨b, b1, b2, b3⟩ | hb
        · have : b ≠ a := fun k => by subst k; exact c b3
          exact .inl ⟨b, by omega, b2, b3⟩
        · exact .inr hb)
      refine ⟨l, Ev.step (fun _ => impl_lined.l0.eq_2 ..) ?_, n1, o1⟩
      rw [half_w w (by omega), sub_w w a (by omega) (by omega), v1, v2, v3, r1, r2, r3, hlen, inc_w a (by omega), w64 (e := bl a h + bl (w - a) h) (by omega) (by omega)]
      exact ev_pos (by omega) (ev_pos (by omega) (ev_pos (by omega) (ev_pos (by omega) (ev_pos (by omega) (ev_pos (by omega) (ev_pos (by omega) (ev_pos (by omega) (ev_pos (by omega) (ev_pos (by omega) (ev_pos (by omega) (ev_neg c e1)))))))))))
theorem lined_ev : ∀ (n w h : Nat) (x y : Int), w + h ≤ n → 1 ≤ w → w ≤ W → 1 ≤ h → h ≤ H → 0 ≤ x → x + w ≤ 1000 → 0 ≤ y → y + h ≤ 1000 → ∃ l, Lin W H x y w h l
  | 0, w, h, x, y, hn, h1, h2, h3, h4, _, _, _, _ => by omega
  | n + 1, w, h, x, y, hn, h1, h2, h3, h4, x1, x2, y1, y2 => by
    by_cases c : w = h
    · subst c
      refine ⟨[⟨x, y, w⟩], Ev.step (fun _ => impl_lined.f.eq_2 ..) (ev_pos rfl (ev_some rfl)), by rw [bl_one w h1]; rfl, ?_⟩
      rw [List.all_cons, List.all_nil, Bool.and_true]
      exact okQ_iff.2 (by simp only; omega)
    · have hl1 : (∃ a, 1 ≤ a ∧ a ≤ h / 2 ∧ bl w a + bl w (h - a) = bl w h) → ∃ l, Ev (fun k => impl_lined.l1 k (tabN W H (W + 1) []) x y w h 1) l ∧ (l.length : Int) = bl w h ∧ l.all okQ = true := fun hs =>
        lined_l1 W H hW hH x y w h h1 h2 h3 h4 ⟨y1, y2⟩ (fun a y' a1 a2 a3 a4 => lined_ev n w a x y' (by omega) h1 h2 a1 (by omega) x1 x2 a3 a4) (h / 2) 1 (by omega) (Nat.le_refl _) hs
      obtain ⟨l, e, m, o⟩ := lined_l0 W H hW hH x y w h h1 h2 h3 h4 ⟨x1, x2⟩ (fun a x' a1 a2 a3 a4 => lined_ev n a h x' y (by omega) a1 (by omega) h3 h4 a3 a4 y1 y2) (w / 2) 1 (by omega) (Nat.le_refl _) ((bl_split w h h1 h3 c).imp id hl1)
      exact ⟨l, Ev.step (fun _ => impl_lined.f.eq_2 ..) (ev_neg (by omega) e), m, o⟩
end
end Go.Proofs.Ytdfcljfajiihdaa.Pure

namespace Go.Proofs.Ytdfcljfajiihdaa.P
open Go.RowKit Go.Proofs.YtdfcljfajiihdaaW.PrintWords Go.Proofs.YtdfcljfajiihdaaW.PrintLast Go.Proofs.YtdfcljfajiihdaaW.PrintMore
attribute [local go_sem] max2_int min2_int max_two min_two max_three min_three max_four min_four
set_option linter.unusedVariables false
set_option linter.unusedSimpArgs false
end Go.Proofs.Ytdfcljfajiihdaa.P

namespace Go.Proofs.Ytdfcljfajiihdaa.P
open Go.RowKit Go.Proofs.YtdfcljfajiihdaaW.PrintWords Go.Proofs.YtdfcljfajiihdaaW.PrintLast Go.Proofs.YtdfcljfajiihdaaW.PrintMore
attribute [local go_sem] max2_int min2_int max_two min_two max_three min_three max_four min_four
set_option linter.unusedVariables false
set_option linter.unusedSimpArgs false
end Go.Proofs.Ytdfcljfajiihdaa.P

namespace Go.Proofs.Ytdfcljfajiihdaa.P
open Go.RowKit Go.Proofs.YtdfcljfajiihdaaW.PrintWords Go.Proofs.YtdfcljfajiihdaaW.PrintLast Go.Proofs.YtdfcljfajiihdaaW.PrintMore
attribute [local go_sem] max2_int min2_int max_two min_two max_three min_three max_four min_four
set_option linter.unusedVariables false
set_option linter.unusedSimpArgs false
end Go.Proofs.Ytdfcljfajiihdaa.P

namespace Go.Proofs.Ytdfcljfajiihdaa.P
open Go.RowKit Go.Proofs.YtdfcljfajiihdaaW.PrintWords Go.Proofs.YtdfcljfajiihdaaW.PrintLast Go.Proofs.YtdfcljfajiihdaaW.PrintMore
attribute [local go_sem] max2_int min2_int max_two min_two max_three min_three max_four min_four
set_option linter.unusedVariables false
set_option linter.unusedSimpArgs false
end Go.Proofs.Ytdfcljfajiihdaa.P

namespace Go.Proofs.Ytdfcljfajiihdaa.P
open Go.RowKit Go.Proofs.YtdfcljfajiihdaaW.PrintWords Go.Proofs.YtdfcljfajiihdaaW.PrintLast Go.Proofs.YtdfcljfajiihdaaW.PrintMore
attribute [local go_sem] max2_int min2_int max_two min_two max_three min_three max_four min_four
set_option linter.unusedVariables false
set_option linter.unusedSimpArgs false
end Go.Proofs.Ytdfcljfajiihdaa.P

namespace Go.Proofs.Ytdfcljfajiihdaa.Pure
set_option linter.unusedVariables false
set_option linter.unusedSimpArgs false
open Go.RowKit Go.Proofs.Ytdfcljfajiihdaa.P Go.Proofs.YtdfcljfajiihdaaW.PrintWords Go.Proofs.YtdfcljfajiihdaaW.PrintLast Go.Proofs.YtdfcljfajiihdaaW.PrintMore Go.Proofs.Ytdfcljfajiihdaa.Aid Go.Proofs.Ytdfcljfajiihdaa.T
theorem eqSquareS_refl_l (l : List Sq) (hl : l.length ≤ 9223372036854775807) : ∀ (d i : Nat), i + d = l.length → Ev (fun k => laws_eqSquareS.l0 k l l i) true
  | 0, i, hd => Ev.step (fun _ => laws_eqSquareS.l0.eq_2 ..) (ev_neg (by omega) (ev_some rfl))
  | d + 1, i, hd => Ev.step (fun _ => laws_eqSquareS.l0.eq_2 ..) (ev_pos (by omega) (ev_pos (by omega) (ev_pos (by omega) (by
      refine ev_call (a := true) (by unfold laws_eqSquare.f; simp) (ev_pos rfl ?_)
      rw [w64 (by omega) (by omega)]
      exact eqSquareS_refl_l l hl d (i + 1) (by omega)))))
theorem eqSquareS_refl (l : List Sq) (hl : l.length ≤ 9223372036854775807) : Ev (fun k => laws_eqSquareS.f k l l) true := ev_pos rfl (eqSquareS_refl_l l hl l.length 0 (by omega))
theorem eqCut_refl (a b : Int) (l : List Sq) (hl : l.length ≤ 9223372036854775807) : Ev (fun k => laws_eqCut.f k a b l a b l) true :=
  ev_pos rfl (ev_pos rfl (ev_bind (eqSquareS_refl l hl) (ev_pos rfl (ev_some rfl))))
end Go.Proofs.Ytdfcljfajiihdaa.Pure
