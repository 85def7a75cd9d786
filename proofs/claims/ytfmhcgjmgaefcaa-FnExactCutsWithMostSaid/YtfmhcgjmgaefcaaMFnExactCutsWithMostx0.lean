import Derived.Test.YtfmhcgjmgaefcaaProg
import Derived.Below
import Derived.Deep.Draws
import Derived.Deep.AppendLies
import Derived.Maps.AppendAt
import Derived.OwnWalk
import Derived.Laws.BytesArg
import Derived.Laws.MakeOwn
import Derived.Laws.OwnMore
import Derived.Deep.OwnRows
import Derived.Tactics
import Derived.Lib.ConvBytes
import Derived.Laws.Slices
import Derived.WalkKit
import Derived.KernelRfl
import Derived.RowKit3
import Derived.Deep.LoopGhost
import Derived.Deep.QuietTactic
import Derived.BigQuiet
import Derived.WideLaws
import Derived.Deep.DeepCutAuto
import Derived.Deep.CutBlock
import Derived.Deep.RegionHeld3
import Derived.Laws.Rows
import Derived.Lib.AppendStr
import Derived.ArgAppend
import Derived.Laws.IdiomCopy
import Derived.OrdersHeld
import Derived.Laws.BitsLemmas
import Derived.RowKit
import Derived.Test.YtfmhcgjmgaefcaaWWords
import Derived.Test.YtfmhcgjmgaefcaaWLast
import Derived.Test.YtfmhcgjmgaefcaaWTab
import Derived.Test.YtfmhcgjmgaefcaaWFour
import Derived.Test.YtfmhcgjmgaefcaaWQPut
import Derived.Test.YtfmhcgjmgaefcaaWApart
import Derived.Test.YtfmhcgjmgaefcaaWArr
import Derived.Test.YtfmhcgjmgaefcaaWZeros
import Derived.Test.YtfmhcgjmgaefcaaWFoot
import Derived.Test.YtfmhcgjmgaefcaaWKept
import Derived.Test.YtfmhcgjmgaefcaaWShare
import Derived.Test.YtfmhcgjmgaefcaaWN
import Derived.Test.YtfmhcgjmgaefcaaWFootNe
import Derived.Test.YtfmhcgjmgaefcaaWAt
import Derived.Test.YtfmhcgjmgaefcaaWEqStruct
import Derived.Test.YtfmhcgjmgaefcaaWRepsOne
import Derived.Test.YtfmhcgjmgaefcaaWInv
import Derived.Test.YtfmhcgjmgaefcaaWInvWords
import Derived.Test.YtfmhcgjmgaefcaaWGuard
import Derived.Test.YtfmhcgjmgaefcaaWNEv
import Derived.Test.YtfmhcgjmgaefcaaWMore
namespace Go.Proofs.Ytfmhcgjmgaefcaa.T
/-- a square: its place, its side -/
structure Sq where
  f0 : Int
  f1 : Int
  f2 : Int
deriving DecidableEq
/-- a cut: its width, its height, its squares -/
structure Ct where
  f0 : Int
  f1 : Int
  f2 : List Sq
deriving DecidableEq
end Go.Proofs.Ytfmhcgjmgaefcaa.T

namespace Go.Proofs.Ytfmhcgjmgaefcaa.P
open Go.RowKit Go.Proofs.YtfmhcgjmgaefcaaW.PrintWords Go.Proofs.YtfmhcgjmgaefcaaW.PrintLast Go.Proofs.YtfmhcgjmgaefcaaW.PrintMore
attribute [local go_sem] max2_int min2_int max_two min_two max_three min_three max_four min_four
set_option linter.unusedVariables false
set_option linter.unusedSimpArgs false

def errW : Option Int → Value
  | none => .nilIface
  | some c => .iface 0 (.int .i64 c)
theorem errW_none : errW none = .nilIface := rfl
theorem errW_some (c : Int) : errW (some c) = .iface 0 (.int .i64 c) := rfl

theorem info3 : (Try.prog.info? 3).map (fun i => (i.zero, i.size, i.bytes)) = some (some (.int .i64 0), 1, 8) := by kernel_rfl
theorem info56 : (Try.prog.info? 56).map (fun i => (i.zero, i.size, i.bytes)) = some (some (.agg #[(.int .i64 0), (.int .i64 0), (.int .i64 0)]), 3, 24) := by kernel_rfl
-- the values' own types
/-! #### struct type 64 -/
abbrev S64 := Go.Proofs.Ytfmhcgjmgaefcaa.T.Sq
def z64 : S64 := ⟨(0 : Int), (0 : Int), (0 : Int)⟩
def k64 : Kd S64 := Kd.iso (Kd.pair (Kd.int .i64) (Kd.pair (Kd.int .i64) (Kd.int .i64))) (fun x : S64 => (x.f0, x.f1, x.f2))
theorem k64_open {w : World} {x : S64} {cs : List Value} (h : k64.K w x cs) : cs = [.int .i64 x.f0, .int .i64 x.f1, .int .i64 x.f2] := by
  obtain ⟨_, _, rfl, rfl, ⟨_, _, rfl, rfl, rfl⟩⟩ := h
  exact rfl
theorem k64_openM {w : World} {base : Nat} {ok : Nat → Prop} {x : S64} {cs : List Value} (h : k64.M w base ok x cs) : cs = [.int .i64 x.f0, .int .i64 x.f1, .int .i64 x.f2] := by
  obtain ⟨_, _, rfl, rfl, ⟨_, _, rfl, rfl, rfl⟩⟩ := h
  exact rfl
theorem k64_mk (w : World) (x : S64)  : k64.K w x [.int .i64 x.f0, .int .i64 x.f1, .int .i64 x.f2] := ⟨[.int .i64 x.f0], [.int .i64 x.f1, .int .i64 x.f2], rfl, rfl, ⟨[.int .i64 x.f1], [.int .i64 x.f2], rfl, rfl, rfl⟩⟩
theorem k64_mkM (w : World) (base : Nat) (ok : Nat → Prop) (x : S64)  : k64.M w base ok x [.int .i64 x.f0, .int .i64 x.f1, .int .i64 x.f2] := ⟨[.int .i64 x.f0], [.int .i64 x.f1, .int .i64 x.f2], rfl, rfl, ⟨[.int .i64 x.f1], [.int .i64 x.f2], rfl, rfl, rfl⟩⟩
def rd_T64 (xs : List S64) (i : Int) : S64 := xs.getD i.toNat z64
theorem at_T64 {w : World} {A : Option Addr} {n : Nat} {xs : List S64} (h : Kd.C k64 w A n xs) (i : Int) (h0 : 0 ≤ i) (h1 : i < n) : ∃ ad , A = some ad ∧ w.cell? (ad.add (i.toNat * 3)) = some (.int .i64 (rd_T64 xs i).f0) ∧ w.cell? ⟨(ad.add (i.toNat * 3)).block, (ad.add (i.toNat * 3)).off + 1, none⟩ = some (.int .i64 (rd_T64 xs i).f1) ∧ w.cell? ⟨(ad.add (i.toNat * 3)).block, (ad.add (i.toNat * 3)).off + 2, none⟩ = some (.int .i64 (rd_T64 xs i).f2) := by
  obtain ⟨ad, c, e, _, hK, hc0⟩ := Kd.C_get h z64 i h0 h1
  have hc : ∀ j u, c[j]? = some u → w.cell? (ad.add (i.toNat * 3 + j)) = some u := hc0
  obtain rfl := k64_open hK
  exact ⟨ad, e, hc 0 _ rfl, by rw [← add_field _ _ 1 (by omega)]; exact hc 1 _ rfl, by rw [← add_field _ _ 2 (by omega)]; exact hc 2 _ rfl⟩

/-! #### struct type 56 -/
abbrev S56 := Go.Proofs.Ytfmhcgjmgaefcaa.T.Sq
def z56 : S56 := ⟨(0 : Int), (0 : Int), (0 : Int)⟩
def k56 : Kd S56 := Kd.iso (Kd.pair (Kd.int .i64) (Kd.pair (Kd.int .i64) (Kd.int .i64))) (fun x : S56 => (x.f0, x.f1, x.f2))
theorem k56_open {w : World} {x : S56} {cs : List Value} (h : k56.K w x cs) : cs = [.int .i64 x.f0, .int .i64 x.f1, .int .i64 x.f2] := by
  obtain ⟨_, _, rfl, rfl, ⟨_, _, rfl, rfl, rfl⟩⟩ := h
  exact rfl
theorem k56_openM {w : World} {base : Nat} {ok : Nat → Prop} {x : S56} {cs : List Value} (h : k56.M w base ok x cs) : cs = [.int .i64 x.f0, .int .i64 x.f1, .int .i64 x.f2] := by
  obtain ⟨_, _, rfl, rfl, ⟨_, _, rfl, rfl, rfl⟩⟩ := h
  exact rfl
theorem k56_mk (w : World) (x : S56)  : k56.K w x [.int .i64 x.f0, .int .i64 x.f1, .int .i64 x.f2] := ⟨[.int .i64 x.f0], [.int .i64 x.f1, .int .i64 x.f2], rfl, rfl, ⟨[.int .i64 x.f1], [.int .i64 x.f2], rfl, rfl, rfl⟩⟩
theorem k56_mkM (w : World) (base : Nat) (ok : Nat → Prop) (x : S56)  : k56.M w base ok x [.int .i64 x.f0, .int .i64 x.f1, .int .i64 x.f2] := ⟨[.int .i64 x.f0], [.int .i64 x.f1, .int .i64 x.f2], rfl, rfl, ⟨[.int .i64 x.f1], [.int .i64 x.f2], rfl, rfl, rfl⟩⟩
def rd_T56 (xs : List S56) (i : Int) : S56 := xs.getD i.toNat z56
theorem at_T56 {w : World} {A : Option Addr} {n : Nat} {xs : List S56} (h : Kd.C k56 w A n xs) (i : Int) (h0 : 0 ≤ i) (h1 : i < n) : ∃ ad , A = some ad ∧ w.cell? (ad.add (i.toNat * 3)) = some (.int .i64 (rd_T56 xs i).f0) ∧ w.cell? ⟨(ad.add (i.toNat * 3)).block, (ad.add (i.toNat * 3)).off + 1, none⟩ = some (.int .i64 (rd_T56 xs i).f1) ∧ w.cell? ⟨(ad.add (i.toNat * 3)).block, (ad.add (i.toNat * 3)).off + 2, none⟩ = some (.int .i64 (rd_T56 xs i).f2) := by
  obtain ⟨ad, c, e, _, hK, hc0⟩ := Kd.C_get h z56 i h0 h1
  have hc : ∀ j u, c[j]? = some u → w.cell? (ad.add (i.toNat * 3 + j)) = some u := hc0
  obtain rfl := k56_open hK
  exact ⟨ad, e, hc 0 _ rfl, by rw [← add_field _ _ 1 (by omega)]; exact hc 1 _ rfl, by rw [← add_field _ _ 2 (by omega)]; exact hc 2 _ rfl⟩

end Go.Proofs.Ytfmhcgjmgaefcaa.P

namespace Go.Proofs.Ytfmhcgjmgaefcaa.P
open Go.RowKit Go.Proofs.YtfmhcgjmgaefcaaW.PrintWords Go.Proofs.YtfmhcgjmgaefcaaW.PrintLast Go.Proofs.YtfmhcgjmgaefcaaW.PrintMore
attribute [local go_sem] max2_int min2_int max_two min_two max_three min_three max_four min_four
set_option linter.unusedVariables false
set_option linter.unusedSimpArgs false

/-! ### spec_l1In: function 35 -/
def spec_l1In.f (a0 : Int) (a1 : Int) (a2 : Int) : Option (Bool) := if a0 ≥ a1 then (some (decide (a0 ≤ a2))) else (some false)
set_option maxHeartbeats 8000000 in
set_option maxRecDepth 100000 in
theorem spec_l1In.calls (a0 : Int) (a1 : Int) (a2 : Int) (r : Bool) (w : World) (h : spec_l1In.f a0 a1 a2 = some r) :
    Calls Try.prog 35 #[.int .i64 a0, .int .i64 a1, .int .i64 a2] w fun e w' => e = .returned (.bool r) ∧ Drawn0 w w' := by
  have H : (if a0 ≥ a1 then (some (decide (a0 ≤ a2))) else (some false)) = some r := h
  clear h
  by_cases c4 : a0 ≥ a1
  · rw [if_pos c4] at H
    have c4b0 : decide (a1 ≤ a0) = true := decide_eq_true c4
    clear c4
    obtain rfl := Option.some.inj H
    go_enter Try.func35, Try.ntmps35
    go_wp2
    go_ret
    exact ⟨by first | rfl | (simp; done) | (simp [*]; done), by repeat (first | exact Drawn0.refl _ | apply Drawn0.step)⟩
  · rw [if_neg c4] at H
    have c4b0 : decide (a1 ≤ a0) = false := decide_eq_false c4
    clear c4
    obtain rfl := Option.some.inj H
    go_enter Try.func35, Try.ntmps35
    go_wp2
    go_ret
    exact ⟨by first | rfl | (simp; done) | (simp [*]; done), by repeat (first | exact Drawn0.refl _ | apply Drawn0.step)⟩

end Go.Proofs.Ytfmhcgjmgaefcaa.P

namespace Go.Proofs.Ytfmhcgjmgaefcaa.P
open Go.RowKit Go.Proofs.YtfmhcgjmgaefcaaW.PrintWords Go.Proofs.YtfmhcgjmgaefcaaW.PrintLast Go.Proofs.YtfmhcgjmgaefcaaW.PrintMore
attribute [local go_sem] max2_int min2_int max_two min_two max_three min_three max_four min_four
set_option linter.unusedVariables false
set_option linter.unusedSimpArgs false

/-! ### spec_ctSize: function 34 -/
def spec_ctSize.f (a0 : Int) (a1 : Int) : Option (Bool) := (spec_l1In.f a0 1 6).bind fun t101 => (if t101 = true then ((spec_l1In.f a1 1 6).bind fun t102 => (some t102)) else (some false))
set_option maxHeartbeats 8000000 in
set_option maxRecDepth 100000 in
theorem spec_ctSize.calls (a0 : Int) (a1 : Int) (r : Bool) (w : World) (h : spec_ctSize.f a0 a1 = some r) :
    Calls Try.prog 34 #[.int .i64 a0, .int .i64 a1] w fun e w' => e = .returned (.bool r) ∧ Drawn0 w w' := by
  have H : ((spec_l1In.f a0 1 6).bind fun t101 => (if t101 = true then ((spec_l1In.f a1 1 6).bind fun t102 => (some t102)) else (some false))) = some r := h
  clear h
  replace H := Option.bind_eq_some_iff.mp H
  obtain ⟨t101, A30, H⟩ := H
  replace H : (if t101 = true then ((spec_l1In.f a1 1 6).bind fun t102 => (some t102)) else (some false)) = some r := H
  have A3 := Aside0.mk A30
  clear A30
  by_cases c4 : t101 = true
  · subst c4
    have H1 : ((spec_l1In.f a1 1 6).bind fun t102 => (some t102)) = some r := by rw [if_pos rfl] at H; exact H
    clear H
    have H := H1
    clear H1
    replace H := Option.bind_eq_some_iff.mp H
    obtain ⟨t102, A50, H⟩ := H
    replace H : (some t102) = some r := H
    have A5 := Aside0.mk A50
    clear A50
    obtain rfl := Option.some.inj H
    go_enter Try.func34, Try.ntmps34
    go_wp2_with (first | ((with_reducible refine gate_callee (f := 35) rfl ?_); refine goesL_ (some 6) rfl rfl Try.func35 (by kernel_rfl) rfl #[.int .i64 a0, .int .i64 1, .int .i64 6] rfl (by (try simp only [List.map_toArray, List.map_cons, List.map_nil]); first | done | rfl | (simp only [List.length_drop, List.length_take]; rfl)) ?_; (with_reducible refine (spec_l1In.calls a0 1 6 true _ A3.out).mono ?_); rintro e w' ⟨rfl, ⟨nd, rfl⟩⟩; refine ⟨_, rfl, ?_⟩) | (go_at_call 35; (with_reducible refine (spec_l1In.calls a1 1 6 t102 _ A5.out).mono ?_); rintro e w' ⟨rfl, ⟨nd, rfl⟩⟩))
    go_ret
    exact ⟨by first | rfl | (simp; done) | (simp [*]; done), by repeat (first | exact Drawn0.refl _ | apply Drawn0.step)⟩
  · replace c4 := Bool.eq_false_iff.mpr c4
    subst c4
    have H1 : (some false) = some r := by rw [if_neg (show ¬ (false = true) by decide)] at H; exact H
    clear H
    have H := H1
    clear H1
    obtain rfl := Option.some.inj H
    go_enter Try.func34, Try.ntmps34
    go_wp2_with (first | ((with_reducible refine gate_callee (f := 35) rfl ?_); refine goesL_ (some 6) rfl rfl Try.func35 (by kernel_rfl) rfl #[.int .i64 a0, .int .i64 1, .int .i64 6] rfl (by (try simp only [List.map_toArray, List.map_cons, List.map_nil]); first | done | rfl | (simp only [List.length_drop, List.length_take]; rfl)) ?_; (with_reducible refine (spec_l1In.calls a0 1 6 false _ A3.out).mono ?_); rintro e w' ⟨rfl, ⟨nd, rfl⟩⟩; refine ⟨_, rfl, ?_⟩))
    go_ret
    exact ⟨by first | rfl | (simp; done) | (simp [*]; done), by repeat (first | exact Drawn0.refl _ | apply Drawn0.step)⟩

end Go.Proofs.Ytfmhcgjmgaefcaa.P

namespace Go.Proofs.Ytfmhcgjmgaefcaa.P
open Go.RowKit Go.Proofs.YtfmhcgjmgaefcaaW.PrintWords Go.Proofs.YtfmhcgjmgaefcaaW.PrintLast Go.Proofs.YtfmhcgjmgaefcaaW.PrintMore
attribute [local go_sem] max2_int min2_int max_two min_two max_three min_three max_four min_four
set_option linter.unusedVariables false
set_option linter.unusedSimpArgs false

/-! ### spec_ctSum: function 36 -/
def spec_ctSum.l0 : Nat → Int → List Int → Int → Int → Option (Int)
  | 0, _, _, _, _ => none
  | k + 1, x3, x6, x7, x8 => if x8 < x7 then (if 0 ≤ x8 then (if x8 < (x6.length : Int) then (spec_ctSum.l0 k (wrap64 (x3 + (rd x6 x8))) x6 x7 (wrap64 (x8 + 1))) else (none)) else (none)) else (some x3)
def spec_ctSum.f (k : Nat) (l0 : List Int) : Option (Int) := spec_ctSum.l0 k 0 l0 (l0.length : Int) 0
theorem spec_ctSum.mono_l : ∀ k, (∀ y0 y1 y2 y3, LeO (spec_ctSum.l0 k y0 y1 y2 y3) (spec_ctSum.l0 (k + 1) y0 y1 y2 y3))
  | 0 => fun _ _ _ _ r h => by simp [spec_ctSum.l0] at h
  | k + 1 => by
    have ih0 := spec_ctSum.mono_l k
    · intro y0 y1 y2 y3
      unfold spec_ctSum.l0
      repeat' first
      | (with_reducible exact ih0 _ _ _ _)
      | (with_reducible exact LeO.refl _)
      | (with_reducible exact LeO.none _)
      | (with_reducible refine LeO.ite ?_ ?_)
      | (with_reducible refine LeO.bind ?_ (fun _ => ?_))
      | exact ih0 _ _ _ _
      | exact LeO.none _
      | refine LeO.ite ?_ ?_
      | refine LeO.bind ?_ (fun _ => ?_)
theorem spec_ctSum.mono : ∀ a0 k, LeO (spec_ctSum.f k a0) (spec_ctSum.f (k + 1) a0) := by
  intro a0 k
  have ih0 := spec_ctSum.mono_l k
  unfold spec_ctSum.f
  repeat' first
      | (with_reducible exact ih0 _ _ _ _)
      | (with_reducible exact LeO.refl _)
      | (with_reducible exact LeO.none _)
      | (with_reducible refine LeO.ite ?_ ?_)
      | (with_reducible refine LeO.bind ?_ (fun _ => ?_))
      | exact ih0 _ _ _ _
      | exact LeO.none _
      | refine LeO.ite ?_ ?_
      | refine LeO.bind ?_ (fun _ => ?_)
set_option maxHeartbeats 8000000 in
set_option maxRecDepth 100000 in
theorem spec_ctSum.calls (k : Nat) (A0 : Option Addr) (c0 : Nat) (l0 : List Int) (r : Int) (w : World) (hr0 : Kd.C (Kd.int .i64) w A0 l0.length l0) (hc0 : l0.length ≤ c0) (h : spec_ctSum.f k l0 = some r) :
    Calls Try.prog 36 #[.slice A0 l0.length c0] w fun e w' => e = .returned (.int .i64 r) ∧ Drawn0 w w' := by
  have HR0 := Aside0.mk hr0
  have HC0 := Aside0.mk hc0
  clear hr0 hc0
  have H : (spec_ctSum.l0 k 0 l0 (l0.length : Int) 0) = some r := h
  clear h
  have H' := Aside0.mk H
  clear H
  go_enter Try.func36, Try.ntmps36
  go_wp2
  go_loopg [3, 8] k (fun kq v3 v8 w' => ∃ (x3_1 : Int) (x8_1 : Int), v3 = .int .i64 x3_1 ∧ v8 = .int .i64 x8_1 ∧ Aside0 (spec_ctSum.l0 kq x3_1 l0 (l0.length : Int) x8_1 = some r) ∧ Aside0 (kq ≤ k) ∧ Drawn0 w w')
  case atStart => exact ⟨(0), (0), (by first | rfl | (simp; done) | (simp [*]; done)), (by first | rfl | (simp; done) | (simp [*]; done)), H', ⟨Nat.le_refl _⟩, by repeat (first | exact Drawn0.refl _ | apply Drawn0.step)⟩
  case round =>
    clear H'
    obtain ⟨x3_1, x8_1, rfl, rfl, HA, HK1, ⟨m1, rfl⟩⟩ := hrel
    cases gk with
    | zero => exact absurd HA.out (by simp [spec_ctSum.l0])
    | succ k1 =>
      have H := HA.out
      clear HA
      simp only [spec_ctSum.l0] at H
      by_cases c2 : x8_1 < (l0.length : Int)
      · rw [if_pos c2] at H
        have c2b0 : decide (x8_1 < (l0.length : Int)) = true := decide_eq_true c2
        clear c2
        by_cases c3 : 0 ≤ x8_1
        · rw [if_pos c3] at H
          have c3b0 : decide (0 ≤ x8_1) = true := decide_eq_true c3
          clear c3
          by_cases c4 : x8_1 < (l0.length : Int)
          · rw [if_pos c4] at H
            have c4b0 : decide (x8_1 < (l0.length : Int)) = true := decide_eq_true c4
            clear c4
            have H' := Aside0.mk H
            clear H
            have p101 : 0 ≤ (x8_1 : Int) := of_decide_eq_true (by first | (with_reducible assumption) | assumption)
            have q101 : x8_1 < (l0.length : Int) := of_decide_eq_true (by first | (with_reducible assumption) | assumption)
            obtain ⟨ad101, e101, hx101_0⟩ := Kd.at_int HR0.out x8_1 p101 q101
            cases e101
            replace p101 := eq_true p101
            replace q101 := eq_true q101
            go_wp2
            go_roundg k1
            case measure => have := HK1.out; omega
            case rel => exact ⟨(wrap64 (x3_1 + (rd l0 x8_1))), (wrap64 (x8_1 + 1)), (by first | rfl | (simp; done) | (simp [*]; done)), (by first | rfl | (simp; done) | (simp [*]; done)), H', ⟨by have := HK1.out; omega⟩, by repeat (first | exact Drawn0.refl _ | apply Drawn0.step)⟩
          · rw [if_neg c4] at H
            exact absurd H (by simp)
        · rw [if_neg c3] at H
          exact absurd H (by simp)
      · rw [if_neg c2] at H
        have c2b0 : decide (x8_1 < (l0.length : Int)) = false := decide_eq_false c2
        clear c2
        obtain rfl := Option.some.inj H
        go_wp2
        go_ret
        exact ⟨by first | rfl | (simp; done) | (simp [*]; done), by repeat (first | exact Drawn0.refl _ | apply Drawn0.step)⟩

end Go.Proofs.Ytfmhcgjmgaefcaa.P

namespace Go.Proofs.Ytfmhcgjmgaefcaa.P
open Go.RowKit Go.Proofs.YtfmhcgjmgaefcaaW.PrintWords Go.Proofs.YtfmhcgjmgaefcaaW.PrintLast Go.Proofs.YtfmhcgjmgaefcaaW.PrintMore
attribute [local go_sem] max2_int min2_int max_two min_two max_three min_three max_four min_four
set_option linter.unusedVariables false
set_option linter.unusedSimpArgs false

/-! ### spec_l1Least: function 64 -/
def spec_l1Least.f (a0 : Int) (a1 : Int) : Option (Int) := if a0 < a1 then (some a0) else (some a1)
set_option maxHeartbeats 8000000 in
set_option maxRecDepth 100000 in
theorem spec_l1Least.calls (a0 : Int) (a1 : Int) (r : Int) (w : World) (h : spec_l1Least.f a0 a1 = some r) :
    Calls Try.prog 64 #[.int .i64 a0, .int .i64 a1] w fun e w' => e = .returned (.int .i64 r) ∧ Drawn0 w w' := by
  have H : (if a0 < a1 then (some a0) else (some a1)) = some r := h
  clear h
  by_cases c3 : a0 < a1
  · rw [if_pos c3] at H
    have c3b0 : decide (a0 < a1) = true := decide_eq_true c3
    clear c3
    obtain rfl := Option.some.inj H
    go_enter Try.func64, Try.ntmps64
    go_wp2
    go_ret
    exact ⟨by first | rfl | (simp; done) | (simp [*]; done), by repeat (first | exact Drawn0.refl _ | apply Drawn0.step)⟩
  · rw [if_neg c3] at H
    have c3b0 : decide (a0 < a1) = false := decide_eq_false c3
    clear c3
    obtain rfl := Option.some.inj H
    go_enter Try.func64, Try.ntmps64
    go_wp2
    go_ret
    exact ⟨by first | rfl | (simp; done) | (simp [*]; done), by repeat (first | exact Drawn0.refl _ | apply Drawn0.step)⟩

end Go.Proofs.Ytfmhcgjmgaefcaa.P

namespace Go.Proofs.Ytfmhcgjmgaefcaa.P
open Go.RowKit Go.Proofs.YtfmhcgjmgaefcaaW.PrintWords Go.Proofs.YtfmhcgjmgaefcaaW.PrintLast Go.Proofs.YtfmhcgjmgaefcaaW.PrintMore
attribute [local go_sem] max2_int min2_int max_two min_two max_three min_three max_four min_four
set_option linter.unusedVariables false
set_option linter.unusedSimpArgs false

/-! ### spec_ctWalk: function 58 -/
mutual
def spec_ctWalk.l0 : Nat → Int → Int → List Int → Int → List Int → Int → List Int → Int → Int → Option (List Int × List Int)
  | 0, _, _, _, _, _, _, _, _, _ => none
  | k + 1, x0, x1, x2, x3, x4, x10, x17, x18, x19 => if x19 < x18 then (if 0 ≤ x19 then (if x19 < (x17.length : Int) then (if 0 ≤ x10 then (if x10 < (x2.length : Int) then (if (rd x17 x19) < (rd x2 x10) then (spec_ctWalk.l0 k x0 x1 x2 x3 x4 x19 x17 x18 (wrap64 (x19 + 1))) else (spec_ctWalk.l0 k x0 x1 x2 x3 x4 x10 x17 x18 (wrap64 (x19 + 1)))) else (none)) else (none)) else (none)) else (none)) else (if 0 ≤ x10 then (if x10 < (x2.length : Int) then (if (rd x2 x10) = x0 then (if 0 ≤ (wrap64 (x3 - 1)) then (if (wrap64 (x3 - 1)) < (x4.length : Int) then (some (x2, (x4.set ((wrap64 (x3 - 1)) : Int).toNat (wrap64 ((rd x4 (wrap64 (x3 - 1))) + 1))))) else (none)) else (none)) else (spec_ctWalk.l1 k x0 x1 x2 x3 x4 x10 0)) else (none)) else (none))
def spec_ctWalk.j2 : Nat → Int → Int → List Int → Int → List Int → Int → Int → Option (List Int × List Int)
  | 0, _, _, _, _, _, _, _ => none
  | k + 1, x0, x1, x2, x3, x4, x10, x13 => if 0 ≤ x10 then (if x10 < (x2.length : Int) then ((spec_l1Least.f x13 (wrap64 (x0 - (rd x2 x10)))).bind fun t109 => ((spec_l1Least.f t109 x1).bind fun t110 => (spec_ctWalk.l2 k x0 x1 x2 x3 x4 x10 t110 1))) else (none)) else (none)
def spec_ctWalk.l2 : Nat → Int → Int → List Int → Int → List Int → Int → Int → Int → Option (List Int × List Int)
  | 0, _, _, _, _, _, _, _, _ => none
  | k + 1, x0, x1, x2, x3, x4, x10, x13, x14 => if x14 ≤ x13 then (spec_ctWalk.l3 k x0 x1 x2 x3 x4 x10 x13 x14 x10) else (some (x2, x4))
def spec_ctWalk.l3 : Nat → Int → Int → List Int → Int → List Int → Int → Int → Int → Int → Option (List Int × List Int)
  | 0, _, _, _, _, _, _, _, _, _ => none
  | k + 1, x0, x1, x2, x3, x4, x10, x13, x14, x15 => if x15 < (wrap64 (x10 + x14)) then (if 0 ≤ x15 then (if x15 < (x2.length : Int) then (spec_ctWalk.l3 k x0 x1 (x2.set (x15 : Int).toNat (wrap64 ((rd x2 x15) + x14))) x3 x4 x10 x13 x14 (wrap64 (x15 + 1))) else (none)) else (none)) else ((spec_ctWalk.f k x0 x1 x2 (wrap64 (x3 + 1)) x4).bind fun bt113 => (spec_ctWalk.l4 k x0 x1 bt113.1 x3 bt113.2 x10 x13 x14 x10))
def spec_ctWalk.l4 : Nat → Int → Int → List Int → Int → List Int → Int → Int → Int → Int → Option (List Int × List Int)
  | 0, _, _, _, _, _, _, _, _, _ => none
  | k + 1, x0, x1, x2, x3, x4, x10, x13, x14, x16 => if x16 < (wrap64 (x10 + x14)) then (if 0 ≤ x16 then (if x16 < (x2.length : Int) then (spec_ctWalk.l4 k x0 x1 (x2.set (x16 : Int).toNat (wrap64 ((rd x2 x16) - x14))) x3 x4 x10 x13 x14 (wrap64 (x16 + 1))) else (none)) else (none)) else (spec_ctWalk.l2 k x0 x1 x2 x3 x4 x10 x13 (wrap64 (x14 + 1)))
def spec_ctWalk.l1 : Nat → Int → Int → List Int → Int → List Int → Int → Int → Option (List Int × List Int)
  | 0, _, _, _, _, _, _, _ => none
  | k + 1, x0, x1, x2, x3, x4, x10, x13 => if (wrap64 (x10 + x13)) < (x2.length : Int) then (if 0 ≤ (wrap64 (x10 + x13)) then (if 0 ≤ x10 then (if x10 < (x2.length : Int) then (if (rd x2 (wrap64 (x10 + x13))) = (rd x2 x10) then (spec_ctWalk.l1 k x0 x1 x2 x3 x4 x10 (wrap64 (x13 + 1))) else (spec_ctWalk.j2 k x0 x1 x2 x3 x4 x10 x13)) else (none)) else (none)) else (none)) else (spec_ctWalk.j2 k x0 x1 x2 x3 x4 x10 x13)
def spec_ctWalk.f : Nat → Int → Int → List Int → Int → List Int → Option (List Int × List Int)
  | 0, _, _, _, _, _ => none
  | k + 1, a0, a1, l2, a3, l4 => spec_ctWalk.l0 k a0 a1 l2 a3 l4 0 l2 (l2.length : Int) 0
end
theorem spec_ctWalk.mono_l : ∀ k, (∀ y0 y1 y2 y3 y4, LeO (spec_ctWalk.f k y0 y1 y2 y3 y4) (spec_ctWalk.f (k + 1) y0 y1 y2 y3 y4)) ∧ (∀ y0 y1 y2 y3 y4 y5 y6 y7 y8, LeO (spec_ctWalk.l0 k y0 y1 y2 y3 y4 y5 y6 y7 y8) (spec_ctWalk.l0 (k + 1) y0 y1 y2 y3 y4 y5 y6 y7 y8)) ∧ (∀ y0 y1 y2 y3 y4 y5 y6, LeO (spec_ctWalk.j2 k y0 y1 y2 y3 y4 y5 y6) (spec_ctWalk.j2 (k + 1) y0 y1 y2 y3 y4 y5 y6)) ∧ (∀ y0 y1 y2 y3 y4 y5 y6 y7, LeO (spec_ctWalk.l2 k y0 y1 y2 y3 y4 y5 y6 y7) (spec_ctWalk.l2 (k + 1) y0 y1 y2 y3 y4 y5 y6 y7)) ∧ (∀ y0 y1 y2 y3 y4 y5 y6 y7 y8, LeO (spec_ctWalk.l3 k y0 y1 y2 y3 y4 y5 y6 y7 y8) (spec_ctWalk.l3 (k + 1) y0 y1 y2 y3 y4 y5 y6 y7 y8)) ∧ (∀ y0 y1 y2 y3 y4 y5 y6 y7 y8, LeO (spec_ctWalk.l4 k y0 y1 y2 y3 y4 y5 y6 y7 y8) (spec_ctWalk.l4 (k + 1) y0 y1 y2 y3 y4 y5 y6 y7 y8)) ∧ (∀ y0 y1 y2 y3 y4 y5 y6, LeO (spec_ctWalk.l1 k y0 y1 y2 y3 y4 y5 y6) (spec_ctWalk.l1 (k + 1) y0 y1 y2 y3 y4 y5 y6))
  | 0 => ⟨fun _ _ _ _ _ r h => by simp [spec_ctWalk.f] at h, fun _ _ _ _ _ _ _ _ _ r h => by simp [spec_ctWalk.l0] at h, fun _ _ _ _ _ _ _ r h => by simp [spec_ctWalk.j2] at h, fun _ _ _ _ _ _ _ _ r h => by simp [spec_ctWalk.l2] at h, fun _ _ _ _ _ _ _ _ _ r h => by simp [spec_ctWalk.l3] at h, fun _ _ _ _ _ _ _ _ _ r h => by simp [spec_ctWalk.l4] at h, fun _ _ _ _ _ _ _ r h => by simp [spec_ctWalk.l1] at h⟩
  | k + 1 => by
    obtain ⟨ih0, ih1, ih2, ih3, ih4, ih5, ih6⟩ := spec_ctWalk.mono_l k
    refine ⟨?_, ?_, ?_, ?_, ?_, ?_, ?_⟩
    · intro y0 y1 y2 y3 y4
      unfold spec_ctWalk.f
      repeat' first
      | (with_reducible exact ih0 _ _ _ _ _)
      | (with_reducible exact ih1 _ _ _ _ _ _ _ _ _)
      | (with_reducible exact ih2 _ _ _ _ _ _ _)
      | (with_reducible exact ih3 _ _ _ _ _ _ _ _)
      | (with_reducible exact ih4 _ _ _ _ _ _ _ _ _)
      | (with_reducible exact ih5 _ _ _ _ _ _ _ _ _)
      | (with_reducible exact ih6 _ _ _ _ _ _ _)
      | (with_reducible exact LeO.refl _)
      | (with_reducible exact LeO.none _)
      | (with_reducible refine LeO.ite ?_ ?_)
      | (with_reducible refine LeO.bind ?_ (fun _ => ?_))
      | exact ih0 _ _ _ _ _
      | exact ih1 _ _ _ _ _ _ _ _ _
      | exact ih2 _ _ _ _ _ _ _
      | exact ih3 _ _ _ _ _ _ _ _
      | exact ih4 _ _ _ _ _ _ _ _ _
      | exact ih5 _ _ _ _ _ _ _ _ _
      | exact ih6 _ _ _ _ _ _ _
      | exact LeO.none _
      | refine LeO.ite ?_ ?_
      | refine LeO.bind ?_ (fun _ => ?_)
    · intro y0 y1 y2 y3 y4 y5 y6 y7 y8
      unfold spec_ctWalk.l0
      repeat' first
      | (with_reducible exact ih0 _ _ _ _ _)
      | (with_reducible exact ih1 _ _ _ _ _ _ _ _ _)
      | (with_reducible exact ih2 _ _ _ _ _ _ _)
      | (with_reducible exact ih3 _ _ _ _ _ _ _ _)
      | (with_reducible exact ih4 _ _ _ _ _ _ _ _ _)
      | (with_reducible exact ih5 _ _ _ _ _ _ _ _ _)
      | (with_reducible exact ih6 _ _ _ _ _ _ _)
      | (with_reducible exact LeO.refl _)
      | (with_reducible exact LeO.none _)
      | (with_reducible refine LeO.ite ?_ ?_)
      | (with_reducible refine LeO.bind ?_ (fun _ => ?_))
      | exact ih0 _ _ _ _ _
      | exact ih1 _ _ _ _ _ _ _ _ _
      | exact ih2 _ _ _ _ _ _ _
      | exact ih3 _ _ _ _ _ _ _ _
      | exact ih4 _ _ _ _ _ _ _ _ _
      | exact ih5 _ _ _ _ _ _ _ _ _
      | exact ih6 _ _ _ _ _ _ _
      | exact LeO.none _
      | refine LeO.ite ?_ ?_
      | refine LeO.bind ?_ (fun _ => ?_)
    · intro y0 y1 y2 y3 y4 y5 y6
      unfold spec_ctWalk.j2
      repeat' first
      | (with_reducible exact ih0 _ _ _ _ _)
      | (with_reducible exact ih1 _ _ _ _ _ _ _ _ _)
      | (with_reducible exact ih2 _ _ _ _ _ _ _)
      | (with_reducible exact ih3 _ _ _ _ _ _ _ _)
      | (with_reducible exact ih4 _ _ _ _ _ _ _ _ _)
      | (with_reducible exact ih5 _ _ _ _ _ _ _ _ _)
      | (with_reducible exact ih6 _ _ _ _ _ _ _)
      | (with_reducible exact LeO.refl _)
      | (with_reducible exact LeO.none _)
      | (with_reducible refine LeO.ite ?_ ?_)
      | (with_reducible refine LeO.bind ?_ (fun _ => ?_))
      | exact ih0 _ _ _ _ _
      | exact ih1 _ _ _ _ _ _ _ _ _
      | exact ih2 _ _ _ _ _ _ _
      | exact ih3 _ _ _ _ _ _ _ _
      | exact ih4 _ _ _ _ _ _ _ _ _
      | exact ih5 _ _ _ _ _ _ _ _ _
      | exact ih6 _ _ _ _ _ _ _
      | exact LeO.none _
      | refine LeO.ite ?_ ?_
      | refine LeO.bind ?_ (fun _ => ?_)
    · intro y0 y1 y2 y3 y4 y5 y6 y7
      unfold spec_ctWalk.l2
      repeat' first
      | (with_reducible exact ih0 _ _ _ _ _)
      | (with_reducible exact ih1 _ _ _ _ _ _ _ _ _)
      | (with_reducible exact ih2 _ _ _ _ _ _ _)
      | (with_reducible exact ih3 _ _ _ _ _ _ _ _)
      | (with_reducible exact ih4 _ _ _ _ _ _ _ _ _)
      | (with_reducible exact ih5 _ _ _ _ _ _ _ _ _)
      | (with_reducible exact ih6 _ _ _ _ _ _ _)
      | (with_reducible exact LeO.refl _)
      | (with_reducible exact LeO.none _)
      | (with_reducible refine LeO.ite ?_ ?_)
      | (with_reducible refine LeO.bind ?_ (fun _ => ?_))
      | exact ih0 _ _ _ _ _
      | exact ih1 _ _ _ _ _ _ _ _ _
      | exact ih2 _ _ _ _ _ _ _
      | exact ih3 _ _ _ _ _ _ _ _
      | exact ih4 _ _ _ _ _ _ _ _ _
      | exact ih5 _ _ _ _ _ _ _ _ _
      | exact ih6 _ _ _ _ _ _ _
      | exact LeO.none _
      | refine LeO.ite ?_ ?_
      | refine LeO.bind ?_ (fun _ => ?_)
    · intro y0 y1 y2 y3 y4 y5 y6 y7 y8
      unfold spec_ctWalk.l3
      repeat' first
      | (with_reducible exact ih0 _ _ _ _ _)
      | (with_reducible exact ih1 _ _ _ _ _ _ _ _ _)
      | (with_reducible exact ih2 _ _ _ _ _ _ _)
      | (with_reducible exact ih3 _ _ _ _ _ _ _ _)
      | (with_reducible exact ih4 _ _ _ _ _ _ _ _ _)
      | (with_reducible exact ih5 _ _ _ _ _ _ _ _ _)
      | (with_reducible exact ih6 _ _ _ _ _ _ _)
      | (with_reducible exact LeO.refl _)
      | (with_reducible exact LeO.none _)
      | (with_reducible refine LeO.ite ?_ ?_)
      | (with_reducible refine LeO.bind ?_ (fun _ => ?_))
      | exact ih0 _ _ _ _ _
      | exact ih1 _ _ _ _ _ _ _ _ _
      | exact ih2 _ _ _ _ _ _ _
      | exact ih3 _ _ _ _ _ _ _ _
      | exact ih4 _ _ _ _ _ _ _ _ _
      | exact ih5 _ _ _ _ _ _ _ _ _
      | exact ih6 _ _ _ _ _ _ _
      | exact LeO.none _
      | refine LeO.ite ?_ ?_
      | refine LeO.bind ?_ (fun _ => ?_)
    · intro y0 y1 y2 y3 y4 y5 y6 y7 y8
      unfold spec_ctWalk.l4
      repeat' first
      | (with_reducible exact ih0 _ _ _ _ _)
      | (with_reducible exact ih1 _ _ _ _ _ _ _ _ _)
      | (with_reducible exact ih2 _ _ _ _ _ _ _)
      | (with_reducible exact ih3 _ _ _ _ _ _ _ _)
      | (with_reducible exact ih4 _ _ _ _ _ _ _ _ _)
      | (with_reducible exact ih5 _ _ _ _ _ _ _ _ _)
      | (with_reducible exact ih6 _ _ _ _ _ _ _)
      | (with_reducible exact LeO.refl _)
      | (with_reducible exact LeO.none _)
      | (with_reducible refine LeO.ite ?_ ?_)
      | (with_reducible refine LeO.bind ?_ (fun _ => ?_))
      | exact ih0 _ _ _ _ _
      | exact ih1 _ _ _ _ _ _ _ _ _
      | exact ih2 _ _ _ _ _ _ _
      | exact ih3 _ _ _ _ _ _ _ _
      | exact ih4 _ _ _ _ _ _ _ _ _
      | exact ih5 _ _ _ _ _ _ _ _ _
      | exact ih6 _ _ _ _ _ _ _
      | exact LeO.none _
      | refine LeO.ite ?_ ?_
      | refine LeO.bind ?_ (fun _ => ?_)
    · intro y0 y1 y2 y3 y4 y5 y6
      unfold spec_ctWalk.l1
      repeat' first
      | (with_reducible exact ih0 _ _ _ _ _)
      | (with_reducible exact ih1 _ _ _ _ _ _ _ _ _)
      | (with_reducible exact ih2 _ _ _ _ _ _ _)
      | (with_reducible exact ih3 _ _ _ _ _ _ _ _)
      | (with_reducible exact ih4 _ _ _ _ _ _ _ _ _)
      | (with_reducible exact ih5 _ _ _ _ _ _ _ _ _)
      | (with_reducible exact ih6 _ _ _ _ _ _ _)
      | (with_reducible exact LeO.refl _)
      | (with_reducible exact LeO.none _)
      | (with_reducible refine LeO.ite ?_ ?_)
      | (with_reducible refine LeO.bind ?_ (fun _ => ?_))
      | exact ih0 _ _ _ _ _
      | exact ih1 _ _ _ _ _ _ _ _ _
      | exact ih2 _ _ _ _ _ _ _
      | exact ih3 _ _ _ _ _ _ _ _
      | exact ih4 _ _ _ _ _ _ _ _ _
      | exact ih5 _ _ _ _ _ _ _ _ _
      | exact ih6 _ _ _ _ _ _ _
      | exact LeO.none _
      | refine LeO.ite ?_ ?_
      | refine LeO.bind ?_ (fun _ => ?_)
theorem spec_ctWalk.mono : ∀ a0 a1 a2 a3 a4 k, LeO (spec_ctWalk.f k a0 a1 a2 a3 a4) (spec_ctWalk.f (k + 1) a0 a1 a2 a3 a4) := by
  intro a0 a1 a2 a3 a4 k
  obtain ⟨ih0, ih1, ih2, ih3, ih4, ih5, ih6⟩ := spec_ctWalk.mono_l k
  exact ih0 a0 a1 a2 a3 a4
set_option maxHeartbeats 8000000 in
set_option maxRecDepth 100000 in
theorem spec_ctWalk.calls (k : Nat) : ∀ (a0 : Int) (a1 : Int) (P2_ : Nat → Prop) (u9000_ : Value) (l2 : List Int) (a3 : Int) (P4_ : Nat → Prop) (u9001_ : Value) (l4 : List Int) (r1 : List Int) (r2 : List Int) (w0 w : World) (hB : Below w0.heap.size w0 w) (ho2 : Kd.R (Kd.int .i64) 3 w w0.heap.size P2_ u9000_ l2) (hp2_4 : ∀ k_, P2_ k_ → ¬ P4_ k_) (ho4 : Kd.R (Kd.int .i64) 3 w w0.heap.size P4_ u9001_ l4) (hp4_2 : ∀ k_, P4_ k_ → ¬ P2_ k_) (h : spec_ctWalk.f k a0 a1 l2 a3 l4 = some (r1, r2)),
    Calls Try.prog 58 #[.int .i64 a0, .int .i64 a1, u9000_, .int .i64 a3, u9001_] w fun e w' => e = .returned (.tuple #[]) ∧ Kd.R (Kd.int .i64) 3 w' w0.heap.size (fun k_ => ((P2_ k_ ∨ P4_ k_) ∨ w.heap.size ≤ k_)) u9000_ r1 ∧ Kd.R (Kd.int .i64) 3 w' w0.heap.size (fun k_ => ((P2_ k_ ∨ P4_ k_) ∨ w.heap.size ≤ k_)) u9001_ r2 ∧ Below w0.heap.size w0 w' ∧ Kept w w' (fun k_ => P2_ k_ ∨ P4_ k_) := by
  induction k using Nat.strongRecOn with
  | _ k ih =>
  intro a0 a1 P2_ u9000_ l2 a3 P4_ u9001_ l4 r1 r2 w0 w hB ho2 hp2_4 ho4 hp4_2 h
  cases k with
  | zero => exact absurd h (by simp [spec_ctWalk.f])
  | succ k =>
  simp only [spec_ctWalk.f] at h
  have HO2 := Aside0.mk (show Kd.R (Kd.int .i64) 3 w w0.heap.size (fun k_ => ((P2_ k_ ∨ P4_ k_) ∨ w.heap.size ≤ k_) ∧ some k_ ≠ (u9001_ : Value).ownBlock) u9000_ l2 from Kd.R_mono ho2 (fun k_ hk => ⟨(.inl (.inl hk)), fun e_ => hp2_4 k_ hk (ho4.1 k_ e_.symm)⟩))
  have HO4 := Aside0.mk (show Kd.R (Kd.int .i64) 3 w w0.heap.size (fun k_ => ((P2_ k_ ∨ P4_ k_) ∨ w.heap.size ≤ k_) ∧ some k_ ≠ (u9000_ : Value).ownBlock) u9001_ l4 from Kd.R_mono ho4 (fun k_ hk => ⟨(.inl (.inr hk)), fun e_ => hp4_2 k_ hk (ho2.1 k_ e_.symm)⟩))
  have HK := Aside0.mk (Kept.refl w (fun k_ => P2_ k_ ∨ P4_ k_))
  have HW0 := Aside0.mk hB.size
  have HB := Aside0.mk hB
  clear hB
  have H : (spec_ctWalk.l0 k a0 a1 l2 a3 l4 0 l2 (l2.length : Int) 0) = some (r1, r2) := h
  clear h
  have H' := Aside0.mk H
  clear H
  obtain ⟨Ao6, co6, eo6⟩ := Kd.R_slice HO2.out
  subst eo6
  go_enter Try.func58, Try.ntmps58
  go_wp2
  repeat (go_quiet (fail); try go_wp2)
  go_loopg [10, 19] k (fun kq v10 v19 w' => ∃ (x10_1 : Int) (x19_1 : Int), v10 = .int .i64 x10_1 ∧ v19 = .int .i64 x19_1 ∧ Aside0 (spec_ctWalk.l0 kq a0 a1 l2 a3 l4 x10_1 l2 (l2.length : Int) x19_1 = some (r1, r2)) ∧ Aside0 (kq ≤ k) ∧ Aside0 (Kd.R (Kd.int .i64) 3 w' w0.heap.size (fun k_ => ((P2_ k_ ∨ P4_ k_) ∨ w.heap.size ≤ k_) ∧ some k_ ≠ (u9001_ : Value).ownBlock) (.slice Ao6 l2.length co6) l2) ∧ Aside0 (Kd.R (Kd.int .i64) 3 w' w0.heap.size (fun k_ => ((P2_ k_ ∨ P4_ k_) ∨ w.heap.size ≤ k_) ∧ some k_ ≠ ((.slice Ao6 l2.length co6) : Value).ownBlock ∧ some k_ ≠ ((.slice Ao6 l2.length co6) : Value).ownBlock) u9001_ l4) ∧ Aside0 (Kd.R (Kd.int .i64) 3 w' w0.heap.size (fun k_ => ((P2_ k_ ∨ P4_ k_) ∨ w.heap.size ≤ k_) ∧ some k_ ≠ (u9001_ : Value).ownBlock) (.slice Ao6 l2.length co6) l2) ∧ Aside0 (Kept w w' (fun k_ => P2_ k_ ∨ P4_ k_)) ∧ Aside0 (Below w0.heap.size w0 w'))
  case atStart => exact ⟨(0), (0), (by first | rfl | (simp; done) | (simp [*]; done)), (by first | rfl | (simp; done) | (simp [*]; done)), H', ⟨Nat.le_refl _⟩, ⟨by (with_reducible repeat (first | apply Kd.R_alloc | apply Kd.R_drewN | apply Kd.R_drew)); exact HO2.out⟩, ⟨by (with_reducible repeat (first | apply Kd.R_alloc | apply Kd.R_drewN | apply Kd.R_drew)); exact Kd.R_mono HO4.out (fun _ hk => ⟨hk.1, ⟨hk.2, hk.2⟩⟩)⟩, ⟨by (with_reducible repeat (first | apply Kd.R_alloc | apply Kd.R_drewN | apply Kd.R_drew)); exact HO2.out⟩, ⟨by repeat (first | (with_reducible first | exact HK.out | apply Kept.alloc | apply Kept.drewN | apply Kept.drew) | exact HK.out)⟩, ⟨by repeat (first | (with_reducible first | exact HB.out | apply below_alloc | apply pw_below_drewN | apply below_drew1) | exact HB.out)⟩⟩
  case round =>
    clear H'
    try clear p2
    try clear p4
    try clear c5
    obtain ⟨x10_1, x19_1, rfl, rfl, HA, HK1, HO_2, HO_4, HO_17, HK, HB⟩ := hrel
    cases gk with
    | zero => exact absurd HA.out (by simp [spec_ctWalk.l0])
    | succ k1 =>
      have H := HA.out
      clear HA
      simp only [spec_ctWalk.l0] at H
      by_cases c7 : x19_1 < (l2.length : Int)
      · rw [if_pos c7] at H
        have c7b0 : decide (x19_1 < (l2.length : Int)) = true := decide_eq_true c7
        clear c7
        by_cases c8 : 0 ≤ x19_1
        · rw [if_pos c8] at H
          have c8b0 : decide (0 ≤ x19_1) = true := decide_eq_true c8
          clear c8
          by_cases c9 : x19_1 < (l2.length : Int)
          · rw [if_pos c9] at H
            have c9b0 : decide (x19_1 < (l2.length : Int)) = true := decide_eq_true c9
            clear c9
            by_cases c10 : 0 ≤ x10_1
            · rw [if_pos c10] at H
              have c10b0 : decide (0 ≤ x10_1) = true := decide_eq_true c10
              clear c10
              by_cases c11 : x10_1 < (l2.length : Int)
              · rw [if_pos c11] at H
                have c11b0 : decide (x10_1 < (l2.length : Int)) = true := decide_eq_true c11
                clear c11
                by_cases c12 : (rd l2 x19_1) < (rd l2 x10_1)
                · rw [if_pos c12] at H
                  have c12b0 : decide ((rd l2 x19_1) < (rd l2 x10_1)) = true := decide_eq_true c12
                  clear c12
                  have H' := Aside0.mk H
                  clear H
                  have p101 : 0 ≤ (x19_1 : Int) := of_decide_eq_true (by first | (with_reducible assumption) | assumption)
                  have q101 : x19_1 < (l2.length : Int) := of_decide_eq_true (by first | (with_reducible assumption) | assumption)
                  obtain ⟨ad101, e101, hx101_0⟩ := Kd.at_int (Kd.R_reads' HO_17.out).2.2 x19_1 p101 q101
                  cases e101
                  replace p101 := eq_true p101
                  replace q101 := eq_true q101
                  have p102 : 0 ≤ (x10_1 : Int) := of_decide_eq_true (by first | (with_reducible assumption) | assumption)
                  have q102 : x10_1 < (l2.length : Int) := of_decide_eq_true (by first | (with_reducible assumption) | assumption)
                  obtain ⟨ad102, e102, hx102_0⟩ := Kd.at_int (Kd.R_reads' HO_2.out).2.2 x10_1 p102 q102
                  obtain rfl : ad101 = ad102 := (by injection e102)
                  replace p102 := eq_true p102
                  replace q102 := eq_true q102
                  go_wp2
                  repeat (go_quiet (fail); try go_wp2)
                  (try simp only [add_plain] at *)
                  go_roundg k1
                  case measure => have := HK1.out; omega
                  case rel => exact ⟨(x19_1), (wrap64 (x19_1 + 1)), (by first | rfl | (simp; done) | (simp [*]; done)), (by first | rfl | (simp; done) | (simp [*]; done)), H', ⟨by have := HK1.out; omega⟩, ⟨by (with_reducible repeat (first | apply Kd.R_alloc | apply Kd.R_drewN | apply Kd.R_drew)); exact HO_2.out⟩, ⟨by (with_reducible repeat (first | apply Kd.R_alloc | apply Kd.R_drewN | apply Kd.R_drew)); exact HO_4.out⟩, ⟨by (with_reducible repeat (first | apply Kd.R_alloc | apply Kd.R_drewN | apply Kd.R_drew)); exact HO_17.out⟩, ⟨by repeat (first | (with_reducible first | exact HK.out | apply Kept.alloc | apply Kept.drewN | apply Kept.drew) | exact HK.out)⟩, ⟨by repeat (first | (with_reducible first | exact HB.out | apply below_alloc | apply pw_below_drewN | apply below_drew1) | exact HB.out)⟩⟩
                · rw [if_neg c12] at H
                  have c12b0 : decide ((rd l2 x19_1) < (rd l2 x10_1)) = false := decide_eq_false c12
                  clear c12
                  have H' := Aside0.mk H
                  clear H
                  have p101 : 0 ≤ (x19_1 : Int) := of_decide_eq_true (by first | (with_reducible assumption) | assumption)
                  have q101 : x19_1 < (l2.length : Int) := of_decide_eq_true (by first | (with_reducible assumption) | assumption)
                  obtain ⟨ad101, e101, hx101_0⟩ := Kd.at_int (Kd.R_reads' HO_17.out).2.2 x19_1 p101 q101
                  cases e101
                  replace p101 := eq_true p101
                  replace q101 := eq_true q101
                  have p102 : 0 ≤ (x10_1 : Int) := of_decide_eq_true (by first | (with_reducible assumption) | assumption)
                  have q102 : x10_1 < (l2.length : Int) := of_decide_eq_true (by first | (with_reducible assumption) | assumption)
                  obtain ⟨ad102, e102, hx102_0⟩ := Kd.at_int (Kd.R_reads' HO_2.out).2.2 x10_1 p102 q102
                  obtain rfl : ad101 = ad102 := (by injection e102)
                  replace p102 := eq_true p102
                  replace q102 := eq_true q102
                  go_wp2
                  repeat (go_quiet (fail); try go_wp2)
                  (try simp only [add_plain] at *)
                  go_roundg k1
                  case measure => have := HK1.out; omega
                  case rel => exact ⟨(x10_1), (wrap64 (x19_1 + 1)), (by first | rfl | (simp; done) | (simp [*]; done)), (by first | rfl | (simp; done) | (simp [*]; done)), H', ⟨by have := HK1.out; omega⟩, ⟨by (with_reducible repeat (first | apply Kd.R_alloc | apply Kd.R_drewN | apply Kd.R_drew)); exact HO_2.out⟩, ⟨by (with_reducible repeat (first | apply Kd.R_alloc | apply Kd.R_drewN | apply Kd.R_drew)); exact HO_4.out⟩, ⟨by (with_reducible repeat (first | apply Kd.R_alloc | apply Kd.R_drewN | apply Kd.R_drew)); exact HO_17.out⟩, ⟨by repeat (first | (with_reducible first | exact HK.out | apply Kept.alloc | apply Kept.drewN | apply Kept.drew) | exact HK.out)⟩, ⟨by repeat (first | (with_reducible first | exact HB.out | apply below_alloc | apply pw_below_drewN | apply below_drew1) | exact HB.out)⟩⟩
              · rw [if_neg c11] at H
                exact absurd H (by simp)
            · rw [if_neg c10] at H
              exact absurd H (by simp)
          · rw [if_neg c9] at H
            exact absurd H (by simp)
        · rw [if_neg c8] at H
          exact absurd H (by simp)
      · rw [if_neg c7] at H
        have c7b0 : decide (x19_1 < (l2.length : Int)) = false := decide_eq_false c7
        clear c7
        by_cases c13 : 0 ≤ x10_1
        · rw [if_pos c13] at H
          have c13b0 : decide (0 ≤ x10_1) = true := decide_eq_true c13
          clear c13
          by_cases c14 : x10_1 < (l2.length : Int)
          · rw [if_pos c14] at H
            have c14b0 : decide (x10_1 < (l2.length : Int)) = true := decide_eq_true c14
            clear c14
            by_cases c15 : (rd l2 x10_1) = a0
            · rw [if_pos c15] at H
              have c15b0 : ((rd l2 x10_1) == a0) = true := beq_iff_eq.mpr c15
              have c15b1 : ((rd l2 x10_1) != a0) = false := bne_eq_false_iff_eq.mpr c15
              clear c15
              obtain ⟨ji16, hji16⟩ : ∃ j_ : Int, (wrap64 (a3 - 1)) = j_ := ⟨_, rfl⟩
              replace H : (if 0 ≤ (ji16) then (if (ji16) < (l4.length : Int) then (some (l2, (l4.set ((ji16) : Int).toNat (wrap64 ((rd l4 (ji16)) + 1))))) else (none)) else (none)) = some (r1, r2) := by first | (rw [hji16] at H; exact H) | (simp only [hji16] at H ⊢; exact H)
              have hji16w : (IntKind.i64.wrap (a3 - 1)) = ji16 := (i64_w _).trans hji16
              by_cases c17 : 0 ≤ (ji16)
              · rw [if_pos c17] at H
                have c17b0 : decide (0 ≤ (ji16)) = true := decide_eq_true c17
                clear c17
                by_cases c18 : (ji16) < (l4.length : Int)
                · rw [if_pos c18] at H
                  have c18b0 : decide ((ji16) < (l4.length : Int)) = true := decide_eq_true c18
                  clear c18
                  obtain ⟨y105, hy105⟩ : ∃ y_ : List Int, y_ = (l4.set ((ji16) : Int).toNat (wrap64 ((rd l4 (ji16)) + 1))) := ⟨_, rfl⟩
                  replace H : (some (l2, y105)) = some (r1, r2) := by first | (rw [hy105]; with_reducible exact H) | (have H2_ := (Option.bind_some _ _).symm.trans H; rw [hy105]; with_reducible exact H2_) | (have H2_ := (Option.bind_some _ _).symm.trans H; with_reducible exact H2_) | with_reducible exact H | (rw [hy105]; exact H) | exact H
                  have Ny105 := Aside0.mk hy105
                  clear hy105
                  simp only [Option.some.injEq, Prod.mk.injEq] at H
                  obtain ⟨rfl, rfl⟩ := H
                  have p103 : 0 ≤ (x10_1 : Int) := of_decide_eq_true (by first | (with_reducible assumption) | assumption)
                  have q103 : x10_1 < (l2.length : Int) := of_decide_eq_true (by first | (with_reducible assumption) | assumption)
                  obtain ⟨ad103, e103, hx103_0⟩ := Kd.at_int (Kd.R_reads' HO_2.out).2.2 x10_1 p103 q103
                  cases e103
                  replace p103 := eq_true p103
                  replace q103 := eq_true q103
                  obtain ⟨Ao20, co20, eo20⟩ := Kd.R_slice HO_4.out
                  subst eo20
                  have p104 : 0 ≤ ((ji16) : Int) := of_decide_eq_true (by first | (with_reducible assumption) | assumption)
                  have q104 : (ji16) < (l4.length : Int) := of_decide_eq_true (by first | (with_reducible assumption) | assumption)
                  obtain ⟨ad104, e104, hx104_0⟩ := Kd.at_int (Kd.R_reads' HO_4.out).2.2 (ji16) p104 q104
                  cases e104
                  replace p104 := eq_true p104
                  replace q104 := eq_true q104
                  have p19 : 0 ≤ ((ji16) : Int) := of_decide_eq_true (by first | (with_reducible assumption) | assumption)
                  have q19 : ((ji16) : Int) < ((l4.length : Int) : Int) := of_decide_eq_true (by first | (with_reducible assumption) | assumption)
                  obtain ⟨go19, co19, eo19, gb19, gl19, cl19, HG19⟩ := Kd.R_form HO_4.out (by omega)
                  (first | cases eo19 | (injection eo19 with ea_ en_ ec_; (first | subst ea_ | (injection ea_ with ea_; subst ea_)); subst ec_; clear en_))
                  have GB19 := Aside0.mk gb19
                  have GG19 := Aside0.mk HG19
                  clear gb19 gl19 HG19
                  have HMgo19 := Aside0.mk (show ((P2_ go19 ∨ P4_ go19) ∨ w.heap.size ≤ go19) from (HO_4.out.1 _ rfl).1)
                  (first | simp only [add_plain] at hx104_0 | skip)
                  obtain ⟨hx19_0, hf19_0⟩ := Kd.R_celln 0 HO_4.out ((ji16) : Int) p19 q19
                  replace p19 := eq_true p19
                  replace q19 := eq_true q19
                  have HP21 := Kd.R_putg HO_4.out ((ji16) : Int) (wrap64 ((rd l4 (ji16)) + 1))
                  go_wp2_with (first | ((with_reducible refine gate_store (t := 3) (p := 44) rfl ?_); (try (rw [drewN_self wr]; generalize hq_ : World.drewN wr _ = wr; have n0_ := Aside0.mk (Kd.R_at hq_ HO_2.out); have n1_ := Aside0.mk (Kd.R_at hq_ HO_4.out); have n2_ := Aside0.mk (Kd.R_at hq_ HO_17.out); have n3_ := Aside0.mk (kept_at hq_ HK.out); have n4_ := Aside0.mk (below_at hq_ HB.out); clear hq_ HO_2 HO_4 HO_17 HK HB; have HO_2 := n0_; have HO_4 := n1_; have HO_17 := n2_; have HK := n3_; have HB := n4_; clear n0_ n1_ n2_ n3_ n4_; (try (have HP21 := Kd.R_putg HO_4.out ((ji16) : Int) (wrap64 ((rd l4 (ji16)) + 1)))))); refine store_event (t := 3) (p := 44) (v := ?vo_w22) (w1 := (wr.setCell ⟨go19, ((ji16) : Int).toNat, none⟩ (.int .i64 (wrap64 ((rd l4 (ji16)) + 1))))) ?hg ?ho ?hn ?hr ?_; (case ho => rfl); (case hg => rfl); (case hn => rfl); (case hr => first | (go_simp; done) | (go_simp; rfl)); intro w22 hw; have hg : wr.grownBy w22 (some go19) := (by rw [hw]; exact HP21.2); have hp_ : Kd.R (Kd.int .i64) 3 w22 w0.heap.size (fun k_ => ((P2_ k_ ∨ P4_ k_) ∨ w.heap.size ≤ k_) ∧ some k_ ≠ (.slice (some ad103) l2.length co6 : Value).ownBlock ∧ some k_ ≠ (.slice (some ad103) l2.length co6 : Value).ownBlock) (.slice (some ⟨go19, 0, none⟩) l4.length co20) y105 := (by rw [hw, Ny105.out]; exact HP21.1); clear HP21; have n0_ := Aside0.mk (Kd.R_after (v := (.slice (some ⟨go19, 0, none⟩) l4.length co20)) (v1 := (.slice (some ⟨go19, 0, none⟩) l4.length co20)) (ok := (fun k_ => ((P2_ k_ ∨ P4_ k_) ∨ w.heap.size ≤ k_))) (by (with_reducible repeat (first | apply Kd.R_alloc | apply Kd.R_drewN | apply Kd.R_drew)); exact HO_2.out) hg (.inl rfl)); have n1_ := Aside0.mk (hp_); have n2_ := Aside0.mk (Kd.R_after (v := (.slice (some ⟨go19, 0, none⟩) l4.length co20)) (v1 := (.slice (some ⟨go19, 0, none⟩) l4.length co20)) (ok := (fun k_ => ((P2_ k_ ∨ P4_ k_) ∨ w.heap.size ≤ k_))) (by (with_reducible repeat (first | apply Kd.R_alloc | apply Kd.R_drewN | apply Kd.R_drew)); exact HO_17.out) hg (.inl rfl)); have n3_ := Aside0.mk ((by rw [hw]; exact below_set (HB.out) GB19.out : Below w0.heap.size w0 w22)); have n4_ := Aside0.mk (Kept.of_grown (S := (fun k_ => P2_ k_ ∨ P4_ k_)) hg (by repeat (first | (with_reducible first | exact HK.out | apply Kept.alloc | apply Kept.drewN | apply Kept.drew) | exact HK.out)) (fun k_ e_ => (HO_4.out.1 k_ e_).1)); clear HO_2; clear HO_4; clear HO_17; clear HB; clear HK; have HO_2 := n0_; have HO_4 := n1_; have HO_17 := n2_; have HB := n3_; have HK := n4_; clear n0_ n1_ n2_ n3_ n4_; clear hg hw hp_))
                  repeat (go_quiet (first | ((with_reducible refine gate_store (t := 3) (p := 44) rfl ?_); (try (rw [drewN_self wr]; generalize hq_ : World.drewN wr _ = wr; have n0_ := Aside0.mk (Kd.R_at hq_ HO_2.out); have n1_ := Aside0.mk (Kd.R_at hq_ HO_4.out); have n2_ := Aside0.mk (Kd.R_at hq_ HO_17.out); have n3_ := Aside0.mk (kept_at hq_ HK.out); have n4_ := Aside0.mk (below_at hq_ HB.out); clear hq_ HO_2 HO_4 HO_17 HK HB; have HO_2 := n0_; have HO_4 := n1_; have HO_17 := n2_; have HK := n3_; have HB := n4_; clear n0_ n1_ n2_ n3_ n4_; (try (have HP21 := Kd.R_putg HO_4.out ((ji16) : Int) (wrap64 ((rd l4 (ji16)) + 1)))))); refine store_event (t := 3) (p := 44) (v := ?vo_w22) (w1 := (wr.setCell ⟨go19, ((ji16) : Int).toNat, none⟩ (.int .i64 (wrap64 ((rd l4 (ji16)) + 1))))) ?hg ?ho ?hn ?hr ?_; (case ho => rfl); (case hg => rfl); (case hn => rfl); (case hr => first | (go_simp; done) | (go_simp; rfl)); intro w22 hw; have hg : wr.grownBy w22 (some go19) := (by rw [hw]; exact HP21.2); have hp_ : Kd.R (Kd.int .i64) 3 w22 w0.heap.size (fun k_ => ((P2_ k_ ∨ P4_ k_) ∨ w.heap.size ≤ k_) ∧ some k_ ≠ (.slice (some ad103) l2.length co6 : Value).ownBlock ∧ some k_ ≠ (.slice (some ad103) l2.length co6 : Value).ownBlock) (.slice (some ⟨go19, 0, none⟩) l4.length co20) y105 := (by rw [hw, Ny105.out]; exact HP21.1); clear HP21; have n0_ := Aside0.mk (Kd.R_after (v := (.slice (some ⟨go19, 0, none⟩) l4.length co20)) (v1 := (.slice (some ⟨go19, 0, none⟩) l4.length co20)) (ok := (fun k_ => ((P2_ k_ ∨ P4_ k_) ∨ w.heap.size ≤ k_))) (by (with_reducible repeat (first | apply Kd.R_alloc | apply Kd.R_drewN | apply Kd.R_drew)); exact HO_2.out) hg (.inl rfl)); have n1_ := Aside0.mk (hp_); have n2_ := Aside0.mk (Kd.R_after (v := (.slice (some ⟨go19, 0, none⟩) l4.length co20)) (v1 := (.slice (some ⟨go19, 0, none⟩) l4.length co20)) (ok := (fun k_ => ((P2_ k_ ∨ P4_ k_) ∨ w.heap.size ≤ k_))) (by (with_reducible repeat (first | apply Kd.R_alloc | apply Kd.R_drewN | apply Kd.R_drew)); exact HO_17.out) hg (.inl rfl)); have n3_ := Aside0.mk ((by rw [hw]; exact below_set (HB.out) GB19.out : Below w0.heap.size w0 w22)); have n4_ := Aside0.mk (Kept.of_grown (S := (fun k_ => P2_ k_ ∨ P4_ k_)) hg (by repeat (first | (with_reducible first | exact HK.out | apply Kept.alloc | apply Kept.drewN | apply Kept.drew) | exact HK.out)) (fun k_ e_ => (HO_4.out.1 k_ e_).1)); clear HO_2; clear HO_4; clear HO_17; clear HB; clear HK; have HO_2 := n0_; have HO_4 := n1_; have HO_17 := n2_; have HB := n3_; have HK := n4_; clear n0_ n1_ n2_ n3_ n4_; clear hg hw hp_)); try go_wp2_with (first | ((with_reducible refine gate_store (t := 3) (p := 44) rfl ?_); (try (rw [drewN_self wr]; generalize hq_ : World.drewN wr _ = wr; have n0_ := Aside0.mk (Kd.R_at hq_ HO_2.out); have n1_ := Aside0.mk (Kd.R_at hq_ HO_4.out); have n2_ := Aside0.mk (Kd.R_at hq_ HO_17.out); have n3_ := Aside0.mk (kept_at hq_ HK.out); have n4_ := Aside0.mk (below_at hq_ HB.out); clear hq_ HO_2 HO_4 HO_17 HK HB; have HO_2 := n0_; have HO_4 := n1_; have HO_17 := n2_; have HK := n3_; have HB := n4_; clear n0_ n1_ n2_ n3_ n4_; (try (have HP21 := Kd.R_putg HO_4.out ((ji16) : Int) (wrap64 ((rd l4 (ji16)) + 1)))))); refine store_event (t := 3) (p := 44) (v := ?vo_w22) (w1 := (wr.setCell ⟨go19, ((ji16) : Int).toNat, none⟩ (.int .i64 (wrap64 ((rd l4 (ji16)) + 1))))) ?hg ?ho ?hn ?hr ?_; (case ho => rfl); (case hg => rfl); (case hn => rfl); (case hr => first | (go_simp; done) | (go_simp; rfl)); intro w22 hw; have hg : wr.grownBy w22 (some go19) := (by rw [hw]; exact HP21.2); have hp_ : Kd.R (Kd.int .i64) 3 w22 w0.heap.size (fun k_ => ((P2_ k_ ∨ P4_ k_) ∨ w.heap.size ≤ k_) ∧ some k_ ≠ (.slice (some ad103) l2.length co6 : Value).ownBlock ∧ some k_ ≠ (.slice (some ad103) l2.length co6 : Value).ownBlock) (.slice (some ⟨go19, 0, none⟩) l4.length co20) y105 := (by rw [hw, Ny105.out]; exact HP21.1); clear HP21; have n0_ := Aside0.mk (Kd.R_after (v := (.slice (some ⟨go19, 0, none⟩) l4.length co20)) (v1 := (.slice (some ⟨go19, 0, none⟩) l4.length co20)) (ok := (fun k_ => ((P2_ k_ ∨ P4_ k_) ∨ w.heap.size ≤ k_))) (by (with_reducible repeat (first | apply Kd.R_alloc | apply Kd.R_drewN | apply Kd.R_drew)); exact HO_2.out) hg (.inl rfl)); have n1_ := Aside0.mk (hp_); have n2_ := Aside0.mk (Kd.R_after (v := (.slice (some ⟨go19, 0, none⟩) l4.length co20)) (v1 := (.slice (some ⟨go19, 0, none⟩) l4.length co20)) (ok := (fun k_ => ((P2_ k_ ∨ P4_ k_) ∨ w.heap.size ≤ k_))) (by (with_reducible repeat (first | apply Kd.R_alloc | apply Kd.R_drewN | apply Kd.R_drew)); exact HO_17.out) hg (.inl rfl)); have n3_ := Aside0.mk ((by rw [hw]; exact below_set (HB.out) GB19.out : Below w0.heap.size w0 w22)); have n4_ := Aside0.mk (Kept.of_grown (S := (fun k_ => P2_ k_ ∨ P4_ k_)) hg (by repeat (first | (with_reducible first | exact HK.out | apply Kept.alloc | apply Kept.drewN | apply Kept.drew) | exact HK.out)) (fun k_ e_ => (HO_4.out.1 k_ e_).1)); clear HO_2; clear HO_4; clear HO_17; clear HB; clear HK; have HO_2 := n0_; have HO_4 := n1_; have HO_17 := n2_; have HB := n3_; have HK := n4_; clear n0_ n1_ n2_ n3_ n4_; clear hg hw hp_)))
                  first | go_end0 | ((try simp only [Exit.inBlock, Exit.then]); refine bodyPost_ret (results_none rfl _ _ _) rfl ?_)
                  exact ⟨by first | rfl | (simp [errW_none, errW_some] <;> rfl) | (simp only [← hji16]; first | rfl | (simp [errW_none, errW_some] <;> rfl)) | (simp [*, errW_none, errW_some] <;> rfl), by (with_reducible repeat (first | apply Kd.R_alloc | apply Kd.R_drewN | apply Kd.R_drew)); exact Kd.R_mono HO_2.out (fun _ hk => hk.1), by (with_reducible repeat (first | apply Kd.R_alloc | apply Kd.R_drewN | apply Kd.R_drew)); exact Kd.R_mono HO_4.out (fun _ hk => hk.1), by repeat (first | (with_reducible first | exact HB.out | apply below_alloc | apply pw_below_drewN | apply below_drew1) | exact HB.out), by repeat (first | (with_reducible first | exact HK.out | apply Kept.alloc | apply Kept.drewN | apply Kept.drew) | exact HK.out)⟩
                · rw [if_neg c18] at H
                  exact absurd H (by simp)
              · rw [if_neg c17] at H
                exact absurd H (by simp)
            · rw [if_neg c15] at H
              have c15b0 : ((rd l2 x10_1) == a0) = false := beq_eq_false_iff_ne.mpr c15
              have c15b1 : ((rd l2 x10_1) != a0) = true := bne_iff_ne.mpr c15
              have HC23 := Aside0.mk H
              clear H
              have p103 : 0 ≤ (x10_1 : Int) := of_decide_eq_true (by first | (with_reducible assumption) | assumption)
              have q103 : x10_1 < (l2.length : Int) := of_decide_eq_true (by first | (with_reducible assumption) | assumption)
              obtain ⟨ad103, e103, hx103_0⟩ := Kd.at_int (Kd.R_reads' HO_2.out).2.2 x10_1 p103 q103
              cases e103
              replace p103 := eq_true p103
              replace q103 := eq_true q103
              go_upto_block 2 with (fail)
              repeat (go_quiet (fail); go_upto_block 2 with (fail))
              go_cut [13] (fun v13 wc => ∃ (kq : Nat) (x13_22 : Int), v13 = .int .i64 x13_22 ∧ Aside0 (spec_ctWalk.j2 kq a0 a1 l2 a3 l4 x10_1 x13_22 = some (r1, r2)) ∧ Aside0 (kq ≤ k1) ∧ Aside0 (Kd.R (Kd.int .i64) 3 wc w0.heap.size (fun k_ => ((P2_ k_ ∨ P4_ k_) ∨ w.heap.size ≤ k_) ∧ some k_ ≠ (u9001_ : Value).ownBlock) (.slice (some ad103) l2.length co6) l2) ∧ Aside0 (Kd.R (Kd.int .i64) 3 wc w0.heap.size (fun k_ => ((P2_ k_ ∨ P4_ k_) ∨ w.heap.size ≤ k_) ∧ some k_ ≠ ((.slice (some ad103) l2.length co6) : Value).ownBlock) u9001_ l4) ∧ Aside0 (Kept w wc (fun k_ => P2_ k_ ∨ P4_ k_)) ∧ Aside0 (Below w0.heap.size w0 wc))
              case first =>
                have H := HC23.out
                clear HC23
                have H' := Aside0.mk H
                clear H
                go_wp2
                repeat (go_quiet (fail); try go_wp2)
                go_loopg [13] k1 (fun kq v13 w' => ∃ (x13_2 : Int), v13 = .int .i64 x13_2 ∧ Aside0 (spec_ctWalk.l1 kq a0 a1 l2 a3 l4 x10_1 x13_2 = some (r1, r2)) ∧ Aside0 (kq ≤ k1) ∧ Aside0 (Kd.R (Kd.int .i64) 3 w' w0.heap.size (fun k_ => ((P2_ k_ ∨ P4_ k_) ∨ w.heap.size ≤ k_) ∧ some k_ ≠ (u9001_ : Value).ownBlock) (.slice (some ad103) l2.length co6) l2) ∧ Aside0 (Kd.R (Kd.int .i64) 3 w' w0.heap.size (fun k_ => ((P2_ k_ ∨ P4_ k_) ∨ w.heap.size ≤ k_) ∧ some k_ ≠ ((.slice (some ad103) l2.length co6) : Value).ownBlock) u9001_ l4) ∧ Aside0 (Kept w w' (fun k_ => P2_ k_ ∨ P4_ k_)) ∧ Aside0 (Below w0.heap.size w0 w'))
                case atStart => exact ⟨(0), (by first | rfl | (simp; done) | (simp [*]; done)), H', ⟨Nat.le_refl _⟩, ⟨by (with_reducible repeat (first | apply Kd.R_alloc | apply Kd.R_drewN | apply Kd.R_drew)); exact HO_2.out⟩, ⟨by (with_reducible repeat (first | apply Kd.R_alloc | apply Kd.R_drewN | apply Kd.R_drew)); exact Kd.R_mono HO_4.out (fun _ hk => ⟨hk.1, hk.2.1⟩)⟩, ⟨by repeat (first | (with_reducible first | exact HK.out | apply Kept.alloc | apply Kept.drewN | apply Kept.drew) | exact HK.out)⟩, ⟨by repeat (first | (with_reducible first | exact HB.out | apply below_alloc | apply pw_below_drewN | apply below_drew1) | exact HB.out)⟩⟩
                case round =>
                  clear H'
                  try clear c1
                  try clear p1
                  try clear q1
                  try clear hx1
                  try clear p2
                  try clear p4
                  try clear c5
                  try clear p6
                  try clear c7
                  try clear c7b0
                  try clear c8
                  try clear c8b0
                  try clear c9
                  try clear c9b0
                  try clear c10
                  try clear c10b0
                  try clear p10
                  try clear q10
                  try clear hx10
                  try clear c11
                  try clear c11b0
                  try clear c12
                  try clear c12b0
                  try clear c13
                  try clear c13b0
                  try clear c14
                  try clear c14b0
                  try clear c15
                  try clear c15b0
                  try clear c15b1
                  try clear c17
                  try clear c17b0
                  try clear c18
                  try clear c18b0
                  try clear p19
                  try clear q19
                  try clear hx19
                  try clear hf19
                  try clear hx101_0
                  try clear hx102_0
                  try clear hx103_0
                  try clear hx104_0
                  try clear hx19_0
                  try clear p101
                  try clear p102
                  try clear p103
                  try clear p104
                  try clear p19
                  try clear p2
                  try clear p4
                  try clear q101
                  try clear q102
                  try clear q103
                  try clear q104
                  try clear q19
                  obtain ⟨x13_2, rfl, HA, HK2, HO_2, HO_4, HK, HB⟩ := hrel
                  cases gk with
                  | zero => exact absurd HA.out (by simp [spec_ctWalk.l1])
                  | succ k2 =>
                    have H := HA.out
                    clear HA
                    simp only [spec_ctWalk.l1] at H
                    by_cases c24 : (wrap64 (x10_1 + x13_2)) < (l2.length : Int)
                    · rw [if_pos c24] at H
                      have c24b0 : decide ((wrap64 (x10_1 + x13_2)) < (l2.length : Int)) = true := decide_eq_true c24
                      clear c24
                      (first | rw [c24b0] | (simp only [i64_w, i32_w]; rw [c24b0]) | skip)
                      obtain ⟨ji25, hji25⟩ : ∃ j_ : Int, (wrap64 (x10_1 + x13_2)) = j_ := ⟨_, rfl⟩
                      replace H : (if 0 ≤ (ji25) then (if 0 ≤ x10_1 then (if x10_1 < (l2.length : Int) then (if (rd l2 (ji25)) = (rd l2 x10_1) then (spec_ctWalk.l1 k2 a0 a1 l2 a3 l4 x10_1 (wrap64 (x13_2 + 1))) else (spec_ctWalk.j2 k2 a0 a1 l2 a3 l4 x10_1 x13_2)) else (none)) else (none)) else (none)) = some (r1, r2) := by first | (rw [hji25] at H; exact H) | (simp only [hji25] at H ⊢; exact H)
                      (try rw [hji25] at c24b0)
                      have hji25w : (IntKind.i64.wrap (x10_1 + x13_2)) = ji25 := (i64_w _).trans hji25
                      by_cases c26 : 0 ≤ (ji25)
                      · rw [if_pos c26] at H
                        have c26b0 : decide (0 ≤ (ji25)) = true := decide_eq_true c26
                        clear c26
                        by_cases c27 : 0 ≤ x10_1
                        · rw [if_pos c27] at H
                          have c27b0 : decide (0 ≤ x10_1) = true := decide_eq_true c27
                          clear c27
                          by_cases c28 : x10_1 < (l2.length : Int)
                          · rw [if_pos c28] at H
                            have c28b0 : decide (x10_1 < (l2.length : Int)) = true := decide_eq_true c28
                            clear c28
                            by_cases c29 : (rd l2 (ji25)) = (rd l2 x10_1)
                            · rw [if_pos c29] at H
                              have c29b0 : ((rd l2 (ji25)) == (rd l2 x10_1)) = true := beq_iff_eq.mpr c29
                              have c29b1 : ((rd l2 (ji25)) != (rd l2 x10_1)) = false := bne_eq_false_iff_eq.mpr c29
                              clear c29
                              have H' := Aside0.mk H
                              clear H
                              have p106 : 0 ≤ ((ji25) : Int) := of_decide_eq_true (by first | (with_reducible assumption) | assumption)
                              have q106 : (ji25) < (l2.length : Int) := of_decide_eq_true (by first | (with_reducible assumption) | assumption)
                              obtain ⟨ad106, e106, hx106_0⟩ := Kd.at_int (Kd.R_reads' HO_2.out).2.2 (ji25) p106 q106
                              obtain rfl : ad103 = ad106 := (by injection e106)
                              replace p106 := eq_true p106
                              replace q106 := eq_true q106
                              have p107 : 0 ≤ (x10_1 : Int) := of_decide_eq_true (by first | (with_reducible assumption) | assumption)
                              have q107 : x10_1 < (l2.length : Int) := of_decide_eq_true (by first | (with_reducible assumption) | assumption)
                              obtain ⟨ad107, e107, hx107_0⟩ := Kd.at_int (Kd.R_reads' HO_2.out).2.2 x10_1 p107 q107
                              obtain rfl : ad103 = ad107 := (by injection e107)
                              replace p107 := eq_true p107
                              replace q107 := eq_true q107
                              go_wp2
                              repeat (go_quiet (fail); try go_wp2)
                              (try simp only [add_plain] at *)
                              go_roundg k2
                              case measure => have := HK1.out; have := HK2.out; omega
                              case rel => exact ⟨(wrap64 (x13_2 + 1)), (by first | rfl | (simp; done) | (simp [*]; done)), H', ⟨by have := HK1.out; have := HK2.out; omega⟩, ⟨by (with_reducible repeat (first | apply Kd.R_alloc | apply Kd.R_drewN | apply Kd.R_drew)); exact HO_2.out⟩, ⟨by (with_reducible repeat (first | apply Kd.R_alloc | apply Kd.R_drewN | apply Kd.R_drew)); exact HO_4.out⟩, ⟨by repeat (first | (with_reducible first | exact HK.out | apply Kept.alloc | apply Kept.drewN | apply Kept.drew) | exact HK.out)⟩, ⟨by repeat (first | (with_reducible first | exact HB.out | apply below_alloc | apply pw_below_drewN | apply below_drew1) | exact HB.out)⟩⟩
                            · rw [if_neg c29] at H
                              have c29b0 : ((rd l2 (ji25)) == (rd l2 x10_1)) = false := beq_eq_false_iff_ne.mpr c29
                              have c29b1 : ((rd l2 (ji25)) != (rd l2 x10_1)) = true := bne_iff_ne.mpr c29
                              have H' := Aside0.mk H
                              clear H
                              have p106 : 0 ≤ ((ji25) : Int) := of_decide_eq_true (by first | (with_reducible assumption) | assumption)
                              have q106 : (ji25) < (l2.length : Int) := of_decide_eq_true (by first | (with_reducible assumption) | assumption)
                              obtain ⟨ad106, e106, hx106_0⟩ := Kd.at_int (Kd.R_reads' HO_2.out).2.2 (ji25) p106 q106
                              obtain rfl : ad103 = ad106 := (by injection e106)
                              replace p106 := eq_true p106
                              replace q106 := eq_true q106
                              have p107 : 0 ≤ (x10_1 : Int) := of_decide_eq_true (by first | (with_reducible assumption) | assumption)
                              have q107 : x10_1 < (l2.length : Int) := of_decide_eq_true (by first | (with_reducible assumption) | assumption)
                              obtain ⟨ad107, e107, hx107_0⟩ := Kd.at_int (Kd.R_reads' HO_2.out).2.2 x10_1 p107 q107
                              obtain rfl : ad103 = ad107 := (by injection e107)
                              replace p107 := eq_true p107
                              replace q107 := eq_true q107
                              go_wp2
                              repeat (go_quiet (fail); try go_wp2)
                              go_meet
                              case rel => exact ⟨_, (x13_2), (by first | rfl | (simp; done) | (simp [*]; done)), H', ⟨by have := HK1.out; have := HK2.out; first | omega | exact Nat.le_refl _⟩, ⟨by (with_reducible repeat (first | apply Kd.R_alloc | apply Kd.R_drewN | apply Kd.R_drew)); exact HO_2.out⟩, ⟨by (with_reducible repeat (first | apply Kd.R_alloc | apply Kd.R_drewN | apply Kd.R_drew)); exact HO_4.out⟩, ⟨by repeat (first | (with_reducible first | exact HK.out | apply Kept.alloc | apply Kept.drewN | apply Kept.drew) | exact HK.out)⟩, ⟨by repeat (first | (with_reducible first | exact HB.out | apply below_alloc | apply pw_below_drewN | apply below_drew1) | exact HB.out)⟩⟩
                          · rw [if_neg c28] at H
                            exact absurd H (by simp)
                        · rw [if_neg c27] at H
                          exact absurd H (by simp)
                      · rw [if_neg c26] at H
                        exact absurd H (by simp)
                    · rw [if_neg c24] at H
                      have c24b0 : decide ((wrap64 (x10_1 + x13_2)) < (l2.length : Int)) = false := decide_eq_false c24
                      clear c24
                      (first | rw [c24b0] | (simp only [i64_w, i32_w]; rw [c24b0]) | skip)
                      have H' := Aside0.mk H
                      clear H
                      go_wp2
                      repeat (go_quiet (fail); try go_wp2)
                      go_meet
                      case rel => exact ⟨_, (x13_2), (by first | rfl | (simp; done) | (simp [*]; done)), H', ⟨by have := HK1.out; have := HK2.out; first | omega | exact Nat.le_refl _⟩, ⟨by (with_reducible repeat (first | apply Kd.R_alloc | apply Kd.R_drewN | apply Kd.R_drew)); exact HO_2.out⟩, ⟨by (with_reducible repeat (first | apply Kd.R_alloc | apply Kd.R_drewN | apply Kd.R_drew)); exact HO_4.out⟩, ⟨by repeat (first | (with_reducible first | exact HK.out | apply Kept.alloc | apply Kept.drewN | apply Kept.drew) | exact HK.out)⟩, ⟨by repeat (first | (with_reducible first | exact HB.out | apply below_alloc | apply pw_below_drewN | apply below_drew1) | exact HB.out)⟩⟩
              case rest =>
                clear HC23
                try clear c1
                try clear p1
                try clear q1
                try clear hx1
                try clear c2
                try clear p2
                try clear p4
                try clear c5
                try clear p6
                try clear c7
                try clear c7b0
                try clear c8
                try clear c8b0
                try clear c9
                try clear c9b0
                try clear c10
                try clear c10b0
                try clear p10
                try clear q10
                try clear hx10
                try clear c11
                try clear c11b0
                try clear c12
                try clear c12b0
                try clear c13
                try clear c13b0
                try clear c14
                try clear c14b0
                try clear c15
                try clear c15b0
                try clear c15b1
                try clear c17
                try clear c17b0
                try clear c18
                try clear c18b0
                try clear p19
                try clear q19
                try clear hx19
                try clear hf19
                try clear c24
                try clear c24b0
                try clear c26
                try clear c26b0
                try clear c27
                try clear c27b0
                try clear c28
                try clear c28b0
                try clear c29
                try clear c29b0
                try clear c29b1
                try clear hx101_0
                try clear hx102_0
                try clear hx103_0
                try clear hx104_0
                try clear hx106_0
                try clear hx107_0
                try clear hx19_0
                try clear p1
                try clear p10
                try clear p101
                try clear p102
                try clear p103
                try clear p104
                try clear p106
                try clear p107
                try clear p19
                try clear p2
                try clear p4
                try clear p6
                try clear q1
                try clear q10
                try clear q101
                try clear q102
                try clear q103
                try clear q104
                try clear q106
                try clear q107
                try clear q19
                obtain ⟨kq, x13_22, rfl, HA, HJ22, HO_2, HO_4, HK, HB⟩ := hcut
                cases kq with
                | zero => exact absurd HA.out (by simp [spec_ctWalk.j2])
                | succ kj22 =>
                  have H := HA.out
                  clear HA
                  simp only [spec_ctWalk.j2] at H
                  by_cases c30 : 0 ≤ x10_1
                  · rw [if_pos c30] at H
                    have c30b0 : decide (0 ≤ x10_1) = true := decide_eq_true c30
                    clear c30
                    by_cases c31 : x10_1 < (l2.length : Int)
                    · rw [if_pos c31] at H
                      have c31b0 : decide (x10_1 < (l2.length : Int)) = true := decide_eq_true c31
                      clear c31
                      replace H := Option.bind_eq_some_iff.mp H
                      obtain ⟨t109, A320, H⟩ := H
                      replace H : ((spec_l1Least.f t109 a1).bind fun t110 => (spec_ctWalk.l2 kj22 a0 a1 l2 a3 l4 x10_1 t110 1)) = some (r1, r2) := H
                      have A32 := Aside0.mk A320
                      clear A320
                      replace H := Option.bind_eq_some_iff.mp H
                      obtain ⟨t110, A330, H⟩ := H
                      replace H : (spec_ctWalk.l2 kj22 a0 a1 l2 a3 l4 x10_1 t110 1) = some (r1, r2) := H
                      have A33 := Aside0.mk A330
                      clear A330
                      have H' := Aside0.mk H
                      clear H
                      have p108 : 0 ≤ (x10_1 : Int) := of_decide_eq_true (by first | (with_reducible assumption) | assumption)
                      have q108 : x10_1 < (l2.length : Int) := of_decide_eq_true (by first | (with_reducible assumption) | assumption)
                      obtain ⟨ad108, e108, hx108_0⟩ := Kd.at_int (Kd.R_reads' HO_2.out).2.2 x10_1 p108 q108
                      obtain rfl : ad103 = ad108 := (by injection e108)
                      replace p108 := eq_true p108
                      replace q108 := eq_true q108
                      go_wp2_with (first | (go_at_call 64; (with_reducible refine (spec_l1Least.calls x13_22 (wrap64 (a0 - (rd l2 x10_1))) t109 _ A32.out).mono ?_); rintro e w' ⟨rfl, ⟨nd, rfl⟩⟩; (try first | exact ⟨rfl, _, World.drewN_drewN _ _ _⟩ | exact ⟨rfl, _, Eq.trans (World.drewN_drewN _ _ _) (congrArg (World.drewN _) (Nat.add_assoc _ _ _))⟩)) | (go_at_call 64; (with_reducible refine (spec_l1Least.calls t109 a1 t110 _ A33.out).mono ?_); rintro e w' ⟨rfl, ⟨nd, rfl⟩⟩; (try first | exact ⟨rfl, _, World.drewN_drewN _ _ _⟩ | exact ⟨rfl, _, Eq.trans (World.drewN_drewN _ _ _) (congrArg (World.drewN _) (Nat.add_assoc _ _ _))⟩)))
                      repeat (go_quiet (first | (go_at_call 64; (with_reducible refine (spec_l1Least.calls x13_22 (wrap64 (a0 - (rd l2 x10_1))) t109 _ A32.out).mono ?_); rintro e w' ⟨rfl, ⟨nd, rfl⟩⟩; (try first | exact ⟨rfl, _, World.drewN_drewN _ _ _⟩ | exact ⟨rfl, _, Eq.trans (World.drewN_drewN _ _ _) (congrArg (World.drewN _) (Nat.add_assoc _ _ _))⟩)) | (go_at_call 64; (with_reducible refine (spec_l1Least.calls t109 a1 t110 _ A33.out).mono ?_); rintro e w' ⟨rfl, ⟨nd, rfl⟩⟩; (try first | exact ⟨rfl, _, World.drewN_drewN _ _ _⟩ | exact ⟨rfl, _, Eq.trans (World.drewN_drewN _ _ _) (congrArg (World.drewN _) (Nat.add_assoc _ _ _))⟩))); try go_wp2_with (first | (go_at_call 64; (with_reducible refine (spec_l1Least.calls x13_22 (wrap64 (a0 - (rd l2 x10_1))) t109 _ A32.out).mono ?_); rintro e w' ⟨rfl, ⟨nd, rfl⟩⟩; (try first | exact ⟨rfl, _, World.drewN_drewN _ _ _⟩ | exact ⟨rfl, _, Eq.trans (World.drewN_drewN _ _ _) (congrArg (World.drewN _) (Nat.add_assoc _ _ _))⟩)) | (go_at_call 64; (with_reducible refine (spec_l1Least.calls t109 a1 t110 _ A33.out).mono ?_); rintro e w' ⟨rfl, ⟨nd, rfl⟩⟩; (try first | exact ⟨rfl, _, World.drewN_drewN _ _ _⟩ | exact ⟨rfl, _, Eq.trans (World.drewN_drewN _ _ _) (congrArg (World.drewN _) (Nat.add_assoc _ _ _))⟩))))
                      go_loopg [14] kj22 (fun kq v14 w' => ∃ (x2_3 : List Int) (x4_3 : List Int) (x14_3 : Int), v14 = .int .i64 x14_3 ∧ Aside0 (spec_ctWalk.l2 kq a0 a1 x2_3 a3 x4_3 x10_1 t110 x14_3 = some (r1, r2)) ∧ Aside0 (kq ≤ kj22) ∧ Aside0 (Kd.R (Kd.int .i64) 3 w' w0.heap.size (fun k_ => ((P2_ k_ ∨ P4_ k_) ∨ w.heap.size ≤ k_) ∧ some k_ ≠ (u9001_ : Value).ownBlock) (.slice (some ad103) l2.length co6) x2_3) ∧ Aside0 (Kd.R (Kd.int .i64) 3 w' w0.heap.size (fun k_ => ((P2_ k_ ∨ P4_ k_) ∨ w.heap.size ≤ k_) ∧ some k_ ≠ ((.slice (some ad103) l2.length co6) : Value).ownBlock) u9001_ x4_3) ∧ Aside0 (Kept w w' (fun k_ => P2_ k_ ∨ P4_ k_)) ∧ Aside0 (Below w0.heap.size w0 w'))
                      case atStart => exact ⟨(l2), (l4), (1), (by first | rfl | (simp; done) | (simp [*]; done)), H', ⟨Nat.le_refl _⟩, ⟨by (with_reducible repeat (first | apply Kd.R_alloc | apply Kd.R_drewN | apply Kd.R_drew)); exact HO_2.out⟩, ⟨by (with_reducible repeat (first | apply Kd.R_alloc | apply Kd.R_drewN | apply Kd.R_drew)); exact HO_4.out⟩, ⟨by repeat (first | (with_reducible first | exact HK.out | apply Kept.alloc | apply Kept.drewN | apply Kept.drew) | exact HK.out)⟩, ⟨by repeat (first | (with_reducible first | exact HB.out | apply below_alloc | apply pw_below_drewN | apply below_drew1) | exact HB.out)⟩⟩
                      case round =>
                        clear H'
                        try clear c1
                        try clear p1
                        try clear q1
                        try clear hx1
                        try clear c2
                        try clear p2
                        try clear c3
                        try clear p4
                        try clear c5
                        try clear p6
                        try clear c7
                        try clear c7b0
                        try clear c8
                        try clear c8b0
                        try clear c9
                        try clear c9b0
                        try clear c10
                        try clear c10b0
                        try clear p10
                        try clear q10
                        try clear hx10
                        try clear c11
                        try clear c11b0
                        try clear c12
                        try clear c12b0
                        try clear c13
                        try clear c13b0
                        try clear c14
                        try clear c14b0
                        try clear c15
                        try clear c15b0
                        try clear c15b1
                        try clear c17
                        try clear c17b0
                        try clear c18
                        try clear c18b0
                        try clear p19
                        try clear q19
                        try clear hx19
                        try clear hf19
                        try clear c24
                        try clear c24b0
                        try clear c26
                        try clear c26b0
                        try clear c27
                        try clear c27b0
                        try clear c28
                        try clear c28b0
                        try clear c29
                        try clear c29b0
                        try clear c29b1
                        try clear c30
                        try clear c30b0
                        try clear c31
                        try clear c31b0
                        try clear hx101_0
                        try clear hx102_0
                        try clear hx103_0
                        try clear hx104_0
                        try clear hx106_0
                        try clear hx107_0
                        try clear hx108_0
                        try clear hx19_0
                        try clear p1
                        try clear p10
                        try clear p101
                        try clear p102
                        try clear p103
                        try clear p104
                        try clear p106
                        try clear p107
                        try clear p108
                        try clear p19
                        try clear p2
                        try clear p4
                        try clear p6
                        try clear q1
                        try clear q10
                        try clear q101
                        try clear q102
                        try clear q103
                        try clear q104
                        try clear q106
                        try clear q107
                        try clear q108
                        try clear q19
                        obtain ⟨x2_3, x4_3, x14_3, rfl, HA, HK3, HO_2, HO_4, HK, HB⟩ := hrel
                        have hl2_3 := (Kd.R_reads' HO_2.out).1
                        rw [hl2_3] at HO_2
                        (try simp only [hl2_3])
                        (try simp only [hl2_3] at HO_4)
                        cases gk with
                        | zero => exact absurd HA.out (by simp [spec_ctWalk.l2])
                        | succ k3 =>
                          have H := HA.out
                          clear HA
                          simp only [spec_ctWalk.l2] at H
                          by_cases c34 : x14_3 ≤ t110
                          · rw [if_pos c34] at H
                            have c34b0 : decide (x14_3 ≤ t110) = true := decide_eq_true c34
                            clear c34
                            have H' := Aside0.mk H
                            clear H
                            go_wp2
                            repeat (go_quiet (fail); try go_wp2)
                            go_loopg [15] k3 (fun kq v15 w' => ∃ (x2_4 : List Int) (x15_4 : Int), v15 = .int .i64 x15_4 ∧ Aside0 (spec_ctWalk.l3 kq a0 a1 x2_4 a3 x4_3 x10_1 t110 x14_3 x15_4 = some (r1, r2)) ∧ Aside0 (kq ≤ k3) ∧ Aside0 (Kd.R (Kd.int .i64) 3 w' w0.heap.size (fun k_ => ((P2_ k_ ∨ P4_ k_) ∨ w.heap.size ≤ k_) ∧ some k_ ≠ (u9001_ : Value).ownBlock) (.slice (some ad103) x2_3.length co6) x2_4) ∧ Aside0 (Kd.R (Kd.int .i64) 3 w' w0.heap.size (fun k_ => ((P2_ k_ ∨ P4_ k_) ∨ w.heap.size ≤ k_) ∧ some k_ ≠ ((.slice (some ad103) x2_3.length co6) : Value).ownBlock) u9001_ x4_3) ∧ Aside0 (Kept w w' (fun k_ => P2_ k_ ∨ P4_ k_)) ∧ Aside0 (Below w0.heap.size w0 w'))
                            case atStart => exact ⟨(x2_3), (x10_1), (by first | rfl | (simp; done) | (simp [*]; done)), H', ⟨Nat.le_refl _⟩, ⟨by (try simp only [hl2_3]); (with_reducible repeat (first | apply Kd.R_alloc | apply Kd.R_drewN | apply Kd.R_drew)); exact HO_2.out⟩, ⟨by (try simp only [hl2_3]); (with_reducible repeat (first | apply Kd.R_alloc | apply Kd.R_drewN | apply Kd.R_drew)); exact HO_4.out⟩, ⟨by repeat (first | (with_reducible first | exact HK.out | apply Kept.alloc | apply Kept.drewN | apply Kept.drew) | exact HK.out)⟩, ⟨by repeat (first | (with_reducible first | exact HB.out | apply below_alloc | apply pw_below_drewN | apply below_drew1) | exact HB.out)⟩⟩
                            case round =>
                              clear H'
                              try clear c1
                              try clear p1
                              try clear q1
                              try clear hx1
                              try clear c2
                              try clear p2
                              try clear c3
                              try clear p4
                              try clear c5
                              try clear p6
                              try clear c7
                              try clear c7b0
                              try clear c8
                              try clear c8b0
                              try clear c9
                              try clear c9b0
                              try clear c10
                              try clear c10b0
                              try clear p10
                              try clear q10
                              try clear hx10
                              try clear c11
                              try clear c11b0
                              try clear c12
                              try clear c12b0
                              try clear c13
                              try clear c13b0
                              try clear c14
                              try clear c14b0
                              try clear c15
                              try clear c15b0
                              try clear c15b1
                              try clear c17
                              try clear c17b0
                              try clear c18
                              try clear c18b0
                              try clear p19
                              try clear q19
                              try clear hx19
                              try clear hf19
                              try clear c24
                              try clear c24b0
                              try clear c26
                              try clear c26b0
                              try clear c27
                              try clear c27b0
                              try clear c28
                              try clear c28b0
                              try clear c29
                              try clear c29b0
                              try clear c29b1
                              try clear c30
                              try clear c30b0
                              try clear c31
                              try clear c31b0
                              try clear c34
                              try clear c34b0
                              try clear hx101_0
                              try clear hx102_0
                              try clear hx103_0
                              try clear hx104_0
                              try clear hx106_0
                              try clear hx107_0
                              try clear hx108_0
                              try clear hx19_0
                              try clear p1
                              try clear p10
                              try clear p101
                              try clear p102
                              try clear p103
                              try clear p104
                              try clear p106
                              try clear p107
                              try clear p108
                              try clear p19
                              try clear p2
                              try clear p4
                              try clear p6
                              try clear q1
                              try clear q10
                              try clear q101
                              try clear q102
                              try clear q103
                              try clear q104
                              try clear q106
                              try clear q107
                              try clear q108
                              try clear q19
                              obtain ⟨x2_4, x15_4, rfl, HA, HK4, HO_2, HO_4, HK, HB⟩ := hrel
                              have hl2_4 := (Kd.R_reads' HO_2.out).1
                              rw [hl2_4] at HO_2
                              (try simp only [hl2_4])
                              (try simp only [hl2_4] at HO_4)
                              cases gk with
                              | zero => exact absurd HA.out (by simp [spec_ctWalk.l3])
                              | succ k4 =>
                                have H := HA.out
                                clear HA
                                simp only [spec_ctWalk.l3] at H
                                by_cases c35 : x15_4 < (wrap64 (x10_1 + x14_3))
                                · rw [if_pos c35] at H
                                  have c35b0 : decide (x15_4 < (wrap64 (x10_1 + x14_3))) = true := decide_eq_true c35
                                  clear c35
                                  by_cases c36 : 0 ≤ x15_4
                                  · rw [if_pos c36] at H
                                    have c36b0 : decide (0 ≤ x15_4) = true := decide_eq_true c36
                                    clear c36
                                    by_cases c37 : x15_4 < (x2_4.length : Int)
                                    · rw [if_pos c37] at H
                                      have c37b0 : decide (x15_4 < (x2_4.length : Int)) = true := decide_eq_true c37
                                      clear c37
                                      obtain ⟨y112, hy112⟩ : ∃ y_ : List Int, y_ = (x2_4.set (x15_4 : Int).toNat (wrap64 ((rd x2_4 x15_4) + x14_3))) := ⟨_, rfl⟩
                                      replace H : (spec_ctWalk.l3 k4 a0 a1 y112 a3 x4_3 x10_1 t110 x14_3 (wrap64 (x15_4 + 1))) = some (r1, r2) := by first | (rw [hy112]; with_reducible exact H) | (have H2_ := (Option.bind_some _ _).symm.trans H; rw [hy112]; with_reducible exact H2_) | (have H2_ := (Option.bind_some _ _).symm.trans H; with_reducible exact H2_) | with_reducible exact H | (rw [hy112]; exact H) | exact H
                                      have Ny112 := Aside0.mk hy112
                                      clear hy112
                                      have H' := Aside0.mk H
                                      clear H
                                      have p111 : 0 ≤ (x15_4 : Int) := of_decide_eq_true (by first | (with_reducible assumption) | assumption)
                                      have q111 : x15_4 < (x2_4.length : Int) := of_decide_eq_true (by first | (with_reducible assumption) | assumption)
                                      obtain ⟨ad111, e111, hx111_0⟩ := Kd.at_int (Kd.R_reads' HO_2.out).2.2 x15_4 p111 q111
                                      obtain rfl : ad103 = ad111 := (by injection e111)
                                      replace p111 := eq_true p111
                                      replace q111 := eq_true q111
                                      have p38 : 0 ≤ (x15_4 : Int) := of_decide_eq_true (by first | (with_reducible assumption) | assumption)
                                      have q38 : (x15_4 : Int) < ((x2_4.length : Int) : Int) := of_decide_eq_true (by first | (with_reducible assumption) | assumption)
                                      obtain ⟨go38, co38, eo38, gb38, gl38, cl38, HG38⟩ := Kd.R_form HO_2.out (by omega)
                                      (first | cases eo38 | (injection eo38 with ea_ en_ ec_; (first | subst ea_ | (injection ea_ with ea_; subst ea_)); subst ec_; clear en_))
                                      have GB38 := Aside0.mk gb38
                                      have GG38 := Aside0.mk HG38
                                      clear gb38 gl38 HG38
                                      have HMgo38 := Aside0.mk (show ((P2_ go38 ∨ P4_ go38) ∨ w.heap.size ≤ go38) from (HO_2.out.1 _ rfl).1)
                                      (first | simp only [add_plain] at hx103_0 | skip)
                                      (first | simp only [add_plain] at hx106_0 | skip)
                                      (first | simp only [add_plain] at hx107_0 | skip)
                                      (first | simp only [add_plain] at hx108_0 | skip)
                                      (first | simp only [add_plain] at hx111_0 | skip)
                                      obtain ⟨hx38_0, hf38_0⟩ := Kd.R_celln 0 HO_2.out (x15_4 : Int) p38 q38
                                      replace p38 := eq_true p38
                                      replace q38 := eq_true q38
                                      have HP39 := Kd.R_putg HO_2.out (x15_4 : Int) (wrap64 ((rd x2_4 x15_4) + x14_3))
                                      go_wp2_with (first | ((with_reducible refine gate_store (t := 3) (p := 95) rfl ?_); (try (rw [drewN_self wr]; generalize hq_ : World.drewN wr _ = wr; have n0_ := Aside0.mk (Kd.R_at hq_ HO_2.out); have n1_ := Aside0.mk (Kd.R_at hq_ HO_4.out); have n2_ := Aside0.mk (kept_at hq_ HK.out); have n3_ := Aside0.mk (below_at hq_ HB.out); clear hq_ HO_2 HO_4 HK HB; have HO_2 := n0_; have HO_4 := n1_; have HK := n2_; have HB := n3_; clear n0_ n1_ n2_ n3_; (try (have HP39 := Kd.R_putg HO_2.out (x15_4 : Int) (wrap64 ((rd x2_4 x15_4) + x14_3)))))); refine store_event (t := 3) (p := 95) (v := ?vo_w40) (w1 := (wr.setCell ⟨go38, (x15_4 : Int).toNat, none⟩ (.int .i64 (wrap64 ((rd x2_4 x15_4) + x14_3))))) ?hg ?ho ?hn ?hr ?_; (case ho => rfl); (case hg => rfl); (case hn => rfl); (case hr => first | (go_simp; done) | (go_simp; rfl)); intro w40 hw; have hg : wr.grownBy w40 (some go38) := (by rw [hw]; exact HP39.2); have hp_ : Kd.R (Kd.int .i64) 3 w40 w0.heap.size (fun k_ => ((P2_ k_ ∨ P4_ k_) ∨ w.heap.size ≤ k_) ∧ some k_ ≠ (u9001_ : Value).ownBlock) (.slice (some ⟨go38, 0, none⟩) x2_4.length co6) y112 := (by rw [hw, Ny112.out]; exact HP39.1); clear HP39; have n0_ := Aside0.mk (hp_); have n1_ := Aside0.mk (Kd.R_after (v := (.slice (some ⟨go38, 0, none⟩) x2_4.length co6)) (v1 := (.slice (some ⟨go38, 0, none⟩) x2_4.length co6)) (ok := (fun k_ => ((P2_ k_ ∨ P4_ k_) ∨ w.heap.size ≤ k_))) (by (with_reducible repeat (first | apply Kd.R_alloc | apply Kd.R_drewN | apply Kd.R_drew)); exact HO_4.out) hg (.inl rfl)); have n2_ := Aside0.mk ((by rw [hw]; exact below_set (HB.out) GB38.out : Below w0.heap.size w0 w40)); have n3_ := Aside0.mk (Kept.of_grown (S := (fun k_ => P2_ k_ ∨ P4_ k_)) hg (by repeat (first | (with_reducible first | exact HK.out | apply Kept.alloc | apply Kept.drewN | apply Kept.drew) | exact HK.out)) (fun k_ e_ => (HO_2.out.1 k_ e_).1)); clear HO_2; clear HO_4; clear HB; clear HK; have HO_2 := n0_; have HO_4 := n1_; have HB := n2_; have HK := n3_; clear n0_ n1_ n2_ n3_; clear hg hw hp_))
                                      repeat (go_quiet (first | ((with_reducible refine gate_store (t := 3) (p := 95) rfl ?_); (try (rw [drewN_self wr]; generalize hq_ : World.drewN wr _ = wr; have n0_ := Aside0.mk (Kd.R_at hq_ HO_2.out); have n1_ := Aside0.mk (Kd.R_at hq_ HO_4.out); have n2_ := Aside0.mk (kept_at hq_ HK.out); have n3_ := Aside0.mk (below_at hq_ HB.out); clear hq_ HO_2 HO_4 HK HB; have HO_2 := n0_; have HO_4 := n1_; have HK := n2_; have HB := n3_; clear n0_ n1_ n2_ n3_; (try (have HP39 := Kd.R_putg HO_2.out (x15_4 : Int) (wrap64 ((rd x2_4 x15_4) + x14_3)))))); refine store_event (t := 3) (p := 95) (v := ?vo_w40) (w1 := (wr.setCell ⟨go38, (x15_4 : Int).toNat, none⟩ (.int .i64 (wrap64 ((rd x2_4 x15_4) + x14_3))))) ?hg ?ho ?hn ?hr ?_; (case ho => rfl); (case hg => rfl); (case hn => rfl); (case hr => first | (go_simp; done) | (go_simp; rfl)); intro w40 hw; have hg : wr.grownBy w40 (some go38) := (by rw [hw]; exact HP39.2); have hp_ : Kd.R (Kd.int .i64) 3 w40 w0.heap.size (fun k_ => ((P2_ k_ ∨ P4_ k_) ∨ w.heap.size ≤ k_) ∧ some k_ ≠ (u9001_ : Value).ownBlock) (.slice (some ⟨go38, 0, none⟩) x2_4.length co6) y112 := (by rw [hw, Ny112.out]; exact HP39.1); clear HP39; have n0_ := Aside0.mk (hp_); have n1_ := Aside0.mk (Kd.R_after (v := (.slice (some ⟨go38, 0, none⟩) x2_4.length co6)) (v1 := (.slice (some ⟨go38, 0, none⟩) x2_4.length co6)) (ok := (fun k_ => ((P2_ k_ ∨ P4_ k_) ∨ w.heap.size ≤ k_))) (by (with_reducible repeat (first | apply Kd.R_alloc | apply Kd.R_drewN | apply Kd.R_drew)); exact HO_4.out) hg (.inl rfl)); have n2_ := Aside0.mk ((by rw [hw]; exact below_set (HB.out) GB38.out : Below w0.heap.size w0 w40)); have n3_ := Aside0.mk (Kept.of_grown (S := (fun k_ => P2_ k_ ∨ P4_ k_)) hg (by repeat (first | (with_reducible first | exact HK.out | apply Kept.alloc | apply Kept.drewN | apply Kept.drew) | exact HK.out)) (fun k_ e_ => (HO_2.out.1 k_ e_).1)); clear HO_2; clear HO_4; clear HB; clear HK; have HO_2 := n0_; have HO_4 := n1_; have HB := n2_; have HK := n3_; clear n0_ n1_ n2_ n3_; clear hg hw hp_)); try go_wp2_with (first | ((with_reducible refine gate_store (t := 3) (p := 95) rfl ?_); (try (rw [drewN_self wr]; generalize hq_ : World.drewN wr _ = wr; have n0_ := Aside0.mk (Kd.R_at hq_ HO_2.out); have n1_ := Aside0.mk (Kd.R_at hq_ HO_4.out); have n2_ := Aside0.mk (kept_at hq_ HK.out); have n3_ := Aside0.mk (below_at hq_ HB.out); clear hq_ HO_2 HO_4 HK HB; have HO_2 := n0_; have HO_4 := n1_; have HK := n2_; have HB := n3_; clear n0_ n1_ n2_ n3_; (try (have HP39 := Kd.R_putg HO_2.out (x15_4 : Int) (wrap64 ((rd x2_4 x15_4) + x14_3)))))); refine store_event (t := 3) (p := 95) (v := ?vo_w40) (w1 := (wr.setCell ⟨go38, (x15_4 : Int).toNat, none⟩ (.int .i64 (wrap64 ((rd x2_4 x15_4) + x14_3))))) ?hg ?ho ?hn ?hr ?_; (case ho => rfl); (case hg => rfl); (case hn => rfl); (case hr => first | (go_simp; done) | (go_simp; rfl)); intro w40 hw; have hg : wr.grownBy w40 (some go38) := (by rw [hw]; exact HP39.2); have hp_ : Kd.R (Kd.int .i64) 3 w40 w0.heap.size (fun k_ => ((P2_ k_ ∨ P4_ k_) ∨ w.heap.size ≤ k_) ∧ some k_ ≠ (u9001_ : Value).ownBlock) (.slice (some ⟨go38, 0, none⟩) x2_4.length co6) y112 := (by rw [hw, Ny112.out]; exact HP39.1); clear HP39; have n0_ := Aside0.mk (hp_); have n1_ := Aside0.mk (Kd.R_after (v := (.slice (some ⟨go38, 0, none⟩) x2_4.length co6)) (v1 := (.slice (some ⟨go38, 0, none⟩) x2_4.length co6)) (ok := (fun k_ => ((P2_ k_ ∨ P4_ k_) ∨ w.heap.size ≤ k_))) (by (with_reducible repeat (first | apply Kd.R_alloc | apply Kd.R_drewN | apply Kd.R_drew)); exact HO_4.out) hg (.inl rfl)); have n2_ := Aside0.mk ((by rw [hw]; exact below_set (HB.out) GB38.out : Below w0.heap.size w0 w40)); have n3_ := Aside0.mk (Kept.of_grown (S := (fun k_ => P2_ k_ ∨ P4_ k_)) hg (by repeat (first | (with_reducible first | exact HK.out | apply Kept.alloc | apply Kept.drewN | apply Kept.drew) | exact HK.out)) (fun k_ e_ => (HO_2.out.1 k_ e_).1)); clear HO_2; clear HO_4; clear HB; clear HK; have HO_2 := n0_; have HO_4 := n1_; have HB := n2_; have HK := n3_; clear n0_ n1_ n2_ n3_; clear hg hw hp_)))
                                      (try simp only [← hl2_4])
                                      (try simp only [add_plain] at *)
                                      go_roundg k4
                                      case measure => have := HK1.out; have := HJ22.out; have := HK3.out; have := HK4.out; omega
                                      case rel => exact ⟨(y112), (wrap64 (x15_4 + 1)), (by first | rfl | (simp; done) | (simp [*]; done)), H', ⟨by have := HK1.out; have := HJ22.out; have := HK3.out; have := HK4.out; omega⟩, ⟨by (try simp only [hl2_3]); (try simp only [hl2_4]); (with_reducible repeat (first | apply Kd.R_alloc | apply Kd.R_drewN | apply Kd.R_drew)); exact HO_2.out⟩, ⟨by (try simp only [hl2_3]); (try simp only [hl2_4]); (with_reducible repeat (first | apply Kd.R_alloc | apply Kd.R_drewN | apply Kd.R_drew)); exact HO_4.out⟩, ⟨by repeat (first | (with_reducible first | exact HK.out | apply Kept.alloc | apply Kept.drewN | apply Kept.drew) | exact HK.out)⟩, ⟨by repeat (first | (with_reducible first | exact HB.out | apply below_alloc | apply pw_below_drewN | apply below_drew1) | exact HB.out)⟩⟩
                                    · rw [if_neg c37] at H
                                      exact absurd H (by simp)
                                  · rw [if_neg c36] at H
                                    exact absurd H (by simp)
                                · rw [if_neg c35] at H
                                  have c35b0 : decide (x15_4 < (wrap64 (x10_1 + x14_3))) = false := decide_eq_false c35
                                  clear c35
                                  replace H := Option.bind_eq_some_iff.mp H
                                  obtain ⟨⟨t113, t114⟩, A410, H⟩ := H
                                  replace H : (spec_ctWalk.l4 k4 a0 a1 t113 a3 t114 x10_1 t110 x14_3 x10_1) = some (r1, r2) := H
                                  have A41 := Aside0.mk A410
                                  clear A410
                                  have H' := Aside0.mk H
                                  clear H
                                  obtain ⟨Ao42, co42, eo42⟩ := Kd.R_slice HO_4.out
                                  subst eo42
                                  go_wp2_with (first | (go_at_call 58; (with_reducible refine (ih k4 (by have := HK1.out; have := HJ22.out; have := HK3.out; have := HK4.out; omega) a0 a1 (fun k_ => some k_ = (.slice (some ad103) x2_4.length co6 : Value).ownBlock) (.slice (some ad103) x2_4.length co6) x2_4 (wrap64 (a3 + 1)) (fun k_ => some k_ = (.slice Ao42 x4_3.length co42 : Value).ownBlock) (.slice Ao42 x4_3.length co42) x4_3 t113 t114 w0 _ ?side1 ?side2 ?side3 ?side4 ?side5 A41.out).mono ?_); (case side1 => repeat (first | (with_reducible first | exact HB.out | apply below_alloc | apply pw_below_drewN | apply below_drew1) | exact HB.out)); (case side2 => exact Kd.R_tight rfl HO_2.out); (case side3 => exact fun k_ e_ => (HO_2.out.1 k_ e_.symm).2); (case side4 => exact Kd.R_tight rfl HO_4.out); (case side5 => exact fun k_ e_ => (HO_4.out.1 k_ e_.symm).2); rintro e w43 ⟨rfl, hy0, hy1, hb, hkp⟩; have n0_ := Aside0.mk (Kd.R_reok rfl hy0 (fun k_ e_ => HO_2.out.1 k_ e_)); have n1_ := Aside0.mk (Kd.R_reok rfl hy1 (fun k_ e_ => HO_4.out.1 k_ e_)); have n2_ := Aside0.mk (Kept.then_ (S := (fun k_ => P2_ k_ ∨ P4_ k_)) (by repeat (first | (with_reducible first | exact HK.out | apply Kept.alloc | apply Kept.drewN | apply Kept.drew) | exact HK.out)) hkp (fun k_ hs_ => Or.elim hs_ (fun e_ => (fun e_ => (HO_2.out.1 k_ e_.symm).1) e_) (fun e_ => (fun e_ => (HO_4.out.1 k_ e_.symm).1) e_))); have n3_ := Aside0.mk (hb); clear HO_2; clear HO_4; clear HK; clear HB; have HO_2 := n0_; have HO_4 := n1_; have HK := n2_; have HB := n3_; clear n0_ n1_ n2_ n3_; (try clear hb); (try clear hkp); (try clear hy0); (try clear hy1)))
                                  repeat (go_quiet (first | (go_at_call 58; (with_reducible refine (ih k4 (by have := HK1.out; have := HJ22.out; have := HK3.out; have := HK4.out; omega) a0 a1 (fun k_ => some k_ = (.slice (some ad103) x2_4.length co6 : Value).ownBlock) (.slice (some ad103) x2_4.length co6) x2_4 (wrap64 (a3 + 1)) (fun k_ => some k_ = (.slice Ao42 x4_3.length co42 : Value).ownBlock) (.slice Ao42 x4_3.length co42) x4_3 t113 t114 w0 _ ?side1 ?side2 ?side3 ?side4 ?side5 A41.out).mono ?_); (case side1 => repeat (first | (with_reducible first | exact HB.out | apply below_alloc | apply pw_below_drewN | apply below_drew1) | exact HB.out)); (case side2 => exact Kd.R_tight rfl HO_2.out); (case side3 => exact fun k_ e_ => (HO_2.out.1 k_ e_.symm).2); (case side4 => exact Kd.R_tight rfl HO_4.out); (case side5 => exact fun k_ e_ => (HO_4.out.1 k_ e_.symm).2); rintro e w43 ⟨rfl, hy0, hy1, hb, hkp⟩; have n0_ := Aside0.mk (Kd.R_reok rfl hy0 (fun k_ e_ => HO_2.out.1 k_ e_)); have n1_ := Aside0.mk (Kd.R_reok rfl hy1 (fun k_ e_ => HO_4.out.1 k_ e_)); have n2_ := Aside0.mk (Kept.then_ (S := (fun k_ => P2_ k_ ∨ P4_ k_)) (by repeat (first | (with_reducible first | exact HK.out | apply Kept.alloc | apply Kept.drewN | apply Kept.drew) | exact HK.out)) hkp (fun k_ hs_ => Or.elim hs_ (fun e_ => (fun e_ => (HO_2.out.1 k_ e_.symm).1) e_) (fun e_ => (fun e_ => (HO_4.out.1 k_ e_.symm).1) e_))); have n3_ := Aside0.mk (hb); clear HO_2; clear HO_4; clear HK; clear HB; have HO_2 := n0_; have HO_4 := n1_; have HK := n2_; have HB := n3_; clear n0_ n1_ n2_ n3_; (try clear hb); (try clear hkp); (try clear hy0); (try clear hy1))); try go_wp2_with (first | (go_at_call 58; (with_reducible refine (ih k4 (by have := HK1.out; have := HJ22.out; have := HK3.out; have := HK4.out; omega) a0 a1 (fun k_ => some k_ = (.slice (some ad103) x2_4.length co6 : Value).ownBlock) (.slice (some ad103) x2_4.length co6) x2_4 (wrap64 (a3 + 1)) (fun k_ => some k_ = (.slice Ao42 x4_3.length co42 : Value).ownBlock) (.slice Ao42 x4_3.length co42) x4_3 t113 t114 w0 _ ?side1 ?side2 ?side3 ?side4 ?side5 A41.out).mono ?_); (case side1 => repeat (first | (with_reducible first | exact HB.out | apply below_alloc | apply pw_below_drewN | apply below_drew1) | exact HB.out)); (case side2 => exact Kd.R_tight rfl HO_2.out); (case side3 => exact fun k_ e_ => (HO_2.out.1 k_ e_.symm).2); (case side4 => exact Kd.R_tight rfl HO_4.out); (case side5 => exact fun k_ e_ => (HO_4.out.1 k_ e_.symm).2); rintro e w43 ⟨rfl, hy0, hy1, hb, hkp⟩; have n0_ := Aside0.mk (Kd.R_reok rfl hy0 (fun k_ e_ => HO_2.out.1 k_ e_)); have n1_ := Aside0.mk (Kd.R_reok rfl hy1 (fun k_ e_ => HO_4.out.1 k_ e_)); have n2_ := Aside0.mk (Kept.then_ (S := (fun k_ => P2_ k_ ∨ P4_ k_)) (by repeat (first | (with_reducible first | exact HK.out | apply Kept.alloc | apply Kept.drewN | apply Kept.drew) | exact HK.out)) hkp (fun k_ hs_ => Or.elim hs_ (fun e_ => (fun e_ => (HO_2.out.1 k_ e_.symm).1) e_) (fun e_ => (fun e_ => (HO_4.out.1 k_ e_.symm).1) e_))); have n3_ := Aside0.mk (hb); clear HO_2; clear HO_4; clear HK; clear HB; have HO_2 := n0_; have HO_4 := n1_; have HK := n2_; have HB := n3_; clear n0_ n1_ n2_ n3_; (try clear hb); (try clear hkp); (try clear hy0); (try clear hy1))))
                                  go_loopg [16] k4 (fun kq v16 w' => ∃ (x2_5 : List Int) (x16_5 : Int), v16 = .int .i64 x16_5 ∧ Aside0 (spec_ctWalk.l4 kq a0 a1 x2_5 a3 t114 x10_1 t110 x14_3 x16_5 = some (r1, r2)) ∧ Aside0 (kq ≤ k4) ∧ Aside0 (Kd.R (Kd.int .i64) 3 w' w0.heap.size (fun k_ => ((P2_ k_ ∨ P4_ k_) ∨ w.heap.size ≤ k_) ∧ some k_ ≠ ((.slice Ao42 x4_3.length co42) : Value).ownBlock) (.slice (some ad103) x2_4.length co6) x2_5) ∧ Aside0 (Kd.R (Kd.int .i64) 3 w' w0.heap.size (fun k_ => ((P2_ k_ ∨ P4_ k_) ∨ w.heap.size ≤ k_) ∧ some k_ ≠ ((.slice (some ad103) x2_4.length co6) : Value).ownBlock) (.slice Ao42 x4_3.length co42) t114) ∧ Aside0 (Kept w w' (fun k_ => P2_ k_ ∨ P4_ k_)) ∧ Aside0 (Below w0.heap.size w0 w'))
                                  case atStart => exact ⟨(t113), (x10_1), (by first | rfl | (simp; done) | (simp [*]; done)), H', ⟨Nat.le_refl _⟩, ⟨by (try simp only [hl2_3]); (try simp only [hl2_4]); (with_reducible repeat (first | apply Kd.R_alloc | apply Kd.R_drewN | apply Kd.R_drew)); exact HO_2.out⟩, ⟨by (try simp only [hl2_3]); (try simp only [hl2_4]); (with_reducible repeat (first | apply Kd.R_alloc | apply Kd.R_drewN | apply Kd.R_drew)); exact HO_4.out⟩, ⟨by repeat (first | (with_reducible first | exact HK.out | apply Kept.alloc | apply Kept.drewN | apply Kept.drew) | exact HK.out)⟩, ⟨by repeat (first | (with_reducible first | exact HB.out | apply below_alloc | apply pw_below_drewN | apply below_drew1) | exact HB.out)⟩⟩
                                  case round =>
                                    clear H'
                                    try clear c1
                                    try clear p1
                                    try clear q1
                                    try clear hx1
                                    try clear c2
                                    try clear p2
                                    try clear c3
                                    try clear p3
                                    try clear q3
                                    try clear hx3
                                    try clear p4
                                    try clear c5
                                    try clear p6
                                    try clear c7
                                    try clear c7b0
                                    try clear c8
                                    try clear c8b0
                                    try clear c9
                                    try clear c9b0
                                    try clear c10
                                    try clear c10b0
                                    try clear p10
                                    try clear q10
                                    try clear hx10
                                    try clear c11
                                    try clear c11b0
                                    try clear p11
                                    try clear q11
                                    try clear hx11
                                    try clear c12
                                    try clear c12b0
                                    try clear c13
                                    try clear c13b0
                                    try clear c14
                                    try clear c14b0
                                    try clear c15
                                    try clear c15b0
                                    try clear c15b1
                                    try clear c17
                                    try clear c17b0
                                    try clear c18
                                    try clear c18b0
                                    try clear p19
                                    try clear q19
                                    try clear hx19
                                    try clear hf19
                                    try clear c24
                                    try clear c24b0
                                    try clear c26
                                    try clear c26b0
                                    try clear c27
                                    try clear c27b0
                                    try clear c28
                                    try clear c28b0
                                    try clear c29
                                    try clear c29b0
                                    try clear c29b1
                                    try clear c30
                                    try clear c30b0
                                    try clear c31
                                    try clear c31b0
                                    try clear c34
                                    try clear c34b0
                                    try clear c35
                                    try clear c35b0
                                    try clear c36
                                    try clear c36b0
                                    try clear c37
                                    try clear c37b0
                                    try clear p38
                                    try clear q38
                                    try clear hx38
                                    try clear hf38
                                    try clear hx101_0
                                    try clear hx102_0
                                    try clear hx103_0
                                    try clear hx104_0
                                    try clear hx106_0
                                    try clear hx107_0
                                    try clear hx108_0
                                    try clear hx111_0
                                    try clear hx19_0
                                    try clear hx38_0
                                    try clear p1
                                    try clear p10
                                    try clear p101
                                    try clear p102
                                    try clear p103
                                    try clear p104
                                    try clear p106
                                    try clear p107
                                    try clear p108
                                    try clear p111
                                    try clear p19
                                    try clear p2
                                    try clear p38
                                    try clear p4
                                    try clear p6
                                    try clear q1
                                    try clear q10
                                    try clear q101
                                    try clear q102
                                    try clear q103
                                    try clear q104
                                    try clear q106
                                    try clear q107
                                    try clear q108
                                    try clear q111
                                    try clear q19
                                    try clear q38
                                    obtain ⟨x2_5, x16_5, rfl, HA, HK5, HO_2, HO_4, HK, HB⟩ := hrel
                                    have hl2_5 := (Kd.R_reads' HO_2.out).1
                                    rw [hl2_5] at HO_2
                                    (try simp only [hl2_5])
                                    (try simp only [hl2_5] at HO_4)
                                    have hl4_5 := (Kd.R_reads' HO_4.out).1
                                    rw [hl4_5] at HO_4
                                    (try simp only [hl4_5])
                                    (try simp only [hl4_5] at HO_2)
                                    cases gk with
                                    | zero => exact absurd HA.out (by simp [spec_ctWalk.l4])
                                    | succ k5 =>
                                      have H := HA.out
                                      clear HA
                                      simp only [spec_ctWalk.l4] at H
                                      by_cases c44 : x16_5 < (wrap64 (x10_1 + x14_3))
                                      · rw [if_pos c44] at H
                                        have c44b0 : decide (x16_5 < (wrap64 (x10_1 + x14_3))) = true := decide_eq_true c44
                                        clear c44
                                        by_cases c45 : 0 ≤ x16_5
                                        · rw [if_pos c45] at H
                                          have c45b0 : decide (0 ≤ x16_5) = true := decide_eq_true c45
                                          clear c45
                                          by_cases c46 : x16_5 < (x2_5.length : Int)
                                          · rw [if_pos c46] at H
                                            have c46b0 : decide (x16_5 < (x2_5.length : Int)) = true := decide_eq_true c46
                                            clear c46
                                            obtain ⟨y116, hy116⟩ : ∃ y_ : List Int, y_ = (x2_5.set (x16_5 : Int).toNat (wrap64 ((rd x2_5 x16_5) - x14_3))) := ⟨_, rfl⟩
                                            replace H : (spec_ctWalk.l4 k5 a0 a1 y116 a3 t114 x10_1 t110 x14_3 (wrap64 (x16_5 + 1))) = some (r1, r2) := by first | (rw [hy116]; with_reducible exact H) | (have H2_ := (Option.bind_some _ _).symm.trans H; rw [hy116]; with_reducible exact H2_) | (have H2_ := (Option.bind_some _ _).symm.trans H; with_reducible exact H2_) | with_reducible exact H | (rw [hy116]; exact H) | exact H
                                            have Ny116 := Aside0.mk hy116
                                            clear hy116
                                            have H' := Aside0.mk H
                                            clear H
                                            have p115 : 0 ≤ (x16_5 : Int) := of_decide_eq_true (by first | (with_reducible assumption) | assumption)
                                            have q115 : x16_5 < (x2_5.length : Int) := of_decide_eq_true (by first | (with_reducible assumption) | assumption)
                                            obtain ⟨ad115, e115, hx115_0⟩ := Kd.at_int (Kd.R_reads' HO_2.out).2.2 x16_5 p115 q115
                                            obtain rfl : ad103 = ad115 := (by injection e115)
                                            replace p115 := eq_true p115
                                            replace q115 := eq_true q115
                                            have p47 : 0 ≤ (x16_5 : Int) := of_decide_eq_true (by first | (with_reducible assumption) | assumption)
                                            have q47 : (x16_5 : Int) < ((x2_5.length : Int) : Int) := of_decide_eq_true (by first | (with_reducible assumption) | assumption)
                                            obtain ⟨go47, co47, eo47, gb47, gl47, cl47, HG47⟩ := Kd.R_form HO_2.out (by omega)
                                            (first | cases eo47 | (injection eo47 with ea_ en_ ec_; (first | subst ea_ | (injection ea_ with ea_; subst ea_)); subst ec_; clear en_))
                                            have GB47 := Aside0.mk gb47
                                            have GG47 := Aside0.mk HG47
                                            clear gb47 gl47 HG47
                                            have HMgo47 := Aside0.mk (show ((P2_ go47 ∨ P4_ go47) ∨ w.heap.size ≤ go47) from (HO_2.out.1 _ rfl).1)
                                            (first | simp only [add_plain] at hx115_0 | skip)
                                            obtain ⟨hx47_0, hf47_0⟩ := Kd.R_celln 0 HO_2.out (x16_5 : Int) p47 q47
                                            replace p47 := eq_true p47
                                            replace q47 := eq_true q47
                                            have HP48 := Kd.R_putg HO_2.out (x16_5 : Int) (wrap64 ((rd x2_5 x16_5) - x14_3))
                                            go_wp2_with (first | ((with_reducible refine gate_store (t := 3) (p := 117) rfl ?_); (try (rw [drewN_self wr]; generalize hq_ : World.drewN wr _ = wr; have n0_ := Aside0.mk (Kd.R_at hq_ HO_2.out); have n1_ := Aside0.mk (Kd.R_at hq_ HO_4.out); have n2_ := Aside0.mk (kept_at hq_ HK.out); have n3_ := Aside0.mk (below_at hq_ HB.out); clear hq_ HO_2 HO_4 HK HB; have HO_2 := n0_; have HO_4 := n1_; have HK := n2_; have HB := n3_; clear n0_ n1_ n2_ n3_; (try (have HP48 := Kd.R_putg HO_2.out (x16_5 : Int) (wrap64 ((rd x2_5 x16_5) - x14_3)))))); refine store_event (t := 3) (p := 117) (v := ?vo_w49) (w1 := (wr.setCell ⟨go47, (x16_5 : Int).toNat, none⟩ (.int .i64 (wrap64 ((rd x2_5 x16_5) - x14_3))))) ?hg ?ho ?hn ?hr ?_; (case ho => rfl); (case hg => rfl); (case hn => rfl); (case hr => first | (go_simp; done) | (go_simp; rfl)); intro w49 hw; have hg : wr.grownBy w49 (some go47) := (by rw [hw]; exact HP48.2); have hp_ : Kd.R (Kd.int .i64) 3 w49 w0.heap.size (fun k_ => ((P2_ k_ ∨ P4_ k_) ∨ w.heap.size ≤ k_) ∧ some k_ ≠ (.slice Ao42 t114.length co42 : Value).ownBlock) (.slice (some ⟨go47, 0, none⟩) x2_5.length co6) y116 := (by rw [hw, Ny116.out]; exact HP48.1); clear HP48; have n0_ := Aside0.mk (hp_); have n1_ := Aside0.mk (Kd.R_after (v := (.slice (some ⟨go47, 0, none⟩) x2_5.length co6)) (v1 := (.slice (some ⟨go47, 0, none⟩) x2_5.length co6)) (ok := (fun k_ => ((P2_ k_ ∨ P4_ k_) ∨ w.heap.size ≤ k_))) (by (with_reducible repeat (first | apply Kd.R_alloc | apply Kd.R_drewN | apply Kd.R_drew)); exact HO_4.out) hg (.inl rfl)); have n2_ := Aside0.mk ((by rw [hw]; exact below_set (HB.out) GB47.out : Below w0.heap.size w0 w49)); have n3_ := Aside0.mk (Kept.of_grown (S := (fun k_ => P2_ k_ ∨ P4_ k_)) hg (by repeat (first | (with_reducible first | exact HK.out | apply Kept.alloc | apply Kept.drewN | apply Kept.drew) | exact HK.out)) (fun k_ e_ => (HO_2.out.1 k_ e_).1)); clear HO_2; clear HO_4; clear HB; clear HK; have HO_2 := n0_; have HO_4 := n1_; have HB := n2_; have HK := n3_; clear n0_ n1_ n2_ n3_; clear hg hw hp_))
                                            repeat (go_quiet (first | ((with_reducible refine gate_store (t := 3) (p := 117) rfl ?_); (try (rw [drewN_self wr]; generalize hq_ : World.drewN wr _ = wr; have n0_ := Aside0.mk (Kd.R_at hq_ HO_2.out); have n1_ := Aside0.mk (Kd.R_at hq_ HO_4.out); have n2_ := Aside0.mk (kept_at hq_ HK.out); have n3_ := Aside0.mk (below_at hq_ HB.out); clear hq_ HO_2 HO_4 HK HB; have HO_2 := n0_; have HO_4 := n1_; have HK := n2_; have HB := n3_; clear n0_ n1_ n2_ n3_; (try (have HP48 := Kd.R_putg HO_2.out (x16_5 : Int) (wrap64 ((rd x2_5 x16_5) - x14_3)))))); refine store_event (t := 3) (p := 117) (v := ?vo_w49) (w1 := (wr.setCell ⟨go47, (x16_5 : Int).toNat, none⟩ (.int .i64 (wrap64 ((rd x2_5 x16_5) - x14_3))))) ?hg ?ho ?hn ?hr ?_; (case ho => rfl); (case hg => rfl); (case hn => rfl); (case hr => first | (go_simp; done) | (go_simp; rfl)); intro w49 hw; have hg : wr.grownBy w49 (some go47) := (by rw [hw]; exact HP48.2); have hp_ : Kd.R (Kd.int .i64) 3 w49 w0.heap.size (fun k_ => ((P2_ k_ ∨ P4_ k_) ∨ w.heap.size ≤ k_) ∧ some k_ ≠ (.slice Ao42 t114.length co42 : Value).ownBlock) (.slice (some ⟨go47, 0, none⟩) x2_5.length co6) y116 := (by rw [hw, Ny116.out]; exact HP48.1); clear HP48; have n0_ := Aside0.mk (hp_); have n1_ := Aside0.mk (Kd.R_after (v := (.slice (some ⟨go47, 0, none⟩) x2_5.length co6)) (v1 := (.slice (some ⟨go47, 0, none⟩) x2_5.length co6)) (ok := (fun k_ => ((P2_ k_ ∨ P4_ k_) ∨ w.heap.size ≤ k_))) (by (with_reducible repeat (first | apply Kd.R_alloc | apply Kd.R_drewN | apply Kd.R_drew)); exact HO_4.out) hg (.inl rfl)); have n2_ := Aside0.mk ((by rw [hw]; exact below_set (HB.out) GB47.out : Below w0.heap.size w0 w49)); have n3_ := Aside0.mk (Kept.of_grown (S := (fun k_ => P2_ k_ ∨ P4_ k_)) hg (by repeat (first | (with_reducible first | exact HK.out | apply Kept.alloc | apply Kept.drewN | apply Kept.drew) | exact HK.out)) (fun k_ e_ => (HO_2.out.1 k_ e_).1)); clear HO_2; clear HO_4; clear HB; clear HK; have HO_2 := n0_; have HO_4 := n1_; have HB := n2_; have HK := n3_; clear n0_ n1_ n2_ n3_; clear hg hw hp_)); try go_wp2_with (first | ((with_reducible refine gate_store (t := 3) (p := 117) rfl ?_); (try (rw [drewN_self wr]; generalize hq_ : World.drewN wr _ = wr; have n0_ := Aside0.mk (Kd.R_at hq_ HO_2.out); have n1_ := Aside0.mk (Kd.R_at hq_ HO_4.out); have n2_ := Aside0.mk (kept_at hq_ HK.out); have n3_ := Aside0.mk (below_at hq_ HB.out); clear hq_ HO_2 HO_4 HK HB; have HO_2 := n0_; have HO_4 := n1_; have HK := n2_; have HB := n3_; clear n0_ n1_ n2_ n3_; (try (have HP48 := Kd.R_putg HO_2.out (x16_5 : Int) (wrap64 ((rd x2_5 x16_5) - x14_3)))))); refine store_event (t := 3) (p := 117) (v := ?vo_w49) (w1 := (wr.setCell ⟨go47, (x16_5 : Int).toNat, none⟩ (.int .i64 (wrap64 ((rd x2_5 x16_5) - x14_3))))) ?hg ?ho ?hn ?hr ?_; (case ho => rfl); (case hg => rfl); (case hn => rfl); (case hr => first | (go_simp; done) | (go_simp; rfl)); intro w49 hw; have hg : wr.grownBy w49 (some go47) := (by rw [hw]; exact HP48.2); have hp_ : Kd.R (Kd.int .i64) 3 w49 w0.heap.size (fun k_ => ((P2_ k_ ∨ P4_ k_) ∨ w.heap.size ≤ k_) ∧ some k_ ≠ (.slice Ao42 t114.length co42 : Value).ownBlock) (.slice (some ⟨go47, 0, none⟩) x2_5.length co6) y116 := (by rw [hw, Ny116.out]; exact HP48.1); clear HP48; have n0_ := Aside0.mk (hp_); have n1_ := Aside0.mk (Kd.R_after (v := (.slice (some ⟨go47, 0, none⟩) x2_5.length co6)) (v1 := (.slice (some ⟨go47, 0, none⟩) x2_5.length co6)) (ok := (fun k_ => ((P2_ k_ ∨ P4_ k_) ∨ w.heap.size ≤ k_))) (by (with_reducible repeat (first | apply Kd.R_alloc | apply Kd.R_drewN | apply Kd.R_drew)); exact HO_4.out) hg (.inl rfl)); have n2_ := Aside0.mk ((by rw [hw]; exact below_set (HB.out) GB47.out : Below w0.heap.size w0 w49)); have n3_ := Aside0.mk (Kept.of_grown (S := (fun k_ => P2_ k_ ∨ P4_ k_)) hg (by repeat (first | (with_reducible first | exact HK.out | apply Kept.alloc | apply Kept.drewN | apply Kept.drew) | exact HK.out)) (fun k_ e_ => (HO_2.out.1 k_ e_).1)); clear HO_2; clear HO_4; clear HB; clear HK; have HO_2 := n0_; have HO_4 := n1_; have HB := n2_; have HK := n3_; clear n0_ n1_ n2_ n3_; clear hg hw hp_)))
                                            (try simp only [← hl2_5, ← hl4_5])
                                            (try simp only [add_plain] at *)
                                            go_roundg k5
                                            case measure => have := HK1.out; have := HJ22.out; have := HK3.out; have := HK4.out; have := HK5.out; omega
                                            case rel => exact ⟨(y116), (wrap64 (x16_5 + 1)), (by first | rfl | (simp; done) | (simp [*]; done)), H', ⟨by have := HK1.out; have := HJ22.out; have := HK3.out; have := HK4.out; have := HK5.out; omega⟩, ⟨by (try simp only [hl2_3]); (try simp only [hl2_4]); (try simp only [hl2_5]); (try simp only [hl4_5]); (with_reducible repeat (first | apply Kd.R_alloc | apply Kd.R_drewN | apply Kd.R_drew)); exact HO_2.out⟩, ⟨by (try simp only [hl2_3]); (try simp only [hl2_4]); (try simp only [hl2_5]); (try simp only [hl4_5]); (with_reducible repeat (first | apply Kd.R_alloc | apply Kd.R_drewN | apply Kd.R_drew)); exact HO_4.out⟩, ⟨by repeat (first | (with_reducible first | exact HK.out | apply Kept.alloc | apply Kept.drewN | apply Kept.drew) | exact HK.out)⟩, ⟨by repeat (first | (with_reducible first | exact HB.out | apply below_alloc | apply pw_below_drewN | apply below_drew1) | exact HB.out)⟩⟩
                                          · rw [if_neg c46] at H
                                            exact absurd H (by simp)
                                        · rw [if_neg c45] at H
                                          exact absurd H (by simp)
                                      · rw [if_neg c44] at H
                                        have c44b0 : decide (x16_5 < (wrap64 (x10_1 + x14_3))) = false := decide_eq_false c44
                                        clear c44
                                        have H' := Aside0.mk H
                                        clear H
                                        go_wp2
                                        repeat (go_quiet (fail); try go_wp2)
                                        (try simp only [← hl2_3, ← hl2_4, ← hl2_5, ← hl4_5])
                                        (try simp only [add_plain] at *)
                                        go_roundg k5
                                        case measure => have := HK1.out; have := HJ22.out; have := HK3.out; have := HK4.out; have := HK5.out; omega
                                        case rel => exact ⟨(x2_5), (t114), (wrap64 (x14_3 + 1)), (by first | rfl | (simp; done) | (simp [*]; done)), H', ⟨by have := HK1.out; have := HJ22.out; have := HK3.out; have := HK4.out; have := HK5.out; omega⟩, ⟨by (try simp only [hl2_3]); (try simp only [hl2_4]); (try simp only [hl2_5]); (try simp only [hl4_5]); (with_reducible repeat (first | apply Kd.R_alloc | apply Kd.R_drewN | apply Kd.R_drew)); exact HO_2.out⟩, ⟨by (try simp only [hl2_3]); (try simp only [hl2_4]); (try simp only [hl2_5]); (try simp only [hl4_5]); (with_reducible repeat (first | apply Kd.R_alloc | apply Kd.R_drewN | apply Kd.R_drew)); exact HO_4.out⟩, ⟨by repeat (first | (with_reducible first | exact HK.out | apply Kept.alloc | apply Kept.drewN | apply Kept.drew) | exact HK.out)⟩, ⟨by repeat (first | (with_reducible first | exact HB.out | apply below_alloc | apply pw_below_drewN | apply below_drew1) | exact HB.out)⟩⟩
                          · rw [if_neg c34] at H
                            have c34b0 : decide (x14_3 ≤ t110) = false := decide_eq_false c34
                            clear c34
                            simp only [Option.some.injEq, Prod.mk.injEq] at H
                            obtain ⟨rfl, rfl⟩ := H
                            go_wp2
                            repeat (go_quiet (fail); try go_wp2)
                            first | go_end0 | ((try simp only [Exit.inBlock, Exit.then]); refine bodyPost_ret (results_none rfl _ _ _) rfl ?_)
                            exact ⟨by first | rfl | (simp [errW_none, errW_some] <;> rfl) | (simp [*, errW_none, errW_some] <;> rfl), (by first | exact (by (with_reducible repeat (first | apply Kd.R_alloc | apply Kd.R_drewN | apply Kd.R_drew)); exact Kd.R_mono HO_2.out (fun _ hk => hk.1)) | (simp only [hl2_3]; exact (by (with_reducible repeat (first | apply Kd.R_alloc | apply Kd.R_drewN | apply Kd.R_drew)); exact Kd.R_mono HO_2.out (fun _ hk => hk.1)))), (by first | exact (by (with_reducible repeat (first | apply Kd.R_alloc | apply Kd.R_drewN | apply Kd.R_drew)); exact Kd.R_mono HO_4.out (fun _ hk => hk.1)) | (simp only [hl2_3]; exact (by (with_reducible repeat (first | apply Kd.R_alloc | apply Kd.R_drewN | apply Kd.R_drew)); exact Kd.R_mono HO_4.out (fun _ hk => hk.1)))), by repeat (first | (with_reducible first | exact HB.out | apply below_alloc | apply pw_below_drewN | apply below_drew1) | exact HB.out), by repeat (first | (with_reducible first | exact HK.out | apply Kept.alloc | apply Kept.drewN | apply Kept.drew) | exact HK.out)⟩
                    · rw [if_neg c31] at H
                      exact absurd H (by simp)
                  · rw [if_neg c30] at H
                    exact absurd H (by simp)
          · rw [if_neg c14] at H
            exact absurd H (by simp)
        · rw [if_neg c13] at H
          exact absurd H (by simp)

end Go.Proofs.Ytfmhcgjmgaefcaa.P

namespace Go.Proofs.Ytfmhcgjmgaefcaa.P
open Go.RowKit Go.Proofs.YtfmhcgjmgaefcaaW.PrintWords Go.Proofs.YtfmhcgjmgaefcaaW.PrintLast Go.Proofs.YtfmhcgjmgaefcaaW.PrintMore
attribute [local go_sem] max2_int min2_int max_two min_two max_three min_three max_four min_four
set_option linter.unusedVariables false
set_option linter.unusedSimpArgs false

/-! ### spec_ctBy: function 37 -/
def spec_ctBy.f (k : Nat) (a0 : Int) (a1 : Int) (a2 : Int) : Option (List Int) := if 0 ≤ (wrap64 (a0 * a1)) then (if (wrap64 (a0 * a1) : Int).toNat ≤ 35184372088832 then (if 0 ≤ a0 then (if (a0 : Int).toNat ≤ 35184372088832 then ((spec_ctWalk.f k a1 a2 (List.replicate (a0 : Int).toNat 0) 0 (List.replicate (wrap64 (a0 * a1) : Int).toNat 0)).bind fun bt107 => (some bt107.2)) else (none)) else (none)) else (none)) else (none)
theorem spec_ctBy.mono : ∀ a0 a1 a2 k, LeO (spec_ctBy.f k a0 a1 a2) (spec_ctBy.f (k + 1) a0 a1 a2) := by
  intro a0 a1 a2 k
  unfold spec_ctBy.f
  repeat' first
      | (with_reducible exact spec_ctWalk.mono _ _ _ _ _ _)
      | (with_reducible exact LeO.refl _)
      | (with_reducible exact LeO.none _)
      | (with_reducible refine LeO.ite ?_ ?_)
      | (with_reducible refine LeO.bind ?_ (fun _ => ?_))
      | exact spec_ctWalk.mono _ _ _ _ _ _
      | exact LeO.none _
      | refine LeO.ite ?_ ?_
      | refine LeO.bind ?_ (fun _ => ?_)
set_option maxHeartbeats 8000000 in
set_option maxRecDepth 100000 in
theorem spec_ctBy.calls (k : Nat) (a0 : Int) (a1 : Int) (a2 : Int) (r : List Int) (w : World) (h : spec_ctBy.f k a0 a1 a2 = some r) :
    Calls Try.prog 37 #[.int .i64 a0, .int .i64 a1, .int .i64 a2] w fun e w' => ∃ v0_ : Value, e = .returned (v0_) ∧ Kd.R (Kd.int .i64) 3 w' w.heap.size (fun _ => True) v0_ r ∧ Below w.heap.size w w' := by
  have HB := Aside0.mk (Below.refl w.heap.size w)
  have H : (if 0 ≤ (wrap64 (a0 * a1)) then (if (wrap64 (a0 * a1) : Int).toNat ≤ 35184372088832 then (if 0 ≤ a0 then (if (a0 : Int).toNat ≤ 35184372088832 then ((spec_ctWalk.f k a1 a2 (List.replicate (a0 : Int).toNat 0) 0 (List.replicate (wrap64 (a0 * a1) : Int).toNat 0)).bind fun bt107 => (some bt107.2)) else (none)) else (none)) else (none)) else (none)) = some r := h
  clear h
  obtain ⟨ji4, hji4⟩ : ∃ j_ : Int, (wrap64 (a0 * a1)) = j_ := ⟨_, rfl⟩
  replace H : (if 0 ≤ (ji4) then (if (ji4 : Int).toNat ≤ 35184372088832 then (if 0 ≤ a0 then (if (a0 : Int).toNat ≤ 35184372088832 then ((spec_ctWalk.f k a1 a2 (List.replicate (a0 : Int).toNat 0) 0 (List.replicate (ji4 : Int).toNat 0)).bind fun bt107 => (some bt107.2)) else (none)) else (none)) else (none)) else (none)) = some r := by first | (rw [hji4] at H; exact H) | (simp only [hji4] at H ⊢; exact H)
  have hji4w : (IntKind.i64.wrap (a0 * a1)) = ji4 := (i64_w _).trans hji4
  by_cases c5 : 0 ≤ (ji4)
  · rw [if_pos c5] at H
    have c5b0 := eq_true c5
    have c5b1 : decide (0 ≤ (ji4)) = true := decide_eq_true c5
    clear c5
    by_cases c6 : (ji4 : Int).toNat ≤ 35184372088832
    · rw [if_pos c6] at H
      have c6b0 := eq_true c6
      have c6b1 : decide ((ji4 : Int).toNat ≤ 35184372088832) = true := decide_eq_true c6
      clear c6
      obtain ⟨y101, hy101⟩ : ∃ y_ : List Int, y_ = (List.replicate (ji4 : Int).toNat 0) := ⟨_, rfl⟩
      replace H : (if 0 ≤ a0 then (if (a0 : Int).toNat ≤ 35184372088832 then ((spec_ctWalk.f k a1 a2 (List.replicate (a0 : Int).toNat 0) 0 y101).bind fun bt107 => (some bt107.2)) else (none)) else (none)) = some r := by first | (rw [hy101]; with_reducible exact H) | (have H2_ := (Option.bind_some _ _).symm.trans H; rw [hy101]; with_reducible exact H2_) | (have H2_ := (Option.bind_some _ _).symm.trans H; with_reducible exact H2_) | with_reducible exact H | (rw [hy101]; exact H) | exact H
      have Ny101 := Aside0.mk hy101
      clear hy101
      by_cases c7 : 0 ≤ a0
      · rw [if_pos c7] at H
        have c7b0 := eq_true c7
        have c7b1 : decide (0 ≤ a0) = true := decide_eq_true c7
        clear c7
        by_cases c8 : (a0 : Int).toNat ≤ 35184372088832
        · rw [if_pos c8] at H
          have c8b0 := eq_true c8
          have c8b1 : decide ((a0 : Int).toNat ≤ 35184372088832) = true := decide_eq_true c8
          clear c8
          obtain ⟨y104, hy104⟩ : ∃ y_ : List Int, y_ = (List.replicate (a0 : Int).toNat 0) := ⟨_, rfl⟩
          replace H : ((spec_ctWalk.f k a1 a2 y104 0 y101).bind fun bt107 => (some bt107.2)) = some r := by first | (rw [hy104]; with_reducible exact H) | (have H2_ := (Option.bind_some _ _).symm.trans H; rw [hy104]; with_reducible exact H2_) | (have H2_ := (Option.bind_some _ _).symm.trans H; with_reducible exact H2_) | with_reducible exact H | (rw [hy104]; exact H) | exact H
          have Ny104 := Aside0.mk hy104
          clear hy104
          replace H := Option.bind_eq_some_iff.mp H
          obtain ⟨⟨t107, t108⟩, A90, H⟩ := H
          replace H : (some t108) = some r := H
          have A9 := Aside0.mk A90
          clear A90
          obtain rfl := Option.some.inj H
          go_enter Try.func37, Try.ntmps37
          go_wp2_with (first | ((with_reducible refine gate_dst (N := 11) rfl ?_); refine Kd.R_make (Kd.int .i64) _ 3 rfl (N := 11) rfl 39 _ _ rfl ji4 rfl rfl Try.underlying39 (.int .i64 0) 8 info3 rfl (by decide) (by omega) 0 (ok := fun _ => True) (okp := fun _ => True) rfl (fun _ hk => hk) trivial (of_decide_eq_true (by first | (with_reducible assumption) | assumption)) (Nat.le_trans (Nat.mul_le_mul_right _ (of_decide_eq_true (by first | (with_reducible assumption) | assumption) : ji4.toNat ≤ 35184372088832)) (by omega)) (Below.refl _ _) (Nat.le_refl _) ?_; intro v102 w10 ho11 hb hg_ hnew_; clear hg_ hnew_; (first | rw [← Ny101.out] at ho11 | (simp only [Int.reduceToNat] at ho11; rw [← Ny101.out] at ho11)); have n0_ := Aside0.mk (Kd.R_lower ho11 (below_size (by repeat (first | (with_reducible first | exact HB.out | apply below_alloc | apply pw_below_drewN | apply below_drew1) | exact HB.out)))); have n1_ := Aside0.mk (below_step (by repeat (first | (with_reducible first | exact HB.out | apply below_alloc | apply pw_below_drewN | apply below_drew1) | exact HB.out)) hb); clear HB; have HO103 := n0_; have HB := n1_; clear n0_ n1_; clear hb ho11) | ((with_reducible refine gate_dst (N := 15) rfl ?_); refine Kd.R_make (Kd.int .i64) _ 3 rfl (N := 15) rfl 39 _ _ rfl a0 rfl rfl Try.underlying39 (.int .i64 0) 8 info3 rfl (by decide) (by omega) 0 (ok := fun _ => True) (okp := fun _ => True) rfl (fun _ hk => hk) trivial (of_decide_eq_true (by first | (with_reducible assumption) | assumption)) (Nat.le_trans (Nat.mul_le_mul_right _ (of_decide_eq_true (by first | (with_reducible assumption) | assumption) : a0.toNat ≤ 35184372088832)) (by omega)) (Below.refl _ _) (Nat.le_refl _) ?_; intro v105 w12 ho13 hb hg_ hnew_; clear hg_ hnew_; (first | rw [← Ny104.out] at ho13 | (simp only [Int.reduceToNat] at ho13; rw [← Ny104.out] at ho13)); have n0_ := Aside0.mk (Kd.R_elder' (by (with_reducible repeat (first | apply Kd.R_alloc | apply Kd.R_drewN | apply Kd.R_drew)); exact HO103.out) (Kd.R_base ho13) hb); have n1_ := Aside0.mk (Kd.R_lower (Kd.R_new' ho13 (Kd.R_lt (by (with_reducible repeat (first | apply Kd.R_alloc | apply Kd.R_drewN | apply Kd.R_drew)); exact HO103.out))) (below_size (by repeat (first | (with_reducible first | exact HB.out | apply below_alloc | apply pw_below_drewN | apply below_drew1) | exact HB.out)))); have n2_ := Aside0.mk (below_step (by repeat (first | (with_reducible first | exact HB.out | apply below_alloc | apply pw_below_drewN | apply below_drew1) | exact HB.out)) hb); clear HO103; clear HB; have HO103 := n0_; have HO106 := n1_; have HB := n2_; clear n0_ n1_ n2_; clear hb ho13; obtain ⟨Ao14, co14, eo14⟩ := Kd.R_slice HO106.out; subst eo14; obtain ⟨Ao15, co15, eo15⟩ := Kd.R_slice HO103.out; subst eo15) | ((with_reducible refine gate_callee (f := 58) rfl ?_); refine goesL_ (some 17) rfl rfl Try.func58 (by kernel_rfl) rfl #[.int .i64 a1, .int .i64 a2, .slice Ao14 y104.length co14, .int .i64 0, .slice Ao15 y101.length co15] rfl (by (try simp only [List.map_toArray, List.map_cons, List.map_nil]); first | done | rfl | (simp only [List.length_drop, List.length_take]; rfl)) ?_; (with_reducible refine (spec_ctWalk.calls k a1 a2 (fun k_ => some k_ = (.slice Ao14 y104.length co14 : Value).ownBlock) (.slice Ao14 y104.length co14) y104 0 (fun k_ => some k_ = (.slice Ao15 y101.length co15 : Value).ownBlock) (.slice Ao15 y101.length co15) y101 t107 t108 w _ ?side1 ?side2 ?side3 ?side4 ?side5 A9.out).mono ?_); (case side1 => repeat (first | (with_reducible first | exact HB.out | apply below_alloc | apply pw_below_drewN | apply below_drew1) | exact HB.out)); (case side2 => exact Kd.R_tight rfl HO106.out); (case side3 => exact fun k_ e_ => (HO106.out.1 k_ e_.symm).2); (case side4 => exact Kd.R_tight rfl HO103.out); (case side5 => exact fun k_ e_ => (HO103.out.1 k_ e_.symm).2); rintro e w16 ⟨rfl, hy0, hy1, hb, hkp⟩; refine ⟨_, rfl, ?_⟩; have n0_ := Aside0.mk (Kd.R_reok rfl hy1 (fun k_ e_ => HO103.out.1 k_ e_)); have n1_ := Aside0.mk (Kd.R_reok rfl hy0 (fun k_ e_ => HO106.out.1 k_ e_)); have n2_ := Aside0.mk (hb); clear HO103; clear HO106; clear HB; have HO103 := n0_; have HO106 := n1_; have HB := n2_; clear n0_ n1_ n2_; (try clear hb); (try clear hkp); (try clear hy0); (try clear hy1)))
          go_ret
          exact ⟨_, by first | rfl | (simp [errW_none, errW_some] <;> rfl) | (simp only [← hji4]; first | rfl | (simp [errW_none, errW_some] <;> rfl)) | (simp [*, errW_none, errW_some] <;> rfl), by (with_reducible repeat (first | apply Kd.R_alloc | apply Kd.R_drewN | apply Kd.R_drew)); exact Kd.R_mono HO103.out (fun _ hk => trivial), by repeat (first | (with_reducible first | exact HB.out | apply below_alloc | apply pw_below_drewN | apply below_drew1) | exact HB.out)⟩
        · rw [if_neg c8] at H
          exact absurd H (by simp)
      · rw [if_neg c7] at H
        exact absurd H (by simp)
    · rw [if_neg c6] at H
      exact absurd H (by simp)
  · rw [if_neg c5] at H
    exact absurd H (by simp)

end Go.Proofs.Ytfmhcgjmgaefcaa.P

namespace Go.Proofs.Ytfmhcgjmgaefcaa.P
open Go.RowKit Go.Proofs.YtfmhcgjmgaefcaaW.PrintWords Go.Proofs.YtfmhcgjmgaefcaaW.PrintLast Go.Proofs.YtfmhcgjmgaefcaaW.PrintMore
attribute [local go_sem] max2_int min2_int max_two min_two max_three min_three max_four min_four
set_option linter.unusedVariables false
set_option linter.unusedSimpArgs false

/-! ### spec_CutsWithMost: function 14 -/
def spec_CutsWithMost.j0 : Nat → Int → Int → Int → Bool → Option (Int × Bool)
  | 0, _, _, _, _ => none
  | k + 1, x0, x1, x2, x16 => if x16 = true then (some (0, false)) else ((spec_ctBy.f k x0 x1 x2).bind fun t103 => ((spec_ctSum.f k t103).bind fun t106 => (some (t106, true))))
def spec_CutsWithMost.f (k : Nat) (a0 : Int) (a1 : Int) (a2 : Int) : Option (Int × Bool) := (spec_ctSize.f a0 a1).bind fun t101 => (if t101 = true then ((spec_l1In.f a2 1 6).bind fun t102 => (spec_CutsWithMost.j0 k a0 a1 a2 (!t102))) else (spec_CutsWithMost.j0 k a0 a1 a2 true))
theorem spec_CutsWithMost.mono_l : ∀ k, (∀ y0 y1 y2 y3, LeO (spec_CutsWithMost.j0 k y0 y1 y2 y3) (spec_CutsWithMost.j0 (k + 1) y0 y1 y2 y3))
  | 0 => fun _ _ _ _ r h => by simp [spec_CutsWithMost.j0] at h
  | k + 1 => by
    have ih0 := spec_CutsWithMost.mono_l k
    · intro y0 y1 y2 y3
      unfold spec_CutsWithMost.j0
      repeat' first
      | (with_reducible exact ih0 _ _ _ _)
      | (with_reducible exact spec_ctBy.mono _ _ _ _)
      | (with_reducible exact spec_ctSum.mono _ _)
      | (with_reducible exact LeO.refl _)
      | (with_reducible exact LeO.none _)
      | (with_reducible refine LeO.ite ?_ ?_)
      | (with_reducible refine LeO.bind ?_ (fun _ => ?_))
      | exact ih0 _ _ _ _
      | exact spec_ctBy.mono _ _ _ _
      | exact spec_ctSum.mono _ _
      | exact LeO.none _
      | refine LeO.ite ?_ ?_
      | refine LeO.bind ?_ (fun _ => ?_)
theorem spec_CutsWithMost.mono : ∀ a0 a1 a2 k, LeO (spec_CutsWithMost.f k a0 a1 a2) (spec_CutsWithMost.f (k + 1) a0 a1 a2) := by
  intro a0 a1 a2 k
  have ih0 := spec_CutsWithMost.mono_l k
  unfold spec_CutsWithMost.f
  repeat' first
      | (with_reducible exact ih0 _ _ _ _)
      | (with_reducible exact spec_ctBy.mono _ _ _ _)
      | (with_reducible exact spec_ctSum.mono _ _)
      | (with_reducible exact LeO.refl _)
      | (with_reducible exact LeO.none _)
      | (with_reducible refine LeO.ite ?_ ?_)
      | (with_reducible refine LeO.bind ?_ (fun _ => ?_))
      | exact ih0 _ _ _ _
      | exact spec_ctBy.mono _ _ _ _
      | exact spec_ctSum.mono _ _
      | exact LeO.none _
      | refine LeO.ite ?_ ?_
      | refine LeO.bind ?_ (fun _ => ?_)
set_option maxHeartbeats 8000000 in
set_option maxRecDepth 100000 in
theorem spec_CutsWithMost.calls (k : Nat) (a0 : Int) (a1 : Int) (a2 : Int) (r1 : Int) (r2 : Bool) (w : World) (h : spec_CutsWithMost.f k a0 a1 a2 = some (r1, r2)) :
    Calls Try.prog 14 #[.int .i64 a0, .int .i64 a1, .int .i64 a2] w fun e w' => e = .returned (.tuple #[.int .i64 r1, .bool r2]) ∧ Below w.heap.size w w' := by
  have HB := Aside0.mk (Below.refl w.heap.size w)
  have H : ((spec_ctSize.f a0 a1).bind fun t101 => (if t101 = true then ((spec_l1In.f a2 1 6).bind fun t102 => (spec_CutsWithMost.j0 k a0 a1 a2 (!t102))) else (spec_CutsWithMost.j0 k a0 a1 a2 true))) = some (r1, r2) := h
  clear h
  have HC4 := Aside0.mk H
  clear H
  go_enter Try.func14, Try.ntmps14
  go_upto_region 1 with (fail)
  go_cut [16] (fun v16 wc => ∃ (kq : Nat) (x16_3 : Bool), v16 = .bool x16_3 ∧ Aside0 (spec_CutsWithMost.j0 kq a0 a1 a2 x16_3 = some (r1, r2)) ∧ Aside0 (kq ≤ k) ∧ Aside0 (Below w.heap.size w wc))
  case first =>
    have H := HC4.out
    clear HC4
    replace H := Option.bind_eq_some_iff.mp H
    obtain ⟨t101, A50, H⟩ := H
    replace H : (if t101 = true then ((spec_l1In.f a2 1 6).bind fun t102 => (spec_CutsWithMost.j0 k a0 a1 a2 (!t102))) else (spec_CutsWithMost.j0 k a0 a1 a2 true)) = some (r1, r2) := H
    have A5 := Aside0.mk A50
    clear A50
    by_cases c6 : t101 = true
    · subst c6
      have H1 : ((spec_l1In.f a2 1 6).bind fun t102 => (spec_CutsWithMost.j0 k a0 a1 a2 (!t102))) = some (r1, r2) := by rw [if_pos rfl] at H; exact H
      clear H
      have H := H1
      clear H1
      replace H := Option.bind_eq_some_iff.mp H
      obtain ⟨t102, A70, H⟩ := H
      replace H : (spec_CutsWithMost.j0 k a0 a1 a2 (!t102)) = some (r1, r2) := H
      have A7 := Aside0.mk A70
      clear A70
      have H' := Aside0.mk H
      clear H
      go_wp2_with (first | ((with_reducible refine gate_callee (f := 34) rfl ?_); refine goesL_ (some 10) rfl rfl Try.func34 (by kernel_rfl) rfl #[.int .i64 a0, .int .i64 a1] rfl (by (try simp only [List.map_toArray, List.map_cons, List.map_nil]); first | done | rfl | (simp only [List.length_drop, List.length_take]; rfl)) ?_; (with_reducible refine (spec_ctSize.calls a0 a1 true _ A5.out).mono ?_); rintro e w' ⟨rfl, ⟨nd, rfl⟩⟩; refine ⟨_, rfl, ?_⟩) | (go_at_call 35; (with_reducible refine (spec_l1In.calls a2 1 6 t102 _ A7.out).mono ?_); rintro e w' ⟨rfl, ⟨nd, rfl⟩⟩))
      go_meet
      case rel => exact ⟨_, (!t102), (by first | rfl | (simp; done) | (simp [*]; done)), H', ⟨by first | omega | exact Nat.le_refl _⟩, ⟨by repeat (first | (with_reducible first | exact HB.out | apply below_alloc | apply pw_below_drewN | apply below_drew1) | exact HB.out)⟩⟩
    · replace c6 := Bool.eq_false_iff.mpr c6
      subst c6
      have H1 : (spec_CutsWithMost.j0 k a0 a1 a2 true) = some (r1, r2) := by rw [if_neg (show ¬ (false = true) by decide)] at H; exact H
      clear H
      have H := H1
      clear H1
      have H' := Aside0.mk H
      clear H
      go_wp2_with (first | ((with_reducible refine gate_callee (f := 34) rfl ?_); refine goesL_ (some 10) rfl rfl Try.func34 (by kernel_rfl) rfl #[.int .i64 a0, .int .i64 a1] rfl (by (try simp only [List.map_toArray, List.map_cons, List.map_nil]); first | done | rfl | (simp only [List.length_drop, List.length_take]; rfl)) ?_; (with_reducible refine (spec_ctSize.calls a0 a1 false _ A5.out).mono ?_); rintro e w' ⟨rfl, ⟨nd, rfl⟩⟩; refine ⟨_, rfl, ?_⟩))
      go_meet
      case rel => exact ⟨_, (true), (by first | rfl | (simp; done) | (simp [*]; done)), H', ⟨by first | omega | exact Nat.le_refl _⟩, ⟨by repeat (first | (with_reducible first | exact HB.out | apply below_alloc | apply pw_below_drewN | apply below_drew1) | exact HB.out)⟩⟩
  case rest =>
    clear HC4
    try clear c1
    try clear p2
    try clear c3
    try clear c6
    obtain ⟨kq, x16_3, rfl, HA, HJ3, HB⟩ := hcut
    cases kq with
    | zero => exact absurd HA.out (by simp [spec_CutsWithMost.j0])
    | succ kj3 =>
      have H := HA.out
      clear HA
      simp only [spec_CutsWithMost.j0] at H
      by_cases c8 : x16_3 = true
      · subst c8
        have H1 : (some (0, false)) = some (r1, r2) := by rw [if_pos rfl] at H; exact H
        clear H
        have H := H1
        clear H1
        simp only [Option.some.injEq, Prod.mk.injEq] at H
        obtain ⟨rfl, rfl⟩ := H
        go_wp2
        go_ret2
        exact ⟨by first | rfl | (simp [errW_none, errW_some] <;> rfl) | (simp [*, errW_none, errW_some] <;> rfl), by repeat (first | (with_reducible first | exact HB.out | apply below_alloc | apply pw_below_drewN | apply below_drew1) | exact HB.out)⟩
      · replace c8 := Bool.eq_false_iff.mpr c8
        subst c8
        have H1 : ((spec_ctBy.f kj3 a0 a1 a2).bind fun t103 => ((spec_ctSum.f kj3 t103).bind fun t106 => (some (t106, true)))) = some (r1, r2) := by rw [if_neg (show ¬ (false = true) by decide)] at H; exact H
        clear H
        have H := H1
        clear H1
        replace H := Option.bind_eq_some_iff.mp H
        obtain ⟨t103, A90, H⟩ := H
        replace H : ((spec_ctSum.f kj3 t103).bind fun t106 => (some (t106, true))) = some (r1, r2) := H
        have A9 := Aside0.mk A90
        clear A90
        replace H := Option.bind_eq_some_iff.mp H
        obtain ⟨t106, A100, H⟩ := H
        replace H : (some (t106, true)) = some (r1, r2) := H
        have A10 := Aside0.mk A100
        clear A100
        simp only [Option.some.injEq, Prod.mk.injEq] at H
        obtain ⟨rfl, rfl⟩ := H
        go_wp2_with (first | ((with_reducible refine gate_callee (f := 37) rfl ?_); refine goesL_ (some 20) rfl rfl Try.func37 (by kernel_rfl) rfl #[.int .i64 a0, .int .i64 a1, .int .i64 a2] rfl (by (try simp only [List.map_toArray, List.map_cons, List.map_nil]); first | done | rfl | (simp only [List.length_drop, List.length_take]; rfl)) ?_; (with_reducible refine (spec_ctBy.calls kj3 a0 a1 a2 t103 _ A9.out).mono ?_); rintro e w11 ⟨v104, rfl, ho0, hb⟩; refine ⟨_, rfl, ?_⟩; have n0_ := Aside0.mk (Kd.R_lower ho0 (below_size (by repeat (first | (with_reducible first | exact HB.out | apply below_alloc | apply pw_below_drewN | apply below_drew1) | exact HB.out)))); have n1_ := Aside0.mk (below_step (by repeat (first | (with_reducible first | exact HB.out | apply below_alloc | apply pw_below_drewN | apply below_drew1) | exact HB.out)) hb); clear HB; have HO105 := n0_; have HB := n1_; clear n0_ n1_; (try clear hb); (try clear hb2); (try clear hk); (try clear hi); (try clear ho0); obtain ⟨Ao12, co12, eo12⟩ := Kd.R_slice HO105.out; subst eo12) | ((with_reducible refine gate_callee (f := 36) rfl ?_); refine goesL_ (some 21) rfl rfl Try.func36 (by kernel_rfl) rfl #[.slice Ao12 t103.length co12] rfl (by (try simp only [List.map_toArray, List.map_cons, List.map_nil]); first | done | rfl | (simp only [List.length_drop, List.length_take]; rfl)) ?_; (with_reducible refine (spec_ctSum.calls kj3 _ _ t103 t106 _ ?side1 ?side2 A10.out).mono ?_); (case side1 => repeat (first | exact (Kd.R_reads' HO105.out).2.2 | (with_reducible refine Kd.C_alloc ?_ _) | (with_reducible refine Kd.C_drewN ?_ _) | (with_reducible refine Kd.C_drew ?_))); (case side2 => exact (Kd.R_reads' HO105.out).2.1); rintro e w' ⟨rfl, ⟨nd, rfl⟩⟩; refine ⟨_, rfl, ?_⟩))
        go_ret2
        exact ⟨by first | rfl | (simp [errW_none, errW_some] <;> rfl) | (simp [*, errW_none, errW_some] <;> rfl), by repeat (first | (with_reducible first | exact HB.out | apply below_alloc | apply pw_below_drewN | apply below_drew1) | exact HB.out)⟩

end Go.Proofs.Ytfmhcgjmgaefcaa.P

namespace Go.Proofs.Ytfmhcgjmgaefcaa.P
open Go.RowKit Go.Proofs.YtfmhcgjmgaefcaaW.PrintWords Go.Proofs.YtfmhcgjmgaefcaaW.PrintLast Go.Proofs.YtfmhcgjmgaefcaaW.PrintMore
attribute [local go_sem] max2_int min2_int max_two min_two max_three min_three max_four min_four
set_option linter.unusedVariables false
set_option linter.unusedSimpArgs false

/-! ### impl_within: function 39 -/
def impl_within.f (a0 : Int) (a1 : Int) (a2 : Int) : Option (Bool) := if a1 ≤ a0 then (some (decide (a0 ≤ a2))) else (some false)
set_option maxHeartbeats 8000000 in
set_option maxRecDepth 100000 in
theorem impl_within.calls (a0 : Int) (a1 : Int) (a2 : Int) (r : Bool) (w : World) (h : impl_within.f a0 a1 a2 = some r) :
    Calls Try.prog 39 #[.int .i64 a0, .int .i64 a1, .int .i64 a2] w fun e w' => e = .returned (.bool r) ∧ Drawn0 w w' := by
  have H : (if a1 ≤ a0 then (some (decide (a0 ≤ a2))) else (some false)) = some r := h
  clear h
  by_cases c4 : a1 ≤ a0
  · rw [if_pos c4] at H
    have c4b0 : decide (a1 ≤ a0) = true := decide_eq_true c4
    clear c4
    obtain rfl := Option.some.inj H
    go_enter Try.func39, Try.ntmps39
    go_wp2
    go_ret
    exact ⟨by first | rfl | (simp; done) | (simp [*]; done), by repeat (first | exact Drawn0.refl _ | apply Drawn0.step)⟩
  · rw [if_neg c4] at H
    have c4b0 : decide (a1 ≤ a0) = false := decide_eq_false c4
    clear c4
    obtain rfl := Option.some.inj H
    go_enter Try.func39, Try.ntmps39
    go_wp2
    go_ret
    exact ⟨by first | rfl | (simp; done) | (simp [*]; done), by repeat (first | exact Drawn0.refl _ | apply Drawn0.step)⟩

end Go.Proofs.Ytfmhcgjmgaefcaa.P

namespace Go.Proofs.Ytfmhcgjmgaefcaa.P
open Go.RowKit Go.Proofs.YtfmhcgjmgaefcaaW.PrintWords Go.Proofs.YtfmhcgjmgaefcaaW.PrintLast Go.Proofs.YtfmhcgjmgaefcaaW.PrintMore
attribute [local go_sem] max2_int min2_int max_two min_two max_three min_three max_four min_four
set_option linter.unusedVariables false
set_option linter.unusedSimpArgs false

/-! ### impl_isCounted: function 38 -/
def impl_isCounted.f (a0 : Int) (a1 : Int) : Option (Bool) := (impl_within.f a0 1 6).bind fun t101 => (if t101 = true then ((impl_within.f a1 1 6).bind fun t102 => (some t102)) else (some false))
set_option maxHeartbeats 8000000 in
set_option maxRecDepth 100000 in
theorem impl_isCounted.calls (a0 : Int) (a1 : Int) (r : Bool) (w : World) (h : impl_isCounted.f a0 a1 = some r) :
    Calls Try.prog 38 #[.int .i64 a0, .int .i64 a1] w fun e w' => e = .returned (.bool r) ∧ Drawn0 w w' := by
  have H : ((impl_within.f a0 1 6).bind fun t101 => (if t101 = true then ((impl_within.f a1 1 6).bind fun t102 => (some t102)) else (some false))) = some r := h
  clear h
  replace H := Option.bind_eq_some_iff.mp H
  obtain ⟨t101, A30, H⟩ := H
  replace H : (if t101 = true then ((impl_within.f a1 1 6).bind fun t102 => (some t102)) else (some false)) = some r := H
  have A3 := Aside0.mk A30
  clear A30
  by_cases c4 : t101 = true
  · subst c4
    have H1 : ((impl_within.f a1 1 6).bind fun t102 => (some t102)) = some r := by rw [if_pos rfl] at H; exact H
    clear H
    have H := H1
    clear H1
    replace H := Option.bind_eq_some_iff.mp H
    obtain ⟨t102, A50, H⟩ := H
    replace H : (some t102) = some r := H
    have A5 := Aside0.mk A50
    clear A50
    obtain rfl := Option.some.inj H
    go_enter Try.func38, Try.ntmps38
    go_wp2_with (first | ((with_reducible refine gate_callee (f := 39) rfl ?_); refine goesL_ (some 6) rfl rfl Try.func39 (by kernel_rfl) rfl #[.int .i64 a0, .int .i64 1, .int .i64 6] rfl (by (try simp only [List.map_toArray, List.map_cons, List.map_nil]); first | done | rfl | (simp only [List.length_drop, List.length_take]; rfl)) ?_; (with_reducible refine (impl_within.calls a0 1 6 true _ A3.out).mono ?_); rintro e w' ⟨rfl, ⟨nd, rfl⟩⟩; refine ⟨_, rfl, ?_⟩) | (go_at_call 39; (with_reducible refine (impl_within.calls a1 1 6 t102 _ A5.out).mono ?_); rintro e w' ⟨rfl, ⟨nd, rfl⟩⟩))
    go_ret
    exact ⟨by first | rfl | (simp; done) | (simp [*]; done), by repeat (first | exact Drawn0.refl _ | apply Drawn0.step)⟩
  · replace c4 := Bool.eq_false_iff.mpr c4
    subst c4
    have H1 : (some false) = some r := by rw [if_neg (show ¬ (false = true) by decide)] at H; exact H
    clear H
    have H := H1
    clear H1
    obtain rfl := Option.some.inj H
    go_enter Try.func38, Try.ntmps38
    go_wp2_with (first | ((with_reducible refine gate_callee (f := 39) rfl ?_); refine goesL_ (some 6) rfl rfl Try.func39 (by kernel_rfl) rfl #[.int .i64 a0, .int .i64 1, .int .i64 6] rfl (by (try simp only [List.map_toArray, List.map_cons, List.map_nil]); first | done | rfl | (simp only [List.length_drop, List.length_take]; rfl)) ?_; (with_reducible refine (impl_within.calls a0 1 6 false _ A3.out).mono ?_); rintro e w' ⟨rfl, ⟨nd, rfl⟩⟩; refine ⟨_, rfl, ?_⟩))
    go_ret
    exact ⟨by first | rfl | (simp; done) | (simp [*]; done), by repeat (first | exact Drawn0.refl _ | apply Drawn0.step)⟩

end Go.Proofs.Ytfmhcgjmgaefcaa.P

namespace Go.Proofs.Ytfmhcgjmgaefcaa.T

/-- cell (a,b) lies in q -/
def Sq.has (q : Sq) (a b : Int) : Prop := q.f0 ≤ a ∧ a < q.f0 + q.f2 ∧ q.f1 ≤ b ∧ b < q.f1 + q.f2
instance (q : Sq) (a b : Int) : Decidable (q.has a b) := by unfold Sq.has; infer_instance

/-- number of i < n with p i -/
def cnt (p : Nat → Bool) : Nat → Nat
  | 0 => 0
  | n + 1 => cnt p n + if p n then 1 else 0

def sumTo (f : Nat → Nat) : Nat → Nat
  | 0 => 0
  | n + 1 => sumTo f n + f n

theorem sumTo_le {f g : Nat → Nat} : ∀ n, (∀ i, i < n → f i ≤ g i) → sumTo f n ≤ sumTo g n
  | 0, _ => Nat.le_refl _
  | n + 1, h => by
    have h1 := sumTo_le n (fun i hi => h i (by omega))
    have h2 := h n (by omega)
    simp only [sumTo]; omega
theorem sumTo_congr {f g : Nat → Nat} : ∀ n, (∀ i, i < n → f i = g i) → sumTo f n = sumTo g n
  | 0, _ => rfl
  | n + 1, h => by
    have h1 := sumTo_congr n (fun i hi => h i (by omega))
    have h2 := h n (by omega)
    simp only [sumTo]; omega
theorem sumTo_add (f g : Nat → Nat) : ∀ n, sumTo (fun i => f i + g i) n = sumTo f n + sumTo g n
  | 0 => rfl
  | n + 1 => by have := sumTo_add f g n; simp only [sumTo]; omega
theorem sumTo_zero : ∀ n, sumTo (fun _ => 0) n = 0
  | 0 => rfl
  | n + 1 => by simp only [sumTo, sumTo_zero n]
theorem sumTo_const (c : Nat) : ∀ n, sumTo (fun _ => c) n = n * c
  | 0 => by simp [sumTo]
  | n + 1 => by simp only [sumTo, sumTo_const c n, Nat.add_mul, Nat.one_mul]
/-- equal sums of pointwise bounded functions: equal everywhere -/
theorem sumTo_tight {f g : Nat → Nat} : ∀ n, (∀ i, i < n → f i ≤ g i) → sumTo f n = sumTo g n → ∀ i, i < n → f i = g i
  | 0, _, _, i, hi => by omega
  | n + 1, h, he, i, hi => by
    have h1 := sumTo_le n (fun i hi => h i (by omega))
    have h2 := h n (by omega)
    simp only [sumTo] at he
    by_cases e : i = n
    · subst e; omega
    · exact sumTo_tight n (fun i hi => h i (by omega)) (by omega) i (by omega)
/-- the indicator of an interval sums to its length -/
theorem sumTo_ind (a s : Nat) : ∀ n, a + s ≤ n → sumTo (fun i => if a ≤ i ∧ i < a + s then 1 else 0) n = s
  | 0, h => by simp only [sumTo]; omega
  | n + 1, h => by
    simp only [sumTo]
    by_cases e : a + s = n + 1
    · by_cases hs : s = 0
      · have : ∀ m, m ≤ n → sumTo (fun i => if a ≤ i ∧ i < a + s then 1 else 0) m = 0 := by
          intro m hm
          rw [sumTo_congr (g := fun _ => 0) m (fun i hi => if_neg (by omega)), sumTo_zero]
        rw [this n (Nat.le_refl _), if_neg (by omega)]; omega
      · rw [if_pos (by omega)]
        have h2 := sumTo_ind a (s - 1) n (by omega)
        rw [sumTo_congr (g := fun i => if a ≤ i ∧ i < a + (s - 1) then 1 else 0) n (fun i hi => by
          by_cases c : a ≤ i ∧ i < a + (s - 1)
          · rw [if_pos c, if_pos (by omega)]
          · rw [if_neg c, if_neg (by omega)])]
        omega
    · rw [if_neg (by omega), sumTo_ind a s n (by omega), Nat.add_zero]
theorem sumTo_mul (c : Nat) (f : Nat → Nat) : ∀ n, sumTo (fun i => f i * c) n = sumTo f n * c
  | 0 => by simp [sumTo]
  | n + 1 => by simp only [sumTo, sumTo_mul c f n, Nat.add_mul]

/-- how many squares have a cell -/
def covers (T : List Sq) (a b : Int) : Nat := T.countP (fun q => decide (q.has a b))
def area : List Sq → Int
  | [] => 0
  | q :: T => q.f2 * q.f2 + area T
theorem area_append (A B : List Sq) : area (A ++ B) = area A + area B := by
  induction A with
  | nil => simp [area]
  | cons q A ih => simp only [List.cons_append, area, ih]; omega

def grid (T : List Sq) (w h : Nat) : Nat := sumTo (fun a => sumTo (fun b => covers T a b) h) w

def inBox (w h : Int) (q : Sq) : Prop := 1 ≤ q.f2 ∧ 0 ≤ q.f0 ∧ q.f0 + q.f2 ≤ w ∧ 0 ≤ q.f1 ∧ q.f1 + q.f2 ≤ h

theorem grid_one (w h : Nat) (q : Sq) (hq : inBox w h q) : ((grid [q] w h : Nat) : Int) = q.f2 * q.f2 := by
  obtain ⟨x, y, s⟩ := q
  obtain ⟨h1, h2, h3, h4, h5⟩ := hq
  simp only at h1 h2 h3 h4 h5
  obtain ⟨x, rfl⟩ := Int.eq_ofNat_of_zero_le h2
  obtain ⟨y, rfl⟩ := Int.eq_ofNat_of_zero_le h4
  obtain ⟨s, rfl⟩ := Int.eq_ofNat_of_zero_le (show 0 ≤ s by omega)
  have : grid [(⟨x, y, s⟩ : Sq)] w h = s * s := by
    unfold grid
    rw [sumTo_congr (g := fun a => (if x ≤ a ∧ a < x + s then 1 else 0) * s) w]
    · rw [sumTo_mul, sumTo_ind x s w (by omega)]
    · intro a ha
      by_cases c : x ≤ a ∧ a < x + s
      · rw [if_pos c, Nat.one_mul]
        rw [sumTo_congr (g := fun b => if y ≤ b ∧ b < y + s then 1 else 0) h]
        · exact sumTo_ind y s h (by omega)
        · intro b hb
          simp only [covers, List.countP_cons, List.countP_nil, Sq.has, Nat.zero_add]
          by_cases d : y ≤ b ∧ b < y + s
          · rw [if_pos d, if_pos]; simp; omega
          · rw [if_neg d, if_neg]; simp; omega
      · rw [if_neg c, Nat.zero_mul]
        rw [sumTo_congr (g := fun _ => 0) h, sumTo_zero]
        intro b hb
        simp only [covers, List.countP_cons, List.countP_nil, Sq.has, Nat.zero_add]
        rw [if_neg]; simp; omega
  rw [this]; simp

theorem grid_area (w h : Nat) : ∀ T : List Sq, (∀ q ∈ T, inBox w h q) → ((grid T w h : Nat) : Int) = area T
  | [], _ => by
    simp only [grid, covers, List.countP_nil, area]
    rw [sumTo_congr (g := fun _ => 0) w (fun _ _ => sumTo_zero _), sumTo_zero]; rfl
  | q :: T, hT => by
    have h1 := grid_area w h T (fun q hq => hT q (List.mem_cons_of_mem _ hq))
    have h2 := grid_one w h q (hT q List.mem_cons_self)
    have : grid (q :: T) w h = grid [q] w h + grid T w h := by
      unfold grid
      rw [← sumTo_add]
      refine sumTo_congr _ (fun a _ => ?_)
      rw [← sumTo_add]
      refine sumTo_congr _ (fun b _ => ?_)
      simp only [covers, List.countP_cons, List.countP_nil]; omega
    rw [this]; simp only [area]; omega

/-- no two have a common cell -/
def Apart (p q : Sq) : Prop := ¬ (p.f0 < q.f0 + q.f2 ∧ q.f0 < p.f0 + p.f2 ∧ p.f1 < q.f1 + q.f2 ∧ q.f1 < p.f1 + p.f2)
theorem Apart.symm {p q : Sq} (h : Apart p q) : Apart q p := by unfold Apart at *; omega
theorem covers_le (T : List Sq) (hT : T.Pairwise Apart) (hs : ∀ q ∈ T, 1 ≤ q.f2) (a b : Int) : covers T a b ≤ 1 := by
  induction T with
  | nil => simp [covers]
  | cons q T ih =>
    rw [List.pairwise_cons] at hT
    have := ih hT.2 (fun q hq => hs q (List.mem_cons_of_mem _ hq))
    unfold covers at *
    rw [List.countP_cons]
    by_cases c : q.has a b
    · have : T.countP (fun q => decide (q.has a b)) = 0 := by
        rw [List.countP_eq_zero]
        intro p hp hp2
        have hd := hT.1 p hp
        have hp2 : p.has a b := by simpa using hp2
        unfold Apart at hd; unfold Sq.has at c hp2
        omega
      rw [this]; split <;> omega
    · rw [if_neg (by simpa using c)]; omega

/-- squares within a box, apart, with the whole area: each cell has one -/
theorem covered (w h : Nat) (T : List Sq) (hb : ∀ q ∈ T, inBox w h q) (hd : T.Pairwise Apart) (ha : area T = w * h) (a b : Int) (h0 : 0 ≤ a) (h1 : a < w) (h2 : 0 ≤ b) (h3 : b < h) :
    ∃ q ∈ T, q.has a b := by
  obtain ⟨a, rfl⟩ := Int.eq_ofNat_of_zero_le h0
  obtain ⟨b, rfl⟩ := Int.eq_ofNat_of_zero_le h2
  have hle : ∀ a b : Nat, covers T a b ≤ 1 := fun a b => covers_le T hd (fun q hq => (hb q hq).1) a b
  have hg := grid_area w h T hb
  have hg2 : grid T w h = sumTo (fun _ => sumTo (fun _ => 1) h) w := by
    rw [sumTo_const, sumTo_const, Nat.mul_one]
    have : ((w * h : Nat) : Int) = w * h := by simp
    omega
  have t1 := sumTo_tight w (fun a _ => sumTo_le h (fun b _ => hle a b)) hg2 a (by omega)
  have t2 := sumTo_tight h (fun b _ => hle a b) t1 b (by omega)
  have : 0 < covers T a b := by omega
  unfold covers at this
  rw [List.countP_pos_iff] at this
  obtain ⟨q, hq, hp⟩ := this
  exact ⟨q, hq, by simpa using hp⟩
/-- .. and the other way -/
theorem area_of_covered (w h : Nat) (T : List Sq) (hb : ∀ q ∈ T, inBox w h q) (hd : T.Pairwise Apart) (hc : ∀ a b : Int, 0 ≤ a → a < w → 0 ≤ b → b < h → ∃ q ∈ T, q.has a b) : area T = w * h := by
  rw [← grid_area w h T hb]
  have : grid T w h = w * h := by
    unfold grid
    rw [sumTo_congr (g := fun _ => h) w, sumTo_const]
    intro a ha
    rw [sumTo_congr (g := fun _ => 1) h, sumTo_const, Nat.mul_one]
    intro b hb'
    have h1 := covers_le T hd (fun q hq => (hb q hq).1) a b
    obtain ⟨q, hq, hp⟩ := hc a b (by omega) (by omega) (by omega) (by omega)
    have : 0 < covers T a b := by unfold covers; rw [List.countP_pos_iff]; exact ⟨q, hq, by simpa using hp⟩
    omega
  rw [this]; simp
end Go.Proofs.Ytfmhcgjmgaefcaa.T

namespace Go.Proofs.Ytfmhcgjmgaefcaa.T

def ht (f : List Int) (c : Nat) : Int := f.getD c 0

/-- the first index of the least height -/
def lowFrom : List Int → Nat × Int → Nat → Nat
  | [], b, _ => b.1
  | y :: f, b, i => if y < b.2 then lowFrom f (i, y) (i + 1) else lowFrom f b (i + 1)
def low (f : List Int) : Nat := match f with | [] => 0 | y :: f => lowFrom f (0, y) 1

structure IsLow (f : List Int) (x : Nat) : Prop where
  lt : x < f.length
  le : ∀ c, c < f.length → ht f x ≤ ht f c
  first : ∀ c, c < x → ht f x < ht f c
theorem IsLow.unique {f : List Int} {x y : Nat} (h : IsLow f x) (k : IsLow f y) : x = y := by
  have h1 := h.first y; have h2 := k.first x; have h3 := h.le y k.lt; have h4 := k.le x h.lt
  rcases Nat.lt_trichotomy x y with e | e | e
  · have := h2 e; omega
  · exact e
  · have := h1 e; omega

theorem lowFrom_spec (g : List Int) : ∀ (f : List Int) (b : Nat × Int) (i : Nat), i = (g.length - f.length) → f = g.drop i → i ≤ g.length → b.1 < i → b.2 = ht g b.1 → (∀ c, c < i → b.2 ≤ ht g c) → (∀ c, c < b.1 → b.2 < ht g c) → IsLow g (lowFrom f b i)
  | [], b, i, hi, hf, hl, h1, h2, h3, h4 => by
    have : g.length ≤ i := by
      have := congrArg List.length hf
      simp at this; omega
    exact ⟨by simp only [lowFrom]; omega, fun c hc => by simp only [lowFrom]; rw [← h2]; exact h3 c (by omega), fun c hc => by simp only [lowFrom] at *; rw [← h2]; exact h4 c hc⟩
  | y :: f, b, i, hi, hf, hl, h1, h2, h3, h4 => by
    have hlt : i < g.length := by
      have := congrArg List.length hf
      simp at this; omega
    have hy : ht g i = y := by
      have : g.drop i = g[i] :: g.drop (i + 1) := List.drop_eq_getElem_cons hlt
      rw [this] at hf
      injection hf with e1 e2
      simp [ht, hlt, e1]
    have hf' : f = g.drop (i + 1) := by
      have : g.drop i = g[i] :: g.drop (i + 1) := List.drop_eq_getElem_cons hlt
      rw [this] at hf
      injection hf
    have hi' : i + 1 = g.length - f.length := by rw [hf']; simp; omega
    simp only [lowFrom]
    by_cases c : y < b.2
    · rw [if_pos c]
      refine lowFrom_spec g f (i, y) (i + 1) hi' hf' (by omega) (by simp) (by simp [hy]) ?_ ?_
      · intro c' hc'
        simp only
        by_cases e : c' = i
        · subst e; omega
        · have := h3 c' (by omega); omega
      · intro c' hc'
        simp only at *
        have := h3 c' hc'; omega
    · rw [if_neg c]
      refine lowFrom_spec g f b (i + 1) hi' hf' (by omega) (by omega) h2 ?_ h4
      intro c' hc'
      by_cases e : c' = i
      · subst e; omega
      · exact h3 c' (by omega)
theorem low_spec (f : List Int) (h : f ≠ []) : IsLow f (low f) := by
  match f, h with
  | y :: f, _ =>
    refine lowFrom_spec (y :: f) f (0, y) 1 (by simp) rfl (by simp) (by simp) rfl ?_ ?_
    · intro c hc
      have : c = 0 := by omega
      subst this; simp [ht]
    · intro c hc; simp at hc

/-- how many columns from x on are filled as far as y -/
def run (f : List Int) (y : Int) : Nat := match f with | [] => 0 | z :: f => if z = y then run f y + 1 else 0
theorem run_le (y : Int) : ∀ f : List Int, run f y ≤ f.length
  | [] => Nat.le_refl _
  | z :: f => by simp only [run]; split <;> simp <;> have := run_le y f <;> omega
theorem run_eq (y : Int) : ∀ (f : List Int) (i : Nat), i < run f y → f.getD i 0 = y
  | [], i, h => by simp [run] at h
  | z :: f, i, h => by
    simp only [run] at h
    split at h
    · cases i with
      | zero => simpa using (by assumption : z = y)
      | succ i => simpa using run_eq y f i (by omega)
    · omega
theorem run_end (y : Int) : ∀ (f : List Int), run f y < f.length → f.getD (run f y) 0 ≠ y
  | [], h => by simp [run] at h
  | z :: f, h => by
    simp only [run] at h ⊢
    split
    · rename_i e
      rw [if_pos e] at h
      simpa using run_end y f (by simpa using h)
    · simpa using (by assumption : ¬ z = y)
theorem run_of (y : Int) : ∀ (f : List Int) (r : Nat), r ≤ f.length → (∀ i, i < r → f.getD i 0 = y) → r ≤ run f y
  | [], r, h, _ => by simp at h; omega
  | z :: f, r, h, hr => by
    cases r with
    | zero => omega
    | succ r =>
      have h0 := hr 0 (by omega)
      simp at h0
      simp only [run, if_pos h0]
      have := run_of y f r (by simpa using h) (fun i hi => by simpa using hr (i + 1) (by omega))
      omega
def runAt (f : List Int) (x : Nat) : Nat := run (f.drop x) (ht f x)
theorem getD_drop (f : List Int) (x i : Nat) : (f.drop x).getD i 0 = ht f (x + i) := by
  simp [ht, List.getD_eq_getElem?_getD, List.getElem?_drop]
theorem runAt_le (f : List Int) (x : Nat) (hx : x ≤ f.length) : x + runAt f x ≤ f.length := by
  have := run_le (ht f x) (f.drop x)
  simp at this; unfold runAt; omega
theorem runAt_eq (f : List Int) (x i : Nat) (h : i < runAt f x) : ht f (x + i) = ht f x := by
  rw [← getD_drop]; exact run_eq _ _ _ h
theorem runAt_pos (f : List Int) (x : Nat) (hx : x < f.length) : 0 < runAt f x := by
  refine run_of (ht f x) (f.drop x) 1 (by simp; omega) (fun i hi => ?_)
  obtain rfl : i = 0 := by omega
  rw [getD_drop]; rfl
theorem runAt_end (f : List Int) (x : Nat) (h : x + runAt f x < f.length) : ht f (x + runAt f x) ≠ ht f x := by
  rw [← getD_drop]; exact run_end _ _ (by simp; unfold runAt at h; omega)
theorem runAt_of (f : List Int) (x r : Nat) (h : x + r ≤ f.length) (hr : ∀ i, i < r → ht f (x + i) = ht f x) : r ≤ runAt f x :=
  run_of _ _ _ (by simp; omega) (fun i hi => by rw [getD_drop]; exact hr i hi)

def room (f : List Int) (h : Int) (x : Nat) : Nat := min (runAt f x) (h - ht f x).toNat

def place (f : List Int) (x s : Nat) (y : Int) : List Int := f.take x ++ (List.replicate s y ++ f.drop (x + s))
theorem place_length (f : List Int) (x s : Nat) (y : Int) (h : x + s ≤ f.length) : (place f x s y).length = f.length := by
  unfold place; simp; omega
theorem ht_place (f : List Int) (x s : Nat) (y : Int) (h : x + s ≤ f.length) (c : Nat) : ht (place f x s y) c = if x ≤ c ∧ c < x + s then y else ht f c := by
  unfold place ht
  simp only [List.getD_eq_getElem?_getD]
  by_cases h1 : c < x
  · rw [List.getElem?_append_left (by simp; omega), if_neg (by omega), List.getElem?_take]
    simp [h1]
  · rw [List.getElem?_append_right (by simp; omega)]
    have hl : (f.take x).length = x := by simp; omega
    rw [hl]
    by_cases h2 : c < x + s
    · rw [List.getElem?_append_left (by simp; omega), if_pos (by omega), List.getElem?_replicate, if_pos (by omega)]; rfl
    · rw [List.getElem?_append_right (by simp; omega), if_neg (by omega), List.length_replicate, List.getElem?_drop]
      have : x + s + (c - x - s) = c := by omega
      rw [this]

theorem place_one (f : List Int) (x s : Nat) (y : Int) (h : x + (s + 1) ≤ f.length) : (place f x s y).set (x + s) y = place f x (s + 1) y := by
  apply List.ext_getElem?
  intro i
  have key : ∀ (l : List Int) (i : Nat), i < l.length → l[i]? = some (ht l i) := by
    intro l i hi; simp [ht, hi]
  have l1 := place_length f x s y (by omega)
  have l2 := place_length f x (s + 1) y h
  by_cases hi : i < f.length
  · rw [key (place f x (s + 1) y) i (by rw [l2]; omega), ht_place _ _ _ _ h, List.getElem?_set]
    by_cases e : x + s = i
    · rw [if_pos e, if_pos (by omega), if_pos (by omega)]
    · rw [if_neg e, key (place f x s y) i (by omega), ht_place _ _ _ _ (by omega)]
      by_cases c : x ≤ i ∧ i < x + s
      · rw [if_pos c, if_pos (by omega)]
      · rw [if_neg c, if_neg (by omega)]
  · rw [List.getElem?_eq_none (by simp; omega), List.getElem?_eq_none (by omega)]

/-- what the squares fill: all below the skyline f, down to h -/
structure Tiles (f : List Int) (h : Int) (t : List Sq) : Prop where
  box : ∀ q ∈ t, 1 ≤ q.f2 ∧ 0 ≤ q.f0 ∧ q.f0 + q.f2 ≤ f.length ∧ q.f1 + q.f2 ≤ h
  over : ∀ q ∈ t, ∀ c : Nat, q.f0 ≤ c → (c : Int) < q.f0 + q.f2 → ht f c ≤ q.f1
  apart : t.Pairwise Apart
  full : ∀ (c : Nat) (b : Int), c < f.length → ht f c ≤ b → b < h → ∃ q ∈ t, q.has c b

def Lt (p q : Sq) : Prop := p.f1 < q.f1 ∨ p.f1 = q.f1 ∧ p.f0 < q.f0

def gen (h : Int) : Nat → List Int → List (List Sq)
  | 0, _ => []
  | n + 1, f =>
    if ht f (low f) = h then [[]] else
    (List.range (room f h (low f))).flatMap fun i => (gen h n (place f (low f) (i + 1) (ht f (low f) + (i + 1 : Nat)))).map (⟨low f, ht f (low f), (i + 1 : Nat)⟩ :: ·)

/-- the cells that are left -/
def left (h : Int) : List Int → Nat
  | [] => 0
  | y :: f => (h - y).toNat + left h f
theorem left_append (h : Int) (f g : List Int) : left h (f ++ g) = left h f + left h g := by
  induction f with
  | nil => simp [left]
  | cons y f ih => simp only [List.cons_append, left, ih]; omega
theorem left_replicate (h y : Int) (s : Nat) : left h (List.replicate s y) = s * (h - y).toNat := by
  induction s with
  | zero => simp [left]
  | succ s ih => simp only [List.replicate_succ, left, ih, Nat.add_mul]; omega
theorem eq_replicate_of {l : List Int} {y : Int} (h : ∀ i, i < l.length → ht l i = y) : l = List.replicate l.length y := by
  apply List.ext_getElem?
  intro i
  rw [List.getElem?_replicate]
  by_cases hi : i < l.length
  · rw [if_pos hi]
    have := h i hi
    simp [ht, hi] at this
    simp [hi, this]
  · rw [if_neg hi, List.getElem?_eq_none (by omega)]
theorem split_at (f : List Int) (x s : Nat) (h : x + s ≤ f.length) (y : Int) (hy : ∀ i, i < s → ht f (x + i) = y) : f = f.take x ++ (List.replicate s y ++ f.drop (x + s)) := by
  have h1 : (f.drop x).take s = List.replicate s y := by
    have hl : ((f.drop x).take s).length = s := by simp; omega
    have := eq_replicate_of (l := (f.drop x).take s) (y := y) (fun i hi => by
      rw [hl] at hi
      have := hy i hi
      rw [← this]
      simp only [ht, List.getD_eq_getElem?_getD, List.getElem?_take, if_pos hi, List.getElem?_drop])
    rw [hl] at this; exact this
  have h2 : f.drop x = (f.drop x).take s ++ (f.drop x).drop s := (List.take_append_drop s _).symm
  rw [List.drop_drop, h1] at h2
  rw [← h2, List.take_append_drop]
theorem left_place (h : Int) (f : List Int) (x s : Nat) (hx : x + s ≤ f.length) (hr : s ≤ runAt f x) (hs : 1 ≤ s) (hh : ht f x + s ≤ h) :
    left h (place f x s (ht f x + (s : Nat))) < left h f := by
  have e := split_at f x s hx (ht f x) (fun i hi => runAt_eq f x i (by omega))
  have : left h f = left h (f.take x) + (s * (h - ht f x).toNat + left h (f.drop (x + s))) := by
    conv => lhs; rw [e]
    rw [left_append, left_append, left_replicate]
  rw [this, place, left_append, left_append, left_replicate]
  have : s * (h - (ht f x + (s : Nat))).toNat < s * (h - ht f x).toNat := Nat.mul_lt_mul_of_pos_left (by omega) (by omega)
  omega
end Go.Proofs.Ytfmhcgjmgaefcaa.T

namespace Go.Proofs.Ytfmhcgjmgaefcaa.T

def Fits (f : List Int) (h : Int) : Prop := f ≠ [] ∧ ∀ c, c < f.length → ht f c ≤ h

theorem left_zero_of (h : Int) (f : List Int) (hl : ∀ c, c < f.length → ht f c = h) : left h f = 0 := by
  rw [eq_replicate_of hl, left_replicate]; simp

theorem Fits.place {f : List Int} {h : Int} (F : Fits f h) {x s : Nat} (hx : x + s ≤ f.length) {y : Int} (hy : y ≤ h) : Fits (place f x s y) h := by
  refine ⟨fun e => ?_, fun c hc => ?_⟩
  · have := place_length f x s y hx
    rw [e] at this
    exact F.1 (List.length_eq_zero_iff.1 this.symm)
  · rw [place_length _ _ _ _ hx] at hc
    rw [ht_place _ _ _ _ hx]
    split
    · exact hy
    · exact F.2 c hc

theorem tiles_done {f : List Int} {h : Int} {t : List Sq} (hall : ∀ c, c < f.length → h ≤ ht f c) (T : Tiles f h t) : t = [] := by
  cases t with
  | nil => rfl
  | cons q t =>
    obtain ⟨h1, h2, h3, h4⟩ := T.box q List.mem_cons_self
    have h5 := T.over q List.mem_cons_self q.f0.toNat (by omega) (by omega)
    have h6 := hall q.f0.toNat (by omega)
    omega
theorem tiles_nil {f : List Int} {h : Int} (hall : ∀ c, c < f.length → h ≤ ht f c) : Tiles f h [] :=
  ⟨fun q hq => by simp at hq, fun q hq => by simp at hq, List.Pairwise.nil, fun c b hc h1 h2 => by have := hall c hc; omega⟩

theorem tiles_cons {f : List Int} {h : Int} {x s : Nat} {t : List Sq} (L : IsLow f x) (hs : 1 ≤ s) (hr : s ≤ runAt f x) (hh : ht f x + s ≤ h) (T : Tiles (place f x s (ht f x + s)) h t) :
    Tiles f h (⟨x, ht f x, s⟩ :: t) := by
  have hl := runAt_le f x (by have := L.lt; omega)
  have hx : x + s ≤ f.length := by omega
  have hp := ht_place f x s (ht f x + s) hx
  have hpl := place_length f x s (ht f x + s) hx
  have up : ∀ c, ht f c ≤ ht (place f x s (ht f x + s)) c := by
    intro c; rw [hp]; split
    · rename_i e; have := runAt_eq f x (c - x) (by omega); rw [show x + (c - x) = c by omega] at this; omega
    · omega
  refine ⟨fun q hq => ?_, fun q hq c h1 h2 => ?_, ?_, fun c b hc h1 h2 => ?_⟩
  · rcases List.mem_cons.1 hq with rfl | hq
    · simp only; omega
    · have := T.box q hq; rw [hpl] at this; exact this
  · rcases List.mem_cons.1 hq with rfl | hq
    · simp only at *; have := runAt_eq f x (c - x) (by omega); rw [show x + (c - x) = c by omega] at this; omega
    · have := T.over q hq c h1 h2; have := up c; omega
  · rw [List.pairwise_cons]
    refine ⟨fun q hq hc => ?_, T.apart⟩
    simp only at hc
    have h1 := T.box q hq
    have h2 := T.over q hq (max x q.f0.toNat) (by omega) (by omega)
    rw [hp, if_pos (by omega)] at h2
    omega
  · by_cases e : x ≤ c ∧ c < x + s ∧ b < ht f x + s
    · refine ⟨_, List.mem_cons_self, ?_⟩
      have := runAt_eq f x (c - x) (by omega); rw [show x + (c - x) = c by omega] at this
      unfold Sq.has; simp only; omega
    · obtain ⟨q, hq, hc2⟩ := T.full c b (by omega) (by rw [hp]; split <;> omega) h2
      exact ⟨q, List.mem_cons_of_mem _ hq, hc2⟩

theorem sorted_cons {f : List Int} {h : Int} {x s : Nat} {t : List Sq} (L : IsLow f x) (hs : 1 ≤ s) (hr : s ≤ runAt f x) (T : Tiles (place f x s (ht f x + s)) h t) :
    ∀ q ∈ t, Lt ⟨x, ht f x, s⟩ q := by
  intro q hq
  have hl := runAt_le f x (by have := L.lt; omega)
  have hx : x + s ≤ f.length := by omega
  have hp := ht_place f x s (ht f x + s) hx
  have hpl := place_length f x s (ht f x + s) hx
  have h1 := T.box q hq
  rw [hpl] at h1
  have h2 := T.over q hq q.f0.toNat (by omega) (by omega)
  have h3 := L.le q.f0.toNat (by omega)
  rw [hp] at h2
  unfold Lt; simp only
  split at h2
  · omega
  · by_cases e : ht f x < q.f1
    · omega
    · rcases Nat.lt_trichotomy q.f0.toNat x with e2 | e2 | e2
      · have := L.first _ e2; omega
      · omega
      · omega

/-- the square that has the lowest free cell -/
theorem tiles_first {f : List Int} {h : Int} {x : Nat} {t : List Sq} (L : IsLow f x) (hh : ht f x < h) (T : Tiles f h t) :
    ∃ q ∈ t, q.f0 = x ∧ q.f1 = ht f x ∧ 1 ≤ q.f2 ∧ q.f2.toNat ≤ runAt f x ∧ ht f x + q.f2 ≤ h := by
  obtain ⟨q, hq, hc⟩ := T.full x (ht f x) L.lt (Int.le_refl _) hh
  unfold Sq.has at hc
  have h1 := T.box q hq
  have h2 := T.over q hq
  have h3 := h2 x hc.1 hc.2.1
  have h4 := h2 q.f0.toNat (by omega) (by omega)
  have h5 : x ≤ q.f0.toNat := by
    rcases Nat.lt_or_ge q.f0.toNat x with e | e
    · have := L.first _ e; omega
    · exact e
  refine ⟨q, hq, by omega, by omega, h1.1, runAt_of f x _ (by omega) (fun i hi => ?_), by omega⟩
  have h6 := h2 (x + i) (by omega) (by omega)
  have h7 := L.le (x + i) (by omega)
  omega

theorem tiles_tail {f : List Int} {h : Int} {x s : Nat} {t : List Sq} (L : IsLow f x) (hs : 1 ≤ s) (hr : s ≤ runAt f x) (T : Tiles f h (⟨x, ht f x, s⟩ :: t)) :
    Tiles (place f x s (ht f x + s)) h t := by
  have hl := runAt_le f x (by have := L.lt; omega)
  have hx : x + s ≤ f.length := by omega
  have hp := ht_place f x s (ht f x + s) hx
  have hpl := place_length f x s (ht f x + s) hx
  have hA := T.apart
  rw [List.pairwise_cons] at hA
  refine ⟨fun q hq => ?_, fun q hq c h1 h2 => ?_, hA.2, fun c b hc h1 h2 => ?_⟩
  · rw [hpl]; exact T.box q (List.mem_cons_of_mem _ hq)
  · have h3 := T.over q (List.mem_cons_of_mem _ hq) c h1 h2
    have h4 := hA.1 q hq
    have h5 := T.box q (List.mem_cons_of_mem _ hq)
    rw [hp]
    split
    · unfold Apart at h4; simp only at h4
      have h6 := L.le c (by omega)
      omega
    · exact h3
  · rw [hpl] at hc
    rw [hp] at h1
    have up : ht f c ≤ b := by
      split at h1
      · rename_i e; have := runAt_eq f x (c - x) (by omega); rw [show x + (c - x) = c by omega] at this; omega
      · exact h1
    obtain ⟨q, hq, hc2⟩ := T.full c b hc up h2
    rcases List.mem_cons.1 hq with rfl | hq
    · unfold Sq.has at hc2; simp only at hc2
      split at h1 <;> omega
    · exact ⟨q, hq, hc2⟩

theorem gen_mem (h : Int) : ∀ (n : Nat) (f : List Int) (t : List Sq), Fits f h → left h f < n → (t ∈ gen h n f ↔ Tiles f h t ∧ t.Pairwise Lt)
  | 0, f, t, _, hn => by omega
  | n + 1, f, t, F, hn => by
    have L := low_spec f F.1
    have hlow := F.2 _ L.lt
    simp only [gen]
    by_cases e : ht f (low f) = h
    · rw [if_pos e]
      have hall : ∀ c, c < f.length → h ≤ ht f c := fun c hc => by have := L.le c hc; omega
      constructor
      · intro ht_
        obtain rfl : t = [] := by simpa using ht_
        exact ⟨tiles_nil hall, List.Pairwise.nil⟩
      · rintro ⟨T, _⟩
        rw [tiles_done hall T]; simp
    · rw [if_neg e]
      have hl := runAt_le f (low f) (by have := L.lt; omega)
      simp only [List.mem_flatMap, List.mem_range, List.mem_map]
      have step : ∀ i, i < room f h (low f) → ∀ t', t' ∈ gen h n (place f (low f) (i + 1) (ht f (low f) + (i + 1 : Nat))) ↔ Tiles (place f (low f) (i + 1) (ht f (low f) + (i + 1 : Nat))) h t' ∧ t'.Pairwise Lt := by
        intro i hi t'
        unfold room at hi
        refine gen_mem h n _ t' (F.place (by omega) (by omega)) ?_
        have := left_place h f (low f) (i + 1) (by omega) (by omega) (by omega) (by omega)
        omega
      constructor
      · rintro ⟨i, hi, t', ht', rfl⟩
        obtain ⟨T, S⟩ := (step i hi t').1 ht'
        unfold room at hi
        refine ⟨tiles_cons L (by omega) (by omega) (by omega) T, ?_⟩
        rw [List.pairwise_cons]
        exact ⟨sorted_cons L (by omega) (by omega) T, S⟩
      · rintro ⟨T, S⟩
        obtain ⟨q, hq, q0, q1, q2, q3, q4⟩ := tiles_first L (by omega) T
        cases t with
        | nil => simp at hq
        | cons p t =>
          have hp : p = q := by
            rcases List.mem_cons.1 hq with e | hq'
            · exact e.symm
            · exfalso
              rw [List.pairwise_cons] at S
              have h1 := S.1 q hq'
              have h2 := T.box p List.mem_cons_self
              have h3 := T.over p List.mem_cons_self p.f0.toNat (by omega) (by omega)
              have h4 := L.le p.f0.toNat (by omega)
              unfold Lt at h1
              rcases Nat.lt_or_ge p.f0.toNat (low f) with e2 | e2
              · have := L.first _ e2; omega
              · omega
          subst hp
          obtain ⟨p0, p1, p2⟩ := p
          simp only at q0 q1 q2 q3 q4
          subst q0; subst q1
          obtain ⟨s, rfl⟩ := Int.eq_ofNat_of_zero_le (show 0 ≤ p2 by omega)
          have hs : s - 1 + 1 = s := by omega
          refine ⟨s - 1, by unfold room; omega, t, ?_, by rw [hs]⟩
          rw [step (s - 1) (by unfold room; omega), hs]
          rw [List.pairwise_cons] at S
          exact ⟨tiles_tail L (by omega) (by omega) T, S.2⟩

/-- more rounds tell the same -/
theorem gen_more (h : Int) : ∀ (n m : Nat) (f : List Int), Fits f h → left h f < n → n ≤ m → gen h m f = gen h n f
  | 0, _, f, _, hn, _ => by omega
  | n + 1, 0, f, _, _, hm => by omega
  | n + 1, m + 1, f, F, hn, hm => by
    have L := low_spec f F.1
    have hl := runAt_le f (low f) (by have := L.lt; omega)
    simp only [gen]
    split
    · rfl
    · rw [List.flatMap_eq_foldl, List.flatMap_eq_foldl]
      rw [← List.flatMap_eq_foldl, ← List.flatMap_eq_foldl]
      have : ∀ (l : List Nat), (∀ i ∈ l, i < room f h (low f)) → l.flatMap (fun i => (gen h m (place f (low f) (i + 1) (ht f (low f) + (i + 1 : Nat)))).map (⟨low f, ht f (low f), (i + 1 : Nat)⟩ :: ·)) = l.flatMap (fun i => (gen h n (place f (low f) (i + 1) (ht f (low f) + (i + 1 : Nat)))).map (⟨low f, ht f (low f), (i + 1 : Nat)⟩ :: ·)) := by
        intro l
        induction l with
        | nil => intro _; rfl
        | cons i l ih =>
          intro hi
          rw [List.flatMap_cons, List.flatMap_cons, ih (fun j hj => hi j (List.mem_cons_of_mem _ hj))]
          congr 2
          have hi := hi i List.mem_cons_self
          unfold room at hi
          refine gen_more h n m _ (F.place (by omega) (by omega)) ?_ (by omega)
          have := left_place h f (low f) (i + 1) (by omega) (by omega) (by omega) (by omega)
          omega
      exact this _ (fun i hi => List.mem_range.1 hi)
end Go.Proofs.Ytfmhcgjmgaefcaa.T

namespace Go.Proofs.Ytfmhcgjmgaefcaa.T

theorem nodup_length_le : ∀ (W t : List Sq), W.Nodup → (∀ q ∈ W, q ∈ t) → W.length ≤ t.length
  | [], _, _, _ => by simp
  | q :: W, t, hn, hs => by
    rw [List.nodup_cons] at hn
    have hq := hs q List.mem_cons_self
    have h1 := nodup_length_le W (t.erase q) hn.2 (fun p hp => by
      rw [List.mem_erase_of_ne (fun e => hn.1 (by rw [← e]; exact hp))]
      exact hs p (List.mem_cons_of_mem _ hp))
    have h2 := List.length_erase_of_mem hq
    have h3 := List.length_pos_of_mem hq
    simp; omega

def pop (y : Int) : List Int → List Int
  | [] => []
  | z :: st => if z < y then pop y st else z :: st
theorem pop_mem {y z : Int} : ∀ {st : List Int}, z ∈ st → y ≤ z → z ∈ pop y st
  | [], h, _ => by simp at h
  | a :: st, h, hz => by
    simp only [pop]
    split
    · rcases List.mem_cons.1 h with rfl | h
      · omega
      · exact pop_mem h hz
    · exact h
theorem pop_sub {y z : Int} : ∀ {st : List Int}, z ∈ pop y st → z ∈ st
  | [], h => by simp [pop] at h
  | a :: st, h => by
    simp only [pop] at h
    split at h
    · exact List.mem_cons_of_mem _ (pop_sub h)
    · exact h
theorem pop_sorted {y : Int} : ∀ {st : List Int}, st.Pairwise (· < ·) → (pop y st).Pairwise (· < ·)
  | [], _ => List.Pairwise.nil
  | a :: st, h => by
    simp only [pop]
    split
    · exact pop_sorted (List.pairwise_cons.1 h).2
    · exact h
theorem pop_head {y : Int} : ∀ {st : List Int} {z : Int} {r : List Int}, pop y st = z :: r → y ≤ z
  | [], z, r, h => by simp [pop] at h
  | a :: st, z, r, h => by
    simp only [pop] at h
    split at h
    · exact pop_head h
    · injection h with h1 h2; omega

def deepAt (h : Int) (f : List Int) (x : Nat) : Int :=
  let d := h - ht f x
  let d := if 0 < x then min d (max 0 (ht f (x - 1) - ht f x)) else d
  if x + runAt f x < f.length then min d (max 0 (ht f (x + runAt f x) - ht f x)) else d

def extra (h : Int) (f : List Int) (x : Nat) : Int := max 1 ((deepAt h f x + (runAt f x : Int) - 1) / (runAt f x : Int)) - 1

def leastL (h : Int) (f : List Int) : Nat → Nat → Int → List Int → Int
  | 0, _, many, _ => many
  | n + 1, x, many, st =>
    if x < f.length then
      match pop (ht f x) st with
      | [] => leastL h f n (x + runAt f x) (many + extra h f x + if ht f x < h then 1 else 0) [ht f x]
      | z :: r => if ht f x < z then leastL h f n (x + runAt f x) (many + extra h f x + if ht f x < h then 1 else 0) (ht f x :: z :: r)
        else leastL h f n (x + runAt f x) (many + extra h f x) (z :: r)
    else many

def least (h : Int) (f : List Int) : Int := leastL h f (f.length + 1) 0 0 []

structure Wit (f : List Int) (t : List Sq) (x : Nat) (many : Int) (st : List Int) (W : List Sq) : Prop where
  nodup : W.Nodup
  sub : ∀ q ∈ W, q ∈ t
  many : many ≤ W.length
  begun : ∀ q ∈ W, q.f0 < x
  kind : ∀ q ∈ W, q.f0 + q.f2 ≤ x ∨ ∃ c : Nat, c < x ∧ q.f0 ≤ c ∧ ht f c = q.f1
  sorted : st.Pairwise (· < ·)
  told : ∀ c, c < x → (∀ d, c < d → d < x → ht f d ≤ ht f c) → ht f c ∈ st

theorem ceil_le {D r m : Int} (hr : 0 < r) (hm : m < max 1 ((D + r - 1) / r) - 1) (h0 : 0 ≤ m) : (m + 1) * r < D := by
  have h1 : m + 2 ≤ (D + r - 1) / r := by omega
  have h2 := (Int.le_ediv_iff_mul_le hr).1 h1
  have : (m + 2) * r = (m + 1) * r + r := by
    rw [show m + 2 = (m + 1) + 1 by omega, Int.add_mul]; omega
  omega

/-- the squares in a narrow run, behind the first -/
theorem extras {f : List Int} {h : Int} {t : List Sq} {x : Nat} (T : Tiles f h t) (hx : x < f.length) :
    ∀ m : Nat, (m : Int) ≤ extra h f x → ∃ E : List Sq, E.length = m ∧ E.Nodup ∧ ∀ q ∈ E, q ∈ t ∧ q.f0 = x ∧ q.f0 + q.f2 ≤ x + runAt f x ∧ ht f x < q.f1 ∧ q.f1 ≤ ht f x + m * runAt f x
  | 0, _ => ⟨[], rfl, List.nodup_nil, fun q hq => by simp at hq⟩
  | m + 1, hm => by
    obtain ⟨E, hl, hn, hE⟩ := extras T hx m (by omega)
    have hr := runAt_pos f x hx
    have hrl := runAt_le f x (by omega)
    have hD : ((m : Int) + 1) * runAt f x < deepAt h f x := ceil_le (by omega) (by unfold extra at hm; omega) (by omega)
    -- the cell at the row m + 1 times the run's width below
    have hpos : 0 ≤ ((m : Int) + 1) * runAt f x := Int.mul_nonneg (by omega) (by omega)
    generalize hb : ((m : Int) + 1) * runAt f x = B at hD hpos
    have hB2 : (m : Int) * runAt f x = B - runAt f x := by rw [← hb, Int.add_mul]; omega
    have d1 : deepAt h f x ≤ h - ht f x := by unfold deepAt; simp only; repeat' split <;> omega
    have d2 : 0 < x → deepAt h f x ≤ max 0 (ht f (x - 1) - ht f x) := by intro h0; unfold deepAt; simp only [if_pos h0]; split <;> omega
    have d3 : x + runAt f x < f.length → deepAt h f x ≤ max 0 (ht f (x + runAt f x) - ht f x) := by intro h0; unfold deepAt; simp only [if_pos h0]; split <;> omega
    obtain ⟨q, hq, hc⟩ := T.full x (ht f x + B) hx (by omega) (by omega)
    have hbox := T.box q hq
    have hov := T.over q hq
    unfold Sq.has at hc
    have e0 : q.f0 = x := by
      rcases Int.lt_or_le q.f0 x with e | e
      · have h1 := hov (x - 1) (by omega) (by omega)
        have h2 := d2 (by omega)
        omega
      · omega
    have e1 : q.f0 + q.f2 ≤ x + runAt f x := by
      rcases Int.lt_or_le ((x : Int) + runAt f x) (q.f0 + q.f2) with e | e
      · have h1 := hov (x + runAt f x) (by omega) (by omega)
        have h2 := d3 (by omega)
        omega
      · exact e
    refine ⟨q :: E, by simp [hl], ?_, fun p hp => ?_⟩
    · rw [List.nodup_cons]
      refine ⟨fun hq2 => ?_, hn⟩
      have := hE q hq2
      omega
    · rcases List.mem_cons.1 hp with rfl | hp
      · refine ⟨hq, e0, e1, ?_, ?_⟩
        · have : 0 ≤ (m : Int) * runAt f x := Int.mul_nonneg (by omega) (by omega)
          omega
        · have : ((m + 1 : Nat) : Int) * runAt f x = B := by rw [← hb]; simp
          omega
      · obtain ⟨a, b, c, d, e⟩ := hE p hp
        have : ((m + 1 : Nat) : Int) * runAt f x = B := by rw [← hb]; simp
        exact ⟨a, b, c, d, by omega⟩

theorem leastL_le {f : List Int} {h : Int} {t : List Sq} (T : Tiles f h t) :
    ∀ (n x : Nat) (many : Int) (st : List Int) (W : List Sq), Wit f t x many st W → leastL h f n x many st ≤ t.length
  | 0, x, many, st, W, H => by
    have := nodup_length_le W t H.nodup H.sub
    have := H.many
    simp only [leastL]; omega
  | n + 1, x, many, st, W, H => by
    simp only [leastL]
    by_cases hx : x < f.length
    · rw [if_pos hx]
      have hr := runAt_pos f x hx
      have hrl := runAt_le f x (by omega)
      obtain ⟨E, hEl, hEn, hE⟩ := extras T hx (extra h f x).toNat (by unfold extra; omega)
      have hex : extra h f x = E.length := by rw [hEl]; unfold extra; omega
      have hEW : ∀ q ∈ E, q ∉ W := fun q hq hq2 => by have := H.begun q hq2; have := hE q hq; omega
      -- the new witness of a level
      have cls : ht f x ∉ pop (ht f x) st → ht f x < h → ∃ q ∈ t, q.f0 ≤ x ∧ (x : Int) < q.f0 + q.f2 ∧ q.f1 = ht f x ∧ q ∉ W := by
        intro hno hlt
        obtain ⟨q, hq, hc⟩ := T.full x (ht f x) hx (Int.le_refl _) hlt
        unfold Sq.has at hc
        have hov := T.over q hq
        have h1 := hov x (by omega) (by omega)
        refine ⟨q, hq, by omega, by omega, by omega, fun hqW => ?_⟩
        rcases H.kind q hqW with k | ⟨c, c1, c2, c3⟩
        · omega
        · refine hno (pop_mem ?_ (Int.le_refl _))
          have : ht f c = ht f x := by omega
          rw [← this]
          exact H.told c c1 (fun d d1 d2 => by have := hov d (by omega) (by omega); omega)
      have told' : ∀ s' : List Int, ht f x ∈ s' → (∀ z, z ∈ pop (ht f x) st → z ∈ s') → ∀ c, c < x + runAt f x → (∀ d, c < d → d < x + runAt f x → ht f d ≤ ht f c) → ht f c ∈ s' := by
        intro s' h1 h2 c hc hd
        by_cases e : c < x
        · exact h2 _ (pop_mem (H.told c e (fun d d1 d2 => hd d d1 (by omega))) (hd x e (by omega)))
        · have := runAt_eq f x (c - x) (by omega)
          rw [show x + (c - x) = c by omega] at this
          rw [this]; exact h1
      have base : ∀ (st' : List Int), st'.Pairwise (· < ·) → ht f x ∈ st' → (∀ z, z ∈ pop (ht f x) st → z ∈ st') → Wit f t (x + runAt f x) (many + extra h f x) st' (E ++ W) := by
        intro st' hs h1 h2
        refine ⟨?_, fun q hq => ?_, ?_, fun q hq => ?_, fun q hq => ?_, hs, told' st' h1 h2⟩
        · rw [List.nodup_append]
          exact ⟨hEn, H.nodup, fun a ha b hb e => hEW a ha (e ▸ hb)⟩
        · rcases List.mem_append.1 hq with hq | hq
          · exact (hE q hq).1
          · exact H.sub q hq
        · have := H.many
          rw [List.length_append]; omega
        · rcases List.mem_append.1 hq with hq | hq
          · have := hE q hq; omega
          · have := H.begun q hq; omega
        · rcases List.mem_append.1 hq with hq | hq
          · have := hE q hq; exact .inl (by omega)
          · rcases H.kind q hq with k | ⟨c, c1, c2, c3⟩
            · exact .inl (by omega)
            · exact .inr ⟨c, by omega, c2, c3⟩
      have more : ∀ (st' : List Int), st'.Pairwise (· < ·) → ht f x ∈ st' → (∀ z, z ∈ pop (ht f x) st → z ∈ st') → ht f x ∉ pop (ht f x) st →
          ∃ W', Wit f t (x + runAt f x) (many + extra h f x + if ht f x < h then 1 else 0) st' W' := by
        intro st' hs h1 h2 hno
        have B := base st' hs h1 h2
        by_cases hlt : ht f x < h
        · rw [if_pos hlt]
          obtain ⟨q, hq, q1, q2, q3, q4⟩ := cls hno hlt
          refine ⟨q :: (E ++ W), ?_, ?_, ?_, ?_, ?_, B.sorted, B.told⟩
          · rw [List.nodup_cons]
            refine ⟨fun hq2 => ?_, B.nodup⟩
            rcases List.mem_append.1 hq2 with hq2 | hq2
            · have := hE q hq2; omega
            · exact q4 hq2
          · intro p hp
            rcases List.mem_cons.1 hp with rfl | hp
            · exact hq
            · exact B.sub p hp
          · have := B.many
            rw [List.length_cons]; omega
          · intro p hp
            rcases List.mem_cons.1 hp with rfl | hp
            · omega
            · exact B.begun p hp
          · intro p hp
            rcases List.mem_cons.1 hp with rfl | hp
            · exact .inr ⟨x, by omega, q1, q3.symm⟩
            · exact B.kind p hp
        · rw [if_neg hlt, Int.add_zero]
          exact ⟨_, B⟩
      have hps : (pop (ht f x) st).Pairwise (· < ·) := pop_sorted H.sorted
      cases hp : pop (ht f x) st with
      | nil =>
        simp only
        obtain ⟨W', H'⟩ := more [ht f x] (List.pairwise_singleton _ _) (by simp) (by rw [hp]; simp) (by rw [hp]; simp)
        exact leastL_le T n _ _ _ W' H'
      | cons z r =>
        simp only
        have hz := pop_head hp
        rw [hp] at hps
        by_cases hlt : ht f x < z
        · rw [if_pos hlt]
          have hsort : (ht f x :: z :: r).Pairwise (· < ·) := by
            rw [List.pairwise_cons]
            refine ⟨fun b hb => ?_, hps⟩
            rcases List.mem_cons.1 hb with rfl | hb
            · exact hlt
            · have := (List.pairwise_cons.1 hps).1 b hb; omega
          obtain ⟨W', H'⟩ := more (ht f x :: z :: r) hsort (by simp) (by rw [hp]; intro y hy; exact List.mem_cons_of_mem _ hy) (by
            rw [hp]
            intro hm
            rcases List.mem_cons.1 hm with e | hm
            · omega
            · have := (List.pairwise_cons.1 hps).1 _ hm; omega)
          exact leastL_le T n _ _ _ W' H'
        · rw [if_neg hlt]
          have : z = ht f x := by omega
          subst this
          exact leastL_le T n _ _ _ _ (base (ht f x :: r) hps (by simp) (by rw [hp]; exact fun _ h => h))
    · rw [if_neg hx]
      have := nodup_length_le W t H.nodup H.sub
      have := H.many
      omega

/-- the squares that are left are as many as 'least' tells, or more -/
theorem least_le {f : List Int} {h : Int} {t : List Sq} (T : Tiles f h t) : least h f ≤ t.length :=
  leastL_le T _ _ _ _ [] ⟨List.nodup_nil, fun q hq => by simp at hq, by simp, fun q hq => by simp at hq, fun q hq => by simp at hq, List.Pairwise.nil, fun c hc => by omega⟩

/-- it is at least many, and one more where a column is open -/
theorem leastL_ge (f : List Int) (h : Int) : ∀ (n x : Nat) (many : Int) (st : List Int), many ≤ leastL h f n x many st
  | 0, _, _, _ => Int.le_refl _
  | n + 1, x, many, st => by
    have he : 0 ≤ extra h f x := by unfold extra; omega
    have hb : 0 ≤ (if ht f x < h then 1 else 0 : Int) := by split <;> omega
    simp only [leastL]
    generalize (if ht f x < h then 1 else 0 : Int) = b at hb ⊢
    split
    · split
      · have := leastL_ge f h n (x + runAt f x) (many + extra h f x + b) [ht f x]
        omega
      · split
        · rename_i z r _ _
          have := leastL_ge f h n (x + runAt f x) (many + extra h f x + b) (ht f x :: z :: r)
          omega
        · rename_i z r _ _
          have := leastL_ge f h n (x + runAt f x) (many + extra h f x) (z :: r)
          omega
    · exact Int.le_refl _

theorem leastL_open {f : List Int} {h : Int} : ∀ (n x : Nat) (many : Int) (st : List Int), (∀ z ∈ st, z = h) → (∀ c, c < f.length → ht f c ≤ h) → f.length - x < n → (∃ c, x ≤ c ∧ c < f.length ∧ ht f c < h) → many + 1 ≤ leastL h f n x many st
  | 0, _, _, _, _, _, hn, _ => by omega
  | n + 1, x, many, st, hst, hle, hn, ⟨c, c1, c2, c3⟩ => by
    have he : 0 ≤ extra h f x := by unfold extra; omega
    have hx : x < f.length := by omega
    have hr := runAt_pos f x hx
    simp only [leastL]
    rw [if_pos hx]
    have hpop : pop (ht f x) st = st := by
      cases st with
      | nil => rfl
      | cons z st => have := hst z List.mem_cons_self; have := hle x hx; simp only [pop]; rw [if_neg (by omega)]
    rw [hpop]
    by_cases e : ht f x < h
    · rw [if_pos e]
      cases st with
      | nil =>
        have := leastL_ge f h n (x + runAt f x) (many + extra h f x + 1) [ht f x]
        simp only; omega
      | cons z st =>
        have := hst z List.mem_cons_self
        simp only; rw [if_pos (by omega)]
        have := leastL_ge f h n (x + runAt f x) (many + extra h f x + 1) (ht f x :: z :: st)
        omega
    · have hxh : ht f x = h := by have := hle x hx; omega
      rw [if_neg e, Int.add_zero]
      have hc : x + runAt f x ≤ c := by
        rcases Nat.lt_or_ge c (x + runAt f x) with k | k
        · have := runAt_eq f x (c - x) (by omega)
          rw [show x + (c - x) = c by omega] at this; omega
        · exact k
      cases st with
      | nil =>
        have := leastL_open n (x + runAt f x) (many + extra h f x) [ht f x] (by intro z hz; simp at hz; omega) hle (by omega) ⟨c, hc, c2, c3⟩
        simp only; omega
      | cons z st =>
        have hz := hst z List.mem_cons_self
        simp only; rw [if_neg (by omega)]
        have := leastL_open n (x + runAt f x) (many + extra h f x) (z :: st) hst hle (by omega) ⟨c, hc, c2, c3⟩
        omega
theorem least_open {f : List Int} {h : Int} (F : Fits f h) (c : Nat) (hc : c < f.length) (hl : ht f c < h) : 1 ≤ least h f := by
  have := leastL_open (f := f) (h := h) (f.length + 1) 0 0 [] (by simp) F.2 (by omega) ⟨c, by omega, hc, hl⟩
  unfold least; omega
end Go.Proofs.Ytfmhcgjmgaefcaa.T
