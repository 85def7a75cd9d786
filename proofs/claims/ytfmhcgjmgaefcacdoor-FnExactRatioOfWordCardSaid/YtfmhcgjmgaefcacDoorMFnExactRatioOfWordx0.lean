import Derived.Test.YtfmhcgjmgaefcacDoorProg
import Derived.Below
import Derived.Deep.Draws
import Derived.Deep.AppendLies
import Derived.Maps.AppendAt
import Derived.OwnWalk
import Derived.Laws.BytesArg
import Derived.Laws.MakeOwn
import Derived.Laws.OwnMore
import Derived.Deep.OwnRows
import Derived.Tactics
import Derived.Lib.ConvBytes
import Derived.Laws.Slices
import Derived.WalkKit
import Derived.KernelRfl
import Derived.RowKit3
import Derived.Deep.LoopGhost
import Derived.Deep.QuietTactic
import Derived.BigQuiet
import Derived.WideLaws
import Derived.Deep.DeepCutAuto
import Derived.Deep.CutBlock
import Derived.Deep.RegionHeld3
import Derived.Laws.Rows
import Derived.Lib.AppendStr
import Derived.ArgAppend
import Derived.Laws.IdiomCopy
import Derived.OrdersHeld
import Derived.Laws.BitsLemmas
import Derived.RowKit
import Derived.Test.YtfmhcgjmgaefcacDoorWWords
import Derived.Test.YtfmhcgjmgaefcacDoorWLast
import Derived.Test.YtfmhcgjmgaefcacDoorWTab
import Derived.Test.YtfmhcgjmgaefcacDoorWFour
import Derived.Test.YtfmhcgjmgaefcacDoorWQPut
import Derived.Test.YtfmhcgjmgaefcacDoorWApart
import Derived.Test.YtfmhcgjmgaefcacDoorWArr
import Derived.Test.YtfmhcgjmgaefcacDoorWZeros
import Derived.Test.YtfmhcgjmgaefcacDoorWFoot
import Derived.Test.YtfmhcgjmgaefcacDoorWKept
import Derived.Test.YtfmhcgjmgaefcacDoorWShare
import Derived.Test.YtfmhcgjmgaefcacDoorWN
import Derived.Test.YtfmhcgjmgaefcacDoorWFootNe
import Derived.Test.YtfmhcgjmgaefcacDoorWAt
import Derived.Test.YtfmhcgjmgaefcacDoorWEqStruct
import Derived.Test.YtfmhcgjmgaefcacDoorWRepsOne
import Derived.Test.YtfmhcgjmgaefcacDoorWInv
import Derived.Test.YtfmhcgjmgaefcacDoorWInvWords
import Derived.Test.YtfmhcgjmgaefcacDoorWGuard
import Derived.Test.YtfmhcgjmgaefcacDoorWNEv
import Derived.Test.YtfmhcgjmgaefcacDoorWMore
import Derived.Ground.NamesProg
import Derived.Shelf.Strings.SlTrimAscii
namespace Go.Proofs.YtfmhcgjmgaefcacDoor.T
/-- a square: its place, its side -/
structure Sq where
  f0 : Int
  f1 : Int
  f2 : Int
deriving DecidableEq
/-- a cut: its width, its height, its squares -/
structure Ct where
  f0 : Int
  f1 : Int
  f2 : List Sq
deriving DecidableEq
end Go.Proofs.YtfmhcgjmgaefcacDoor.T

namespace Go.Proofs.YtfmhcgjmgaefcacDoor.P
open Go.RowKit Go.Proofs.YtfmhcgjmgaefcacDoorW.PrintWords Go.Proofs.YtfmhcgjmgaefcacDoorW.PrintLast Go.Proofs.YtfmhcgjmgaefcacDoorW.PrintMore
attribute [local go_sem] max2_int min2_int max_two min_two max_three min_three max_four min_four
set_option linter.unusedVariables false
set_option linter.unusedSimpArgs false

def errW : Option Int → Value
  | none => .nilIface
  | some c => .iface 0 (.int .i64 c)
theorem errW_none : errW none = .nilIface := rfl
theorem errW_some (c : Int) : errW (some c) = .iface 0 (.int .i64 c) := rfl

theorem info33 : (Tryd.prog.info? 33).map (fun i => (i.zero, i.size, i.bytes)) = some (some (.agg #[(.int .i64 0), (.int .i64 0), (.int .i64 0)]), 3, 24) := by kernel_rfl
-- the values' own types
/-! #### struct type 33 -/
abbrev S33 := Go.Proofs.YtfmhcgjmgaefcacDoor.T.Sq
def z33 : S33 := ⟨(0 : Int), (0 : Int), (0 : Int)⟩
def k33 : Kd S33 := Kd.iso (Kd.pair (Kd.int .i64) (Kd.pair (Kd.int .i64) (Kd.int .i64))) (fun x : S33 => (x.f0, x.f1, x.f2))
theorem k33_open {w : World} {x : S33} {cs : List Value} (h : k33.K w x cs) : cs = [.int .i64 x.f0, .int .i64 x.f1, .int .i64 x.f2] := by
  obtain ⟨_, _, rfl, rfl, ⟨_, _, rfl, rfl, rfl⟩⟩ := h
  exact rfl
theorem k33_openM {w : World} {base : Nat} {ok : Nat → Prop} {x : S33} {cs : List Value} (h : k33.M w base ok x cs) : cs = [.int .i64 x.f0, .int .i64 x.f1, .int .i64 x.f2] := by
  obtain ⟨_, _, rfl, rfl, ⟨_, _, rfl, rfl, rfl⟩⟩ := h
  exact rfl
theorem k33_mk (w : World) (x : S33)  : k33.K w x [.int .i64 x.f0, .int .i64 x.f1, .int .i64 x.f2] := ⟨[.int .i64 x.f0], [.int .i64 x.f1, .int .i64 x.f2], rfl, rfl, ⟨[.int .i64 x.f1], [.int .i64 x.f2], rfl, rfl, rfl⟩⟩
theorem k33_mkM (w : World) (base : Nat) (ok : Nat → Prop) (x : S33)  : k33.M w base ok x [.int .i64 x.f0, .int .i64 x.f1, .int .i64 x.f2] := ⟨[.int .i64 x.f0], [.int .i64 x.f1, .int .i64 x.f2], rfl, rfl, ⟨[.int .i64 x.f1], [.int .i64 x.f2], rfl, rfl, rfl⟩⟩
def rd_T33 (xs : List S33) (i : Int) : S33 := xs.getD i.toNat z33
theorem at_T33 {w : World} {A : Option Addr} {n : Nat} {xs : List S33} (h : Kd.C k33 w A n xs) (i : Int) (h0 : 0 ≤ i) (h1 : i < n) : ∃ ad , A = some ad ∧ w.cell? (ad.add (i.toNat * 3)) = some (.int .i64 (rd_T33 xs i).f0) ∧ w.cell? ⟨(ad.add (i.toNat * 3)).block, (ad.add (i.toNat * 3)).off + 1, none⟩ = some (.int .i64 (rd_T33 xs i).f1) ∧ w.cell? ⟨(ad.add (i.toNat * 3)).block, (ad.add (i.toNat * 3)).off + 2, none⟩ = some (.int .i64 (rd_T33 xs i).f2) := by
  obtain ⟨ad, c, e, _, hK, hc0⟩ := Kd.C_get h z33 i h0 h1
  have hc : ∀ j u, c[j]? = some u → w.cell? (ad.add (i.toNat * 3 + j)) = some u := hc0
  obtain rfl := k33_open hK
  exact ⟨ad, e, hc 0 _ rfl, by rw [← add_field _ _ 1 (by omega)]; exact hc 1 _ rfl, by rw [← add_field _ _ 2 (by omega)]; exact hc 2 _ rfl⟩

end Go.Proofs.YtfmhcgjmgaefcacDoor.P

namespace Go.Proofs.YtfmhcgjmgaefcacDoor.P
open Go.RowKit Go.Proofs.YtfmhcgjmgaefcacDoorW.PrintWords Go.Proofs.YtfmhcgjmgaefcacDoorW.PrintLast Go.Proofs.YtfmhcgjmgaefcacDoorW.PrintMore
attribute [local go_sem] max2_int min2_int max_two min_two max_three min_three max_four min_four
set_option linter.unusedVariables false
set_option linter.unusedSimpArgs false

/-! ### spec_raWord: function 6 -/
def spec_raWord.l0 : Nat → ByteArray → Int → Option (Bool)
  | 0, _, _ => none
  | k + 1, x0, x3 => if x3 < (x0.size : Int) then (if 0 ≤ x3 then (if (bt x0 x3) = 98 then (spec_raWord.l0 k x0 (wrap64 (x3 + 1))) else (if (bt x0 x3) = 117 then (spec_raWord.l0 k x0 (wrap64 (x3 + 1))) else (some false))) else (none)) else (some true)
def spec_raWord.f (k : Nat) (a0 : ByteArray) : Option (Bool) := if (a0.size : Int) > 20 then (some false) else (spec_raWord.l0 k a0 0)
theorem spec_raWord.mono_l : ∀ k, (∀ y0 y1, LeO (spec_raWord.l0 k y0 y1) (spec_raWord.l0 (k + 1) y0 y1))
  | 0 => fun _ _ r h => by simp [spec_raWord.l0] at h
  | k + 1 => by
    have ih0 := spec_raWord.mono_l k
    · intro y0 y1
      unfold spec_raWord.l0
      repeat' first
      | (with_reducible exact ih0 _ _)
      | (with_reducible exact LeO.refl _)
      | (with_reducible exact LeO.none _)
      | (with_reducible refine LeO.ite ?_ ?_)
      | (with_reducible refine LeO.bind ?_ (fun _ => ?_))
      | exact ih0 _ _
      | exact LeO.none _
      | refine LeO.ite ?_ ?_
      | refine LeO.bind ?_ (fun _ => ?_)
theorem spec_raWord.mono : ∀ a0 k, LeO (spec_raWord.f k a0) (spec_raWord.f (k + 1) a0) := by
  intro a0 k
  have ih0 := spec_raWord.mono_l k
  unfold spec_raWord.f
  repeat' first
      | (with_reducible exact ih0 _ _)
      | (with_reducible exact LeO.refl _)
      | (with_reducible exact LeO.none _)
      | (with_reducible refine LeO.ite ?_ ?_)
      | (with_reducible refine LeO.bind ?_ (fun _ => ?_))
      | exact ih0 _ _
      | exact LeO.none _
      | refine LeO.ite ?_ ?_
      | refine LeO.bind ?_ (fun _ => ?_)
set_option maxHeartbeats 8000000 in
set_option maxRecDepth 100000 in
theorem spec_raWord.calls (k : Nat) (a0 : ByteArray) (r : Bool) (w : World) (h : spec_raWord.f k a0 = some r) :
    Calls Tryd.prog 6 #[.string a0] w fun e w' => e = .returned (.bool r) ∧ Drawn0 w w' := by
  have H : (if (a0.size : Int) > 20 then (some false) else (spec_raWord.l0 k a0 0)) = some r := h
  clear h
  by_cases c2 : (a0.size : Int) > 20
  · rw [if_pos c2] at H
    have c2b0 : decide (20 < (a0.size : Int)) = true := decide_eq_true c2
    have c2b1 : decide (20 < a0.size) = true := decide_eq_true (by omega)
    clear c2
    obtain rfl := Option.some.inj H
    go_enter Tryd.func6, Tryd.ntmps6
    go_wp2
    go_ret
    exact ⟨by first | rfl | (simp; done) | (simp [*]; done), by repeat (first | exact Drawn0.refl _ | apply Drawn0.step)⟩
  · rw [if_neg c2] at H
    have c2b0 : decide (20 < (a0.size : Int)) = false := decide_eq_false c2
    have c2b1 : decide (20 < a0.size) = false := decide_eq_false (by omega)
    clear c2
    have H' := Aside0.mk H
    clear H
    go_enter Tryd.func6, Tryd.ntmps6
    go_wp2
    go_loopg [3] k (fun kq v3 w' => ∃ (x3_1 : Int), v3 = .int .i64 x3_1 ∧ Aside0 (spec_raWord.l0 kq a0 x3_1 = some r) ∧ Aside0 (kq ≤ k) ∧ Drawn0 w w')
    case atStart => exact ⟨(0), (by first | rfl | (simp; done) | (simp [*]; done)), H', ⟨Nat.le_refl _⟩, by repeat (first | exact Drawn0.refl _ | apply Drawn0.step)⟩
    case round =>
      clear H'
      try clear c2
      try clear c2b0
      try clear c2b1
      try clear p2
      obtain ⟨x3_1, rfl, HA, HK1, ⟨m1, rfl⟩⟩ := hrel
      cases gk with
      | zero => exact absurd HA.out (by simp [spec_raWord.l0])
      | succ k1 =>
        have H := HA.out
        clear HA
        simp only [spec_raWord.l0] at H
        by_cases c3 : x3_1 < (a0.size : Int)
        · rw [if_pos c3] at H
          have c3b0 : decide (x3_1 < (a0.size : Int)) = true := decide_eq_true c3
          clear c3
          by_cases c4 : 0 ≤ x3_1
          · rw [if_pos c4] at H
            have c4b0 : decide (0 ≤ x3_1) = true := decide_eq_true c4
            clear c4
            by_cases c6 : (bt a0 x3_1) = 98
            · rw [if_pos c6] at H
              have c6b0 : ((bt a0 x3_1) == 98) = true := beq_iff_eq.mpr c6
              have c6b1 : ((bt a0 x3_1) != 98) = false := bne_eq_false_iff_eq.mpr c6
              clear c6
              have H' := Aside0.mk H
              clear H
              have p5 : 0 ≤ (x3_1 : Int) := of_decide_eq_true (by first | (with_reducible assumption) | assumption)
              have q5 : x3_1 < (a0.size : Int) := of_decide_eq_true (by first | (with_reducible assumption) | assumption)
              have hx5 := bt_at a0 x3_1
              replace p5 := eq_true p5
              replace q5 := eq_true q5
              go_wp2
              go_roundg k1
              case measure => have := HK1.out; omega
              case rel => exact ⟨(wrap64 (x3_1 + 1)), (by first | rfl | (simp; done) | (simp [*]; done)), H', ⟨by have := HK1.out; omega⟩, by repeat (first | exact Drawn0.refl _ | apply Drawn0.step)⟩
            · rw [if_neg c6] at H
              have c6b0 : ((bt a0 x3_1) == 98) = false := beq_eq_false_iff_ne.mpr c6
              have c6b1 : ((bt a0 x3_1) != 98) = true := bne_iff_ne.mpr c6
              by_cases c8 : (bt a0 x3_1) = 117
              · rw [if_pos c8] at H
                have c8b0 : ((bt a0 x3_1) == 117) = true := beq_iff_eq.mpr c8
                have c8b1 : ((bt a0 x3_1) != 117) = false := bne_eq_false_iff_eq.mpr c8
                clear c8
                have H' := Aside0.mk H
                clear H
                have p5 : 0 ≤ (x3_1 : Int) := of_decide_eq_true (by first | (with_reducible assumption) | assumption)
                have q5 : x3_1 < (a0.size : Int) := of_decide_eq_true (by first | (with_reducible assumption) | assumption)
                have hx5 := bt_at a0 x3_1
                replace p5 := eq_true p5
                replace q5 := eq_true q5
                have p7 : 0 ≤ (x3_1 : Int) := of_decide_eq_true (by first | (with_reducible assumption) | assumption)
                have q7 : x3_1 < (a0.size : Int) := of_decide_eq_true (by first | (with_reducible assumption) | assumption)
                have hx7 := bt_at a0 x3_1
                replace p7 := eq_true p7
                replace q7 := eq_true q7
                go_wp2
                go_roundg k1
                case measure => have := HK1.out; omega
                case rel => exact ⟨(wrap64 (x3_1 + 1)), (by first | rfl | (simp; done) | (simp [*]; done)), H', ⟨by have := HK1.out; omega⟩, by repeat (first | exact Drawn0.refl _ | apply Drawn0.step)⟩
              · rw [if_neg c8] at H
                have c8b0 : ((bt a0 x3_1) == 117) = false := beq_eq_false_iff_ne.mpr c8
                have c8b1 : ((bt a0 x3_1) != 117) = true := bne_iff_ne.mpr c8
                obtain rfl := Option.some.inj H
                have p5 : 0 ≤ (x3_1 : Int) := of_decide_eq_true (by first | (with_reducible assumption) | assumption)
                have q5 : x3_1 < (a0.size : Int) := of_decide_eq_true (by first | (with_reducible assumption) | assumption)
                have hx5 := bt_at a0 x3_1
                replace p5 := eq_true p5
                replace q5 := eq_true q5
                have p7 : 0 ≤ (x3_1 : Int) := of_decide_eq_true (by first | (with_reducible assumption) | assumption)
                have q7 : x3_1 < (a0.size : Int) := of_decide_eq_true (by first | (with_reducible assumption) | assumption)
                have hx7 := bt_at a0 x3_1
                replace p7 := eq_true p7
                replace q7 := eq_true q7
                go_wp2
                go_ret
                exact ⟨by first | rfl | (simp; done) | (simp [*]; done), by repeat (first | exact Drawn0.refl _ | apply Drawn0.step)⟩
          · rw [if_neg c4] at H
            exact absurd H (by simp)
        · rw [if_neg c3] at H
          have c3b0 : decide (x3_1 < (a0.size : Int)) = false := decide_eq_false c3
          clear c3
          obtain rfl := Option.some.inj H
          go_wp2
          go_ret
          exact ⟨by first | rfl | (simp; done) | (simp [*]; done), by repeat (first | exact Drawn0.refl _ | apply Drawn0.step)⟩

end Go.Proofs.YtfmhcgjmgaefcacDoor.P

namespace Go.Proofs.YtfmhcgjmgaefcacDoor.P
open Go.RowKit Go.Proofs.YtfmhcgjmgaefcacDoorW.PrintWords Go.Proofs.YtfmhcgjmgaefcacDoorW.PrintLast Go.Proofs.YtfmhcgjmgaefcacDoorW.PrintMore
attribute [local go_sem] max2_int min2_int max_two min_two max_three min_three max_four min_four
set_option linter.unusedVariables false
set_option linter.unusedSimpArgs false

/-! ### spec_raRatio: function 7 -/
def spec_raRatio.l0 : Nat → ByteArray → Int → Int → Int → Option (Int × Int)
  | 0, _, _, _, _ => none
  | k + 1, x0, x4, x5, x6 => if x6 < (x0.size : Int) then (if 0 ≤ x6 then (if (bt x0 x6) = 98 then (spec_raRatio.l0 k x0 (wrap64 (x4 + x5)) x5 (wrap64 (x6 + 1))) else (spec_raRatio.l0 k x0 x4 (wrap64 (x5 + x4)) (wrap64 (x6 + 1)))) else (none)) else (some (x4, x5))
def spec_raRatio.f (k : Nat) (a0 : ByteArray) : Option (Int × Int) := spec_raRatio.l0 k a0 1 1 0
theorem spec_raRatio.mono_l : ∀ k, (∀ y0 y1 y2 y3, LeO (spec_raRatio.l0 k y0 y1 y2 y3) (spec_raRatio.l0 (k + 1) y0 y1 y2 y3))
  | 0 => fun _ _ _ _ r h => by simp [spec_raRatio.l0] at h
  | k + 1 => by
    have ih0 := spec_raRatio.mono_l k
    · intro y0 y1 y2 y3
      unfold spec_raRatio.l0
      repeat' first
      | (with_reducible exact ih0 _ _ _ _)
      | (with_reducible exact LeO.refl _)
      | (with_reducible exact LeO.none _)
      | (with_reducible refine LeO.ite ?_ ?_)
      | (with_reducible refine LeO.bind ?_ (fun _ => ?_))
      | exact ih0 _ _ _ _
      | exact LeO.none _
      | refine LeO.ite ?_ ?_
      | refine LeO.bind ?_ (fun _ => ?_)
theorem spec_raRatio.mono : ∀ a0 k, LeO (spec_raRatio.f k a0) (spec_raRatio.f (k + 1) a0) := by
  intro a0 k
  have ih0 := spec_raRatio.mono_l k
  unfold spec_raRatio.f
  repeat' first
      | (with_reducible exact ih0 _ _ _ _)
      | (with_reducible exact LeO.refl _)
      | (with_reducible exact LeO.none _)
      | (with_reducible refine LeO.ite ?_ ?_)
      | (with_reducible refine LeO.bind ?_ (fun _ => ?_))
      | exact ih0 _ _ _ _
      | exact LeO.none _
      | refine LeO.ite ?_ ?_
      | refine LeO.bind ?_ (fun _ => ?_)
set_option maxHeartbeats 8000000 in
set_option maxRecDepth 100000 in
theorem spec_raRatio.calls (k : Nat) (a0 : ByteArray) (r1 : Int) (r2 : Int) (w : World) (h : spec_raRatio.f k a0 = some (r1, r2)) :
    Calls Tryd.prog 7 #[.string a0] w fun e w' => e = .returned (.tuple #[.int .i64 r1, .int .i64 r2]) ∧ Drawn0 w w' := by
  have H : (spec_raRatio.l0 k a0 1 1 0) = some (r1, r2) := h
  clear h
  have H' := Aside0.mk H
  clear H
  go_enter Tryd.func7, Tryd.ntmps7
  go_wp2
  go_loopg [4, 5, 6] k (fun kq v4 v5 v6 w' => ∃ (x4_1 : Int) (x5_1 : Int) (x6_1 : Int), v4 = .int .i64 x4_1 ∧ v5 = .int .i64 x5_1 ∧ v6 = .int .i64 x6_1 ∧ Aside0 (spec_raRatio.l0 kq a0 x4_1 x5_1 x6_1 = some (r1, r2)) ∧ Aside0 (kq ≤ k) ∧ Drawn0 w w')
  case atStart => exact ⟨(1), (1), (0), (by first | rfl | (simp; done) | (simp [*]; done)), (by first | rfl | (simp; done) | (simp [*]; done)), (by first | rfl | (simp; done) | (simp [*]; done)), H', ⟨Nat.le_refl _⟩, by repeat (first | exact Drawn0.refl _ | apply Drawn0.step)⟩
  case round =>
    clear H'
    obtain ⟨x4_1, x5_1, x6_1, rfl, rfl, rfl, HA, HK1, ⟨m1, rfl⟩⟩ := hrel
    cases gk with
    | zero => exact absurd HA.out (by simp [spec_raRatio.l0])
    | succ k1 =>
      have H := HA.out
      clear HA
      simp only [spec_raRatio.l0] at H
      by_cases c2 : x6_1 < (a0.size : Int)
      · rw [if_pos c2] at H
        have c2b0 : decide (x6_1 < (a0.size : Int)) = true := decide_eq_true c2
        clear c2
        by_cases c3 : 0 ≤ x6_1
        · rw [if_pos c3] at H
          have c3b0 : decide (0 ≤ x6_1) = true := decide_eq_true c3
          clear c3
          by_cases c5 : (bt a0 x6_1) = 98
          · rw [if_pos c5] at H
            have c5b0 : ((bt a0 x6_1) == 98) = true := beq_iff_eq.mpr c5
            have c5b1 : ((bt a0 x6_1) != 98) = false := bne_eq_false_iff_eq.mpr c5
            clear c5
            have H' := Aside0.mk H
            clear H
            have p4 : 0 ≤ (x6_1 : Int) := of_decide_eq_true (by first | (with_reducible assumption) | assumption)
            have q4 : x6_1 < (a0.size : Int) := of_decide_eq_true (by first | (with_reducible assumption) | assumption)
            have hx4 := bt_at a0 x6_1
            replace p4 := eq_true p4
            replace q4 := eq_true q4
            go_wp2
            go_roundg k1
            case measure => have := HK1.out; omega
            case rel => exact ⟨(wrap64 (x4_1 + x5_1)), (x5_1), (wrap64 (x6_1 + 1)), (by first | rfl | (simp; done) | (simp [*]; done)), (by first | rfl | (simp; done) | (simp [*]; done)), (by first | rfl | (simp; done) | (simp [*]; done)), H', ⟨by have := HK1.out; omega⟩, by repeat (first | exact Drawn0.refl _ | apply Drawn0.step)⟩
          · rw [if_neg c5] at H
            have c5b0 : ((bt a0 x6_1) == 98) = false := beq_eq_false_iff_ne.mpr c5
            have c5b1 : ((bt a0 x6_1) != 98) = true := bne_iff_ne.mpr c5
            have H' := Aside0.mk H
            clear H
            have p4 : 0 ≤ (x6_1 : Int) := of_decide_eq_true (by first | (with_reducible assumption) | assumption)
            have q4 : x6_1 < (a0.size : Int) := of_decide_eq_true (by first | (with_reducible assumption) | assumption)
            have hx4 := bt_at a0 x6_1
            replace p4 := eq_true p4
            replace q4 := eq_true q4
            go_wp2
            go_roundg k1
            case measure => have := HK1.out; omega
            case rel => exact ⟨(x4_1), (wrap64 (x5_1 + x4_1)), (wrap64 (x6_1 + 1)), (by first | rfl | (simp; done) | (simp [*]; done)), (by first | rfl | (simp; done) | (simp [*]; done)), (by first | rfl | (simp; done) | (simp [*]; done)), H', ⟨by have := HK1.out; omega⟩, by repeat (first | exact Drawn0.refl _ | apply Drawn0.step)⟩
        · rw [if_neg c3] at H
          exact absurd H (by simp)
      · rw [if_neg c2] at H
        have c2b0 : decide (x6_1 < (a0.size : Int)) = false := decide_eq_false c2
        clear c2
        simp only [Option.some.injEq, Prod.mk.injEq] at H
        obtain ⟨rfl, rfl⟩ := H
        go_wp2
        go_ret2
        exact ⟨by first | rfl | (simp; done) | (simp [*]; done), by repeat (first | exact Drawn0.refl _ | apply Drawn0.step)⟩

end Go.Proofs.YtfmhcgjmgaefcacDoor.P

namespace Go.Proofs.YtfmhcgjmgaefcacDoor.P
open Go.RowKit Go.Proofs.YtfmhcgjmgaefcacDoorW.PrintWords Go.Proofs.YtfmhcgjmgaefcacDoorW.PrintLast Go.Proofs.YtfmhcgjmgaefcacDoorW.PrintMore
attribute [local go_sem] max2_int min2_int max_two min_two max_three min_three max_four min_four
set_option linter.unusedVariables false
set_option linter.unusedSimpArgs false

/-! ### spec_l1In: function 12 -/
def spec_l1In.f (a0 : Int) (a1 : Int) (a2 : Int) : Option (Bool) := if a0 ≥ a1 then (some (decide (a0 ≤ a2))) else (some false)
set_option maxHeartbeats 8000000 in
set_option maxRecDepth 100000 in
theorem spec_l1In.calls (a0 : Int) (a1 : Int) (a2 : Int) (r : Bool) (w : World) (h : spec_l1In.f a0 a1 a2 = some r) :
    Calls Tryd.prog 12 #[.int .i64 a0, .int .i64 a1, .int .i64 a2] w fun e w' => e = .returned (.bool r) ∧ Drawn0 w w' := by
  have H : (if a0 ≥ a1 then (some (decide (a0 ≤ a2))) else (some false)) = some r := h
  clear h
  by_cases c4 : a0 ≥ a1
  · rw [if_pos c4] at H
    have c4b0 : decide (a1 ≤ a0) = true := decide_eq_true c4
    clear c4
    obtain rfl := Option.some.inj H
    go_enter Tryd.func12, Tryd.ntmps12
    go_wp2
    go_ret
    exact ⟨by first | rfl | (simp; done) | (simp [*]; done), by repeat (first | exact Drawn0.refl _ | apply Drawn0.step)⟩
  · rw [if_neg c4] at H
    have c4b0 : decide (a1 ≤ a0) = false := decide_eq_false c4
    clear c4
    obtain rfl := Option.some.inj H
    go_enter Tryd.func12, Tryd.ntmps12
    go_wp2
    go_ret
    exact ⟨by first | rfl | (simp; done) | (simp [*]; done), by repeat (first | exact Drawn0.refl _ | apply Drawn0.step)⟩

end Go.Proofs.YtfmhcgjmgaefcacDoor.P

namespace Go.Proofs.YtfmhcgjmgaefcacDoor.P
open Go.RowKit Go.Proofs.YtfmhcgjmgaefcacDoorW.PrintWords Go.Proofs.YtfmhcgjmgaefcacDoorW.PrintLast Go.Proofs.YtfmhcgjmgaefcacDoorW.PrintMore
attribute [local go_sem] max2_int min2_int max_two min_two max_three min_three max_four min_four
set_option linter.unusedVariables false
set_option linter.unusedSimpArgs false

/-! ### spec_raGood: function 8 -/
def spec_raGood.f (a0 : Int) (a1 : Int) : Option (Bool) := (spec_l1In.f a0 1 1000).bind fun t101 => (if t101 = true then ((spec_l1In.f a1 1 1000).bind fun t102 => (some t102)) else (some false))
set_option maxHeartbeats 8000000 in
set_option maxRecDepth 100000 in
theorem spec_raGood.calls (a0 : Int) (a1 : Int) (r : Bool) (w : World) (h : spec_raGood.f a0 a1 = some r) :
    Calls Tryd.prog 8 #[.int .i64 a0, .int .i64 a1] w fun e w' => e = .returned (.bool r) ∧ Drawn0 w w' := by
  have H : ((spec_l1In.f a0 1 1000).bind fun t101 => (if t101 = true then ((spec_l1In.f a1 1 1000).bind fun t102 => (some t102)) else (some false))) = some r := h
  clear h
  replace H := Option.bind_eq_some_iff.mp H
  obtain ⟨t101, A30, H⟩ := H
  replace H : (if t101 = true then ((spec_l1In.f a1 1 1000).bind fun t102 => (some t102)) else (some false)) = some r := H
  have A3 := Aside0.mk A30
  clear A30
  by_cases c4 : t101 = true
  · subst c4
    have H1 : ((spec_l1In.f a1 1 1000).bind fun t102 => (some t102)) = some r := by rw [if_pos rfl] at H; exact H
    clear H
    have H := H1
    clear H1
    replace H := Option.bind_eq_some_iff.mp H
    obtain ⟨t102, A50, H⟩ := H
    replace H : (some t102) = some r := H
    have A5 := Aside0.mk A50
    clear A50
    obtain rfl := Option.some.inj H
    go_enter Tryd.func8, Tryd.ntmps8
    go_wp2_with (first | ((with_reducible refine gate_callee (f := 12) rfl ?_); refine goesL_ (some 6) rfl rfl Tryd.func12 (by kernel_rfl) rfl #[.int .i64 a0, .int .i64 1, .int .i64 1000] rfl (by (try simp only [List.map_toArray, List.map_cons, List.map_nil]); first | done | rfl | (simp only [List.length_drop, List.length_take]; rfl)) ?_; (with_reducible refine (spec_l1In.calls a0 1 1000 true _ A3.out).mono ?_); rintro e w' ⟨rfl, ⟨nd, rfl⟩⟩; refine ⟨_, rfl, ?_⟩) | (go_at_call 12; (with_reducible refine (spec_l1In.calls a1 1 1000 t102 _ A5.out).mono ?_); rintro e w' ⟨rfl, ⟨nd, rfl⟩⟩))
    go_ret
    exact ⟨by first | rfl | (simp; done) | (simp [*]; done), by repeat (first | exact Drawn0.refl _ | apply Drawn0.step)⟩
  · replace c4 := Bool.eq_false_iff.mpr c4
    subst c4
    have H1 : (some false) = some r := by rw [if_neg (show ¬ (false = true) by decide)] at H; exact H
    clear H
    have H := H1
    clear H1
    obtain rfl := Option.some.inj H
    go_enter Tryd.func8, Tryd.ntmps8
    go_wp2_with (first | ((with_reducible refine gate_callee (f := 12) rfl ?_); refine goesL_ (some 6) rfl rfl Tryd.func12 (by kernel_rfl) rfl #[.int .i64 a0, .int .i64 1, .int .i64 1000] rfl (by (try simp only [List.map_toArray, List.map_cons, List.map_nil]); first | done | rfl | (simp only [List.length_drop, List.length_take]; rfl)) ?_; (with_reducible refine (spec_l1In.calls a0 1 1000 false _ A3.out).mono ?_); rintro e w' ⟨rfl, ⟨nd, rfl⟩⟩; refine ⟨_, rfl, ?_⟩))
    go_ret
    exact ⟨by first | rfl | (simp; done) | (simp [*]; done), by repeat (first | exact Drawn0.refl _ | apply Drawn0.step)⟩

end Go.Proofs.YtfmhcgjmgaefcacDoor.P

namespace Go.Proofs.YtfmhcgjmgaefcacDoor.P
open Go.RowKit Go.Proofs.YtfmhcgjmgaefcacDoorW.PrintWords Go.Proofs.YtfmhcgjmgaefcacDoorW.PrintLast Go.Proofs.YtfmhcgjmgaefcacDoorW.PrintMore
attribute [local go_sem] max2_int min2_int max_two min_two max_three min_three max_four min_four
set_option linter.unusedVariables false
set_option linter.unusedSimpArgs false

/-! ### spec_RatioOfWord: function 4 -/
def spec_RatioOfWord.f (k : Nat) (a0 : ByteArray) : Option (Int × Int × Bool) := (spec_raWord.f k a0).bind fun t101 => (if t101 = true then ((spec_raRatio.f k a0).bind fun bt102 => ((spec_raGood.f bt102.1 bt102.2).bind fun t104 => (if t104 = true then (some (bt102.1, bt102.2, true)) else (some (0, 0, false))))) else (some (0, 0, false)))
theorem spec_RatioOfWord.mono : ∀ a0 k, LeO (spec_RatioOfWord.f k a0) (spec_RatioOfWord.f (k + 1) a0) := by
  intro a0 k
  unfold spec_RatioOfWord.f
  repeat' first
      | (with_reducible exact spec_raRatio.mono _ _)
      | (with_reducible exact spec_raWord.mono _ _)
      | (with_reducible exact LeO.refl _)
      | (with_reducible exact LeO.none _)
      | (with_reducible refine LeO.ite ?_ ?_)
      | (with_reducible refine LeO.bind ?_ (fun _ => ?_))
      | exact spec_raRatio.mono _ _
      | exact spec_raWord.mono _ _
      | exact LeO.none _
      | refine LeO.ite ?_ ?_
      | refine LeO.bind ?_ (fun _ => ?_)
set_option maxHeartbeats 8000000 in
set_option maxRecDepth 100000 in
theorem spec_RatioOfWord.calls (k : Nat) (a0 : ByteArray) (r1 : Int) (r2 : Int) (r3 : Bool) (w : World) (h : spec_RatioOfWord.f k a0 = some (r1, r2, r3)) :
    Calls Tryd.prog 4 #[.string a0] w fun e w' => e = .returned (.tuple #[.int .i64 r1, .int .i64 r2, .bool r3]) ∧ Drawn0 w w' := by
  have H : ((spec_raWord.f k a0).bind fun t101 => (if t101 = true then ((spec_raRatio.f k a0).bind fun bt102 => ((spec_raGood.f bt102.1 bt102.2).bind fun t104 => (if t104 = true then (some (bt102.1, bt102.2, true)) else (some (0, 0, false))))) else (some (0, 0, false)))) = some (r1, r2, r3) := h
  clear h
  replace H := Option.bind_eq_some_iff.mp H
  obtain ⟨t101, A20, H⟩ := H
  replace H : (if t101 = true then ((spec_raRatio.f k a0).bind fun bt102 => ((spec_raGood.f bt102.1 bt102.2).bind fun t104 => (if t104 = true then (some (bt102.1, bt102.2, true)) else (some (0, 0, false))))) else (some (0, 0, false))) = some (r1, r2, r3) := H
  have A2 := Aside0.mk A20
  clear A20
  by_cases c3 : t101 = true
  · subst c3
    have H1 : ((spec_raRatio.f k a0).bind fun bt102 => ((spec_raGood.f bt102.1 bt102.2).bind fun t104 => (if t104 = true then (some (bt102.1, bt102.2, true)) else (some (0, 0, false))))) = some (r1, r2, r3) := by rw [if_pos rfl] at H; exact H
    clear H
    have H := H1
    clear H1
    replace H := Option.bind_eq_some_iff.mp H
    obtain ⟨⟨t102, t103⟩, A40, H⟩ := H
    replace H : ((spec_raGood.f t102 t103).bind fun t104 => (if t104 = true then (some (t102, t103, true)) else (some (0, 0, false)))) = some (r1, r2, r3) := H
    have A4 := Aside0.mk A40
    clear A40
    replace H := Option.bind_eq_some_iff.mp H
    obtain ⟨t104, A50, H⟩ := H
    replace H : (if t104 = true then (some (t102, t103, true)) else (some (0, 0, false))) = some (r1, r2, r3) := H
    have A5 := Aside0.mk A50
    clear A50
    by_cases c6 : t104 = true
    · subst c6
      have H1 : (some (t102, t103, true)) = some (r1, r2, r3) := by rw [if_pos rfl] at H; exact H
      clear H
      have H := H1
      clear H1
      simp only [Option.some.injEq, Prod.mk.injEq] at H
      obtain ⟨rfl, rfl, rfl⟩ := H
      go_enter Tryd.func4, Tryd.ntmps4
      go_wp2_with (first | ((with_reducible refine gate_callee (f := 6) rfl ?_); refine goesL_ (some 8) rfl rfl Tryd.func6 (by kernel_rfl) rfl #[.string a0] rfl (by (try simp only [List.map_toArray, List.map_cons, List.map_nil]); first | done | rfl | (simp only [List.length_drop, List.length_take]; rfl)) ?_; (with_reducible refine (spec_raWord.calls k a0 true _ A2.out).mono ?_); rintro e w' ⟨rfl, ⟨nd, rfl⟩⟩; refine ⟨_, rfl, ?_⟩) | ((with_reducible refine gate_callee (f := 7) rfl ?_); refine goesL_ (some 12) rfl rfl Tryd.func7 (by kernel_rfl) rfl #[.string a0] rfl (by (try simp only [List.map_toArray, List.map_cons, List.map_nil]); first | done | rfl | (simp only [List.length_drop, List.length_take]; rfl)) ?_; (with_reducible refine (spec_raRatio.calls k a0 t102 t103 _ A4.out).mono ?_); rintro e w' ⟨rfl, ⟨nd, rfl⟩⟩; refine ⟨_, rfl, ?_⟩) | ((with_reducible refine gate_callee (f := 8) rfl ?_); refine goesL_ (some 17) rfl rfl Tryd.func8 (by kernel_rfl) rfl #[.int .i64 t102, .int .i64 t103] rfl (by (try simp only [List.map_toArray, List.map_cons, List.map_nil]); first | done | rfl | (simp only [List.length_drop, List.length_take]; rfl)) ?_; (with_reducible refine (spec_raGood.calls t102 t103 true _ A5.out).mono ?_); rintro e w' ⟨rfl, ⟨nd, rfl⟩⟩; refine ⟨_, rfl, ?_⟩))
      go_ret3
      exact ⟨by first | rfl | (simp; done) | (simp [*]; done), by repeat (first | exact Drawn0.refl _ | apply Drawn0.step)⟩
    · replace c6 := Bool.eq_false_iff.mpr c6
      subst c6
      have H1 : (some (0, 0, false)) = some (r1, r2, r3) := by rw [if_neg (show ¬ (false = true) by decide)] at H; exact H
      clear H
      have H := H1
      clear H1
      simp only [Option.some.injEq, Prod.mk.injEq] at H
      obtain ⟨rfl, rfl, rfl⟩ := H
      go_enter Tryd.func4, Tryd.ntmps4
      go_wp2_with (first | ((with_reducible refine gate_callee (f := 6) rfl ?_); refine goesL_ (some 8) rfl rfl Tryd.func6 (by kernel_rfl) rfl #[.string a0] rfl (by (try simp only [List.map_toArray, List.map_cons, List.map_nil]); first | done | rfl | (simp only [List.length_drop, List.length_take]; rfl)) ?_; (with_reducible refine (spec_raWord.calls k a0 true _ A2.out).mono ?_); rintro e w' ⟨rfl, ⟨nd, rfl⟩⟩; refine ⟨_, rfl, ?_⟩) | ((with_reducible refine gate_callee (f := 7) rfl ?_); refine goesL_ (some 12) rfl rfl Tryd.func7 (by kernel_rfl) rfl #[.string a0] rfl (by (try simp only [List.map_toArray, List.map_cons, List.map_nil]); first | done | rfl | (simp only [List.length_drop, List.length_take]; rfl)) ?_; (with_reducible refine (spec_raRatio.calls k a0 t102 t103 _ A4.out).mono ?_); rintro e w' ⟨rfl, ⟨nd, rfl⟩⟩; refine ⟨_, rfl, ?_⟩) | ((with_reducible refine gate_callee (f := 8) rfl ?_); refine goesL_ (some 17) rfl rfl Tryd.func8 (by kernel_rfl) rfl #[.int .i64 t102, .int .i64 t103] rfl (by (try simp only [List.map_toArray, List.map_cons, List.map_nil]); first | done | rfl | (simp only [List.length_drop, List.length_take]; rfl)) ?_; (with_reducible refine (spec_raGood.calls t102 t103 false _ A5.out).mono ?_); rintro e w' ⟨rfl, ⟨nd, rfl⟩⟩; refine ⟨_, rfl, ?_⟩))
      go_ret3
      exact ⟨by first | rfl | (simp; done) | (simp [*]; done), by repeat (first | exact Drawn0.refl _ | apply Drawn0.step)⟩
  · replace c3 := Bool.eq_false_iff.mpr c3
    subst c3
    have H1 : (some (0, 0, false)) = some (r1, r2, r3) := by rw [if_neg (show ¬ (false = true) by decide)] at H; exact H
    clear H
    have H := H1
    clear H1
    simp only [Option.some.injEq, Prod.mk.injEq] at H
    obtain ⟨rfl, rfl, rfl⟩ := H
    go_enter Tryd.func4, Tryd.ntmps4
    go_wp2_with (first | ((with_reducible refine gate_callee (f := 6) rfl ?_); refine goesL_ (some 8) rfl rfl Tryd.func6 (by kernel_rfl) rfl #[.string a0] rfl (by (try simp only [List.map_toArray, List.map_cons, List.map_nil]); first | done | rfl | (simp only [List.length_drop, List.length_take]; rfl)) ?_; (with_reducible refine (spec_raWord.calls k a0 false _ A2.out).mono ?_); rintro e w' ⟨rfl, ⟨nd, rfl⟩⟩; refine ⟨_, rfl, ?_⟩))
    go_ret3
    exact ⟨by first | rfl | (simp; done) | (simp [*]; done), by repeat (first | exact Drawn0.refl _ | apply Drawn0.step)⟩

end Go.Proofs.YtfmhcgjmgaefcacDoor.P

namespace Go.Proofs.YtfmhcgjmgaefcacDoor.P
open Go.RowKit Go.Proofs.YtfmhcgjmgaefcacDoorW.PrintWords Go.Proofs.YtfmhcgjmgaefcacDoorW.PrintLast Go.Proofs.YtfmhcgjmgaefcacDoorW.PrintMore
attribute [local go_sem] max2_int min2_int max_two min_two max_three min_three max_four min_four
set_option linter.unusedVariables false
set_option linter.unusedSimpArgs false

/-! ### impl_puts: function 9 -/
/-- the squares of a word as they are put: the width, the height, the squares -/
def putsL : List Int → Int → Int → List S33 → Int × Int × List S33
  | [], w, h, o => (w, h, o)
  | c :: l, w, h, o => if c = 98 then putsL l (wrap64 (w + h)) h (o ++ [⟨w, 0, h⟩]) else putsL l w (wrap64 (h + w)) (o ++ [⟨0, h, w⟩])
def impl_puts.f (a0 : ByteArray) : Option (Int × Int × List S33) := if a0.size ≤ 1000000000 then some (putsL (bytesOf a0) 1 1 [⟨0, 0, 1⟩]) else none
theorem putsL_drop (l : List Int) (i : Nat) (hi : i < l.length) (w h : Int) (o : List S33) : putsL (l.drop i) w h o = if l.getD i 0 = 98 then putsL (l.drop (i + 1)) (wrap64 (w + h)) h (o ++ [⟨w, 0, h⟩]) else putsL (l.drop (i + 1)) w (wrap64 (h + w)) (o ++ [⟨0, h, w⟩]) := by
  rw [List.drop_eq_getElem_cons hi]
  simp only [putsL, List.getD_eq_getElem?_getD, List.getElem?_eq_getElem hi, Option.getD_some]
set_option maxHeartbeats 2000000 in
theorem impl_puts.calls (a0 : ByteArray) (r1 : Int) (r2 : Int) (r3 : List S33) (w : World) (h : impl_puts.f a0 = some (r1, r2, r3)) :
    Calls Tryd.prog 9 #[.string a0] w fun e w' => ∃ v0_ : Value, e = .returned (.tuple #[.int .i64 r1, .int .i64 r2, v0_]) ∧ Kd.R k33 33 w' w.heap.size (fun _ => True) v0_ r3 ∧ Below w.heap.size w w' := by
  have hu0_ := Tryd.underlying33
  unfold impl_puts.f at h
  by_cases hs : a0.size ≤ 1000000000
  · rw [if_pos hs] at h
    have H1 := Aside0.mk (Option.some.inj h)
    clear h
    have kb := fun W => print_bytes (P := Tryd.prog) 9 34 5 Tryd.underlying9 Tryd.underlying34 Tryd.underlying5 a0 W
    have hL := Aside0.mk (bytesOf_length a0)
    go_enter Tryd.func9, Tryd.ntmps9
    go_wp2
    have hO1 : Kd.R k33 33 (w.alloc (.cells #[.int .i64 0, .int .i64 0, .int .i64 1] 33)) w.heap.size (fun _ => True) (.slice (some ⟨w.heap.size, 0, none⟩) 1 1) [⟨0, 0, 1⟩] :=
      ⟨fun _ _ => trivial, [.int .i64 0, .int .i64 0, .int .i64 1], World.ownsRow_lit (base := w.heap.size) (e := 33) (size := 3) w #[.int .i64 0, .int .i64 0, .int .i64 1] 1 (Nat.le_refl _) (by simp [maxLen]) (by simp), Reps.c3 (k33_mkM _ _ _ (⟨0, 0, 1⟩ : S33)) (Reps.none _ _)⟩
    have hS1 : w.heap.size + 1 = (w.alloc (.cells #[.int .i64 0, .int .i64 0, .int .i64 1] 33)).heap.size := by simp
    have hB1 : Below w.heap.size w (w.alloc (.cells #[.int .i64 0, .int .i64 0, .int .i64 1] 33)) := (Below.refl _ _).alloc (Nat.le_refl _) _
    rw [hS1]
    generalize (.slice (some ⟨w.heap.size, 0, none⟩) 1 1 : Value) = v7 at hO1 ⊢
    generalize w.alloc (.cells #[.int .i64 0, .int .i64 0, .int .i64 1] 33) = w1 at hO1 hB1 ⊢
    have HO := Aside0.mk hO1
    have HB := Aside0.mk hB1
    clear hO1 hB1 hS1
    have hcell : ∀ i, i < a0.size → (Lib.bytesWorld w1 5 a0).cell? ⟨w1.heap.size, i, none⟩ = some (.int .u8 ((bytesOf a0).getD i 0)) := fun i hi => by
      obtain ⟨ad, e, hh⟩ := (bytes_reads w1 5 a0 (by omega)).2.2 (by omega)
      injection e with e
      subst e
      have := hh i hi
      rwa [add_plain] at this
    have HBX := Aside0.mk (bytes_below HB.out HB.out.size 5 a0)
    have HX1 : Below w1.heap.size w1 (Lib.bytesWorld w1 5 a0) := bytes_below (Below.refl _ _) (Nat.le_refl _) 5 a0
    have hsz : w1.heap.size < (Lib.bytesWorld w1 5 a0).heap.size := by rw [Lib.bytesWorld_size]; omega
    obtain ⟨ob, hob⟩ : ∃ ob, (Lib.bytesWorld w1 5 a0).heap[w1.heap.size]? = some ob := ⟨_, Array.getElem?_eq_getElem hsz⟩
    have HOX := Aside0.mk (Kd.R_mono (Kd.R_below (Kd.R_bound HO.out) HX1) (ok' := fun k => k ≠ w1.heap.size) (fun k hk => by have := hk.2.2.1; omega))
    have HCELL : Aside0 (∀ X : World, X.heap[w1.heap.size]? = some ob → ∀ i, i < a0.size → X.cell? ⟨w1.heap.size, i, none⟩ = some (.int .u8 ((bytesOf a0).getD i 0))) := ⟨fun X hX i hi => by
      rw [← hcell i hi]
      exact World.cell?_of_block (hX.trans hob.symm)⟩
    have HOB := Aside0.mk hob
    clear HO HB HX1 hsz hcell hob
    generalize Lib.bytesWorld w1 5 a0 = X at HBX HOX HOB ⊢
    generalize w1.heap.size = gb at HOX HOB HCELL ⊢
    go_loopg [5, 6, 7, 9, 15] a0.size (fun kq v5 v6 v7 v9 v15 wc => ∃ (i : Nat) (x y : Int) (o : List S33), i ≤ a0.size ∧ a0.size - i ≤ kq ∧ v15 = .int .i64 i ∧ v5 = .int .i64 x ∧ v6 = .int .i64 y ∧ Aside0 (putsL ((bytesOf a0).drop i) x y o = (r1, r2, r3)) ∧ Aside0 (o.length ≤ i + 1) ∧ Aside0 (Kd.R k33 33 wc w.heap.size (fun k => k ≠ gb) v7 o) ∧ Aside0 (wc.heap[gb]? = some ob) ∧ Aside0 (Below w.heap.size w wc))
    case atStart => exact ⟨0, 1, 1, [⟨0, 0, 1⟩], by omega, by omega, rfl, rfl, rfl, H1, ⟨by simp⟩, HOX, HOB, HBX⟩
    case round =>
      clear H1 HOX HOB HBX
      obtain ⟨i, x, y, o, hi, hkq, rfl, rfl, rfl, H1, HLO, HO, HOB, HB⟩ := hrel
      by_cases hlt : i < a0.size
      · have hz : decide ((i : Int) < (a0.size : Int)) = true := by simp; omega
        have hcell := HCELL.out wr HOB.out i hlt
        have HN := Aside0.mk (putsL_drop (bytesOf a0) i (by rw [hL.out]; exact hlt) x y o)
        generalize (bytesOf a0).getD i 0 = c at hcell HN
        by_cases hc : c = 98
        · have hcb : (c == 98) = true := by simp [hc]
          have HCC := Aside0.mk hc
          clear hc
          go_wp2_with (first | ((with_reducible refine gate_builtin (b := .append) (xs := #[.tmp 21, .tmp 25]) rfl ?_); at_builtin; refine Kd.R_append k33 (w0 := w) w.heap.size rfl (.tmp 21) (.tmp 25) 28 33 (.agg #[(.int .i64 0), (.int .i64 0), (.int .i64 0)]) 24 rfl Tryd.underlying28 info33 rfl (by decide) (by omega) u7 o (⟨x, 0, y⟩ : S33) [.int .i64 x, .int .i64 0, .int .i64 y] (fun k => k ≠ gb) (fun _ => False) rfl rfl ?aP (fun _ hk => hk.elim) ?aF ?aO ?aB ?aS ?aL ?_; (case aP => exact k33_mkM _ _ _ (⟨x, 0, y⟩ : S33)); (case aB => exact (by repeat (first | (with_reducible first | exact HB.out | apply below_alloc | apply pw_below_drewN | apply below_drew1) | exact HB.out))); (case aF => exact (fun k hk => by have := blk_lt HOB.out; (try simp at hk); omega)); (case aO => exact (by (with_reducible repeat (first | apply Kd.R_alloc | apply Kd.R_drewN | apply Kd.R_drew)); exact HO.out)); (case aS => exact (below_size (by repeat (first | (with_reducible first | exact HB.out | apply below_alloc | apply pw_below_drewN | apply below_drew1) | exact HB.out)))); (case aL => have := HLO.out; omega); intro v71 w12 ho hb hg hat; have n0_ := Aside0.mk (blk_grown (g := gb) HOB.out hg (fun e => HO.out.1 gb e.symm rfl)); have n1_ := Aside0.mk hb; have n2_ := Aside0.mk ho; clear HOB HB HO ho hb hg hat; have HOB := n0_; have HB := n1_; have HO := n2_; clear n0_ n1_ n2_))
          go_roundg (a0.size - (i + 1))
          case measure => omega
          case rel => exact ⟨i + 1, wrap64 (x + y), y, o ++ [⟨x, 0, y⟩], by omega, by omega, by go_num, by first | trivial | rfl, by first | trivial | rfl, ⟨by rw [← H1.out, HN.out, if_pos HCC.out]⟩, ⟨by have := HLO.out; simp; omega⟩, HO, HOB, HB⟩
        · have hcb : (c == 98) = false := by simp [hc]
          have HCC := Aside0.mk hc
          clear hc
          go_wp2_with (first | ((with_reducible refine gate_builtin (b := .append) (xs := #[.tmp 30, .tmp 34]) rfl ?_); at_builtin; refine Kd.R_append k33 (w0 := w) w.heap.size rfl (.tmp 30) (.tmp 34) 28 33 (.agg #[(.int .i64 0), (.int .i64 0), (.int .i64 0)]) 24 rfl Tryd.underlying28 info33 rfl (by decide) (by omega) u7 o (⟨0, y, x⟩ : S33) [.int .i64 0, .int .i64 y, .int .i64 x] (fun k => k ≠ gb) (fun _ => False) rfl rfl ?aP (fun _ hk => hk.elim) ?aF ?aO ?aB ?aS ?aL ?_; (case aP => exact k33_mkM _ _ _ (⟨0, y, x⟩ : S33)); (case aB => exact (by repeat (first | (with_reducible first | exact HB.out | apply below_alloc | apply pw_below_drewN | apply below_drew1) | exact HB.out))); (case aF => exact (fun k hk => by have := blk_lt HOB.out; (try simp at hk); omega)); (case aO => exact (by (with_reducible repeat (first | apply Kd.R_alloc | apply Kd.R_drewN | apply Kd.R_drew)); exact HO.out)); (case aS => exact (below_size (by repeat (first | (with_reducible first | exact HB.out | apply below_alloc | apply pw_below_drewN | apply below_drew1) | exact HB.out)))); (case aL => have := HLO.out; omega); intro v71 w12 ho hb hg hat; have n0_ := Aside0.mk (blk_grown (g := gb) HOB.out hg (fun e => HO.out.1 gb e.symm rfl)); have n1_ := Aside0.mk hb; have n2_ := Aside0.mk ho; clear HOB HB HO ho hb hg hat; have HOB := n0_; have HB := n1_; have HO := n2_; clear n0_ n1_ n2_))
          go_roundg (a0.size - (i + 1))
          case measure => omega
          case rel => exact ⟨i + 1, x, wrap64 (y + x), o ++ [⟨0, y, x⟩], by omega, by omega, by go_num, by first | trivial | rfl, by first | trivial | rfl, ⟨by rw [← H1.out, HN.out, if_neg HCC.out]⟩, ⟨by have := HLO.out; simp; omega⟩, HO, HOB, HB⟩
      · have hz : decide ((i : Int) < (a0.size : Int)) = false := by simp; omega
        have hx := H1.out
        rw [List.drop_eq_nil_of_le (by rw [hL.out]; omega)] at hx
        simp only [putsL, Prod.mk.injEq] at hx
        obtain ⟨rfl, rfl, rfl⟩ := hx
        go_wp2
        go_ret3
        exact ⟨_, rfl, Kd.R_mono HO.out (fun _ _ => trivial), HB.out⟩
  · rw [if_neg hs] at h; cases h

end Go.Proofs.YtfmhcgjmgaefcacDoor.P

namespace Go.Proofs
open Go.Shelf
def Tryd.lays160_ren : Go.Shelf.Ren := ⟨fun | 160 => 13 | 232 => 16 | 231 => 15 | 227 => 17 | 234 => 19 | 233 => 18 | 236 => 21 | 235 => 20 | 228 => 22 | 271 => 25 | 151 => 24 | 197 => 23 | 120 => 28 | 152 => 27 | 260 => 26 | 137 => 29 | 119 => 30 | 224 => 31 | 225 => 32 | 217 => 33 | 266 => 34 | n => n, fun | 9 => 9 | 4 => 4 | 3 => 3 | 5 => 5 | 117 => 39 | 116 => 38 | 0 => 0 | 124 => 42 | 21 => 21 | 105 => 44 | 46 => 49 | 119 => 48 | 139 => 52 | 138 => 51 | n => n, fun | 3 => 0 | 4 => 1 | n => n⟩
theorem Tryd.lays160 : Go.Proofs.Lays.n160 Tryd.prog Tryd.lays160_ren := {
  mixed := by kernel_rfl
  f119 := Tryd.func30.trans (congrArg some (by kernel_rfl))
  f120 := Tryd.func28.trans (congrArg some (by kernel_rfl))
  f137 := Tryd.func29.trans (congrArg some (by kernel_rfl))
  f151 := Tryd.func24.trans (congrArg some (by kernel_rfl))
  f152 := Tryd.func27.trans (congrArg some (by kernel_rfl))
  f160 := Tryd.func13.trans (congrArg some (by kernel_rfl))
  f197 := Tryd.func23.trans (congrArg some (by kernel_rfl))
  f217 := Tryd.func33.trans (congrArg some (by kernel_rfl))
  f224 := Tryd.func31.trans (congrArg some (by kernel_rfl))
  f225 := Tryd.func32.trans (congrArg some (by kernel_rfl))
  f227 := Tryd.func17.trans (congrArg some (by kernel_rfl))
  f228 := Tryd.func22.trans (congrArg some (by kernel_rfl))
  f231 := Tryd.func15.trans (congrArg some (by kernel_rfl))
  f232 := Tryd.func16.trans (congrArg some (by kernel_rfl))
  f233 := Tryd.func18.trans (congrArg some (by kernel_rfl))
  f234 := Tryd.func19.trans (congrArg some (by kernel_rfl))
  f235 := Tryd.func20.trans (congrArg some (by kernel_rfl))
  f236 := Tryd.func21.trans (congrArg some (by kernel_rfl))
  f260 := Tryd.func26.trans (congrArg some (by kernel_rfl))
  f266 := Tryd.func34.trans (congrArg some (by kernel_rfl))
  f271 := Tryd.func25.trans (congrArg some (by kernel_rfl))
  t0 := Tryd.underlying0
  a0 := Tryd.isAgg0
  z0 := Tryd.sizeOf0
  v0 := Tryd.zeroValue0
  t3 := Tryd.underlying3
  a3 := Tryd.isAgg3
  z3 := Tryd.sizeOf3
  v3 := Tryd.zeroValue3
  t4 := Tryd.underlying4
  a4 := Tryd.isAgg4
  z4 := Tryd.sizeOf4
  v4 := Tryd.zeroValue4
  t5 := Tryd.underlying5
  a5 := Tryd.isAgg5
  z5 := Tryd.sizeOf5
  v5 := Tryd.zeroValue5
  t9 := Tryd.underlying9
  a9 := Tryd.isAgg9
  z9 := Tryd.sizeOf9
  v9 := Tryd.zeroValue9
  t21 := Tryd.underlying21
  a21 := Tryd.isAgg21
  z21 := Tryd.sizeOf21
  v21 := Tryd.zeroValue21
  t46 := Tryd.underlying49
  a46 := Tryd.isAgg49
  z46 := Tryd.sizeOf49
  v46 := Tryd.zeroValue49
  t105 := Tryd.underlying44
  a105 := Tryd.isAgg44
  z105 := Tryd.sizeOf44
  v105 := Tryd.zeroValue44
  t116 := Tryd.underlying38
  a116 := Tryd.isAgg38
  z116 := Tryd.sizeOf38
  t117 := Tryd.underlying39
  a117 := Tryd.isAgg39
  z117 := Tryd.sizeOf39
  v117 := Tryd.zeroValue39
  t119 := Tryd.underlying48
  a119 := Tryd.isAgg48
  z119 := Tryd.sizeOf48
  t124 := Tryd.underlying42
  a124 := Tryd.isAgg42
  z124 := Tryd.sizeOf42
  v124 := Tryd.zeroValue42
  t138 := Tryd.underlying51
  a138 := Tryd.isAgg51
  z138 := Tryd.sizeOf51
  v138 := Tryd.zeroValue51
  t139 := Tryd.underlying52
  a139 := Tryd.isAgg52
  z139 := Tryd.sizeOf52
  v139 := Tryd.zeroValue52
  g3 := by kernel_rfl
  g4 := by kernel_rfl }
end Go.Proofs

namespace Go.Proofs.YtfmhcgjmgaefcacDoor.P
open Go.RowKit Go.Proofs.YtfmhcgjmgaefcacDoorW.PrintWords Go.Proofs.YtfmhcgjmgaefcacDoorW.PrintLast Go.Proofs.YtfmhcgjmgaefcacDoorW.PrintMore
attribute [local go_sem] max2_int min2_int max_two min_two max_three min_three max_four min_four
set_option linter.unusedVariables false
set_option linter.unusedSimpArgs false

/-! ### impl_isWord: function 10 -/
/-- is each letter a 'b' or an 'u'? -/
def buAll (s : ByteArray) : Bool := s.data.toList.all fun b => b == 98 || b == 117
theorem drop_all (p : UInt8 → Bool) : ∀ l : List UInt8, (∀ x ∈ l.dropWhile p, p x = true) → ∀ x ∈ l, p x = true
  | [], _, x, hx => by cases hx
  | a :: l, h, x, hx => by
    by_cases c : p a = true
    · rw [List.dropWhile_cons_of_pos c] at h
      rcases List.mem_cons.1 hx with rfl | hx
      · exact c
      · exact drop_all p l h x hx
    · rw [List.dropWhile_cons_of_neg c] at h
      exact absurd (h a (List.mem_cons_self ..)) c
theorem drop_nil (p : UInt8 → Bool) : ∀ l : List UInt8, (∀ x ∈ l, p x = true) → l.dropWhile p = []
  | [], _ => rfl
  | a :: l, h => by
    rw [List.dropWhile_cons_of_pos (h a (List.mem_cons_self ..))]
    exact drop_nil p l (fun x hx => h x (List.mem_cons_of_mem _ hx))
theorem trim_bu (s : ByteArray) : (Lib.trimS s.data.toList [98, 117] = []) ↔ buAll s = true := by
  have hp : ∀ b : UInt8, ([98, 117] : List UInt8).contains b = (b == 98 || b == 117) := fun b => by simp [List.contains_cons]; rfl
  unfold buAll
  rw [List.all_eq_true]
  constructor
  · intro h
    have h1 : ∀ x ∈ Lib.trimRightS s.data.toList [98, 117], ([98, 117] : List UInt8).contains x = true := drop_all _ _ (fun x hx => by
      unfold Lib.trimS Lib.trimLeftS at h
      rw [h] at hx
      cases hx)
    have h2 : ∀ x ∈ s.data.toList.reverse, ([98, 117] : List UInt8).contains x = true := drop_all _ _ (fun x hx => h1 x (by unfold Lib.trimRightS; rw [List.mem_reverse]; exact hx))
    intro x hx
    rw [← hp]
    exact h2 x (List.mem_reverse.2 hx)
  · intro h
    unfold Lib.trimS Lib.trimLeftS Lib.trimRightS
    rw [drop_nil (fun x => ([98, 117] : List UInt8).contains x) s.data.toList.reverse (fun x hx => by rw [hp]; exact h x (List.mem_reverse.1 hx))]
    rfl
def impl_isWord.f (a0 : ByteArray) : Option Bool := some (decide (a0.size ≤ 20) && buAll a0)
set_option maxHeartbeats 1000000 in
theorem impl_isWord.calls (a0 : ByteArray) (r : Bool) (w : World) (h : impl_isWord.f a0 = some r) :
    Calls Tryd.prog 10 #[.string a0] w fun e w' => e = .returned (.bool r) ∧ Below w.heap.size w w' := by
  have HR := Aside0.mk (Option.some.inj h)
  clear h
  by_cases c : a0.size ≤ 20
  · have cz : decide ((a0.size : Int) ≤ 20) = true := decide_eq_true (by omega)
    have hcon := fun W => Any.strings_Trim_laid Tryd.lays160 (by kernel_rfl) a0 ⟨#[98, 117]⟩ W (by omega) (by decide) (ascii_of_all (by decide))
    have HCON : Aside0 (∀ W, Calls Tryd.prog 13 #[.string a0, .string ⟨#[98, 117]⟩] W (fun e w' => e = .returned (.string ⟨(Lib.trimS a0.data.toList [98, 117]).toArray⟩) ∧ Below W.heap.size W w')) := ⟨fun W => hcon W⟩
    have HT := Aside0.mk (trim_bu a0)
    have HC := Aside0.mk c
    clear hcon c
    generalize hl : Lib.trimS a0.data.toList [98, 117] = l at HCON HT
    clear hl
    cases l with
    | nil =>
      have hr : r = true := by rw [← HR.out, decide_eq_true HC.out, HT.out.1 rfl]; rfl
      subst hr
      clear HR HT HC
      go_enter Tryd.func10, Tryd.ntmps10
      go_wp2_with (go_at_call 13; refine (HCON.out _).mono ?_; rintro e w' ⟨rfl, hB⟩)
      go_ret
      exact ⟨rfl, hB⟩
    | cons b l =>
      have hr : r = false := by
        rw [← HR.out]
        cases hb : buAll a0 with
        | true => exact absurd (HT.out.2 hb) (by simp)
        | false => simp
      subst hr
      clear HR HT HC
      have hne : (⟨(b :: l).toArray⟩ : ByteArray).toList.isEmpty = false := by
        rw [Lib.toList_data]
        rfl
      generalize (⟨(b :: l).toArray⟩ : ByteArray) = y at HCON hne
      go_enter Tryd.func10, Tryd.ntmps10
      go_wp2_with (go_at_call 13; refine (HCON.out _).mono ?_; rintro e w' ⟨rfl, hB⟩)
      go_ret
      exact ⟨rfl, hB⟩
  · have cz : decide ((a0.size : Int) ≤ 20) = false := decide_eq_false (by omega)
    have hr : r = false := by rw [← HR.out, decide_eq_false c]; rfl
    subst hr
    clear HR c
    go_enter Tryd.func10, Tryd.ntmps10
    go_wp2_with fail
    go_ret
    exact ⟨rfl, Below.refl _ _⟩

end Go.Proofs.YtfmhcgjmgaefcacDoor.P

namespace Go.Proofs.YtfmhcgjmgaefcacDoor.P
open Go.RowKit Go.Proofs.YtfmhcgjmgaefcacDoorW.PrintWords Go.Proofs.YtfmhcgjmgaefcacDoorW.PrintLast Go.Proofs.YtfmhcgjmgaefcacDoorW.PrintMore
attribute [local go_sem] max2_int min2_int max_two min_two max_three min_three max_four min_four
set_option linter.unusedVariables false
set_option linter.unusedSimpArgs false

/-! ### impl_within: function 14 -/
def impl_within.f (a0 : Int) (a1 : Int) (a2 : Int) : Option (Bool) := if a1 ≤ a0 then (some (decide (a0 ≤ a2))) else (some false)
set_option maxHeartbeats 8000000 in
set_option maxRecDepth 100000 in
theorem impl_within.calls (a0 : Int) (a1 : Int) (a2 : Int) (r : Bool) (w : World) (h : impl_within.f a0 a1 a2 = some r) :
    Calls Tryd.prog 14 #[.int .i64 a0, .int .i64 a1, .int .i64 a2] w fun e w' => e = .returned (.bool r) ∧ Drawn0 w w' := by
  have H : (if a1 ≤ a0 then (some (decide (a0 ≤ a2))) else (some false)) = some r := h
  clear h
  by_cases c4 : a1 ≤ a0
  · rw [if_pos c4] at H
    have c4b0 : decide (a1 ≤ a0) = true := decide_eq_true c4
    clear c4
    obtain rfl := Option.some.inj H
    go_enter Tryd.func14, Tryd.ntmps14
    go_wp2
    go_ret
    exact ⟨by first | rfl | (simp; done) | (simp [*]; done), by repeat (first | exact Drawn0.refl _ | apply Drawn0.step)⟩
  · rw [if_neg c4] at H
    have c4b0 : decide (a1 ≤ a0) = false := decide_eq_false c4
    clear c4
    obtain rfl := Option.some.inj H
    go_enter Tryd.func14, Tryd.ntmps14
    go_wp2
    go_ret
    exact ⟨by first | rfl | (simp; done) | (simp [*]; done), by repeat (first | exact Drawn0.refl _ | apply Drawn0.step)⟩

end Go.Proofs.YtfmhcgjmgaefcacDoor.P

namespace Go.Proofs.YtfmhcgjmgaefcacDoor.P
open Go.RowKit Go.Proofs.YtfmhcgjmgaefcacDoorW.PrintWords Go.Proofs.YtfmhcgjmgaefcacDoorW.PrintLast Go.Proofs.YtfmhcgjmgaefcacDoorW.PrintMore
attribute [local go_sem] max2_int min2_int max_two min_two max_three min_three max_four min_four
set_option linter.unusedVariables false
set_option linter.unusedSimpArgs false

/-! ### impl_isRatio: function 11 -/
def impl_isRatio.f (a0 : Int) (a1 : Int) : Option (Bool) := (impl_within.f a0 1 1000).bind fun t101 => (if t101 = true then ((impl_within.f a1 1 1000).bind fun t102 => (some t102)) else (some false))
set_option maxHeartbeats 8000000 in
set_option maxRecDepth 100000 in
theorem impl_isRatio.calls (a0 : Int) (a1 : Int) (r : Bool) (w : World) (h : impl_isRatio.f a0 a1 = some r) :
    Calls Tryd.prog 11 #[.int .i64 a0, .int .i64 a1] w fun e w' => e = .returned (.bool r) ∧ Drawn0 w w' := by
  have H : ((impl_within.f a0 1 1000).bind fun t101 => (if t101 = true then ((impl_within.f a1 1 1000).bind fun t102 => (some t102)) else (some false))) = some r := h
  clear h
  replace H := Option.bind_eq_some_iff.mp H
  obtain ⟨t101, A30, H⟩ := H
  replace H : (if t101 = true then ((impl_within.f a1 1 1000).bind fun t102 => (some t102)) else (some false)) = some r := H
  have A3 := Aside0.mk A30
  clear A30
  by_cases c4 : t101 = true
  · subst c4
    have H1 : ((impl_within.f a1 1 1000).bind fun t102 => (some t102)) = some r := by rw [if_pos rfl] at H; exact H
    clear H
    have H := H1
    clear H1
    replace H := Option.bind_eq_some_iff.mp H
    obtain ⟨t102, A50, H⟩ := H
    replace H : (some t102) = some r := H
    have A5 := Aside0.mk A50
    clear A50
    obtain rfl := Option.some.inj H
    go_enter Tryd.func11, Tryd.ntmps11
    go_wp2_with (first | ((with_reducible refine gate_callee (f := 14) rfl ?_); refine goesL_ (some 6) rfl rfl Tryd.func14 (by kernel_rfl) rfl #[.int .i64 a0, .int .i64 1, .int .i64 1000] rfl (by (try simp only [List.map_toArray, List.map_cons, List.map_nil]); first | done | rfl | (simp only [List.length_drop, List.length_take]; rfl)) ?_; (with_reducible refine (impl_within.calls a0 1 1000 true _ A3.out).mono ?_); rintro e w' ⟨rfl, ⟨nd, rfl⟩⟩; refine ⟨_, rfl, ?_⟩) | (go_at_call 14; (with_reducible refine (impl_within.calls a1 1 1000 t102 _ A5.out).mono ?_); rintro e w' ⟨rfl, ⟨nd, rfl⟩⟩))
    go_ret
    exact ⟨by first | rfl | (simp; done) | (simp [*]; done), by repeat (first | exact Drawn0.refl _ | apply Drawn0.step)⟩
  · replace c4 := Bool.eq_false_iff.mpr c4
    subst c4
    have H1 : (some false) = some r := by rw [if_neg (show ¬ (false = true) by decide)] at H; exact H
    clear H
    have H := H1
    clear H1
    obtain rfl := Option.some.inj H
    go_enter Tryd.func11, Tryd.ntmps11
    go_wp2_with (first | ((with_reducible refine gate_callee (f := 14) rfl ?_); refine goesL_ (some 6) rfl rfl Tryd.func14 (by kernel_rfl) rfl #[.int .i64 a0, .int .i64 1, .int .i64 1000] rfl (by (try simp only [List.map_toArray, List.map_cons, List.map_nil]); first | done | rfl | (simp only [List.length_drop, List.length_take]; rfl)) ?_; (with_reducible refine (impl_within.calls a0 1 1000 false _ A3.out).mono ?_); rintro e w' ⟨rfl, ⟨nd, rfl⟩⟩; refine ⟨_, rfl, ?_⟩))
    go_ret
    exact ⟨by first | rfl | (simp; done) | (simp [*]; done), by repeat (first | exact Drawn0.refl _ | apply Drawn0.step)⟩

end Go.Proofs.YtfmhcgjmgaefcacDoor.P

namespace Go.Proofs.YtfmhcgjmgaefcacDoor.P
open Go.RowKit Go.Proofs.YtfmhcgjmgaefcacDoorW.PrintWords Go.Proofs.YtfmhcgjmgaefcacDoorW.PrintLast Go.Proofs.YtfmhcgjmgaefcacDoorW.PrintMore
attribute [local go_sem] max2_int min2_int max_two min_two max_three min_three max_four min_four
set_option linter.unusedVariables false
set_option linter.unusedSimpArgs false

/-! ### impl_RatioOfWord: function 5 -/
def impl_RatioOfWord.f (a0 : ByteArray) : Option (Int × Int × Bool) := (impl_puts.f a0).bind fun bt101 => ((impl_isWord.f a0).bind fun t106 => (if t106 = true then ((impl_isRatio.f bt101.1 bt101.2.1).bind fun t107 => (if t107 = true then (some (bt101.1, bt101.2.1, true)) else (some (0, 0, false)))) else (some (0, 0, false))))
set_option maxHeartbeats 8000000 in
set_option maxRecDepth 100000 in
theorem impl_RatioOfWord.calls (a0 : ByteArray) (r1 : Int) (r2 : Int) (r3 : Bool) (w : World) (h : impl_RatioOfWord.f a0 = some (r1, r2, r3)) :
    Calls Tryd.prog 5 #[.string a0] w fun e w' => e = .returned (.tuple #[.int .i64 r1, .int .i64 r2, .bool r3]) ∧ Below w.heap.size w w' := by
  have HB := Aside0.mk (Below.refl w.heap.size w)
  have H : ((impl_puts.f a0).bind fun bt101 => ((impl_isWord.f a0).bind fun t106 => (if t106 = true then ((impl_isRatio.f bt101.1 bt101.2.1).bind fun t107 => (if t107 = true then (some (bt101.1, bt101.2.1, true)) else (some (0, 0, false)))) else (some (0, 0, false))))) = some (r1, r2, r3) := h
  clear h
  replace H := Option.bind_eq_some_iff.mp H
  obtain ⟨⟨t101, t102, t103⟩, A20, H⟩ := H
  replace H : ((impl_isWord.f a0).bind fun t106 => (if t106 = true then ((impl_isRatio.f t101 t102).bind fun t107 => (if t107 = true then (some (t101, t102, true)) else (some (0, 0, false)))) else (some (0, 0, false)))) = some (r1, r2, r3) := H
  have A2 := Aside0.mk A20
  clear A20
  replace H := Option.bind_eq_some_iff.mp H
  obtain ⟨t106, A30, H⟩ := H
  replace H : (if t106 = true then ((impl_isRatio.f t101 t102).bind fun t107 => (if t107 = true then (some (t101, t102, true)) else (some (0, 0, false)))) else (some (0, 0, false))) = some (r1, r2, r3) := H
  have A3 := Aside0.mk A30
  clear A30
  by_cases c4 : t106 = true
  · subst c4
    have H1 : ((impl_isRatio.f t101 t102).bind fun t107 => (if t107 = true then (some (t101, t102, true)) else (some (0, 0, false)))) = some (r1, r2, r3) := by rw [if_pos rfl] at H; exact H
    clear H
    have H := H1
    clear H1
    replace H := Option.bind_eq_some_iff.mp H
    obtain ⟨t107, A50, H⟩ := H
    replace H : (if t107 = true then (some (t101, t102, true)) else (some (0, 0, false))) = some (r1, r2, r3) := H
    have A5 := Aside0.mk A50
    clear A50
    by_cases c6 : t107 = true
    · subst c6
      have H1 : (some (t101, t102, true)) = some (r1, r2, r3) := by rw [if_pos rfl] at H; exact H
      clear H
      have H := H1
      clear H1
      simp only [Option.some.injEq, Prod.mk.injEq] at H
      obtain ⟨rfl, rfl, rfl⟩ := H
      go_enter Tryd.func5, Tryd.ntmps5
      go_wp2_with (first | ((with_reducible refine gate_callee (f := 9) rfl ?_); refine goesL_ (some 10) rfl rfl Tryd.func9 (by kernel_rfl) rfl #[.string a0] rfl (by (try simp only [List.map_toArray, List.map_cons, List.map_nil]); first | done | rfl | (simp only [List.length_drop, List.length_take]; rfl)) ?_; (with_reducible refine (impl_puts.calls a0 t101 t102 t103 _ A2.out).mono ?_); rintro e w7 ⟨v104, rfl, ho0, hb⟩; refine ⟨_, rfl, ?_⟩; have n0_ := Aside0.mk (Kd.R_lower ho0 (below_size (by repeat (first | (with_reducible first | exact HB.out | apply below_alloc | apply pw_below_drewN | apply below_drew1) | exact HB.out)))); have n1_ := Aside0.mk (below_step (by repeat (first | (with_reducible first | exact HB.out | apply below_alloc | apply pw_below_drewN | apply below_drew1) | exact HB.out)) hb); clear HB; have HO105 := n0_; have HB := n1_; clear n0_ n1_; (try clear hb); (try clear hb2); (try clear hk); (try clear hi); (try clear ho0)) | ((with_reducible refine gate_callee (f := 10) rfl ?_); refine goesL_ (some 15) rfl rfl Tryd.func10 (by kernel_rfl) rfl #[.string a0] rfl (by (try simp only [List.map_toArray, List.map_cons, List.map_nil]); first | done | rfl | (simp only [List.length_drop, List.length_take]; rfl)) ?_; (with_reducible refine (impl_isWord.calls a0 true _ A3.out).mono ?_); rintro e w8 ⟨rfl, hb⟩; refine ⟨_, rfl, ?_⟩; have n0_ := Aside0.mk (Kd.R_below (by (with_reducible repeat (first | apply Kd.R_alloc | apply Kd.R_drewN | apply Kd.R_drew)); exact HO105.out) hb); have n1_ := Aside0.mk (below_step (by repeat (first | (with_reducible first | exact HB.out | apply below_alloc | apply pw_below_drewN | apply below_drew1) | exact HB.out)) hb); clear HO105; clear HB; have HO105 := n0_; have HB := n1_; clear n0_ n1_; (try clear hb); (try clear hb2); (try clear hk); (try clear hi)) | (go_at_call 11; (with_reducible refine (impl_isRatio.calls t101 t102 true _ A5.out).mono ?_); rintro e w' ⟨rfl, ⟨nd, rfl⟩⟩))
      go_ret3
      exact ⟨by first | rfl | (simp [errW_none, errW_some] <;> rfl) | (simp [*, errW_none, errW_some] <;> rfl), by repeat (first | (with_reducible first | exact HB.out | apply below_alloc | apply pw_below_drewN | apply below_drew1) | exact HB.out)⟩
    · replace c6 := Bool.eq_false_iff.mpr c6
      subst c6
      have H1 : (some (0, 0, false)) = some (r1, r2, r3) := by rw [if_neg (show ¬ (false = true) by decide)] at H; exact H
      clear H
      have H := H1
      clear H1
      simp only [Option.some.injEq, Prod.mk.injEq] at H
      obtain ⟨rfl, rfl, rfl⟩ := H
      go_enter Tryd.func5, Tryd.ntmps5
      go_wp2_with (first | ((with_reducible refine gate_callee (f := 9) rfl ?_); refine goesL_ (some 10) rfl rfl Tryd.func9 (by kernel_rfl) rfl #[.string a0] rfl (by (try simp only [List.map_toArray, List.map_cons, List.map_nil]); first | done | rfl | (simp only [List.length_drop, List.length_take]; rfl)) ?_; (with_reducible refine (impl_puts.calls a0 t101 t102 t103 _ A2.out).mono ?_); rintro e w9 ⟨v104, rfl, ho0, hb⟩; refine ⟨_, rfl, ?_⟩; have n0_ := Aside0.mk (Kd.R_lower ho0 (below_size (by repeat (first | (with_reducible first | exact HB.out | apply below_alloc | apply pw_below_drewN | apply below_drew1) | exact HB.out)))); have n1_ := Aside0.mk (below_step (by repeat (first | (with_reducible first | exact HB.out | apply below_alloc | apply pw_below_drewN | apply below_drew1) | exact HB.out)) hb); clear HB; have HO105 := n0_; have HB := n1_; clear n0_ n1_; (try clear hb); (try clear hb2); (try clear hk); (try clear hi); (try clear ho0)) | ((with_reducible refine gate_callee (f := 10) rfl ?_); refine goesL_ (some 15) rfl rfl Tryd.func10 (by kernel_rfl) rfl #[.string a0] rfl (by (try simp only [List.map_toArray, List.map_cons, List.map_nil]); first | done | rfl | (simp only [List.length_drop, List.length_take]; rfl)) ?_; (with_reducible refine (impl_isWord.calls a0 true _ A3.out).mono ?_); rintro e w10 ⟨rfl, hb⟩; refine ⟨_, rfl, ?_⟩; have n0_ := Aside0.mk (Kd.R_below (by (with_reducible repeat (first | apply Kd.R_alloc | apply Kd.R_drewN | apply Kd.R_drew)); exact HO105.out) hb); have n1_ := Aside0.mk (below_step (by repeat (first | (with_reducible first | exact HB.out | apply below_alloc | apply pw_below_drewN | apply below_drew1) | exact HB.out)) hb); clear HO105; clear HB; have HO105 := n0_; have HB := n1_; clear n0_ n1_; (try clear hb); (try clear hb2); (try clear hk); (try clear hi)) | (go_at_call 11; (with_reducible refine (impl_isRatio.calls t101 t102 false _ A5.out).mono ?_); rintro e w' ⟨rfl, ⟨nd, rfl⟩⟩))
      go_ret3
      exact ⟨by first | rfl | (simp [errW_none, errW_some] <;> rfl) | (simp [*, errW_none, errW_some] <;> rfl), by repeat (first | (with_reducible first | exact HB.out | apply below_alloc | apply pw_below_drewN | apply below_drew1) | exact HB.out)⟩
  · replace c4 := Bool.eq_false_iff.mpr c4
    subst c4
    have H1 : (some (0, 0, false)) = some (r1, r2, r3) := by rw [if_neg (show ¬ (false = true) by decide)] at H; exact H
    clear H
    have H := H1
    clear H1
    simp only [Option.some.injEq, Prod.mk.injEq] at H
    obtain ⟨rfl, rfl, rfl⟩ := H
    go_enter Tryd.func5, Tryd.ntmps5
    go_wp2_with (first | ((with_reducible refine gate_callee (f := 9) rfl ?_); refine goesL_ (some 10) rfl rfl Tryd.func9 (by kernel_rfl) rfl #[.string a0] rfl (by (try simp only [List.map_toArray, List.map_cons, List.map_nil]); first | done | rfl | (simp only [List.length_drop, List.length_take]; rfl)) ?_; (with_reducible refine (impl_puts.calls a0 t101 t102 t103 _ A2.out).mono ?_); rintro e w11 ⟨v104, rfl, ho0, hb⟩; refine ⟨_, rfl, ?_⟩; have n0_ := Aside0.mk (Kd.R_lower ho0 (below_size (by repeat (first | (with_reducible first | exact HB.out | apply below_alloc | apply pw_below_drewN | apply below_drew1) | exact HB.out)))); have n1_ := Aside0.mk (below_step (by repeat (first | (with_reducible first | exact HB.out | apply below_alloc | apply pw_below_drewN | apply below_drew1) | exact HB.out)) hb); clear HB; have HO105 := n0_; have HB := n1_; clear n0_ n1_; (try clear hb); (try clear hb2); (try clear hk); (try clear hi); (try clear ho0)) | ((with_reducible refine gate_callee (f := 10) rfl ?_); refine goesL_ (some 15) rfl rfl Tryd.func10 (by kernel_rfl) rfl #[.string a0] rfl (by (try simp only [List.map_toArray, List.map_cons, List.map_nil]); first | done | rfl | (simp only [List.length_drop, List.length_take]; rfl)) ?_; (with_reducible refine (impl_isWord.calls a0 false _ A3.out).mono ?_); rintro e w12 ⟨rfl, hb⟩; refine ⟨_, rfl, ?_⟩; have n0_ := Aside0.mk (Kd.R_below (by (with_reducible repeat (first | apply Kd.R_alloc | apply Kd.R_drewN | apply Kd.R_drew)); exact HO105.out) hb); have n1_ := Aside0.mk (below_step (by repeat (first | (with_reducible first | exact HB.out | apply below_alloc | apply pw_below_drewN | apply below_drew1) | exact HB.out)) hb); clear HO105; clear HB; have HO105 := n0_; have HB := n1_; clear n0_ n1_; (try clear hb); (try clear hb2); (try clear hk); (try clear hi)))
    go_ret3
    exact ⟨by first | rfl | (simp [errW_none, errW_some] <;> rfl) | (simp [*, errW_none, errW_some] <;> rfl), by repeat (first | (with_reducible first | exact HB.out | apply below_alloc | apply pw_below_drewN | apply below_drew1) | exact HB.out)⟩

end Go.Proofs.YtfmhcgjmgaefcacDoor.P

namespace Go.Proofs.YtfmhcgjmgaefcacDoor.P
open Go.RowKit Go.Proofs.YtfmhcgjmgaefcacDoorW.PrintWords Go.Proofs.YtfmhcgjmgaefcacDoorW.PrintLast Go.Proofs.YtfmhcgjmgaefcacDoorW.PrintMore
attribute [local go_sem] max2_int min2_int max_two min_two max_three min_three max_four min_four
set_option linter.unusedVariables false
set_option linter.unusedSimpArgs false

/-! ### laws_FnExactRatioOfWord: function 3 -/
def laws_FnExactRatioOfWord.f (k : Nat) (a0 : ByteArray) : Option (Bool) := if (a0.size : Int) > 1048576 then (some true) else ((spec_RatioOfWord.f k a0).bind fun bt101 => ((impl_RatioOfWord.f a0).bind fun bt104 => (if bt104.1 = bt101.1 then (if bt104.2.1 = bt101.2.1 then (if (bt104.2.2 != bt101.2.2) = true then (some false) else (some true)) else (some false)) else (some false))))
theorem laws_FnExactRatioOfWord.mono : ∀ a0 k, LeO (laws_FnExactRatioOfWord.f k a0) (laws_FnExactRatioOfWord.f (k + 1) a0) := by
  intro a0 k
  unfold laws_FnExactRatioOfWord.f
  repeat' first
      | (with_reducible exact spec_RatioOfWord.mono _ _)
      | (with_reducible exact LeO.refl _)
      | (with_reducible exact LeO.none _)
      | (with_reducible refine LeO.ite ?_ ?_)
      | (with_reducible refine LeO.bind ?_ (fun _ => ?_))
      | exact spec_RatioOfWord.mono _ _
      | exact LeO.none _
      | refine LeO.ite ?_ ?_
      | refine LeO.bind ?_ (fun _ => ?_)
set_option maxHeartbeats 8000000 in
set_option maxRecDepth 100000 in
theorem laws_FnExactRatioOfWord.calls (k : Nat) (a0 : ByteArray) (r : Bool) (w : World) (h : laws_FnExactRatioOfWord.f k a0 = some r) :
    Calls Tryd.prog 3 #[.string a0] w fun e w' => e = .returned (.bool r) ∧ Below w.heap.size w w' := by
  have HB := Aside0.mk (Below.refl w.heap.size w)
  have H : (if (a0.size : Int) > 1048576 then (some true) else ((spec_RatioOfWord.f k a0).bind fun bt101 => ((impl_RatioOfWord.f a0).bind fun bt104 => (if bt104.1 = bt101.1 then (if bt104.2.1 = bt101.2.1 then (if (bt104.2.2 != bt101.2.2) = true then (some false) else (some true)) else (some false)) else (some false))))) = some r := h
  clear h
  by_cases c2 : (a0.size : Int) > 1048576
  · rw [if_pos c2] at H
    have c2b0 : decide (1048576 < (a0.size : Int)) = true := decide_eq_true c2
    have c2b1 : decide (1048576 < a0.size) = true := decide_eq_true (by omega)
    clear c2
    obtain rfl := Option.some.inj H
    go_enter Tryd.func3, Tryd.ntmps3
    go_wp2
    go_ret
    exact ⟨by first | rfl | (simp [errW_none, errW_some] <;> rfl) | (simp [*, errW_none, errW_some] <;> rfl), by repeat (first | (with_reducible first | exact HB.out | apply below_alloc | apply pw_below_drewN | apply below_drew1) | exact HB.out)⟩
  · rw [if_neg c2] at H
    have c2b0 : decide (1048576 < (a0.size : Int)) = false := decide_eq_false c2
    have c2b1 : decide (1048576 < a0.size) = false := decide_eq_false (by omega)
    clear c2
    replace H := Option.bind_eq_some_iff.mp H
    obtain ⟨⟨t101, t102, t103⟩, A30, H⟩ := H
    replace H : ((impl_RatioOfWord.f a0).bind fun bt104 => (if bt104.1 = t101 then (if bt104.2.1 = t102 then (if (bt104.2.2 != t103) = true then (some false) else (some true)) else (some false)) else (some false))) = some r := H
    have A3 := Aside0.mk A30
    clear A30
    replace H := Option.bind_eq_some_iff.mp H
    obtain ⟨⟨t104, t105, t106⟩, A40, H⟩ := H
    replace H : (if t104 = t101 then (if t105 = t102 then (if (t106 != t103) = true then (some false) else (some true)) else (some false)) else (some false)) = some r := H
    have A4 := Aside0.mk A40
    clear A40
    by_cases c5 : t104 = t101
    · rw [if_pos c5] at H
      have c5b0 : (t104 == t101) = true := beq_iff_eq.mpr c5
      have c5b1 : (t104 != t101) = false := bne_eq_false_iff_eq.mpr c5
      clear c5
      by_cases c6 : t105 = t102
      · rw [if_pos c6] at H
        have c6b0 : (t105 == t102) = true := beq_iff_eq.mpr c6
        have c6b1 : (t105 != t102) = false := bne_eq_false_iff_eq.mpr c6
        clear c6
        by_cases c7 : (t106 != t103) = true
        · rw [if_pos c7] at H
          have c7b0 : (t106 != t103) = true := c7
          (try (have c7b1 : decide (t106 = t103) = false := by simpa using c7))
          (try (have c7b2 : (t106 == t103) = false := by simpa using c7))
          (try (have c7b3 : ¬ (t106 = t103) := by simpa using c7))
          clear c7
          obtain rfl := Option.some.inj H
          go_enter Tryd.func3, Tryd.ntmps3
          go_wp2_with (first | ((with_reducible refine gate_callee (f := 4) rfl ?_); refine goesL_ (some 14) rfl rfl Tryd.func4 (by kernel_rfl) rfl #[.string a0] rfl (by (try simp only [List.map_toArray, List.map_cons, List.map_nil]); first | done | rfl | (simp only [List.length_drop, List.length_take]; rfl)) ?_; (with_reducible refine (spec_RatioOfWord.calls k a0 t101 t102 t103 _ A3.out).mono ?_); rintro e w' ⟨rfl, ⟨nd, rfl⟩⟩; refine ⟨_, rfl, ?_⟩) | ((with_reducible refine gate_callee (f := 5) rfl ?_); refine goesL_ (some 20) rfl rfl Tryd.func5 (by kernel_rfl) rfl #[.string a0] rfl (by (try simp only [List.map_toArray, List.map_cons, List.map_nil]); first | done | rfl | (simp only [List.length_drop, List.length_take]; rfl)) ?_; (with_reducible refine (impl_RatioOfWord.calls a0 t104 t105 t106 _ A4.out).mono ?_); rintro e w8 ⟨rfl, hb⟩; refine ⟨_, rfl, ?_⟩; have n0_ := Aside0.mk (below_step (by repeat (first | (with_reducible first | exact HB.out | apply below_alloc | apply pw_below_drewN | apply below_drew1) | exact HB.out)) hb); clear HB; have HB := n0_; clear n0_; (try clear hb); (try clear hb2); (try clear hk); (try clear hi)))
          go_ret
          exact ⟨by first | rfl | (simp [errW_none, errW_some] <;> rfl) | (simp [*, errW_none, errW_some] <;> rfl), by repeat (first | (with_reducible first | exact HB.out | apply below_alloc | apply pw_below_drewN | apply below_drew1) | exact HB.out)⟩
        · rw [if_neg c7] at H
          have c7b0 : (t106 != t103) = false := by simpa using c7
          (try (have c7b1 : decide (t106 = t103) = true := by simpa using c7))
          (try (have c7b2 : (t106 == t103) = true := by simpa using c7))
          clear c7
          obtain rfl := Option.some.inj H
          go_enter Tryd.func3, Tryd.ntmps3
          go_wp2_with (first | ((with_reducible refine gate_callee (f := 4) rfl ?_); refine goesL_ (some 14) rfl rfl Tryd.func4 (by kernel_rfl) rfl #[.string a0] rfl (by (try simp only [List.map_toArray, List.map_cons, List.map_nil]); first | done | rfl | (simp only [List.length_drop, List.length_take]; rfl)) ?_; (with_reducible refine (spec_RatioOfWord.calls k a0 t101 t102 t103 _ A3.out).mono ?_); rintro e w' ⟨rfl, ⟨nd, rfl⟩⟩; refine ⟨_, rfl, ?_⟩) | ((with_reducible refine gate_callee (f := 5) rfl ?_); refine goesL_ (some 20) rfl rfl Tryd.func5 (by kernel_rfl) rfl #[.string a0] rfl (by (try simp only [List.map_toArray, List.map_cons, List.map_nil]); first | done | rfl | (simp only [List.length_drop, List.length_take]; rfl)) ?_; (with_reducible refine (impl_RatioOfWord.calls a0 t104 t105 t106 _ A4.out).mono ?_); rintro e w9 ⟨rfl, hb⟩; refine ⟨_, rfl, ?_⟩; have n0_ := Aside0.mk (below_step (by repeat (first | (with_reducible first | exact HB.out | apply below_alloc | apply pw_below_drewN | apply below_drew1) | exact HB.out)) hb); clear HB; have HB := n0_; clear n0_; (try clear hb); (try clear hb2); (try clear hk); (try clear hi)))
          go_ret
          exact ⟨by first | rfl | (simp [errW_none, errW_some] <;> rfl) | (simp [*, errW_none, errW_some] <;> rfl), by repeat (first | (with_reducible first | exact HB.out | apply below_alloc | apply pw_below_drewN | apply below_drew1) | exact HB.out)⟩
      · rw [if_neg c6] at H
        have c6b0 : (t105 == t102) = false := beq_eq_false_iff_ne.mpr c6
        have c6b1 : (t105 != t102) = true := bne_iff_ne.mpr c6
        obtain rfl := Option.some.inj H
        go_enter Tryd.func3, Tryd.ntmps3
        go_wp2_with (first | ((with_reducible refine gate_callee (f := 4) rfl ?_); refine goesL_ (some 14) rfl rfl Tryd.func4 (by kernel_rfl) rfl #[.string a0] rfl (by (try simp only [List.map_toArray, List.map_cons, List.map_nil]); first | done | rfl | (simp only [List.length_drop, List.length_take]; rfl)) ?_; (with_reducible refine (spec_RatioOfWord.calls k a0 t101 t102 t103 _ A3.out).mono ?_); rintro e w' ⟨rfl, ⟨nd, rfl⟩⟩; refine ⟨_, rfl, ?_⟩) | ((with_reducible refine gate_callee (f := 5) rfl ?_); refine goesL_ (some 20) rfl rfl Tryd.func5 (by kernel_rfl) rfl #[.string a0] rfl (by (try simp only [List.map_toArray, List.map_cons, List.map_nil]); first | done | rfl | (simp only [List.length_drop, List.length_take]; rfl)) ?_; (with_reducible refine (impl_RatioOfWord.calls a0 t104 t105 t106 _ A4.out).mono ?_); rintro e w10 ⟨rfl, hb⟩; refine ⟨_, rfl, ?_⟩; have n0_ := Aside0.mk (below_step (by repeat (first | (with_reducible first | exact HB.out | apply below_alloc | apply pw_below_drewN | apply below_drew1) | exact HB.out)) hb); clear HB; have HB := n0_; clear n0_; (try clear hb); (try clear hb2); (try clear hk); (try clear hi)))
        go_ret
        exact ⟨by first | rfl | (simp [errW_none, errW_some] <;> rfl) | (simp [*, errW_none, errW_some] <;> rfl), by repeat (first | (with_reducible first | exact HB.out | apply below_alloc | apply pw_below_drewN | apply below_drew1) | exact HB.out)⟩
    · rw [if_neg c5] at H
      have c5b0 : (t104 == t101) = false := beq_eq_false_iff_ne.mpr c5
      have c5b1 : (t104 != t101) = true := bne_iff_ne.mpr c5
      obtain rfl := Option.some.inj H
      go_enter Tryd.func3, Tryd.ntmps3
      go_wp2_with (first | ((with_reducible refine gate_callee (f := 4) rfl ?_); refine goesL_ (some 14) rfl rfl Tryd.func4 (by kernel_rfl) rfl #[.string a0] rfl (by (try simp only [List.map_toArray, List.map_cons, List.map_nil]); first | done | rfl | (simp only [List.length_drop, List.length_take]; rfl)) ?_; (with_reducible refine (spec_RatioOfWord.calls k a0 t101 t102 t103 _ A3.out).mono ?_); rintro e w' ⟨rfl, ⟨nd, rfl⟩⟩; refine ⟨_, rfl, ?_⟩) | ((with_reducible refine gate_callee (f := 5) rfl ?_); refine goesL_ (some 20) rfl rfl Tryd.func5 (by kernel_rfl) rfl #[.string a0] rfl (by (try simp only [List.map_toArray, List.map_cons, List.map_nil]); first | done | rfl | (simp only [List.length_drop, List.length_take]; rfl)) ?_; (with_reducible refine (impl_RatioOfWord.calls a0 t104 t105 t106 _ A4.out).mono ?_); rintro e w11 ⟨rfl, hb⟩; refine ⟨_, rfl, ?_⟩; have n0_ := Aside0.mk (below_step (by repeat (first | (with_reducible first | exact HB.out | apply below_alloc | apply pw_below_drewN | apply below_drew1) | exact HB.out)) hb); clear HB; have HB := n0_; clear n0_; (try clear hb); (try clear hb2); (try clear hk); (try clear hi)))
      go_ret
      exact ⟨by first | rfl | (simp [errW_none, errW_some] <;> rfl) | (simp [*, errW_none, errW_some] <;> rfl), by repeat (first | (with_reducible first | exact HB.out | apply below_alloc | apply pw_below_drewN | apply below_drew1) | exact HB.out)⟩

/-- THE ONE PURE STATEMENT of laws_FnExactRatioOfWord: yours. -/
def laws_FnExactRatioOfWord.Pure : Prop := ∀ (a0 : ByteArray), a0.size ≤ 140737488351232 → ∃ k, laws_FnExactRatioOfWord.f k a0 = some true
theorem laws_FnExactRatioOfWord.walk (P : laws_FnExactRatioOfWord.Pure) (a0 : ByteArray) (w : World) (w0 : a0.size ≤ 140737488351232) :
    Calls Tryd.prog 3 #[.string a0] w fun e w' => e = .returned (.bool true) ∧ Below w.heap.size w w' := by
  obtain ⟨k, h⟩ := P a0 w0
  refine (laws_FnExactRatioOfWord.calls k a0 true w h).mono ?_
  rintro e w' ⟨rfl, hd⟩
  exact ⟨rfl, hd⟩

end Go.Proofs.YtfmhcgjmgaefcacDoor.P

namespace Go.Proofs.YtfmhcgjmgaefcacDoor.Aid
open Go.RowKit Go.Proofs.YtfmhcgjmgaefcacDoorW.PrintWords Go.Proofs.YtfmhcgjmgaefcacDoorW.PrintMore
theorem w64 {e : Int} (h0 : -9223372036854775808 ≤ e) (h1 : e ≤ 9223372036854775807) : wrap64 e = e := by unfold wrap64; omega
theorem ev_pos {α : Type} {c : Prop} [Decidable c] {a b : Nat → Option α} {r : α} (h : c) (e : Ev a r) : Ev (fun k => if c then a k else b k) r := by simpa only [if_pos h] using e
theorem ev_neg {α : Type} {c : Prop} [Decidable c] {a b : Nat → Option α} {r : α} (h : ¬ c) (e : Ev b r) : Ev (fun k => if c then a k else b k) r := by simpa only [if_neg h] using e
theorem ev_some {α : Type} {r s : α} (h : s = r) : Ev (fun _ => some s) r := by subst h; exact Ev.now _
theorem ev_bind {α β : Type} {g : Nat → Option α} {f : Nat → α → Option β} {a : α} {r : β} (h : Ev g a) (k : Ev (fun n => f n a) r) : Ev (fun n => (g n).bind (f n)) r := Ev.bind h k
/-- a call that counts no rounds -/
theorem ev_call {α β : Type} {g : Option α} {f : Nat → α → Option β} {a : α} {r : β} (h : g = some a) (k : Ev (fun n => f n a) r) : Ev (fun n => g.bind (f n)) r := by subst h; exact k
theorem ev_at {α : Type} {g : Nat → Option α} {r : α} (h : Ev g r) : ∃ k, g k = some r := Ev.rounds h
theorem mx_max (a b : Int) : mx a b = max a b := by unfold mx; omega
theorem mn_min (a b : Int) : mn a b = min a b := by unfold mn; omega
/-- n lies in lo..hi -/
def inR (n lo hi : Int) : Bool := decide (lo ≤ n) && decide (n ≤ hi)
theorem inR_iff {n lo hi : Int} : inR n lo hi = true ↔ lo ≤ n ∧ n ≤ hi := by simp [inR]
end Go.Proofs.YtfmhcgjmgaefcacDoor.Aid

namespace Go.Proofs.YtfmhcgjmgaefcacDoor.Pure
set_option linter.unusedVariables false
set_option linter.unusedSimpArgs false
open Go.RowKit Go.Proofs.YtfmhcgjmgaefcacDoor.P Go.Proofs.YtfmhcgjmgaefcacDoorW.PrintWords Go.Proofs.YtfmhcgjmgaefcacDoorW.PrintLast Go.Proofs.YtfmhcgjmgaefcacDoor.Aid
theorem l1In_f (n lo hi : Int) : spec_l1In.f n lo hi = some (inR n lo hi) := by
  unfold spec_l1In.f inR; by_cases c : lo ≤ n <;> simp [c]
theorem within_f (n lo hi : Int) : impl_within.f n lo hi = some (inR n lo hi) := by
  unfold impl_within.f inR; by_cases c : lo ≤ n <;> simp [c]
theorem raGood_f (a b : Int) : spec_raGood.f a b = some (inR a 1 1000 && inR b 1 1000) := by
  unfold spec_raGood.f; simp only [l1In_f, Option.bind_some]; cases inR a 1 1000 <;> simp
theorem isRatio_f (a b : Int) : impl_isRatio.f a b = some (inR a 1 1000 && inR b 1 1000) := by
  unfold impl_isRatio.f; simp only [within_f, Option.bind_some]; cases inR a 1 1000 <;> simp
end Go.Proofs.YtfmhcgjmgaefcacDoor.Pure

namespace Go.Proofs.YtfmhcgjmgaefcacDoor.Pure
set_option linter.unusedVariables false
set_option linter.unusedSimpArgs false
open Go.RowKit Go.Proofs.YtfmhcgjmgaefcacDoor.P Go.Proofs.YtfmhcgjmgaefcacDoorW.PrintWords Go.Proofs.YtfmhcgjmgaefcacDoorW.PrintLast Go.Proofs.YtfmhcgjmgaefcacDoorW.PrintMore Go.Proofs.YtfmhcgjmgaefcacDoor.Aid Go.Proofs.YtfmhcgjmgaefcacDoor.T
def buC (c : Int) : Bool := decide (c = 98) || decide (c = 117)
theorem buAll_bytes (s : ByteArray) : buAll s = (bytesOf s).all buC := by
  unfold buAll bytesOf
  rw [List.all_map]
  congr 1
  funext b
  have e : ∀ x : UInt8, (b == x) = decide ((b.toNat : Int) = (x.toNat : Int)) := fun x => by
    by_cases c : b = x
    · subst c; simp
    · rw [beq_eq_false_iff_ne.2 c, decide_eq_false]
      intro h
      exact c (UInt8.toNat_inj.1 (by omega))
  rw [e, e]
  rfl
theorem isWord_f (s : ByteArray) : impl_isWord.f s = some (decide (s.size ≤ 20) && buAll s) := rfl
theorem bytes_drop (s : ByteArray) (i : Nat) (hi : i < s.size) : (bytesOf s).drop i = bt s (i : Int) :: (bytesOf s).drop (i + 1) := by
  have hl := bytesOf_length s
  have hb := rd_bytesOf s (i : Int)
  have hg : (bytesOf s).getD i 0 = bt s (i : Int) := by rw [← hb]; unfold rd; rw [Int.toNat_natCast]
  rw [List.drop_eq_getElem_cons (by omega), ← hg, List.getD_eq_getElem?_getD, List.getElem?_eq_getElem (by omega)]
  rfl
theorem raWord_l (s : ByteArray) (hs : s.size ≤ 1000000) : ∀ (d i : Nat), i + d = s.size → Ev (fun k => spec_raWord.l0 k s (i : Int)) (((bytesOf s).drop i).all buC)
  | 0, i, hd => by
    refine Ev.step (fun _ => spec_raWord.l0.eq_2 ..) (ev_neg (by omega) (ev_some ?_))
    rw [List.drop_eq_nil_of_le (by rw [bytesOf_length]; omega)]; rfl
  | d + 1, i, hd => by
    have ih := raWord_l s hs d (i + 1) (by omega)
    rw [bytes_drop s i (by omega), List.all_cons]
    refine Ev.step (fun _ => spec_raWord.l0.eq_2 ..) (ev_pos (by omega) (ev_pos (by omega) ?_))
    rw [w64 (e := (i : Int) + 1) (by omega) (by omega)]
    by_cases c1 : bt s (i : Int) = 98
    · refine ev_pos c1 ?_
      have : buC (bt s (i : Int)) = true := by unfold buC; rw [decide_eq_true c1]; rfl
      rw [this, Bool.true_and]
      exact ih
    · refine ev_neg c1 ?_
      by_cases c2 : bt s (i : Int) = 117
      · refine ev_pos c2 ?_
        have : buC (bt s (i : Int)) = true := by unfold buC; rw [decide_eq_true c2]; simp
        rw [this, Bool.true_and]
        exact ih
      · refine ev_neg c2 (ev_some ?_)
        have : buC (bt s (i : Int)) = false := by unfold buC; rw [decide_eq_false c1, decide_eq_false c2]; rfl
        rw [this]
        rfl
theorem raWord_ev (s : ByteArray) : Ev (fun k => spec_raWord.f k s) (decide (s.size ≤ 20) && buAll s) := by
  by_cases c : s.size ≤ 20
  · rw [decide_eq_true c, Bool.true_and, buAll_bytes]
    have := raWord_l s (by omega) s.size 0 (by omega)
    rw [List.drop_zero] at this
    exact ev_neg (by omega) this
  · rw [decide_eq_false c]
    exact ev_pos (by omega) (ev_some rfl)
theorem raRatio_l (s : ByteArray) (hs : s.size ≤ 1000000) : ∀ (d i : Nat) (w h : Int) (o : List Sq), i + d = s.size → Ev (fun k => spec_raRatio.l0 k s w h (i : Int)) ((putsL ((bytesOf s).drop i) w h o).1, (putsL ((bytesOf s).drop i) w h o).2.1)
  | 0, i, w, h, o, hd => by
    rw [List.drop_eq_nil_of_le (by rw [bytesOf_length]; omega)]
    exact Ev.step (fun _ => spec_raRatio.l0.eq_2 ..) (ev_neg (by omega) (ev_some rfl))
  | d + 1, i, w, h, o, hd => by
    rw [bytes_drop s i (by omega)]
    refine Ev.step (fun _ => spec_raRatio.l0.eq_2 ..) (ev_pos (by omega) (ev_pos (by omega) ?_))
    rw [w64 (e := (i : Int) + 1) (by omega) (by omega)]
    simp only [putsL]
    by_cases c : bt s (i : Int) = 98
    · rw [if_pos c]
      exact ev_pos c (raRatio_l s hs d (i + 1) _ _ _ (by omega))
    · rw [if_neg c]
      exact ev_neg c (raRatio_l s hs d (i + 1) _ _ _ (by omega))
theorem raRatio_ev (s : ByteArray) (hs : s.size ≤ 1000000) : Ev (fun k => spec_raRatio.f k s) ((putsL (bytesOf s) 1 1 [⟨0, 0, 1⟩]).1, (putsL (bytesOf s) 1 1 [⟨0, 0, 1⟩]).2.1) := by
  have := raRatio_l s hs s.size 0 1 1 [⟨0, 0, 1⟩] (by omega)
  rw [List.drop_zero] at this
  exact this
theorem puts_f (s : ByteArray) (hs : s.size ≤ 1000000000) : impl_puts.f s = some (putsL (bytesOf s) 1 1 [⟨0, 0, 1⟩]) := by
  unfold impl_puts.f
  rw [if_pos hs]
theorem ratioOfWord_both (s : ByteArray) (hs : s.size ≤ 1048576) : ∃ r : Int × Int × Bool, Ev (fun k => spec_RatioOfWord.f k s) r ∧ impl_RatioOfWord.f s = some r := by
  have hp := puts_f s (by omega)
  have hi := isWord_f s
  have hw := raWord_ev s
  cases b : (decide (s.size ≤ 20) && buAll s) with
  | false =>
    rw [b] at hi hw
    refine ⟨(0, 0, false), ev_bind hw (ev_neg (by simp) (ev_some rfl)), ?_⟩
    unfold impl_RatioOfWord.f
    rw [hp, Option.bind_some, hi, Option.bind_some, if_neg (by simp)]
  | true =>
    rw [b] at hi hw
    have h20 : s.size ≤ 20 := by
      rw [Bool.and_eq_true, decide_eq_true_eq] at b
      exact b.1
    have hr := raRatio_ev s (by omega)
    obtain ⟨⟨x, y, o⟩, hxy⟩ : ∃ t, putsL (bytesOf s) 1 1 [⟨0, 0, 1⟩] = t := ⟨_, rfl⟩
    rw [hxy] at hp hr
    by_cases c : (inR x 1 1000 && inR y 1 1000) = true
    · refine ⟨(x, y, true), ev_bind hw (ev_pos rfl (ev_bind hr (ev_call (raGood_f x y) (ev_pos c (ev_some rfl))))), ?_⟩
      unfold impl_RatioOfWord.f
      rw [hp, Option.bind_some, hi, Option.bind_some, if_pos rfl, isRatio_f, Option.bind_some, if_pos c]
    · refine ⟨(0, 0, false), ev_bind hw (ev_pos rfl (ev_bind hr (ev_call (raGood_f x y) (ev_neg c (ev_some rfl))))), ?_⟩
      unfold impl_RatioOfWord.f
      rw [hp, Option.bind_some, hi, Option.bind_some, if_pos rfl, isRatio_f, Option.bind_some, if_neg c]
end Go.Proofs.YtfmhcgjmgaefcacDoor.Pure

namespace Go.Proofs.YtfmhcgjmgaefcacDoor.Pure
set_option linter.unusedVariables false
set_option linter.unusedSimpArgs false
open Go.RowKit Go.Proofs.YtfmhcgjmgaefcacDoor.P Go.Proofs.YtfmhcgjmgaefcacDoorW.PrintWords Go.Proofs.YtfmhcgjmgaefcacDoorW.PrintLast Go.Proofs.YtfmhcgjmgaefcacDoorW.PrintMore Go.Proofs.YtfmhcgjmgaefcacDoor.Aid Go.Proofs.YtfmhcgjmgaefcacDoor.T
theorem FnExactRatioOfWord : laws_FnExactRatioOfWord.Pure := by
  intro s _
  by_cases c : (s.size : Int) > 1048576
  · exact ev_at (ev_pos c (ev_some rfl))
  · obtain ⟨⟨x, y, o⟩, h1, h2⟩ := ratioOfWord_both s (by omega)
    exact ev_at (ev_neg c (ev_bind h1 (ev_call h2 (ev_pos rfl (ev_pos rfl (ev_neg (by simp) (ev_some rfl)))))))
end Go.Proofs.YtfmhcgjmgaefcacDoor.Pure
