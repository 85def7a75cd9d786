import Derived.Test.YtnnbecckigpeeaaK
import Derived.Test.YtnnbecckigpeeaaF42
namespace Go.Proofs.Ytnnbecckigpeeaa.P
open Go.RowKit Go.Proofs.YtnnbecckigpeeaaW.PrintWords Go.Proofs.YtnnbecckigpeeaaW.PrintLast Go.Proofs.YtnnbecckigpeeaaW.PrintMore
attribute [local go_sem] max2_int min2_int max_two min_two max_three min_three max_four min_four
set_option linter.unusedVariables false
set_option linter.unusedSimpArgs false

/-! ### impl_RankOfRatio: function 22 -/
/-- a word's place, sign by sign -/
def rankL : List Int → Int → Int
  | [], r => r
  | c :: l, r => rankL l (wrap64 (wrap64 (2 * r) + (if c = 117 then 1 else 0)))
def impl_RankOfRatio.f (k : Nat) (a0 a1 : Int) : Option (Int × Bool) := (impl_WordOfRatio.f k a0 a1).bind fun t => if t.1.size ≤ 1000000 then some (rankL (bytesOf t.1) 0, t.2) else none
theorem impl_RankOfRatio.mono : ∀ a0 a1 k, LeO (impl_RankOfRatio.f k a0 a1) (impl_RankOfRatio.f (k + 1) a0 a1) := by
  intro a0 a1 k
  unfold impl_RankOfRatio.f
  exact LeO.bind (impl_WordOfRatio.mono a0 a1 k) (fun _ => LeO.refl _)
theorem rankL_drop (l : List Int) (i : Nat) (hi : i < l.length) (r : Int) : rankL (l.drop i) r = rankL (l.drop (i + 1)) (wrap64 (wrap64 (2 * r) + (if l.getD i 0 = 117 then 1 else 0))) := by
  rw [List.drop_eq_getElem_cons hi]
  simp only [rankL, List.getD_eq_getElem?_getD, List.getElem?_eq_getElem hi, Option.getD_some]
theorem impl_bit_any (b : Bool) (w : World) : Calls Try.prog 43 #[.bool b] w fun e w' => e = .returned (.int .i64 (if b = true then 1 else 0)) ∧ w = w' := by
  cases b
  · go_enter Try.func43, Try.ntmps43
    go_wp2
    go_ret
    exact ⟨rfl, rfl⟩
  · go_enter Try.func43, Try.ntmps43
    go_wp2
    go_ret
    exact ⟨rfl, rfl⟩
set_option maxHeartbeats 1000000 in
theorem impl_RankOfRatio.calls (k : Nat) (a0 : Int) (a1 : Int) (r1 : Int) (r2 : Bool) (w : World) (h : impl_RankOfRatio.f k a0 a1 = some (r1, r2)) :
    Calls Try.prog 22 #[.int .i64 a0, .int .i64 a1] w fun e w' => e = .returned (.tuple #[.int .i64 r1, .bool r2]) ∧ Below w.heap.size w w' := by
  obtain ⟨⟨s, o⟩, hw, h⟩ := Option.bind_eq_some_iff.mp h
  simp only at h
  by_cases hs : s.size ≤ 1000000
  · rw [if_pos hs] at h
    injection h with h
    injection h with h1 h2
    subst h2
    have HW := Aside0.mk (fun W => impl_WordOfRatio.calls k a0 a1 s o W hw)
    have H1 := Aside0.mk h1
    clear hw h1
    have kb := fun W => print_bytes (P := Try.prog) 9 53 5 Try.underlying9 Try.underlying53 Try.underlying5 s W
    have hL := bytesOf_length s
    go_enter Try.func22, Try.ntmps22
    go_wp2_with (go_at_call 42; refine (HW.out _).mono ?_; rintro e w1 ⟨rfl, hb1⟩)
    have hR : Aside0 (ReadsInt (Lib.bytesWorld w1 5 s) .u8 (some ⟨w1.heap.size, 0, none⟩) s.size (bytesOf s)) := ⟨bytes_reads w1 _ s (by omega)⟩
    have hBX : Aside0 (Below w.heap.size w (Lib.bytesWorld w1 5 s)) := ⟨bytes_below hb1 (by have := hb1.size; omega) _ s⟩
    generalize Lib.bytesWorld w1 5 s = X at hR hBX ⊢
    go_loopw [8, 10, 20] (fun v8 v10 v20 wc => ∃ (i : Nat) (x : Int), i ≤ s.size ∧ v20 = .int .i64 i ∧ v8 = .int .i64 x ∧ Aside0 (rankL ((bytesOf s).drop i) x = r1) ∧ wc = X) (fun _ _ v20 _ => s.size - (intOf v20).toNat)
    case atStart => exact ⟨0, 0, by omega, rfl, rfl, ⟨H1.out⟩, rfl⟩
    case round =>
      obtain ⟨i, x, hi, rfl, rfl, HR, rfl⟩ := hrel
      by_cases hlt : i < s.size
      · have hz : decide ((i : Int) < (s.size : Int)) = true := by simp; omega
        have hcell : wr.cell? ⟨w1.heap.size, i, none⟩ = some (.int .u8 ((bytesOf s).getD i 0)) := by
          obtain ⟨ad, e, hh⟩ := hR.out.2.2 (by omega)
          injection e with e
          subst e
          have := hh i hlt
          rw [add_plain] at this
          exact this
        have HN := Aside0.mk (rankL_drop (bytesOf s) i (by omega) x)
        generalize (bytesOf s).getD i 0 = c at hcell HN
        have HB := Aside0.mk (fun b W => impl_bit_any b W)
        by_cases hc : c = 117
        · have hcb : (c == 117) = true := by simp [hc]
          have HCC := Aside0.mk hc
          clear hc
          go_wp2_with (go_at_call 43; refine (HB.out _ _).mono ?_; rintro e w' ⟨rfl, rfl⟩)
          go_roundw
          case rel =>
            refine ⟨i + 1, wrap64 (wrap64 (2 * x) + 1), by omega, by go_num, ?_, ⟨?_⟩, by first | trivial | rfl⟩
            · first | rfl | simp
            · rw [← HR.out, HN.out, if_pos HCC.out]
          case measure => simp [intOf]; omega
        · have hcb : (c == 117) = false := by simp [hc]
          have HCC := Aside0.mk hc
          clear hc
          go_wp2_with (go_at_call 43; refine (HB.out _ _).mono ?_; rintro e w' ⟨rfl, rfl⟩)
          go_roundw
          case rel =>
            refine ⟨i + 1, wrap64 (wrap64 (2 * x) + 0), by omega, by go_num, ?_, ⟨?_⟩, by first | trivial | rfl⟩
            · first | rfl | simp
            · rw [← HR.out, HN.out, if_neg HCC.out]
          case measure => simp [intOf]; omega
      · have hz : decide ((i : Int) < (s.size : Int)) = false := by simp; omega
        have hx : x = r1 := by
          have := HR.out
          rw [List.drop_eq_nil_of_le (by rw [hL]; omega)] at this
          exact this
        subst hx
        go_wp2
        go_ret2
        exact ⟨rfl, hBX.out⟩
  · rw [if_neg hs] at h; cases h

end Go.Proofs.Ytnnbecckigpeeaa.P
