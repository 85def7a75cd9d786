import Derived.Test.YtnnbecckigpeeabK
namespace Go.Proofs.Ytnnbecckigpeeab.P
open Go.RowKit Go.Proofs.YtnnbecckigpeeabW.PrintWords Go.Proofs.YtnnbecckigpeeabW.PrintLast Go.Proofs.YtnnbecckigpeeabW.PrintMore
attribute [local go_sem] max2_int min2_int max_two min_two max_three min_three max_four min_four
set_option linter.unusedVariables false
set_option linter.unusedSimpArgs false

/-! ### impl_puts: function 13 -/
/-- the squares of a word as they are put: the width, the height, the squares -/
def putsL : List Int → Int → Int → List S39 → Int × Int × List S39
  | [], w, h, o => (w, h, o)
  | c :: l, w, h, o => if c = 98 then putsL l (wrap64 (w + h)) h (o ++ [⟨w, 0, h⟩]) else putsL l w (wrap64 (h + w)) (o ++ [⟨0, h, w⟩])
def impl_puts.f (a0 : ByteArray) : Option (Int × Int × List S39) := if a0.size ≤ 1000000000 then some (putsL (bytesOf a0) 1 1 [⟨0, 0, 1⟩]) else none
theorem putsL_drop (l : List Int) (i : Nat) (hi : i < l.length) (w h : Int) (o : List S39) : putsL (l.drop i) w h o = if l.getD i 0 = 98 then putsL (l.drop (i + 1)) (wrap64 (w + h)) h (o ++ [⟨w, 0, h⟩]) else putsL (l.drop (i + 1)) w (wrap64 (h + w)) (o ++ [⟨0, h, w⟩]) := by
  rw [List.drop_eq_getElem_cons hi]
  simp only [putsL, List.getD_eq_getElem?_getD, List.getElem?_eq_getElem hi, Option.getD_some]
set_option maxHeartbeats 2000000 in
theorem impl_puts.calls (a0 : ByteArray) (r1 : Int) (r2 : Int) (r3 : List S39) (w : World) (h : impl_puts.f a0 = some (r1, r2, r3)) :
    Calls Try.prog 13 #[.string a0] w fun e w' => ∃ v0_ : Value, e = .returned (.tuple #[.int .i64 r1, .int .i64 r2, v0_]) ∧ Kd.R k39 39 w' w.heap.size (fun _ => True) v0_ r3 ∧ Below w.heap.size w w' := by
  have hu0_ := Try.underlying39
  unfold impl_puts.f at h
  by_cases hs : a0.size ≤ 1000000000
  · rw [if_pos hs] at h
    have H1 := Aside0.mk (Option.some.inj h)
    clear h
    have kb := fun W => print_bytes (P := Try.prog) 9 40 5 Try.underlying9 Try.underlying40 Try.underlying5 a0 W
    have hL := Aside0.mk (bytesOf_length a0)
    go_enter Try.func13, Try.ntmps13
    go_wp2
    have hO1 : Kd.R k39 39 (w.alloc (.cells #[.int .i64 0, .int .i64 0, .int .i64 1] 39)) w.heap.size (fun _ => True) (.slice (some ⟨w.heap.size, 0, none⟩) 1 1) [⟨0, 0, 1⟩] :=
      ⟨fun _ _ => trivial, [.int .i64 0, .int .i64 0, .int .i64 1], World.ownsRow_lit (base := w.heap.size) (e := 39) (size := 3) w #[.int .i64 0, .int .i64 0, .int .i64 1] 1 (Nat.le_refl _) (by simp [maxLen]) (by simp), Reps.c3 (k39_mkM _ _ _ (⟨0, 0, 1⟩ : S39)) (Reps.none _ _)⟩
    have hS1 : w.heap.size + 1 = (w.alloc (.cells #[.int .i64 0, .int .i64 0, .int .i64 1] 39)).heap.size := by simp
    have hB1 : Below w.heap.size w (w.alloc (.cells #[.int .i64 0, .int .i64 0, .int .i64 1] 39)) := (Below.refl _ _).alloc (Nat.le_refl _) _
    rw [hS1]
    generalize (.slice (some ⟨w.heap.size, 0, none⟩) 1 1 : Value) = v7 at hO1 ⊢
    generalize w.alloc (.cells #[.int .i64 0, .int .i64 0, .int .i64 1] 39) = w1 at hO1 hB1 ⊢
    have HO := Aside0.mk hO1
    have HB := Aside0.mk hB1
    clear hO1 hB1 hS1
    have hcell : ∀ i, i < a0.size → (Lib.bytesWorld w1 5 a0).cell? ⟨w1.heap.size, i, none⟩ = some (.int .u8 ((bytesOf a0).getD i 0)) := fun i hi => by
      obtain ⟨ad, e, hh⟩ := (bytes_reads w1 5 a0 (by omega)).2.2 (by omega)
      injection e with e
      subst e
      have := hh i hi
      rwa [add_plain] at this
    have HBX := Aside0.mk (bytes_below HB.out HB.out.size 5 a0)
    have HX1 : Below w1.heap.size w1 (Lib.bytesWorld w1 5 a0) := bytes_below (Below.refl _ _) (Nat.le_refl _) 5 a0
    have hsz : w1.heap.size < (Lib.bytesWorld w1 5 a0).heap.size := by rw [Lib.bytesWorld_size]; omega
    obtain ⟨ob, hob⟩ : ∃ ob, (Lib.bytesWorld w1 5 a0).heap[w1.heap.size]? = some ob := ⟨_, Array.getElem?_eq_getElem hsz⟩
    have HOX := Aside0.mk (Kd.R_mono (Kd.R_below (Kd.R_bound HO.out) HX1) (ok' := fun k => k ≠ w1.heap.size) (fun k hk => by have := hk.2.2.1; omega))
    have HCELL : Aside0 (∀ X : World, X.heap[w1.heap.size]? = some ob → ∀ i, i < a0.size → X.cell? ⟨w1.heap.size, i, none⟩ = some (.int .u8 ((bytesOf a0).getD i 0))) := ⟨fun X hX i hi => by
      rw [← hcell i hi]
      exact World.cell?_of_block (hX.trans hob.symm)⟩
    have HOB := Aside0.mk hob
    clear HO HB HX1 hsz hcell hob
    generalize Lib.bytesWorld w1 5 a0 = X at HBX HOX HOB ⊢
    generalize w1.heap.size = gb at HOX HOB HCELL ⊢
    go_loopg [5, 6, 7, 9, 15] a0.size (fun kq v5 v6 v7 v9 v15 wc => ∃ (i : Nat) (x y : Int) (o : List S39), i ≤ a0.size ∧ a0.size - i ≤ kq ∧ v15 = .int .i64 i ∧ v5 = .int .i64 x ∧ v6 = .int .i64 y ∧ Aside0 (putsL ((bytesOf a0).drop i) x y o = (r1, r2, r3)) ∧ Aside0 (o.length ≤ i + 1) ∧ Aside0 (Kd.R k39 39 wc w.heap.size (fun k => k ≠ gb) v7 o) ∧ Aside0 (wc.heap[gb]? = some ob) ∧ Aside0 (Below w.heap.size w wc))
    case atStart => exact ⟨0, 1, 1, [⟨0, 0, 1⟩], by omega, by omega, rfl, rfl, rfl, H1, ⟨by simp⟩, HOX, HOB, HBX⟩
    case round =>
      clear H1 HOX HOB HBX
      obtain ⟨i, x, y, o, hi, hkq, rfl, rfl, rfl, H1, HLO, HO, HOB, HB⟩ := hrel
      by_cases hlt : i < a0.size
      · have hz : decide ((i : Int) < (a0.size : Int)) = true := by simp; omega
        have hcell := HCELL.out wr HOB.out i hlt
        have HN := Aside0.mk (putsL_drop (bytesOf a0) i (by rw [hL.out]; exact hlt) x y o)
        generalize (bytesOf a0).getD i 0 = c at hcell HN
        by_cases hc : c = 98
        · have hcb : (c == 98) = true := by simp [hc]
          have HCC := Aside0.mk hc
          clear hc
          go_wp2_with (first | ((with_reducible refine gate_builtin (b := .append) (xs := #[.tmp 21, .tmp 25]) rfl ?_); at_builtin; refine Kd.R_append k39 (w0 := w) w.heap.size rfl (.tmp 21) (.tmp 25) 33 39 (.agg #[(.int .i64 0), (.int .i64 0), (.int .i64 0)]) 24 rfl Try.underlying33 info39 rfl (by decide) (by omega) u7 o (⟨x, 0, y⟩ : S39) [.int .i64 x, .int .i64 0, .int .i64 y] (fun k => k ≠ gb) (fun _ => False) rfl rfl ?aP (fun _ hk => hk.elim) ?aF ?aO ?aB ?aS ?aL ?_; (case aP => exact k39_mkM _ _ _ (⟨x, 0, y⟩ : S39)); (case aB => exact (by repeat (first | (with_reducible first | exact HB.out | apply below_alloc | apply pw_below_drewN | apply below_drew1) | exact HB.out))); (case aF => exact (fun k hk => by have := blk_lt HOB.out; (try simp at hk); omega)); (case aO => exact (by (with_reducible repeat (first | apply Kd.R_alloc | apply Kd.R_drewN | apply Kd.R_drew)); exact HO.out)); (case aS => exact (below_size (by repeat (first | (with_reducible first | exact HB.out | apply below_alloc | apply pw_below_drewN | apply below_drew1) | exact HB.out)))); (case aL => have := HLO.out; omega); intro v71 w12 ho hb hg hat; have n0_ := Aside0.mk (blk_grown (g := gb) HOB.out hg (fun e => HO.out.1 gb e.symm rfl)); have n1_ := Aside0.mk hb; have n2_ := Aside0.mk ho; clear HOB HB HO ho hb hg hat; have HOB := n0_; have HB := n1_; have HO := n2_; clear n0_ n1_ n2_))
          go_roundg (a0.size - (i + 1))
          case measure => omega
          case rel => exact ⟨i + 1, wrap64 (x + y), y, o ++ [⟨x, 0, y⟩], by omega, by omega, by go_num, by first | trivial | rfl, by first | trivial | rfl, ⟨by rw [← H1.out, HN.out, if_pos HCC.out]⟩, ⟨by have := HLO.out; simp; omega⟩, HO, HOB, HB⟩
        · have hcb : (c == 98) = false := by simp [hc]
          have HCC := Aside0.mk hc
          clear hc
          go_wp2_with (first | ((with_reducible refine gate_builtin (b := .append) (xs := #[.tmp 30, .tmp 34]) rfl ?_); at_builtin; refine Kd.R_append k39 (w0 := w) w.heap.size rfl (.tmp 30) (.tmp 34) 33 39 (.agg #[(.int .i64 0), (.int .i64 0), (.int .i64 0)]) 24 rfl Try.underlying33 info39 rfl (by decide) (by omega) u7 o (⟨0, y, x⟩ : S39) [.int .i64 0, .int .i64 y, .int .i64 x] (fun k => k ≠ gb) (fun _ => False) rfl rfl ?aP (fun _ hk => hk.elim) ?aF ?aO ?aB ?aS ?aL ?_; (case aP => exact k39_mkM _ _ _ (⟨0, y, x⟩ : S39)); (case aB => exact (by repeat (first | (with_reducible first | exact HB.out | apply below_alloc | apply pw_below_drewN | apply below_drew1) | exact HB.out))); (case aF => exact (fun k hk => by have := blk_lt HOB.out; (try simp at hk); omega)); (case aO => exact (by (with_reducible repeat (first | apply Kd.R_alloc | apply Kd.R_drewN | apply Kd.R_drew)); exact HO.out)); (case aS => exact (below_size (by repeat (first | (with_reducible first | exact HB.out | apply below_alloc | apply pw_below_drewN | apply below_drew1) | exact HB.out)))); (case aL => have := HLO.out; omega); intro v71 w12 ho hb hg hat; have n0_ := Aside0.mk (blk_grown (g := gb) HOB.out hg (fun e => HO.out.1 gb e.symm rfl)); have n1_ := Aside0.mk hb; have n2_ := Aside0.mk ho; clear HOB HB HO ho hb hg hat; have HOB := n0_; have HB := n1_; have HO := n2_; clear n0_ n1_ n2_))
          go_roundg (a0.size - (i + 1))
          case measure => omega
          case rel => exact ⟨i + 1, x, wrap64 (y + x), o ++ [⟨0, y, x⟩], by omega, by omega, by go_num, by first | trivial | rfl, by first | trivial | rfl, ⟨by rw [← H1.out, HN.out, if_neg HCC.out]⟩, ⟨by have := HLO.out; simp; omega⟩, HO, HOB, HB⟩
      · have hz : decide ((i : Int) < (a0.size : Int)) = false := by simp; omega
        have hx := H1.out
        rw [List.drop_eq_nil_of_le (by rw [hL.out]; omega)] at hx
        simp only [putsL, Prod.mk.injEq] at hx
        obtain ⟨rfl, rfl, rfl⟩ := hx
        go_wp2
        go_ret3
        exact ⟨_, rfl, Kd.R_mono HO.out (fun _ _ => trivial), HB.out⟩
  · rw [if_neg hs] at h; cases h

end Go.Proofs.Ytnnbecckigpeeab.P
