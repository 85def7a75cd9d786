import Derived.Test.YtfmhcgjmgaefcabMFnExactLinesLosex0
import Derived.Test.YtfmhcgjmgaefcabMFnExactLinesLosex1
import Derived.Test.YtfmhcgjmgaefcabMFnExactLinesLosex2
import Derived.Test.YtfmhcgjmgaefcabMFnExactLinesLosex3
import Derived.StillTailTactics
import Derived.Shelf.Abstract
import Derived.RegionTactic
import Derived.ChangeAlike
import Derived.BigRegion
import Derived.Laws.EntriesVeiled
namespace Go.Proofs.Ytfmhcgjmgaefcab.P
open Go.RowKit Go.Proofs.YtfmhcgjmgaefcabW.PrintWords Go.Proofs.YtfmhcgjmgaefcabW.PrintLast Go.Proofs.YtfmhcgjmgaefcabW.PrintMore
attribute [local go_sem] max2_int min2_int max_two min_two max_three min_three max_four min_four
set_option linter.unusedVariables false
set_option linter.unusedSimpArgs false

/-! ### impl_filler_fill: function 82 -/
open Go.Proofs.Ytfmhcgjmgaefcab.T Go.Proofs.Ytfmhcgjmgaefcab.Gr Go.Proofs.Ytfmhcgjmgaefcab.Aid
/-- what lay below base stands, but for the blocks of X -/
structure Fr (base : Nat) (X : Nat → Prop) (w w' : World) : Prop where
  os : w'.os = w.os
  tape : w'.tape = w.tape
  output : w'.output = w.output
  size : w.heap.size ≤ w'.heap.size
  block : ∀ k, k < base → ¬ X k → w'.heap[k]? = w.heap[k]?
theorem Fr.refl (base : Nat) (X : Nat → Prop) (w : World) : Fr base X w w := ⟨rfl, rfl, rfl, Nat.le_refl _, fun _ _ _ => rfl⟩
theorem Fr.trans {b b' : Nat} {X X' : Nat → Prop} {w w1 w2 : World} (h : Fr b X w w1) (k : Fr b' X' w1 w2) (hb : b ≤ b') (hx : ∀ j, j < b → X' j → X j) : Fr b X w w2 :=
  ⟨k.os.trans h.os, k.tape.trans h.tape, k.output.trans h.output, Nat.le_trans h.size k.size, fun j hj hn => (k.block j (by omega) (fun hk => hn (hx j hj hk))).trans (h.block j hj hn)⟩
theorem Fr.of_below {b : Nat} {X : Nat → Prop} {w w' : World} (h : Below w.heap.size w w') (hb : b ≤ w.heap.size) : Fr b X w w' := ⟨h.os, h.tape, h.output, h.size, fun k hk _ => h.block k (by omega)⟩
theorem Fr.below {b : Nat} {X : Nat → Prop} {w w1 w2 : World} (h : Fr b X w w1) (k : Below w1.heap.size w1 w2) (hb : b ≤ w.heap.size) : Fr b X w w2 :=
  h.trans (Fr.of_below (X := X) k (Nat.le_trans hb h.size)) (Nat.le_refl _) (fun _ _ hx => hx)
theorem Fr.set_ {b : Nat} {X : Nat → Prop} {w w1 : World} (h : Fr b X w w1) {p : Addr} (hp : b ≤ p.block) (u : Value) : Fr b X w (w1.setCell p u) :=
  ⟨h.os, h.tape, h.output, by simpa [World.setCell] using h.size, fun k hk hn => (Below.heap_setCell w1 p u k (by omega)).trans (h.block k hk hn)⟩
/-- a function that is called with each list of squares: it takes s to what 'step' says, and writes X's blocks alone -/
structure Each {σ : Type} (g : Nat) (lb : Array Value) (Q : σ → List Sq → Prop) (step : σ → List Sq → σ × Bool) (I : σ → World → (Nat → Prop) → Prop) : Prop where
  bd : ∀ {s W X}, I s W X → ∀ k, X k → k < W.heap.size
  mv : ∀ {s W W' X}, I s W X → (∀ k, X k → W'.heap[k]? = W.heap[k]?) → I s W' X
  eg : ∀ args w, (callFunc g args).run Try.prog w = .ok (.enter g args) w
  call : ∀ s W X A c sq, I s W X → Kd.C k57 W A sq.length sq → sq.length ≤ c → Q s sq → Calls Try.prog g (#[.slice A sq.length c] ++ lb) W fun e W' =>
    e = .returned (.bool (step s sq).2) ∧ ∃ X', I (step s sq).1 W' X' ∧ (∀ k, X' k → X k ∨ W.heap.size ≤ k) ∧ Fr W.heap.size X W W'
/-- the filler, its columns, its squares, and the state of what is called -/
structure FS {σ : Type} (I : σ → World → (Nat → Prop) → Prop) (base F G : Nat) (H most : Int) (ev : Value) (f : List Int) (sq : List Sq) (vS : Value) (s : σ) (X : Nat → Prop) (w : World) : Prop where
  st : I s w X
  fil : Fil w F G H most f vS ev
  row : Kd.R k57 57 w base (fun k => ¬ X k) vS sq
  nF : ¬ X F
  nG : ¬ X G
  size : base ≤ w.heap.size
section
variable {σ : Type} {g : Nat} {lb : Array Value} {Q : σ → List Sq → Prop} {step : σ → List Sq → σ × Bool} {I : σ → World → (Nat → Prop) → Prop} {base F G : Nat} {H most : Int} {ev vS : Value} {f : List Int} {sq : List Sq} {s : σ} {X : Nat → Prop} {w w1 : World}
theorem FS.ne (h : FS I base F G H most ev f sq vS s X w) : F ≠ G := blk_ne h.fil.own h.fil.cols (by decide)
theorem FS.below (E : Each g lb Q step I) (h : FS I base F G H most ev f sq vS s X w) (hb : Below w.heap.size w w1) : FS I base F G H most ev f sq vS s X w1 :=
  ⟨E.mv h.st (fun k hk => hb.block k (E.bd h.st k hk)), h.fil.below hb, Kd.R_below h.row hb, h.nF, h.nG, Nat.le_trans h.size hb.size⟩
theorem FS.col (E : Each g lb Q step I) (h : FS I base F G H most ev f sq vS s X w) (i : Nat) (hi : i < f.length) (v : Int) : FS I base F G H most ev (f.set i v) sq vS s X (w.setCell ⟨G, i, none⟩ (.int .i64 v)) := by
  have hne := h.ne
  refine ⟨E.mv h.st (fun k hk => Below.heap_setCell w _ _ k (fun e => h.nG (by subst e; exact hk))), ⟨?_, ?_⟩, ?_, h.nF, h.nG, by simpa [World.setCell] using h.size⟩
  · rw [List.length_set]
    exact blk_far h.fil.own (p := ⟨G, i, none⟩) hne _
  · refine blk_put h.fil.cols i _ ?_
    simp [List.map_set]
  · exact Kd.R_mono (Kd.R_far (p := ⟨G, i, none⟩) (Kd.R_types h.row h.fil.cols (by decide)) (fun _ hk => hk.2) _) (fun _ hk => hk.1)
theorem FS.put3 (E : Each g lb Q step I) {sq' : List Sq} {v1 : Value} (hst : I s w1 X) (hfil : Fil w1 F G H most f vS ev) (hrow : Kd.R k57 57 w1 base (fun k => ¬ X k) v1 sq') (nF : ¬ X F) (nG : ¬ X G) (hz : base ≤ w1.heap.size) :
    FS I base F G H most ev f sq' v1 s X (w1.setCell ⟨F, 3, none⟩ v1) := by
  have hne : F ≠ G := blk_ne hfil.own hfil.cols (by decide)
  refine ⟨E.mv hst (fun k hk => Below.heap_setCell w1 _ _ k (fun e => nF (by subst e; exact hk))), ⟨?_, ?_⟩, ?_, nF, nG, by simpa [World.setCell] using hz⟩
  · exact blk_put hfil.own 3 _ rfl
  · exact blk_far hfil.cols (p := ⟨F, 3, none⟩) (Ne.symm hne) _
  · exact Kd.R_mono (Kd.R_far (p := ⟨F, 3, none⟩) (Kd.R_types hrow hfil.own (by decide)) (fun _ hk => hk.2) _) (fun _ hk => hk.1)
theorem FS.grown (E : Each g lb Q step I) (h : FS I base F G H most ev f sq vS s X w) (hg : w.grownBy w1 vS.ownBlock) : I s w1 X ∧ Fil w1 F G H most f vS ev ∧ Fr base X w w1 := by
  refine ⟨E.mv h.st (fun k hk => hg.block k (E.bd h.st k hk) (fun e => h.row.1 k e.symm hk)), ⟨blk_grown h.fil.own hg (Kd.R_ne h.row h.fil.own (by decide)), blk_grown h.fil.cols hg (Kd.R_ne h.row h.fil.cols (by decide))⟩, hg.os, hg.tape, hg.output, hg.size, fun k hk _ => hg.block k (Nat.lt_of_lt_of_le hk h.size) (fun e => ?_)⟩
  have := Kd.R_base h.row k e.symm
  omega
theorem FS.cut {q : Sq} {A : Option Addr} {n c : Nat} (E : Each g lb Q step I) (h : FS I base F G H most ev f (sq ++ [q]) (.slice A n c) s X w) : FS I base F G H most ev f sq (.slice A sq.length c) s X (w.setCell ⟨F, 3, none⟩ (.slice A sq.length c)) := by
  refine FS.put3 E h.st h.fil ?_ h.nF h.nG h.size
  have := Kd.R_take h.row (m := sq.length) (by simp)
  rwa [List.take_left] at this
end
section
variable {σ : Type} {g : Nat} {lb : Array Value} {Q : σ → List Sq → Prop} {step : σ → List Sq → σ × Bool} {I : σ → World → (Nat → Prop) → Prop} {base F G : Nat} {H most : Int} {ev vS : Value} {f : List Int} {sq : List Sq} {s s' : σ} {X X' : Nat → Prop} {w w1 : World}
theorem FS.called (h : FS I base F G H most ev f sq vS s X w) (hI : I s' w1 X') (hsub : ∀ k, X' k → X k ∨ w.heap.size ≤ k) (hfr : Fr w.heap.size X w w1) : FS I base F G H most ev f sq vS s' X' w1 := by
  have hF := blk_lt h.fil.own
  have hG := blk_lt h.fil.cols
  refine ⟨hI, ⟨(hfr.block F hF h.nF).trans h.fil.own, (hfr.block G hG h.nG).trans h.fil.cols⟩, ?_, fun hk => ?_, fun hk => ?_, Nat.le_trans h.size hfr.size⟩
  · refine Kd.R_mono (Kd.R_step (Kd.R_bound h.row) (fun k hk hlt => hfr.block k hlt hk.1)) (fun k hk hx => ?_)
    rcases hsub k hx with h1 | h1
    · exact hk.1 h1
    · have := hk.2.2.1; omega
  · rcases hsub F hk with h1 | h1
    · exact h.nF h1
    · omega
  · rcases hsub G hk with h1 | h1
    · exact h.nG h1
    · omega
end
theorem foldE_one {σ α : Type} (step : σ → α → σ × Bool) (s : σ) (t : α) : foldE step s [t] = step s t := by
  simp only [foldE]
  cases c : (step s t).2
  · exact Prod.ext rfl c.symm
  · exact Prod.ext rfl c.symm
theorem leastL_bd {h : Int} {f : List Int} (hh : h ≤ 1000) (hf : ∀ c, c < f.length → 0 ≤ ht f c ∧ ht f c ≤ h) : ∀ (n x : Nat) (many : Int) (st : List Int), x ≤ f.length → leastL h f n x many st ≤ many + 1001 * ((f.length : Int) - x)
  | 0, x, many, st, hx => by simp only [leastL]; omega
  | n + 1, x, many, st, hx => by
    simp only [leastL]
    by_cases c : x < f.length
    · rw [if_pos c]
      have he := extra_bd c hf hh
      have hr := runAt_pos f x c
      have hl := runAt_le f x hx
      cases hp : pop (ht f x) st with
      | nil =>
        have := leastL_bd hh hf n (x + runAt f x) (many + extra h f x + if ht f x < h then 1 else 0) [ht f x] hl
        have h1 : (if ht f x < h then (1 : Int) else 0) ≤ 1 := by split <;> omega
        simp only [hp]
        omega
      | cons z r =>
        simp only [hp]
        by_cases c2 : ht f x < z
        · rw [if_pos c2]
          have := leastL_bd hh hf n (x + runAt f x) (many + extra h f x + if ht f x < h then 1 else 0) (ht f x :: z :: r) hl
          have h1 : (if ht f x < h then (1 : Int) else 0) ≤ 1 := by split <;> omega
          omega
        · rw [if_neg c2]
          have := leastL_bd hh hf n (x + runAt f x) (many + extra h f x) (z :: r) hl
          omega
    · rw [if_neg c]; omega
theorem least_bd {h : Int} {f : List Int} (hh : h ≤ 1000) (hn : f.length ≤ 1000) (hf : ∀ c, c < f.length → 0 ≤ ht f c ∧ ht f c ≤ h) : 0 ≤ least h f ∧ least h f ≤ 1001000 := by
  have h1 := leastL_ge f h (f.length + 1) 0 0 []
  have h2 := leastL_bd hh hf (f.length + 1) 0 0 [] (by omega)
  unfold least
  omega
theorem index_l (f : List Int) (hn : f.length ≤ 1000) (x : Nat) (hx : x < f.length) (hb : ∀ c, c < x → ht f c ≠ ht f x) : ∀ (d i : Nat), i + d = x → Ev (fun k => slices_Index_int_int.l0 k f (ht f x) (f.length : Int) i) (x : Int)
  | 0, i, hd => by
    obtain rfl : i = x := by omega
    exact Ev.step (fun _ => slices_Index_int_int.l0.eq_2 ..) (ev_pos (by omega) (ev_pos (by omega) (ev_pos (by omega) (ev_pos (by simp [rd, ht]) (ev_some rfl)))))
  | d + 1, i, hd => Ev.step (fun _ => slices_Index_int_int.l0.eq_2 ..) (ev_pos (by omega) (ev_pos (by omega) (ev_pos (by omega) (ev_neg (fun e => hb i (by omega) (by rw [e]; simp [rd, ht])) (by
      rw [w64 (by omega) (by omega)]
      exact index_l f hn x hx hb d (i + 1) (by omega))))))
theorem index_low (f : List Int) (hn : f.length ≤ 1000) (hne : f ≠ []) : ∃ k, slices_Index_int_int.f k f (ht f (low f)) = some (low f : Int) := by
  have L := low_spec f hne
  exact ev_at (index_l f hn (low f) L.lt (fun c hc => by have := L.first c hc; omega) (low f) 0 (by omega))
theorem Fil.reads {w : World} {F G : Nat} {H most : Int} {f : List Int} {vS each : Value} (h : Fil w F G H most f vS each) (hn : f.length ≤ 1000) : Kd.C (Kd.int .i64) w (some ⟨G, 0, none⟩) f.length f := by
  refine ⟨rfl, by omega, fun _ => ⟨_, rfl, fun j p hj => ⟨[.int .i64 p], rfl, rfl, fun i u hu => ?_⟩⟩⟩
  have hjl := (List.getElem?_eq_some_iff.1 hj).1
  have hi : i = 0 := by
    have := (List.getElem?_eq_some_iff.1 hu).1
    simpa using this
  subst hi
  injection hu with hu
  subst hu
  rw [add_plain, show j * (Kd.int .i64).sz + 0 = j from by show j * 1 + 0 = j; omega, h.col j hjl]
  simp [ht, hj]
/-- what a call of fill leaves -/
def FillPost {σ : Type} (I : σ → World → (Nat → Prop) → Prop) (base F G : Nat) (H most : Int) (ev : Value) (f : List Int) (sq : List Sq) (X : Nat → Prop) (r : σ × Bool) (w : World) (e : Ending) (w' : World) : Prop :=
  e = .returned (.bool r.2) ∧ ∃ X' vS', FS I base F G H most ev f sq vS' r.1 X' w' ∧ (∀ k, X' k → X k ∨ w.heap.size ≤ k) ∧ Fr base X w w'
set_option maxHeartbeats 8000000 in
set_option maxRecDepth 100000 in
theorem filler_fill {σ : Type} {g : Nat} {lb : Array Value} {Q : σ → List Sq → Prop} {step : σ → List Sq → σ × Bool} {I : σ → World → (Nat → Prop) → Prop} (E : Each g lb Q step I) (base F G : Nat) (H most : Int) (hH : H ≤ 1000) (hbF : base ≤ F) (hbG : base ≤ G) :
    ∀ (n : Nat) (f : List Int) (sq : List Sq) (vS : Value) (s : σ) (X : Nat → Prop) (w : World), FS I base F G H most (.func (.func g) #[] lb) f sq vS s X w → Fits f H → left H f < n → f.length ≤ 1000 → (∀ c, c < f.length → 0 ≤ ht f c) →
      sq.length + left H f ≤ 1000000 → RunQ Q step s (fillP H most n f sq) →
      Calls Try.prog 82 #[.pointer (some ⟨F, 0, none⟩)] w (FillPost I base F G H most (.func (.func g) #[] lb) f sq X (foldE step s (fillP H most n f sq)) w) := by
  intro n
  induction n with
  | zero => intro f sq vS s X w _ _ hn; omega
  | succ n ih =>
    intro f sq vS s X w hFS hfit hleft hlen hpos hsq hQ
    have L := low_spec f hfit.1
    have hcap : ∀ c, c < f.length → 0 ≤ ht f c ∧ ht f c ≤ H := fun c hc => ⟨hpos c hc, hfit.2 c hc⟩
    have hxl := L.lt
    have hyb := hcap _ hxl
    obtain ⟨kI, hI⟩ := index_low f hlen hfit.1
    have HMIN := Aside0.mk (fun W h => slices_Min_int f G W h (by omega) hlen)
    have HIDX := Aside0.mk hI
    have HS := Aside0.mk hFS
    have HIH := Aside0.mk ih
    have HFIT := Aside0.mk hfit
    have HL := Aside0.mk L
    have HCAP := Aside0.mk hcap
    have HQ := Aside0.mk hQ
    have HSQ := Aside0.mk hsq
    have HLEFT := Aside0.mk hleft
    have HE := Aside0.mk E
    clear hI hFS ih hfit L hcap hpos hQ hsq hleft E
    generalize hy : ht f (low f) = y at HMIN HIDX hyb
    have HY := Aside0.mk hy
    clear hy
    generalize hx : low f = x at HIDX hxl HY
    have HX := Aside0.mk hx
    clear hx
    have c0 := blk_cell HS.out.fil.own 0
    have c1 := blk_cell HS.out.fil.own 1
    have c2 := blk_cell HS.out.fil.own 2
    have c3 := blk_cell HS.out.fil.own 3
    have c4 := blk_cell HS.out.fil.own 4
    have c5 := blk_cell HS.out.fil.own 5
    simp only [List.getElem?_toArray, List.getElem?_cons_zero, List.getElem?_cons_succ] at c0 c1 c2 c3 c4 c5
    obtain ⟨A, c, e⟩ := Kd.R_slice HS.out.row
    subst e
    go_enter Try.func82, Try.ntmps82
    go_wp2_with fail
    refine (HMIN.out _ (fun i hi => HS.out.fil.col i hi)).mono ?_
    rintro e w' ⟨rfl, rfl⟩
    by_cases hyH : y = H
    · have hyz : (y == H) = true := by simp [hyH]
      have HYH := Aside0.mk hyH
      clear hyH
      have hfP : fillP H most (n + 1) f sq = [sq] := by simp only [fillP]; rw [HX.out, HY.out, if_pos HYH.out]
      have HFP := Aside0.mk hfP
      clear hfP
      go_wp2_with fail
      have HS2 := Aside0.mk (HS.out.below HE.out ((Below.refl w.heap.size w).drew))
      have HFR2 := Aside0.mk (Fr.of_below (X := X) (b := base) ((Below.refl w.heap.size w).drew) HS.out.size)
      have hZ : Aside0 (w.drew.heap.size = w.heap.size) := ⟨rfl⟩
      go_still_tail 8, (by kernel_rfl)
      change wpList _ _ _ _ _ w.drew
      generalize w.drew = w2 at HS2 HFR2 hZ ⊢
      have eg := HE.out.eg
      have HCALL := Aside0.mk (HE.out.call s w2 X A c sq HS2.out.st (Kd.R_reads' HS2.out.row).2.2 (Kd.R_reads' HS2.out.row).2.1 (by have h_ := HQ.out; rw [HFP.out] at h_; exact h_.1))
      go_wp2_with (go_at_fn g; refine HCALL.out.mono ?_; rintro e w' ⟨rfl, X', hI', hsub, hfr⟩)
      go_ret
      rw [HFP.out, foldE_one]
      exact ⟨rfl, X', _, HS2.out.called hI' hsub hfr, fun k hk => by rw [← hZ.out]; exact hsub k hk, HFR2.out.trans hfr HS2.out.size (fun _ _ hx => hx)⟩
    · have hyz : (y == H) = false := by simp [hyH]
      have HYH := Aside0.mk hyH
      clear hyH
      have hlb := least_bd hH hlen HCAP.out
      have HLE := Aside0.mk (fun W (hW : Below w.heap.size w W) => filler_least W F G H most f _ _ (HS.out.fil.below hW) hlen hH HCAP.out)
      generalize hls : least H f = ls at HLE hlb
      have HLS := Aside0.mk hls
      clear hls
      have hFlt := blk_lt HS.out.fil.own
      have g3 := fun p => cell_gr (p := p) hFlt c3
      have g4 := fun p => cell_gr (p := p) hFlt c4
      have hsl := HSQ.out
      have hw : IntKind.i64.wrap ((sq.length : Int) + ls) = (sq.length : Int) + ls := (i64_w _).trans (w64 (by omega) (by omega))
      go_wp2_with fail
      refine wp_region_gr (by kernel_rfl) (by kernel_rfl) ?_
      repeat (go_big_quiet_step ((go_at_call 91; refine Calls.gr_of (HLE.out _ (Gr.h _)))))
      refine wpQuiet_nil ?_
      intro W2 hw'
      obtain ⟨⟨V2, hB2⟩, hw''⟩ := hw'
      replace hw'' : W2 = V2 := hw''
      subst hw''
      have HS2 := Aside0.mk (HS.out.below HE.out hB2)
      have HFR2 := Aside0.mk (Fr.of_below (X := X) (b := base) hB2 HS.out.size)
      have HSZ := Aside0.mk hB2.size
      clear g3 g4 c0 c1 c2 c3 c4 c5 hB2 hw
      by_cases hpr : most < (sq.length : Int) + ls
      · have hpz : decide (most < (sq.length : Int) + ls) = true := decide_eq_true hpr
        have hfP : fillP H most (n + 1) f sq = [] := by simp only [fillP]; rw [HX.out, HY.out, if_neg HYH.out, HLS.out, if_pos hpr]
        have HFP := Aside0.mk hfP
        clear hfP
        go_wp2_with fail
        go_ret
        rw [HFP.out]
        exact ⟨rfl, X, _, HS2.out, fun k hk => .inl hk, HFR2.out⟩
      · have hpz : decide (most < (sq.length : Int) + ls) = false := decide_eq_false hpr
        have c2 := blk_cell HS2.out.fil.own 2
        simp only [List.getElem?_toArray, List.getElem?_cons_zero, List.getElem?_cons_succ] at c2
        go_wp2_with (go_at_call 92; refine (slices_Index_int_int.calls kI (some ⟨G, 0, none⟩) f.length f y (x : Int) _ (HS2.out.fil.reads hlen) (Nat.le_refl _) HIDX.out).mono ?_; rintro e w' ⟨rfl, ⟨nd, rfl⟩⟩)
        have HS3 := Aside0.mk (HS2.out.below HE.out (pw_below_drewN (Below.refl _ _) nd))
        have HFR3 := Aside0.mk (HFR2.out.below (pw_below_drewN (Below.refl _ _) nd) HS.out.size)
        have HSZ3 : Aside0 (w.heap.size ≤ (W2.drewN nd).heap.size) := HSZ
        generalize W2.drewN nd = W3 at HS3 HFR3 HSZ3 ⊢
        obtain ⟨ch, hch⟩ : ∃ ch : Nat → List (List Sq), (fun (i : Nat) => fillP H most n (place f x (i + 1) (y + (i + 1 : Nat))) (sq ++ [⟨x, y, (i + 1 : Nat)⟩])) = ch := ⟨_, rfl⟩
        have HCH := Aside0.mk hch
        obtain ⟨rm, hrm⟩ : ∃ rm, room f H x = rm := ⟨_, rfl⟩
        have HRM := Aside0.mk hrm
        have hfP : fillP H most (n + 1) f sq = (List.range rm).flatMap ch := by
          simp only [fillP]
          rw [HX.out, HY.out, if_neg HYH.out, HLS.out, if_neg (by omega), hrm, ← hch]
        have HFP := Aside0.mk hfP
        have hrl : rm ≤ 1000 := by
          have := runAt_le f x (by omega)
          rw [← hrm]; unfold room; omega
        clear hfP hch hrm HIDX HMIN HLE HS2 HFR2 c2 hpz hpr
        go_loopg [5] rm (fun kq v5 wc => ∃ (i : Nat) (s1 : σ) (X1 : Nat → Prop) (vS1 : Value), i ≤ rm ∧ rm - i ≤ kq ∧ v5 = .int .i64 ((i + 1 : Nat) : Int) ∧ Aside0 (foldE step s ((List.range i).flatMap ch) = (s1, true)) ∧ Aside0 (FS I base F G H most (.func (.func g) #[] lb) f sq vS1 s1 X1 wc) ∧ Aside0 (∀ k, X1 k → X k ∨ w.heap.size ≤ k) ∧ Aside0 (Fr base X w wc) ∧ Aside0 (w.heap.size ≤ wc.heap.size))
        case atStart => exact ⟨0, s, X, _, by omega, by omega, rfl, ⟨rfl⟩, HS3, ⟨fun k hk => .inl hk⟩, HFR3, HSZ3⟩
        case round =>
          clear HS3 HFR3 HSZ3 HSZ
          obtain ⟨i, s1, X1, vS1, hi, hkq, rfl, HFO, HS1, HSUB, HFR, HSZ⟩ := hrel
          have d0 := blk_cell HS1.out.fil.own 0
          have d1 := blk_cell HS1.out.fil.own 1
          have d2 := blk_cell HS1.out.fil.own 2
          have d3 := blk_cell HS1.out.fil.own 3
          simp only [List.getElem?_toArray, List.getElem?_cons_zero, List.getElem?_cons_succ] at d0 d1 d2 d3
          have hriff := room_iff f H x hxl i (by rw [HY.out]; omega) (by rw [HRM.out]; exact hi)
          rw [HRM.out, HY.out] at hriff
          have HRI := Aside0.mk hriff
          clear hriff
          by_cases hir : i < rm
          · obtain ⟨h1, h2, h3⟩ := HRI.out.1 hir
            have e1 : (x : Int) + ((i : Int) + 1) ≤ (f.length : Int) := by omega
            have e2 : y + ((i : Int) + 1) ≤ H := by omega
            have hcol : wr.cell? ⟨G, x + i, none⟩ = some (.int .i64 y) := by rw [HS1.out.fil.col (x + i) (by omega), h3]
            have H3 := Aside0.mk h3
            clear h3
            have hplen : ∀ k Y, k ≤ i + 1 → (place f x k Y).length = f.length := fun k Y hk => place_length f x k Y (by omega)
            have HPLEN := Aside0.mk hplen
            clear hplen
            go_upto_block 1 with (fail)
            clear d0 d1 d2 d3 hcol
            go_wp2_with fail
            go_loopg [6, 83] (i + 1) (fun kq v6 v83 wc => ∃ (k : Nat), k ≤ i + 1 ∧ i + 1 - k ≤ kq ∧ v83 = .int .i64 (k : Int) ∧ Aside0 (FS I base F G H most (.func (.func g) #[] lb) (place f x k (y + ((i : Int) + 1))) sq vS1 s1 X1 wc) ∧ Aside0 (Fr base X w wc) ∧ Aside0 (w.heap.size ≤ wc.heap.size))
            case atStart => exact ⟨0, by omega, by omega, rfl, by rw [place_zero]; exact HS1, HFR, HSZ⟩
            case round =>
              clear HS1 HFR HSZ
              obtain ⟨k, hk, hkq2, rfl, HS1, HFR, HSZ⟩ := hrel
              have hpl := HPLEN.out k (y + ((i : Int) + 1)) hk
              have d2 := blk_cell HS1.out.fil.own 2
              have d3 := blk_cell HS1.out.fil.own 3
              rw [hpl] at d2
              simp only [List.getElem?_toArray, List.getElem?_cons_zero, List.getElem?_cons_succ] at d2 d3
              by_cases hki : k < i + 1
              · have e3 : (k : Int) < (i : Int) + 1 := by omega
                have e4 : (x : Int) + (k : Int) < (f.length : Int) := by omega
                have hcol := HS1.out.fil.col (x + k) (by rw [hpl]; omega)
                have hfz := blk_frozen HS1.out.fil.cols (x + k)
                clear d3 hpl
                generalize ht (place f x k (y + ((i : Int) + 1))) (x + k) = old at hcol
                go_wp2_with fail
                go_roundg (i + 1 - (k + 1))
                case measure => omega
                case rel =>
                  refine ⟨k + 1, by omega, by omega, by go_num, ⟨?_⟩, ⟨?_⟩, ⟨?_⟩⟩
                  · have := HS1.out.col HE.out (x + k) (by rw [HPLEN.out k _ hk]; omega) (y + ((i : Int) + 1))
                    rwa [place_one f x k _ (by omega)] at this
                  · exact HFR.out.set_ (p := ⟨G, x + k, none⟩) hbG _
                  · have := HSZ.out; simpa [World.setCell] using this
              · have e3 : ¬ (k : Int) < (i : Int) + 1 := by omega
                obtain rfl : k = i + 1 := by omega
                obtain ⟨f1, hf1⟩ : ∃ f1, place f x (i + 1) (y + ((i : Int) + 1)) = f1 := ⟨_, rfl⟩
                have HF1 := Aside0.mk hf1
                rw [hf1] at HS1 hpl
                have hfl : f1.length = f.length := hpl
                have HFL := Aside0.mk hfl
                clear hf1 hpl hfl
                obtain ⟨A1, k1, e1'⟩ := Kd.R_slice HS1.out.row
                subst e1'
                have hz3 := blk_frozen HS1.out.fil.own 3
                have hsl := HSQ.out
                clear d2
                go_wp2_with (first | ((with_reducible refine gate_builtin (b := .append) (xs := #[.tmp 102, .tmp 107]) rfl ?_); at_builtin; refine Kd.R_append k57 (w0 := wr) base rfl (.tmp 102) (.tmp 107) 36 57 (.agg #[(.int .i64 0), (.int .i64 0), (.int .i64 0)]) 24 rfl Try.underlying36 info57 rfl (by decide) (by omega) (.slice A1 sq.length k1) sq (⟨x, y, (i : Int) + 1⟩ : S57) [.int .i64 x, .int .i64 y, .int .i64 ((i : Int) + 1)] (fun k => ¬ X1 k) (fun _ => False) rfl rfl ?aP (fun _ hk => hk.elim) ?aF ?aO ?aB ?aS ?aL ?_; (case aP => exact k57_mkM _ _ _ (⟨x, y, (i : Int) + 1⟩ : S57)); (case aB => exact Below.refl _ _); (case aF => exact (fun k hk hx => by have := HE.out.bd HS1.out.st k hx; omega)); (case aO => exact HS1.out.row); (case aS => exact HS1.out.size); (case aL => omega); intro v71 w12 ho hb hg hat; have n0_ := Aside0.mk (HS1.out.grown HE.out hg); have n1_ := Aside0.mk ho; clear ho hb hg hat d3 hz3; have d3 := blk_cell n0_.out.2.1.own 3; have hz3 := blk_frozen n0_.out.2.1.own 3; (simp only [List.getElem?_toArray, List.getElem?_cons_zero, List.getElem?_cons_succ] at d3); (obtain ⟨A2, k2, e2'⟩ := Kd.R_slice n1_.out); (subst e2')))
                have hq1 : (sq ++ [(⟨x, y, (i : Int) + 1⟩ : S57)]).length = sq.length + 1 := by simp
                have HQ1 := Aside0.mk hq1
                have HSN : Aside0 (FS I base F G H most (.func (.func g) #[] lb) f1 (sq ++ [(⟨x, y, (i : Int) + 1⟩ : S57)]) (.slice A2 (sq.length + 1) k2) s1 X1 (w12.setCell ⟨F, 3, none⟩ (.slice A2 (sq.length + 1) k2))) := ⟨by
                  have := FS.put3 HE.out n0_.out.1 n0_.out.2.1 n1_.out HS1.out.nF HS1.out.nG (Nat.le_trans HS1.out.size n0_.out.2.2.size)
                  rwa [hq1] at this⟩
                have HFRN : Aside0 (Fr base X w (w12.setCell ⟨F, 3, none⟩ (.slice A2 (sq.length + 1) k2))) := ⟨(HFR.out.trans n0_.out.2.2 (Nat.le_refl _) (fun j hj hx => by
                  rcases HSUB.out j hx with h | h
                  · exact h
                  · exact absurd hj (by have := HS.out.size; omega))).set_ (p := ⟨F, 3, none⟩) hbF _⟩
                have HSZN : Aside0 (w.heap.size ≤ (w12.setCell ⟨F, 3, none⟩ (.slice A2 (sq.length + 1) k2)).heap.size) := ⟨by simpa [World.setCell] using Nat.le_trans HSZ.out n0_.out.2.2.size⟩
                clear n0_ n1_ HFR HSZ HS1 hq1 d3 hz3
                generalize w12.setCell ⟨F, 3, none⟩ (.slice A2 (sq.length + 1) k2) = w13 at HSN HFRN HSZN ⊢
                have hSF := step_fits HFIT.out (i := i) (n := n) (by rw [HX.out, HRM.out]; exact hir) HLEFT.out
                rw [HX.out, HY.out, show ((i + 1 : Nat) : Int) = (i : Int) + 1 from rfl, HF1.out] at hSF
                have hch : ch i = fillP H most n f1 (sq ++ [(⟨x, y, (i : Int) + 1⟩ : S57)]) := by rw [← HCH.out, ← HF1.out]; rfl
                have hcap1 : ∀ c, c < f1.length → 0 ≤ ht f1 c := fun c hc => by
                  rw [HFL.out] at hc
                  rw [← HF1.out, ht_place _ _ _ _ (by omega)]
                  have := HCAP.out c hc
                  split <;> omega
                have hleft1 : left H f1 + 1 ≤ left H f := by
                  have h0 := left_place H f x (i + 1) (by omega) (by
                    have h9 := HRM.out
                    unfold room at h9
                    omega) (by omega) (by rw [HY.out]; omega)
                  rw [HY.out, show ((i + 1 : Nat) : Int) = (i : Int) + 1 from rfl, HF1.out] at h0
                  have : 1 ≤ (i + 1) * (i + 1) := Nat.mul_pos (by omega) (by omega)
                  omega
                have hQ1 : RunQ Q step s1 (fillP H most n f1 (sq ++ [(⟨x, y, (i : Int) + 1⟩ : S57)])) := by
                  obtain ⟨rest_, hrest_⟩ := flat_range_at ch i (rm - (i + 1))
                  rw [show i + 1 + (rm - (i + 1)) = rm by omega] at hrest_
                  have h_ := HQ.out
                  rw [HFP.out, hrest_] at h_
                  have h2_ := (RunQ.right h_ HFO.out).left
                  rwa [hch] at h2_
                refine (HIH.out f1 (sq ++ [(⟨x, y, (i : Int) + 1⟩ : S57)]) _ s1 X1 _ HSN.out hSF.1 hSF.2 (by rw [HFL.out]; exact hlen) hcap1 (by rw [HQ1.out]; omega) hQ1).mono ?_
                have HCI := Aside0.mk hch
                clear hSF hch hcap1 hleft1 hQ1
                intro e w' hp
                obtain ⟨he, X2, vS2, hfs2, hsub2, hfr2⟩ := hp
                subst he
                generalize hr : foldE step s1 (fillP H most n f1 (sq ++ [(⟨x, y, (i : Int) + 1⟩ : S57)])) = r at hfs2 ⊢
                obtain ⟨s2, b⟩ := r
                have HR : Aside0 (foldE step s1 (ch i) = (s2, b)) := ⟨by rw [HCI.out]; exact hr⟩
                have HS2 := Aside0.mk hfs2
                have HSUB2 : Aside0 (∀ k, X2 k → X k ∨ w.heap.size ≤ k) := ⟨fun k hk => by
                  rcases hsub2 k hk with h | h
                  · exact HSUB.out k h
                  · exact .inr (Nat.le_trans HSZN.out h)⟩
                have HFR2 : Aside0 (Fr base X w w') := ⟨HFRN.out.trans hfr2 (Nat.le_refl _) (fun j hj hx => by
                  rcases HSUB.out j hx with h | h
                  · exact h
                  · exact absurd hj (by have := HS.out.size; omega))⟩
                have HSZ2 : Aside0 (w.heap.size ≤ w'.heap.size) := ⟨Nat.le_trans HSZN.out hfr2.size⟩
                clear hr hfs2 hsub2 hfr2 HSN HFRN HSZN HCI HSUB
                obtain ⟨A4, k4, e4'⟩ := Kd.R_slice HS2.out.row
                rw [HQ1.out] at e4'
                subst e4'
                have hk4 : sq.length + 1 ≤ k4 := (Kd.R_reads' HS2.out.row).2.1
                have d3 := blk_cell HS2.out.fil.own 3
                have hz3 := blk_frozen HS2.out.fil.own 3
                simp only [List.getElem?_toArray, List.getElem?_cons_zero, List.getElem?_cons_succ] at d3
                have q1 := eq_true (show sq.length ≤ k4 by omega)
                have q2 := eq_true (show (0 : Int) ≤ (sq.length : Int) by omega)
                go_upto_region 17 with (fail)
                clear e3
                have hw1 : IntKind.i64.wrap (((sq.length + 1 : Nat) : Int) - 1) = (sq.length : Int) := (i64_w _).trans (by unfold wrap64; omega)
                have hw2 : IntKind.i64.wrap ((sq.length : Int) + 1 - 1) = (sq.length : Int) := (i64_w _).trans (by unfold wrap64; omega)
                have hw3 : IntKind.i64.wrap (sq.length : Int) = (sq.length : Int) := (i64_w _).trans (by unfold wrap64; omega)
                go_region
                clear hw1 hw2 hw3 q1 q2 d3 hz3
                have HS3 : Aside0 (FS I base F G H most (.func (.func g) #[] lb) f1 sq (.slice A4 sq.length k4) s2 X2 (w'.setCell ⟨F, 3, none⟩ (.slice A4 sq.length k4)).drew) := ⟨(HS2.out.cut HE.out).below HE.out ((Below.refl _ _).drew)⟩
                have HFR3 : Aside0 (Fr base X w (w'.setCell ⟨F, 3, none⟩ (.slice A4 sq.length k4)).drew) := ⟨(HFR2.out.set_ (p := ⟨F, 3, none⟩) hbF _).below ((Below.refl _ _).drew) HS.out.size⟩
                have HSZ3 : Aside0 (w.heap.size ≤ (w'.setCell ⟨F, 3, none⟩ (.slice A4 sq.length k4)).drew.heap.size) := ⟨by have := HSZ2.out; simpa [World.setCell] using this⟩
                clear HS2 HFR2 HSZ2
                generalize (w'.setCell ⟨F, 3, none⟩ (.slice A4 sq.length k4)).drew = w14 at HS3 HFR3 HSZ3 ⊢
                have e1 : (x : Int) + ((i : Int) + 1) ≤ (f.length : Int) := by omega
                have HPL2 : Aside0 (∀ k, k ≤ i + 1 → (place f1 x k y).length = f.length) := ⟨fun k hk => by rw [place_length f1 x k y (by rw [HFL.out]; omega)]; exact HFL.out⟩
                go_wp2_with fail
                go_loopg [8, 128] (i + 1) (fun kq v8 v128 wc => ∃ (k : Nat), k ≤ i + 1 ∧ i + 1 - k ≤ kq ∧ v128 = .int .i64 (k : Int) ∧ Aside0 (FS I base F G H most (.func (.func g) #[] lb) (place f1 x k y) sq (.slice A4 sq.length k4) s2 X2 wc) ∧ Aside0 (Fr base X w wc) ∧ Aside0 (w.heap.size ≤ wc.heap.size))
                case atStart => exact ⟨0, by omega, by omega, rfl, by rw [place_zero]; exact HS3, HFR3, HSZ3⟩
                case round =>
                  clear HS3 HFR3 HSZ3
                  obtain ⟨k, hk, hkq3, rfl, HS3, HFR3, HSZ3⟩ := hrel
                  have hpl := HPL2.out k hk
                  have d2 := blk_cell HS3.out.fil.own 2
                  rw [hpl] at d2
                  simp only [List.getElem?_toArray, List.getElem?_cons_zero, List.getElem?_cons_succ] at d2
                  by_cases hki : k < i + 1
                  · have e3 : (k : Int) < (i : Int) + 1 := by omega
                    have e4 : (x : Int) + (k : Int) < (f.length : Int) := by omega
                    have hcol := HS3.out.fil.col (x + k) (by rw [hpl]; omega)
                    have hfz := blk_frozen HS3.out.fil.cols (x + k)
                    clear hpl
                    generalize ht (place f1 x k y) (x + k) = old at hcol
                    go_wp2_with fail
                    go_roundg (i + 1 - (k + 1))
                    case measure => omega
                    case rel =>
                      refine ⟨k + 1, by omega, by omega, by go_num, ⟨?_⟩, ⟨?_⟩, ⟨?_⟩⟩
                      · have := HS3.out.col HE.out (x + k) (by rw [HPL2.out k hk]; omega) y
                        rwa [place_one f1 x k _ (by rw [HFL.out]; omega)] at this
                      · exact HFR3.out.set_ (p := ⟨G, x + k, none⟩) hbG _
                      · have := HSZ3.out; simpa [World.setCell] using this
                  · have e3 : ¬ (k : Int) < (i : Int) + 1 := by omega
                    obtain rfl : k = i + 1 := by omega
                    have hback : place f1 x (i + 1) y = f := by
                      rw [← HF1.out]
                      exact place_back f x (i + 1) _ y (by omega) (fun j hj => by
                        have h9 := HRM.out
                        unfold room at h9
                        rw [runAt_eq f x j (by omega), HY.out])
                    rw [hback] at HS3
                    clear hback d2 hpl
                    cases b with
                    | true =>
                      go_wp2_with fail
                      go_roundg (rm - (i + 1))
                      case measure => omega
                      case rel => exact ⟨i + 1, s2, X2, _, by omega, by omega, by go_num, ⟨by rw [flat_range_succ, foldE_on _ _ _ _ _ HFO.out]; exact HR.out⟩, HS3, HSUB2, HFR3, HSZ3⟩
                    | false =>
                      have hfin : foldE step s (fillP H most (n + 1) f sq) = (s2, false) := by
                        obtain ⟨rest, hrest⟩ := flat_range_at ch i (rm - (i + 1))
                        rw [show i + 1 + (rm - (i + 1)) = rm by omega] at hrest
                        rw [HFP.out, hrest, foldE_on _ _ _ _ _ HFO.out]
                        exact foldE_off _ _ _ _ _ HR.out
                      have HFIN := Aside0.mk hfin
                      clear hfin
                      go_wp2_with fail
                      go_ret
                      rw [HFIN.out]
                      exact ⟨rfl, X2, _, HS3.out, HSUB2.out, HFR3.out⟩
          · have hii : i = rm := by omega
            have HFQ : Aside0 (foldE step s (fillP H most (n + 1) f sq) = (s1, true)) := ⟨by rw [HFP.out, ← hii]; exact HFO.out⟩
            have hn3 : ¬ (x + (i + 1) ≤ f.length ∧ y + ((i + 1 : Nat) : Int) ≤ H ∧ ht f (x + i) = y) := fun h => hir (HRI.out.2 h)
            have HN3 := Aside0.mk hn3
            clear hn3 hii
            by_cases h1 : (x : Int) + ((i : Int) + 1) ≤ (f.length : Int)
            · by_cases h2 : y + ((i : Int) + 1) ≤ H
              · have h3 : (ht f (x + i) == y) = false := by
                  rw [beq_eq_false_iff_ne]
                  exact fun h => HN3.out ⟨by omega, by omega, h⟩
                have hcol : wr.cell? ⟨G, x + i, none⟩ = some (.int .i64 (ht f (x + i))) := HS1.out.fil.col (x + i) (by omega)
                generalize ht f (x + i) = yy at h3 hcol
                go_wp2_with fail
                go_ret
                rw [HFQ.out]
                exact ⟨rfl, X1, _, HS1.out, HSUB.out, HFR.out⟩
              · go_wp2_with fail
                go_ret
                rw [HFQ.out]
                exact ⟨rfl, X1, _, HS1.out, HSUB.out, HFR.out⟩
            · go_wp2_with fail
              go_ret
              rw [HFQ.out]
              exact ⟨rfl, X1, _, HS1.out, HSUB.out, HFR.out⟩

end Go.Proofs.Ytfmhcgjmgaefcab.P

namespace Go.Proofs.Ytfmhcgjmgaefcab.P
open Go.RowKit Go.Proofs.YtfmhcgjmgaefcabW.PrintWords Go.Proofs.YtfmhcgjmgaefcabW.PrintLast Go.Proofs.YtfmhcgjmgaefcabW.PrintMore
attribute [local go_sem] max2_int min2_int max_two min_two max_three min_three max_four min_four
set_option linter.unusedVariables false
set_option linter.unusedSimpArgs false

/-! ### impl_fills: function 55 -/
open Go.Proofs.Ytfmhcgjmgaefcab.T Go.Proofs.Ytfmhcgjmgaefcab.Gr Go.Proofs.Ytfmhcgjmgaefcab.Aid
theorem madeCells_int (n : Nat) : madeCells (Value.int .i64 0).cells (n * 1) = ((List.replicate n (0 : Int)).map (Value.int .i64)).toArray := by
  unfold madeCells
  rw [Nat.mul_one]
  apply Array.ext
  · simp
  · intro i h1 h2
    have e : (Value.int .i64 0).cells = #[Value.int .i64 0] := rfl
    simp [e, Nat.mod_one]
theorem row_of_block {w : World} {g base : Nat} {ok : Nat → Prop} {l : List Int} (h : w.heap[g]? = some (.cells (l.map (Value.int .i64)).toArray 3 (0, 0))) (hb : base ≤ g) (ho : ok g) (hl : l.length ≤ 1000000) : Kd.R (Kd.int .i64) 3 w base ok (.slice (some ⟨g, 0, none⟩) l.length l.length) l := by
  have hs : (Kd.int .i64).sz = 1 := rfl
  refine ⟨fun k hk => ?_, l.map (Value.int .i64), ⟨by rw [hs]; simp, .inr ⟨g, l.length, _, rfl, hb, h, Nat.le_refl _, by simp only [maxLen]; omega, by rw [hs]; simp, by rw [hs]; simp; exact List.take_of_length_le (by simp)⟩⟩, by rw [hs]; simp, fun j p hj => ?_⟩
  · have : g = k := by simpa [Value.ownBlock] using hk
    subst this; exact ho
  · have hjl := (List.getElem?_eq_some_iff.1 hj).1
    have hp := (List.getElem?_eq_some_iff.1 hj).2
    rw [hs, Nat.mul_one]
    show (List.take 1 (List.drop j (l.map (Value.int .i64)))) = [.int .i64 p]
    rw [List.drop_eq_getElem_cons (by simpa using hjl)]
    simp [hp]
theorem ht_rep (n c : Nat) : ht (List.replicate n 0) c = 0 := by
  unfold ht
  rw [List.getD_eq_getElem?_getD, List.getElem?_replicate]
  split <;> rfl
theorem left_rep (n : Nat) (H : Int) (h0 : 0 ≤ H) : left H (List.replicate n 0) = n * H.toNat := by rw [left_replicate]; simp
theorem fits_rep (n : Nat) (H : Int) (hn : 0 < n) (h0 : 0 ≤ H) : Fits (List.replicate n 0) H := ⟨fun e => by simp at e; omega, fun c _ => by rw [ht_rep]; exact h0⟩
set_option maxHeartbeats 2000000 in
theorem impl_fills {σ : Type} {g : Nat} {lb : Array Value} {Q : σ → List Sq → Prop} {step : σ → List Sq → σ × Bool} {I : σ → World → (Nat → Prop) → Prop} (E : Each g lb Q step I) (W : Nat) (H most : Int) (hW : 1 ≤ W ∧ W ≤ 100) (hH : 1 ≤ H ∧ H ≤ 100)
    (n : Nat) (hn : W * H.toNat < n) (s : σ) (X : Nat → Prop) (w : World) (hI : I s w X) (hQ : RunQ Q step s (fillP H most n (List.replicate W 0) [])) :
    Calls Try.prog 55 #[.int .i64 (W : Int), .int .i64 H, .int .i64 most, .func (.func g) #[] lb] w fun e w' => (∃ v, e = .returned v) ∧ ∃ X', I (foldE step s (fillP H most n (List.replicate W 0) [])).1 w' X' ∧ (∀ k, X' k → X k ∨ w.heap.size ≤ k) ∧ Fr w.heap.size X w w' := by
  obtain ⟨i0, hi0, hz0, hz1, hz2⟩ := info_parts info3
  have hmk : ∀ W' : World, (Instr.makeSlice 25 (.int .i64 (W : Int)) (.int .i64 (W : Int))).run Try.prog W' = .ok (.slice (some ⟨W'.heap.size, 0, none⟩) W W) (W'.alloc (.cells ((List.replicate W (0 : Int)).map (Value.int .i64)).toArray 3)) := fun W' => by
    have := run_make W' 25 3 i0 _ Try.underlying25 hi0 hz0 .i64 .i64 (W : Int) (W : Int) (by omega) (Int.le_refl _) (by rw [hz2]; omega) (by omega)
    rw [hz1, Int.toNat_natCast, madeCells_int] at this
    exact this
  have HI := Aside0.mk hI
  have HE := Aside0.mk E
  have HQ := Aside0.mk hQ
  have HN := Aside0.mk hn
  clear hi0 hz0 hz1 hz2 hI E hQ hn
  generalize hf : List.replicate W (0 : Int) = f at hmk HQ
  have hlen : f.length = W := by rw [← hf]; simp
  have HF := Aside0.mk hf
  clear hf
  subst hlen
  have hu69 := Try.underlying80
  go_enter Try.func55, Try.ntmps55
  go_wp2_with fail
  have HWB : Aside0 (Below w.heap.size w ((w.alloc (.cells (f.map (Value.int .i64)).toArray 3)).alloc (.cells #[.int .i64 (f.length : Int), .int .i64 H, .slice (some ⟨w.heap.size, 0, none⟩) f.length f.length, .slice none 0 0, .int .i64 most, .func (.func g) #[] lb] 80))) := ⟨((Below.refl _ _).alloc (Nat.le_refl _) _).alloc (by simp) _⟩
  have HFS : Aside0 (FS I w.heap.size (w.heap.size + 1) w.heap.size H most (.func (.func g) #[] lb) f [] (.slice none 0 0) s X ((w.alloc (.cells (f.map (Value.int .i64)).toArray 3)).alloc (.cells #[.int .i64 (f.length : Int), .int .i64 H, .slice (some ⟨w.heap.size, 0, none⟩) f.length f.length, .slice none 0 0, .int .i64 most, .func (.func g) #[] lb] 80))) := ⟨{
    st := HE.out.mv HI.out (fun k hk => HWB.out.block k (HE.out.bd HI.out k hk))
    fil := ⟨by
      have := heap_alloc_new (w.alloc (.cells (f.map (Value.int .i64)).toArray 3)) (.cells #[.int .i64 (f.length : Int), .int .i64 H, .slice (some ⟨w.heap.size, 0, none⟩) f.length f.length, .slice none 0 0, .int .i64 most, .func (.func g) #[] lb] 80)
      simpa using this, blk_alloc (heap_alloc_new w _) _⟩
    row := Kd.R_nil _ _ _ _ _
    nF := fun hk => by have := HE.out.bd HI.out _ hk; omega
    nG := fun hk => by have := HE.out.bd HI.out _ hk; omega
    size := HWB.out.size }⟩
  generalize ((w.alloc (.cells (f.map (Value.int .i64)).toArray 3)).alloc (.cells #[.int .i64 (f.length : Int), .int .i64 H, .slice (some ⟨w.heap.size, 0, none⟩) f.length f.length, .slice none 0 0, .int .i64 most, .func (.func g) #[] lb] 80)) = w1 at HWB HFS ⊢
  refine (filler_fill HE.out w.heap.size (w.heap.size + 1) w.heap.size H most (by omega) (by omega) (Nat.le_refl _) n f [] _ s X w1 HFS.out (by rw [← HF.out]; exact fits_rep _ _ (by omega) (by omega)) (by rw [← HF.out, left_rep _ _ (by omega)]; exact HN.out) (by omega) (fun c _ => by rw [← HF.out, ht_rep]; omega) ?_ HQ.out).mono ?_
  · rw [← HF.out, left_rep _ _ (by omega)]
    have : f.length * H.toNat ≤ 100 * 100 := Nat.mul_le_mul hW.2 (by omega)
    simp only [List.length_nil]
    omega
  · intro e w' hp
    obtain ⟨he, X', vS', h1, h2, h3⟩ := hp
    subst he
    have H1 := Aside0.mk h1.st
    have H2 : Aside0 (∀ k, X' k → X k ∨ w.heap.size ≤ k) := ⟨fun k hk => by
      rcases h2 k hk with h | h
      · exact .inl h
      · exact .inr (Nat.le_trans HWB.out.size h)⟩
    have H3 : Aside0 (Fr w.heap.size X w w') := ⟨(Fr.of_below HWB.out (Nat.le_refl _)).trans h3 (Nat.le_refl _) (fun _ _ hx => hx)⟩
    clear h1 h2 h3
    go_wp2_with fail
    go_end0
    exact ⟨⟨_, rfl⟩, X', H1.out, H2.out, H3.out⟩

end Go.Proofs.Ytfmhcgjmgaefcab.P

namespace Go.Proofs.Ytfmhcgjmgaefcab.P
open Go.RowKit Go.Proofs.YtfmhcgjmgaefcabW.PrintWords Go.Proofs.YtfmhcgjmgaefcabW.PrintLast Go.Proofs.YtfmhcgjmgaefcabW.PrintMore
attribute [local go_sem] max2_int min2_int max_two min_two max_three min_three max_four min_four
set_option linter.unusedVariables false
set_option linter.unusedSimpArgs false

/-! ### impl_fewest: function 34 -/
open Go.Proofs.Ytfmhcgjmgaefcab.T Go.Proofs.Ytfmhcgjmgaefcab.Aid
/-- 'found' in its box -/
def FoI (B : Nat) (s : Bool) (W : World) (X : Nat → Prop) : Prop := W.heap[B]? = some (.cells #[.bool s] 4 (0, 0)) ∧ ∀ k, X k ↔ k = B
set_option maxHeartbeats 1000000 in
theorem few_each (B : Nat) : Each 58 #[.pointer (some ⟨B, 0, none⟩)] (fun _ _ => True) (fun _ _ => (true, false)) (FoI B) where
  bd := fun {s W X} h k hk => by
    rw [(h.2 k).1 hk]
    exact blk_lt h.1
  mv := fun {s W W' X} h hm => ⟨(hm B ((h.2 B).2 rfl)).trans h.1, h.2⟩
  eg := enters_of Try.func58 (by kernel_rfl) rfl
  call := fun s W X A c sq hI hC hc hq => by
    obtain ⟨h1, h4⟩ := hI
    have c1 : W.cell? ⟨B, 0, none⟩ = some (.bool s) := (blk_cell h1 0).trans rfl
    have c3 := blk_frozen h1 0
    have HX : Aside0 (FoI B true (W.setCell ⟨B, 0, none⟩ (.bool true)) X ∧ Fr W.heap.size X W (W.setCell ⟨B, 0, none⟩ (.bool true))) := ⟨⟨blk_put h1 0 _ rfl, h4⟩, rfl, rfl, rfl, by simp [World.setCell], fun k _ hk => Below.heap_setCell W _ _ k (fun e => hk ((h4 k).2 e))⟩
    clear h1 h4 hC hc
    go_enter Try.func58, Try.ntmps58
    go_wp2_with fail
    go_ret
    exact ⟨rfl, X, HX.out.1, fun k hk => .inl hk, HX.out.2⟩
theorem foldE_found {L : List (List Sq)} : foldE (fun (_ : Bool) (_ : List Sq) => (true, false)) false L = if L = [] then (false, true) else (true, false) := by
  cases L with
  | nil => rfl
  | cons t L => simp [foldE]
def impl_fewest.f (a0 a1 : Int) : Option Int := if 1 ≤ a0 ∧ a0 ≤ 13 ∧ 1 ≤ a1 ∧ a1 ≤ 13 then some (fewM a0.toNat a1 : Int) else none
set_option maxHeartbeats 2000000 in
theorem impl_fewest.calls (a0 : Int) (a1 : Int) (r : Int) (w : World) (h : impl_fewest.f a0 a1 = some r) :
    Calls Try.prog 34 #[.int .i64 a0, .int .i64 a1] w fun e w' => e = .returned (.int .i64 r) ∧ Below w.heap.size w w' := by
  unfold impl_fewest.f at h
  by_cases hr : 1 ≤ a0 ∧ a0 ≤ 13 ∧ 1 ≤ a1 ∧ a1 ≤ 13
  · rw [if_pos hr] at h
    obtain ⟨W, rfl⟩ : ∃ W : Nat, a0 = W := ⟨a0.toNat, by omega⟩
    simp only [Int.toNat_natCast] at h
    have hfp := few_pos W a1 (by omega) (by omega)
    have HB1 := Aside0.mk (few_below W a1 (by omega) (by omega))
    have HB2 := Aside0.mk (few_at W a1 (by omega) (by omega))
    have hpr : (W : Int) * a1 ≤ 13 * 13 := Int.mul_le_mul (by omega) (by omega) (by omega) (by omega)
    generalize fewM W a1 = M at h hfp HB1 HB2
    obtain rfl := Option.some.inj h
    have hM : 1 ≤ M ∧ M ≤ 169 := by omega
    clear h hfp hpr
    go_enter Try.func34, Try.ntmps34
    go_wp2_with fail
    go_loopg [5] M (fun kq v5 wc => ∃ m : Nat, 1 ≤ m ∧ m ≤ M ∧ M - m ≤ kq ∧ v5 = .int .i64 (m : Int) ∧ Aside0 (Below w.heap.size w wc))
    case atStart => exact ⟨1, by omega, by omega, by omega, rfl, ⟨Below.refl _ _⟩⟩
    case round =>
      obtain ⟨m, hm1, hm2, hkq, rfl, HB⟩ := hrel
      have HI : Aside0 (FoI wr.heap.size false (wr.alloc (.cells #[.bool false] 4)) (fun k => k = wr.heap.size)) := ⟨heap_alloc_new wr _, fun k => Iff.rfl⟩
      have HZ : Aside0 ((wr.alloc (.cells #[.bool false] 4)).heap.size = wr.heap.size + 1) := ⟨by simp⟩
      have HBA : Aside0 (Below w.heap.size w (wr.alloc (.cells #[.bool false] 4))) := ⟨HB.out.alloc HB.out.size _⟩
      go_wp2_with fail
      generalize (wr.alloc (.cells #[.bool false] 4)) = w1 at HI HZ HBA ⊢
      refine (impl_fills (few_each wr.heap.size) W a1 (m : Int) (by omega) (by omega) (W * a1.toNat + 1) (by omega) false _ w1 HI.out (RunQ.triv (fun _ _ => trivial) _ _)).mono ?_
      rintro e w' ⟨⟨v, rfl⟩, X', hI', hsub, hfr⟩
      rw [foldE_found] at hI'
      have H3 : Aside0 (Below w.heap.size w w') := ⟨⟨hfr.os.trans HBA.out.os, hfr.tape.trans HBA.out.tape, hfr.output.trans HBA.out.output, Nat.le_trans HBA.out.size hfr.size, fun k hk => (hfr.block k (by have := HBA.out.size; omega) (fun h => by have := HB.out.size; omega)).trans (HBA.out.block k hk)⟩⟩
      by_cases hmm : m < M
      · rw [HB1.out m hmm, if_pos rfl] at hI'
        have c1 : w'.cell? ⟨wr.heap.size, 0, none⟩ = some (.bool false) := (blk_cell hI'.1 0).trans rfl
        clear hI' hsub hfr
        go_wp2_with fail
        go_roundg (M - (m + 1))
        case measure => omega
        case rel => exact ⟨m + 1, by omega, by omega, by omega, by go_num, H3⟩
      · obtain rfl : m = M := by omega
        rw [if_neg HB2.out] at hI'
        have c1 : w'.cell? ⟨wr.heap.size, 0, none⟩ = some (.bool true) := (blk_cell hI'.1 0).trans rfl
        clear hI' hsub hfr
        go_wp2_with fail
        go_ret
        exact ⟨rfl, H3.out⟩
  · rw [if_neg hr] at h; cases h

end Go.Proofs.Ytfmhcgjmgaefcab.P

namespace Go.Proofs.Ytfmhcgjmgaefcab.P
open Go.RowKit Go.Proofs.YtfmhcgjmgaefcabW.PrintWords Go.Proofs.YtfmhcgjmgaefcabW.PrintLast Go.Proofs.YtfmhcgjmgaefcabW.PrintMore
attribute [local go_sem] max2_int min2_int max_two min_two max_three min_three max_four min_four
set_option linter.unusedVariables false
set_option linter.unusedSimpArgs false

/-! ### impl_FewestSquares: function 44 -/
def impl_FewestSquares.f (a0 : Int) (a1 : Int) : Option (Int × Bool) := (impl_isFew.f a0 a1).bind fun t101 => (if t101 = true then ((impl_fewest.f a0 a1).bind fun t102 => (some (t102, true))) else (some (0, false)))
set_option maxHeartbeats 8000000 in
set_option maxRecDepth 100000 in
theorem impl_FewestSquares.calls (a0 : Int) (a1 : Int) (r1 : Int) (r2 : Bool) (w : World) (h : impl_FewestSquares.f a0 a1 = some (r1, r2)) :
    Calls Try.prog 44 #[.int .i64 a0, .int .i64 a1] w fun e w' => e = .returned (.tuple #[.int .i64 r1, .bool r2]) ∧ Below w.heap.size w w' := by
  have HB := Aside0.mk (Below.refl w.heap.size w)
  have H : ((impl_isFew.f a0 a1).bind fun t101 => (if t101 = true then ((impl_fewest.f a0 a1).bind fun t102 => (some (t102, true))) else (some (0, false)))) = some (r1, r2) := h
  clear h
  replace H := Option.bind_eq_some_iff.mp H
  obtain ⟨t101, A30, H⟩ := H
  replace H : (if t101 = true then ((impl_fewest.f a0 a1).bind fun t102 => (some (t102, true))) else (some (0, false))) = some (r1, r2) := H
  have A3 := Aside0.mk A30
  clear A30
  by_cases c4 : t101 = true
  · subst c4
    have H1 : ((impl_fewest.f a0 a1).bind fun t102 => (some (t102, true))) = some (r1, r2) := by rw [if_pos rfl] at H; exact H
    clear H
    have H := H1
    clear H1
    replace H := Option.bind_eq_some_iff.mp H
    obtain ⟨t102, A50, H⟩ := H
    replace H : (some (t102, true)) = some (r1, r2) := H
    have A5 := Aside0.mk A50
    clear A50
    simp only [Option.some.injEq, Prod.mk.injEq] at H
    obtain ⟨rfl, rfl⟩ := H
    go_enter Try.func44, Try.ntmps44
    go_wp2_with (first | ((with_reducible refine gate_callee (f := 30) rfl ?_); refine goesL_ (some 8) rfl rfl Try.func30 (by kernel_rfl) rfl #[.int .i64 a0, .int .i64 a1] rfl (by (try simp only [List.map_toArray, List.map_cons, List.map_nil]); first | done | rfl | (simp only [List.length_drop, List.length_take]; rfl)) ?_; (with_reducible refine (impl_isFew.calls a0 a1 true _ A3.out).mono ?_); rintro e w' ⟨rfl, ⟨nd, rfl⟩⟩; refine ⟨_, rfl, ?_⟩) | ((with_reducible refine gate_callee (f := 34) rfl ?_); refine goesL_ (some 12) rfl rfl Try.func34 (by kernel_rfl) rfl #[.int .i64 a0, .int .i64 a1] rfl (by (try simp only [List.map_toArray, List.map_cons, List.map_nil]); first | done | rfl | (simp only [List.length_drop, List.length_take]; rfl)) ?_; (with_reducible refine (impl_fewest.calls a0 a1 t102 _ A5.out).mono ?_); rintro e w6 ⟨rfl, hb⟩; refine ⟨_, rfl, ?_⟩; have n0_ := Aside0.mk (below_step (by repeat (first | (with_reducible first | exact HB.out | apply below_alloc | apply pw_below_drewN | apply below_drew1) | exact HB.out)) hb); clear HB; have HB := n0_; clear n0_; (try clear hb); (try clear hb2); (try clear hk); (try clear hi)))
    go_ret2
    exact ⟨by first | rfl | (simp [errW_none, errW_some] <;> rfl) | (simp [*, errW_none, errW_some] <;> rfl), by repeat (first | (with_reducible first | exact HB.out | apply below_alloc | apply pw_below_drewN | apply below_drew1) | exact HB.out)⟩
  · replace c4 := Bool.eq_false_iff.mpr c4
    subst c4
    have H1 : (some (0, false)) = some (r1, r2) := by rw [if_neg (show ¬ (false = true) by decide)] at H; exact H
    clear H
    have H := H1
    clear H1
    simp only [Option.some.injEq, Prod.mk.injEq] at H
    obtain ⟨rfl, rfl⟩ := H
    go_enter Try.func44, Try.ntmps44
    go_wp2_with (first | ((with_reducible refine gate_callee (f := 30) rfl ?_); refine goesL_ (some 8) rfl rfl Try.func30 (by kernel_rfl) rfl #[.int .i64 a0, .int .i64 a1] rfl (by (try simp only [List.map_toArray, List.map_cons, List.map_nil]); first | done | rfl | (simp only [List.length_drop, List.length_take]; rfl)) ?_; (with_reducible refine (impl_isFew.calls a0 a1 false _ A3.out).mono ?_); rintro e w' ⟨rfl, ⟨nd, rfl⟩⟩; refine ⟨_, rfl, ?_⟩))
    go_ret2
    exact ⟨by first | rfl | (simp [errW_none, errW_some] <;> rfl) | (simp [*, errW_none, errW_some] <;> rfl), by repeat (first | (with_reducible first | exact HB.out | apply below_alloc | apply pw_below_drewN | apply below_drew1) | exact HB.out)⟩

end Go.Proofs.Ytfmhcgjmgaefcab.P

namespace Go.Proofs.Ytfmhcgjmgaefcab.P
open Go.RowKit Go.Proofs.YtfmhcgjmgaefcabW.PrintWords Go.Proofs.YtfmhcgjmgaefcabW.PrintLast Go.Proofs.YtfmhcgjmgaefcabW.PrintMore
attribute [local go_sem] max2_int min2_int max_two min_two max_three min_three max_four min_four
set_option linter.unusedVariables false
set_option linter.unusedSimpArgs false

/-! ### impl_isLined: function 69 -/
def impl_isLined.f (a0 : Int) (a1 : Int) : Option (Bool) := (impl_within.f a0 1 60).bind fun t101 => (if t101 = true then ((impl_within.f a1 1 60).bind fun t102 => (some t102)) else (some false))
set_option maxHeartbeats 8000000 in
set_option maxRecDepth 100000 in
theorem impl_isLined.calls (a0 : Int) (a1 : Int) (r : Bool) (w : World) (h : impl_isLined.f a0 a1 = some r) :
    Calls Try.prog 69 #[.int .i64 a0, .int .i64 a1] w fun e w' => e = .returned (.bool r) ∧ Drawn0 w w' := by
  have H : ((impl_within.f a0 1 60).bind fun t101 => (if t101 = true then ((impl_within.f a1 1 60).bind fun t102 => (some t102)) else (some false))) = some r := h
  clear h
  replace H := Option.bind_eq_some_iff.mp H
  obtain ⟨t101, A30, H⟩ := H
  replace H : (if t101 = true then ((impl_within.f a1 1 60).bind fun t102 => (some t102)) else (some false)) = some r := H
  have A3 := Aside0.mk A30
  clear A30
  by_cases c4 : t101 = true
  · subst c4
    have H1 : ((impl_within.f a1 1 60).bind fun t102 => (some t102)) = some r := by rw [if_pos rfl] at H; exact H
    clear H
    have H := H1
    clear H1
    replace H := Option.bind_eq_some_iff.mp H
    obtain ⟨t102, A50, H⟩ := H
    replace H : (some t102) = some r := H
    have A5 := Aside0.mk A50
    clear A50
    obtain rfl := Option.some.inj H
    go_enter Try.func69, Try.ntmps69
    go_wp2_with (first | ((with_reducible refine gate_callee (f := 33) rfl ?_); refine goesL_ (some 6) rfl rfl Try.func33 (by kernel_rfl) rfl #[.int .i64 a0, .int .i64 1, .int .i64 60] rfl (by (try simp only [List.map_toArray, List.map_cons, List.map_nil]); first | done | rfl | (simp only [List.length_drop, List.length_take]; rfl)) ?_; (with_reducible refine (impl_within.calls a0 1 60 true _ A3.out).mono ?_); rintro e w' ⟨rfl, ⟨nd, rfl⟩⟩; refine ⟨_, rfl, ?_⟩) | (go_at_call 33; (with_reducible refine (impl_within.calls a1 1 60 t102 _ A5.out).mono ?_); rintro e w' ⟨rfl, ⟨nd, rfl⟩⟩))
    go_ret
    exact ⟨by first | rfl | (simp; done) | (simp [*]; done), by repeat (first | exact Drawn0.refl _ | apply Drawn0.step)⟩
  · replace c4 := Bool.eq_false_iff.mpr c4
    subst c4
    have H1 : (some false) = some r := by rw [if_neg (show ¬ (false = true) by decide)] at H; exact H
    clear H
    have H := H1
    clear H1
    obtain rfl := Option.some.inj H
    go_enter Try.func69, Try.ntmps69
    go_wp2_with (first | ((with_reducible refine gate_callee (f := 33) rfl ?_); refine goesL_ (some 6) rfl rfl Try.func33 (by kernel_rfl) rfl #[.int .i64 a0, .int .i64 1, .int .i64 60] rfl (by (try simp only [List.map_toArray, List.map_cons, List.map_nil]); first | done | rfl | (simp only [List.length_drop, List.length_take]; rfl)) ?_; (with_reducible refine (impl_within.calls a0 1 60 false _ A3.out).mono ?_); rintro e w' ⟨rfl, ⟨nd, rfl⟩⟩; refine ⟨_, rfl, ?_⟩))
    go_ret
    exact ⟨by first | rfl | (simp; done) | (simp [*]; done), by repeat (first | exact Drawn0.refl _ | apply Drawn0.step)⟩

end Go.Proofs.Ytfmhcgjmgaefcab.P

namespace Go.Proofs.Ytfmhcgjmgaefcab.P
open Go.RowKit Go.Proofs.YtfmhcgjmgaefcabW.PrintWords Go.Proofs.YtfmhcgjmgaefcabW.PrintLast Go.Proofs.YtfmhcgjmgaefcabW.PrintMore
attribute [local go_sem] max2_int min2_int max_two min_two max_three min_three max_four min_four
set_option linter.unusedVariables false
set_option linter.unusedSimpArgs false

/-! ### impl_byLines: function 70 -/
mutual
def impl_byLines.l0 : Nat → Int → List (List Int) → Int → Int → Option ((List (List Int)))
  | 0, _, _, _, _ => none
  | k + 1, x1, x5, x15, x16 => if x16 < x15 then (if 0 ≤ (wrap64 (x1 + 1)) then (if (wrap64 (x1 + 1) : Int).toNat ≤ 35184372088832 then (if 0 ≤ x16 then (if x16 < (x5.length : Int) then (impl_byLines.l1 k x1 (x5.set (x16 : Int).toNat (List.replicate (wrap64 (x1 + 1) : Int).toNat 0)) x16 1 x15 x16) else (none)) else (none)) else (none)) else (none)) else (some x5)
def impl_byLines.l1 : Nat → Int → List (List Int) → Int → Int → Int → Int → Option ((List (List Int)))
  | 0, _, _, _, _, _, _ => none
  | k + 1, x1, x5, x6, x7, x15, x16 => if x7 ≤ x1 then (impl_byLines.j2 k x1 x5 x6 x7 x15 x16 (decide (x6 > 0))) else (impl_byLines.j2 k x1 x5 x6 x7 x15 x16 false)
def impl_byLines.j2 : Nat → Int → List (List Int) → Int → Int → Int → Int → Bool → Option ((List (List Int)))
  | 0, _, _, _, _, _, _, _ => none
  | k + 1, x1, x5, x6, x7, x15, x16, x31 => if x31 = true then (if x6 = x7 then (impl_byLines.j3 k x1 x5 x6 x7 1 x15 x16) else (impl_byLines.j3 k x1 x5 x6 x7 (wrap64 (x6 * x7)) x15 x16)) else (impl_byLines.l0 k x1 x5 x15 (wrap64 (x16 + 1)))
def impl_byLines.j3 : Nat → Int → List (List Int) → Int → Int → Int → Int → Int → Option ((List (List Int)))
  | 0, _, _, _, _, _, _, _ => none
  | k + 1, x1, x5, x6, x7, x8, x15, x16 => impl_byLines.l2 k x1 x5 x6 x7 x8 1 x15 x16
def impl_byLines.l2 : Nat → Int → List (List Int) → Int → Int → Int → Int → Int → Int → Option ((List (List Int)))
  | 0, _, _, _, _, _, _, _, _ => none
  | k + 1, x1, x5, x6, x7, x8, x9, x15, x16 => if x9 ≤ (wrap64 (Int.tdiv x6 2)) then (if 0 ≤ x9 then (if x9 < (x5.length : Int) then (if 0 ≤ x7 then (if x7 < ((rd_L5 x5 x9).length : Int) then (if 0 ≤ (wrap64 (x6 - x9)) then (if (wrap64 (x6 - x9)) < (x5.length : Int) then (if x7 < ((rd_L5 x5 (wrap64 (x6 - x9))).length : Int) then (impl_byLines.l2 k x1 x5 x6 x7 (mn x8 (wrap64 ((rd (rd_L5 x5 x9) x7) + (rd (rd_L5 x5 (wrap64 (x6 - x9))) x7)))) (wrap64 (x9 + 1)) x15 x16) else (none)) else (none)) else (none)) else (none)) else (none)) else (none)) else (none)) else (impl_byLines.l3 k x1 x5 x6 x7 x8 1 x15 x16)
def impl_byLines.l3 : Nat → Int → List (List Int) → Int → Int → Int → Int → Int → Int → Option ((List (List Int)))
  | 0, _, _, _, _, _, _, _, _ => none
  | k + 1, x1, x5, x6, x7, x8, x10, x15, x16 => if x10 ≤ (wrap64 (Int.tdiv x7 2)) then (if 0 ≤ x6 then (if x6 < (x5.length : Int) then (if 0 ≤ x10 then (if x10 < ((rd_L5 x5 x6).length : Int) then (if 0 ≤ (wrap64 (x7 - x10)) then (if (wrap64 (x7 - x10)) < ((rd_L5 x5 x6).length : Int) then (impl_byLines.l3 k x1 x5 x6 x7 (mn x8 (wrap64 ((rd (rd_L5 x5 x6) x10) + (rd (rd_L5 x5 x6) (wrap64 (x7 - x10)))))) (wrap64 (x10 + 1)) x15 x16) else (none)) else (none)) else (none)) else (none)) else (none)) else (none)) else (if 0 ≤ x6 then (if x6 < (x5.length : Int) then (if 0 ≤ x7 then (if x7 < ((rd_L5 x5 x6).length : Int) then (impl_byLines.l1 k x1 (x5.set (x6 : Int).toNat ((rd_L5 x5 x6).set (x7 : Int).toNat x8)) x6 (wrap64 (x7 + 1)) x15 x16) else (none)) else (none)) else (none)) else (none))
end
def impl_byLines.f (k : Nat) (a0 : Int) (a1 : Int) : Option ((List (List Int))) := if 0 ≤ (wrap64 (a0 + 1)) then (if (wrap64 (a0 + 1) : Int).toNat ≤ 11728124029610 then ((some (List.replicate (wrap64 (a0 + 1) : Int).toNat [] : List (List Int))).bind fun y101 => (impl_byLines.l0 k a1 y101 (y101.length : Int) 0)) else (none)) else (none)
theorem impl_byLines.mono_l : ∀ k, (∀ y0 y1 y2 y3, LeO (impl_byLines.l0 k y0 y1 y2 y3) (impl_byLines.l0 (k + 1) y0 y1 y2 y3)) ∧ (∀ y0 y1 y2 y3 y4 y5, LeO (impl_byLines.l1 k y0 y1 y2 y3 y4 y5) (impl_byLines.l1 (k + 1) y0 y1 y2 y3 y4 y5)) ∧ (∀ y0 y1 y2 y3 y4 y5 y6, LeO (impl_byLines.j2 k y0 y1 y2 y3 y4 y5 y6) (impl_byLines.j2 (k + 1) y0 y1 y2 y3 y4 y5 y6)) ∧ (∀ y0 y1 y2 y3 y4 y5 y6, LeO (impl_byLines.j3 k y0 y1 y2 y3 y4 y5 y6) (impl_byLines.j3 (k + 1) y0 y1 y2 y3 y4 y5 y6)) ∧ (∀ y0 y1 y2 y3 y4 y5 y6 y7, LeO (impl_byLines.l2 k y0 y1 y2 y3 y4 y5 y6 y7) (impl_byLines.l2 (k + 1) y0 y1 y2 y3 y4 y5 y6 y7)) ∧ (∀ y0 y1 y2 y3 y4 y5 y6 y7, LeO (impl_byLines.l3 k y0 y1 y2 y3 y4 y5 y6 y7) (impl_byLines.l3 (k + 1) y0 y1 y2 y3 y4 y5 y6 y7))
  | 0 => ⟨fun _ _ _ _ r h => by simp [impl_byLines.l0] at h, fun _ _ _ _ _ _ r h => by simp [impl_byLines.l1] at h, fun _ _ _ _ _ _ _ r h => by simp [impl_byLines.j2] at h, fun _ _ _ _ _ _ _ r h => by simp [impl_byLines.j3] at h, fun _ _ _ _ _ _ _ _ r h => by simp [impl_byLines.l2] at h, fun _ _ _ _ _ _ _ _ r h => by simp [impl_byLines.l3] at h⟩
  | k + 1 => by
    obtain ⟨ih0, ih1, ih2, ih3, ih4, ih5⟩ := impl_byLines.mono_l k
    refine ⟨?_, ?_, ?_, ?_, ?_, ?_⟩
    · intro y0 y1 y2 y3
      unfold impl_byLines.l0
      repeat' first
      | (with_reducible exact ih0 _ _ _ _)
      | (with_reducible exact ih1 _ _ _ _ _ _)
      | (with_reducible exact ih2 _ _ _ _ _ _ _)
      | (with_reducible exact ih3 _ _ _ _ _ _ _)
      | (with_reducible exact ih4 _ _ _ _ _ _ _ _)
      | (with_reducible exact ih5 _ _ _ _ _ _ _ _)
      | (with_reducible exact LeO.refl _)
      | (with_reducible exact LeO.none _)
      | (with_reducible refine LeO.ite ?_ ?_)
      | (with_reducible refine LeO.bind ?_ (fun _ => ?_))
      | exact ih0 _ _ _ _
      | exact ih1 _ _ _ _ _ _
      | exact ih2 _ _ _ _ _ _ _
      | exact ih3 _ _ _ _ _ _ _
      | exact ih4 _ _ _ _ _ _ _ _
      | exact ih5 _ _ _ _ _ _ _ _
      | exact LeO.none _
      | refine LeO.ite ?_ ?_
      | refine LeO.bind ?_ (fun _ => ?_)
    · intro y0 y1 y2 y3 y4 y5
      unfold impl_byLines.l1
      repeat' first
      | (with_reducible exact ih0 _ _ _ _)
      | (with_reducible exact ih1 _ _ _ _ _ _)
      | (with_reducible exact ih2 _ _ _ _ _ _ _)
      | (with_reducible exact ih3 _ _ _ _ _ _ _)
      | (with_reducible exact ih4 _ _ _ _ _ _ _ _)
      | (with_reducible exact ih5 _ _ _ _ _ _ _ _)
      | (with_reducible exact LeO.refl _)
      | (with_reducible exact LeO.none _)
      | (with_reducible refine LeO.ite ?_ ?_)
      | (with_reducible refine LeO.bind ?_ (fun _ => ?_))
      | exact ih0 _ _ _ _
      | exact ih1 _ _ _ _ _ _
      | exact ih2 _ _ _ _ _ _ _
      | exact ih3 _ _ _ _ _ _ _
      | exact ih4 _ _ _ _ _ _ _ _
      | exact ih5 _ _ _ _ _ _ _ _
      | exact LeO.none _
      | refine LeO.ite ?_ ?_
      | refine LeO.bind ?_ (fun _ => ?_)
    · intro y0 y1 y2 y3 y4 y5 y6
      unfold impl_byLines.j2
      repeat' first
      | (with_reducible exact ih0 _ _ _ _)
      | (with_reducible exact ih1 _ _ _ _ _ _)
      | (with_reducible exact ih2 _ _ _ _ _ _ _)
      | (with_reducible exact ih3 _ _ _ _ _ _ _)
      | (with_reducible exact ih4 _ _ _ _ _ _ _ _)
      | (with_reducible exact ih5 _ _ _ _ _ _ _ _)
      | (with_reducible exact LeO.refl _)
      | (with_reducible exact LeO.none _)
      | (with_reducible refine LeO.ite ?_ ?_)
      | (with_reducible refine LeO.bind ?_ (fun _ => ?_))
      | exact ih0 _ _ _ _
      | exact ih1 _ _ _ _ _ _
      | exact ih2 _ _ _ _ _ _ _
      | exact ih3 _ _ _ _ _ _ _
      | exact ih4 _ _ _ _ _ _ _ _
      | exact ih5 _ _ _ _ _ _ _ _
      | exact LeO.none _
      | refine LeO.ite ?_ ?_
      | refine LeO.bind ?_ (fun _ => ?_)
    · intro y0 y1 y2 y3 y4 y5 y6
      unfold impl_byLines.j3
      repeat' first
      | (with_reducible exact ih0 _ _ _ _)
      | (with_reducible exact ih1 _ _ _ _ _ _)
      | (with_reducible exact ih2 _ _ _ _ _ _ _)
      | (with_reducible exact ih3 _ _ _ _ _ _ _)
      | (with_reducible exact ih4 _ _ _ _ _ _ _ _)
      | (with_reducible exact ih5 _ _ _ _ _ _ _ _)
      | (with_reducible exact LeO.refl _)
      | (with_reducible exact LeO.none _)
      | (with_reducible refine LeO.ite ?_ ?_)
      | (with_reducible refine LeO.bind ?_ (fun _ => ?_))
      | exact ih0 _ _ _ _
      | exact ih1 _ _ _ _ _ _
      | exact ih2 _ _ _ _ _ _ _
      | exact ih3 _ _ _ _ _ _ _
      | exact ih4 _ _ _ _ _ _ _ _
      | exact ih5 _ _ _ _ _ _ _ _
      | exact LeO.none _
      | refine LeO.ite ?_ ?_
      | refine LeO.bind ?_ (fun _ => ?_)
    · intro y0 y1 y2 y3 y4 y5 y6 y7
      unfold impl_byLines.l2
      repeat' first
      | (with_reducible exact ih0 _ _ _ _)
      | (with_reducible exact ih1 _ _ _ _ _ _)
      | (with_reducible exact ih2 _ _ _ _ _ _ _)
      | (with_reducible exact ih3 _ _ _ _ _ _ _)
      | (with_reducible exact ih4 _ _ _ _ _ _ _ _)
      | (with_reducible exact ih5 _ _ _ _ _ _ _ _)
      | (with_reducible exact LeO.refl _)
      | (with_reducible exact LeO.none _)
      | (with_reducible refine LeO.ite ?_ ?_)
      | (with_reducible refine LeO.bind ?_ (fun _ => ?_))
      | exact ih0 _ _ _ _
      | exact ih1 _ _ _ _ _ _
      | exact ih2 _ _ _ _ _ _ _
      | exact ih3 _ _ _ _ _ _ _
      | exact ih4 _ _ _ _ _ _ _ _
      | exact ih5 _ _ _ _ _ _ _ _
      | exact LeO.none _
      | refine LeO.ite ?_ ?_
      | refine LeO.bind ?_ (fun _ => ?_)
    · intro y0 y1 y2 y3 y4 y5 y6 y7
      unfold impl_byLines.l3
      repeat' first
      | (with_reducible exact ih0 _ _ _ _)
      | (with_reducible exact ih1 _ _ _ _ _ _)
      | (with_reducible exact ih2 _ _ _ _ _ _ _)
      | (with_reducible exact ih3 _ _ _ _ _ _ _)
      | (with_reducible exact ih4 _ _ _ _ _ _ _ _)
      | (with_reducible exact ih5 _ _ _ _ _ _ _ _)
      | (with_reducible exact LeO.refl _)
      | (with_reducible exact LeO.none _)
      | (with_reducible refine LeO.ite ?_ ?_)
      | (with_reducible refine LeO.bind ?_ (fun _ => ?_))
      | exact ih0 _ _ _ _
      | exact ih1 _ _ _ _ _ _
      | exact ih2 _ _ _ _ _ _ _
      | exact ih3 _ _ _ _ _ _ _
      | exact ih4 _ _ _ _ _ _ _ _
      | exact ih5 _ _ _ _ _ _ _ _
      | exact LeO.none _
      | refine LeO.ite ?_ ?_
      | refine LeO.bind ?_ (fun _ => ?_)
theorem impl_byLines.mono : ∀ a0 a1 k, LeO (impl_byLines.f k a0 a1) (impl_byLines.f (k + 1) a0 a1) := by
  intro a0 a1 k
  obtain ⟨ih0, ih1, ih2, ih3, ih4, ih5⟩ := impl_byLines.mono_l k
  unfold impl_byLines.f
  repeat' first
      | (with_reducible exact ih0 _ _ _ _)
      | (with_reducible exact ih1 _ _ _ _ _ _)
      | (with_reducible exact ih2 _ _ _ _ _ _ _)
      | (with_reducible exact ih3 _ _ _ _ _ _ _)
      | (with_reducible exact ih4 _ _ _ _ _ _ _ _)
      | (with_reducible exact ih5 _ _ _ _ _ _ _ _)
      | (with_reducible exact LeO.refl _)
      | (with_reducible exact LeO.none _)
      | (with_reducible refine LeO.ite ?_ ?_)
      | (with_reducible refine LeO.bind ?_ (fun _ => ?_))
      | exact ih0 _ _ _ _
      | exact ih1 _ _ _ _ _ _
      | exact ih2 _ _ _ _ _ _ _
      | exact ih3 _ _ _ _ _ _ _
      | exact ih4 _ _ _ _ _ _ _ _
      | exact ih5 _ _ _ _ _ _ _ _
      | exact LeO.none _
      | refine LeO.ite ?_ ?_
      | refine LeO.bind ?_ (fun _ => ?_)
set_option maxHeartbeats 8000000 in
set_option maxRecDepth 100000 in
theorem impl_byLines.calls (k : Nat) (a0 : Int) (a1 : Int) (r : List (List Int)) (w : World) (h : impl_byLines.f k a0 a1 = some r) :
    Calls Try.prog 70 #[.int .i64 a0, .int .i64 a1] w fun e w' => ∃ v0_ : Value, e = .returned (v0_) ∧ Kd.S (Kd.slice 3 (Kd.int .i64)) 25 w' w.heap.size (fun _ => True) v0_ r ∧ Below w.heap.size w w' := by
  have HB := Aside0.mk (Below.refl w.heap.size w)
  have H : (if 0 ≤ (wrap64 (a0 + 1)) then (if (wrap64 (a0 + 1) : Int).toNat ≤ 11728124029610 then ((some (List.replicate (wrap64 (a0 + 1) : Int).toNat [] : List (List Int))).bind fun y101 => (impl_byLines.l0 k a1 y101 (y101.length : Int) 0)) else (none)) else (none)) = some r := h
  clear h
  obtain ⟨ji3, hji3⟩ : ∃ j_ : Int, (wrap64 (a0 + 1)) = j_ := ⟨_, rfl⟩
  replace H : (if 0 ≤ (ji3) then (if (ji3 : Int).toNat ≤ 11728124029610 then ((some (List.replicate (ji3 : Int).toNat [] : List (List Int))).bind fun y101 => (impl_byLines.l0 k a1 y101 (y101.length : Int) 0)) else (none)) else (none)) = some r := by first | (rw [hji3] at H; exact H) | (simp only [hji3] at H ⊢; exact H)
  have hji3w : (IntKind.i64.wrap (a0 + 1)) = ji3 := (i64_w _).trans hji3
  by_cases c4 : 0 ≤ (ji3)
  · rw [if_pos c4] at H
    have c4b0 := eq_true c4
    have c4b1 : decide (0 ≤ (ji3)) = true := decide_eq_true c4
    clear c4
    by_cases c5 : (ji3 : Int).toNat ≤ 11728124029610
    · rw [if_pos c5] at H
      have c5b0 := eq_true c5
      have c5b1 : decide ((ji3 : Int).toNat ≤ 11728124029610) = true := decide_eq_true c5
      clear c5
      obtain ⟨y101, hy101⟩ : ∃ y_ : List (List Int), y_ = (List.replicate (ji3 : Int).toNat []) := ⟨_, rfl⟩
      replace H : (impl_byLines.l0 k a1 y101 (y101.length : Int) 0) = some r := by first | (rw [hy101]; with_reducible exact H) | (have H2_ := (Option.bind_some _ _).symm.trans H; rw [hy101]; with_reducible exact H2_) | (have H2_ := (Option.bind_some _ _).symm.trans H; with_reducible exact H2_) | with_reducible exact H | (rw [hy101]; exact H) | exact H
      have Ny101 := Aside0.mk hy101
      clear hy101
      have H' := Aside0.mk H
      clear H
      go_enter Try.func70, Try.ntmps70
      go_wp2_with (first | ((with_reducible refine gate_dst (N := 13) rfl ?_); refine Kd.S_make (Kd.slice 3 (Kd.int .i64)) _ 25 rfl (N := 13) rfl 54 _ _ rfl ji3 rfl rfl Try.underlying54 (.slice none 0 0) 24 info25 rfl (by decide) (by omega) [] (ok := fun _ => True) (okp := fun _ => True) ⟨_, rfl, Kd.R_nil _ _ _ _ _⟩ (fun _ hk => hk) trivial (of_decide_eq_true (by first | (with_reducible assumption) | assumption)) (Nat.le_trans (Nat.mul_le_mul_right _ (of_decide_eq_true (by first | (with_reducible assumption) | assumption) : ji3.toNat ≤ 11728124029610)) (by omega)) (Below.refl _ _) (Nat.le_refl _) ?_; intro v102 w6 ho7 hb hg_ hnew_; clear hg_ hnew_; (first | rw [← Ny101.out] at ho7 | (simp only [Int.reduceToNat] at ho7; rw [← Ny101.out] at ho7)); have n0_ := Aside0.mk (Kd.S_lower ho7 (below_size (by repeat (first | (with_reducible first | exact HB.out | apply below_alloc | apply pw_below_drewN | apply below_drew1) | exact HB.out)))); have n1_ := Aside0.mk (below_step (by repeat (first | (with_reducible first | exact HB.out | apply below_alloc | apply pw_below_drewN | apply below_drew1) | exact HB.out)) hb); clear HB; have HO103 := n0_; have HB := n1_; clear n0_ n1_; clear hb ho7; obtain ⟨Ao8, co8, eo8⟩ := Kd.S_slice HO103.out; subst eo8))
      repeat (go_quiet (first | ((with_reducible refine gate_dst (N := 13) rfl ?_); refine Kd.S_make (Kd.slice 3 (Kd.int .i64)) _ 25 rfl (N := 13) rfl 54 _ _ rfl ji3 rfl rfl Try.underlying54 (.slice none 0 0) 24 info25 rfl (by decide) (by omega) [] (ok := fun _ => True) (okp := fun _ => True) ⟨_, rfl, Kd.R_nil _ _ _ _ _⟩ (fun _ hk => hk) trivial (of_decide_eq_true (by first | (with_reducible assumption) | assumption)) (Nat.le_trans (Nat.mul_le_mul_right _ (of_decide_eq_true (by first | (with_reducible assumption) | assumption) : ji3.toNat ≤ 11728124029610)) (by omega)) (Below.refl _ _) (Nat.le_refl _) ?_; intro v102 w6 ho7 hb hg_ hnew_; clear hg_ hnew_; (first | rw [← Ny101.out] at ho7 | (simp only [Int.reduceToNat] at ho7; rw [← Ny101.out] at ho7)); have n0_ := Aside0.mk (Kd.S_lower ho7 (below_size (by repeat (first | (with_reducible first | exact HB.out | apply below_alloc | apply pw_below_drewN | apply below_drew1) | exact HB.out)))); have n1_ := Aside0.mk (below_step (by repeat (first | (with_reducible first | exact HB.out | apply below_alloc | apply pw_below_drewN | apply below_drew1) | exact HB.out)) hb); clear HB; have HO103 := n0_; have HB := n1_; clear n0_ n1_; clear hb ho7; obtain ⟨Ao8, co8, eo8⟩ := Kd.S_slice HO103.out; subst eo8)); try go_wp2_with (first | ((with_reducible refine gate_dst (N := 13) rfl ?_); refine Kd.S_make (Kd.slice 3 (Kd.int .i64)) _ 25 rfl (N := 13) rfl 54 _ _ rfl ji3 rfl rfl Try.underlying54 (.slice none 0 0) 24 info25 rfl (by decide) (by omega) [] (ok := fun _ => True) (okp := fun _ => True) ⟨_, rfl, Kd.R_nil _ _ _ _ _⟩ (fun _ hk => hk) trivial (of_decide_eq_true (by first | (with_reducible assumption) | assumption)) (Nat.le_trans (Nat.mul_le_mul_right _ (of_decide_eq_true (by first | (with_reducible assumption) | assumption) : ji3.toNat ≤ 11728124029610)) (by omega)) (Below.refl _ _) (Nat.le_refl _) ?_; intro v102 w6 ho7 hb hg_ hnew_; clear hg_ hnew_; (first | rw [← Ny101.out] at ho7 | (simp only [Int.reduceToNat] at ho7; rw [← Ny101.out] at ho7)); have n0_ := Aside0.mk (Kd.S_lower ho7 (below_size (by repeat (first | (with_reducible first | exact HB.out | apply below_alloc | apply pw_below_drewN | apply below_drew1) | exact HB.out)))); have n1_ := Aside0.mk (below_step (by repeat (first | (with_reducible first | exact HB.out | apply below_alloc | apply pw_below_drewN | apply below_drew1) | exact HB.out)) hb); clear HB; have HO103 := n0_; have HB := n1_; clear n0_ n1_; clear hb ho7; obtain ⟨Ao8, co8, eo8⟩ := Kd.S_slice HO103.out; subst eo8)))
      go_loopg [16] k (fun kq v16 w' => ∃ (x5_1 : List (List Int)) (x16_1 : Int), v16 = .int .i64 x16_1 ∧ Aside0 (impl_byLines.l0 kq a1 x5_1 (y101.length : Int) x16_1 = some r) ∧ Aside0 (kq ≤ k) ∧ Aside0 (Kd.S (Kd.slice 3 (Kd.int .i64)) 25 w' w.heap.size (fun _ => True) (.slice Ao8 y101.length co8) x5_1) ∧ Aside0 (Below w.heap.size w w'))
      case atStart => exact ⟨(y101), (0), (by first | rfl | (simp; done) | (simp [*]; done)), H', ⟨Nat.le_refl _⟩, ⟨by (with_reducible repeat (first | apply Kd.S_alloc | apply Kd.S_drewN | apply Kd.S_drew)); exact HO103.out⟩, ⟨by repeat (first | (with_reducible first | exact HB.out | apply below_alloc | apply pw_below_drewN | apply below_drew1) | exact HB.out)⟩⟩
      case round =>
        clear H'
        try clear p2
        try clear c4
        try clear c4b0
        try clear c4b1
        try clear c5
        try clear c5b0
        try clear c5b1
        try clear p6
        try clear c7
        obtain ⟨x5_1, x16_1, rfl, HA, HK1, HO_5, HB⟩ := hrel
        have hl5_1 := (Kd.S_reads' HO_5.out).1
        rw [hl5_1] at HO_5
        (try simp only [hl5_1])
        cases gk with
        | zero => exact absurd HA.out (by simp [impl_byLines.l0])
        | succ k1 =>
          have H := HA.out
          clear HA
          simp only [impl_byLines.l0] at H
          by_cases c9 : x16_1 < (y101.length : Int)
          · rw [if_pos c9] at H
            have c9b0 : decide (x16_1 < (y101.length : Int)) = true := decide_eq_true c9
            have c9b0x := c9b0
            (try simp only [hl5_1] at c9b0x)
            (try simp only [hl5_2] at c9b0x)
            clear c9
            obtain ⟨ji10, hji10⟩ : ∃ j_ : Int, (wrap64 (a1 + 1)) = j_ := ⟨_, rfl⟩
            replace H : (if 0 ≤ (ji10) then (if (ji10 : Int).toNat ≤ 35184372088832 then (if 0 ≤ x16_1 then (if x16_1 < (x5_1.length : Int) then (impl_byLines.l1 k1 a1 (x5_1.set (x16_1 : Int).toNat (List.replicate (ji10 : Int).toNat 0)) x16_1 1 (y101.length : Int) x16_1) else (none)) else (none)) else (none)) else (none)) = some r := by first | (rw [hji10] at H; exact H) | (simp only [hji10] at H ⊢; exact H)
            have hji10w : (IntKind.i64.wrap (a1 + 1)) = ji10 := (i64_w _).trans hji10
            by_cases c11 : 0 ≤ (ji10)
            · rw [if_pos c11] at H
              have c11b0 := eq_true c11
              have c11b1 : decide (0 ≤ (ji10)) = true := decide_eq_true c11
              clear c11
              by_cases c12 : (ji10 : Int).toNat ≤ 35184372088832
              · rw [if_pos c12] at H
                have c12b0 := eq_true c12
                have c12b1 : decide ((ji10 : Int).toNat ≤ 35184372088832) = true := decide_eq_true c12
                clear c12
                obtain ⟨y104, hy104⟩ : ∃ y_ : List Int, y_ = (List.replicate (ji10 : Int).toNat 0) := ⟨_, rfl⟩
                replace H : (if 0 ≤ x16_1 then (if x16_1 < (x5_1.length : Int) then (impl_byLines.l1 k1 a1 (x5_1.set (x16_1 : Int).toNat y104) x16_1 1 (y101.length : Int) x16_1) else (none)) else (none)) = some r := by first | (rw [hy104]; with_reducible exact H) | (have H2_ := (Option.bind_some _ _).symm.trans H; rw [hy104]; with_reducible exact H2_) | (have H2_ := (Option.bind_some _ _).symm.trans H; with_reducible exact H2_) | with_reducible exact H | (rw [hy104]; exact H) | exact H
                have Ny104 := Aside0.mk hy104
                clear hy104
                by_cases c13 : 0 ≤ x16_1
                · rw [if_pos c13] at H
                  have c13b0 : decide (0 ≤ x16_1) = true := decide_eq_true c13
                  clear c13
                  by_cases c14 : x16_1 < (x5_1.length : Int)
                  · rw [if_pos c14] at H
                    have c14b0 : decide (x16_1 < (x5_1.length : Int)) = true := decide_eq_true c14
                    have c14b0x := c14b0
                    (try simp only [hl5_1] at c14b0x)
                    (try simp only [hl5_2] at c14b0x)
                    clear c14
                    obtain ⟨y107, hy107⟩ : ∃ y_ : List (List Int), y_ = (x5_1.set (x16_1 : Int).toNat y104) := ⟨_, rfl⟩
                    replace H : (impl_byLines.l1 k1 a1 y107 x16_1 1 (y101.length : Int) x16_1) = some r := by first | (rw [hy107]; with_reducible exact H) | (have H2_ := (Option.bind_some _ _).symm.trans H; rw [hy107]; with_reducible exact H2_) | (have H2_ := (Option.bind_some _ _).symm.trans H; with_reducible exact H2_) | with_reducible exact H | (rw [hy107]; exact H) | exact H
                    have Ny107 := Aside0.mk hy107
                    clear hy107
                    have H' := Aside0.mk H
                    clear H
                    go_wp2_with (first | ((with_reducible refine gate_dst (N := 23) rfl ?_); refine Kd.R_make (Kd.int .i64) _ 3 rfl (N := 23) rfl 25 _ _ rfl ji10 rfl rfl Try.underlying25 (.int .i64 0) 8 info3 rfl (by decide) (by omega) 0 (ok := fun _ => True) (okp := fun _ => True) rfl (fun _ hk => hk) trivial (of_decide_eq_true (by first | (with_reducible assumption) | assumption)) (Nat.le_trans (Nat.mul_le_mul_right _ (of_decide_eq_true (by first | (with_reducible assumption) | assumption) : ji10.toNat ≤ 35184372088832)) (by omega)) (Below.refl _ _) (Nat.le_refl _) ?_; intro v105 w16 ho17 hb hg_ hnew_; clear hg_ hnew_; (first | rw [← Ny104.out] at ho17 | (simp only [Int.reduceToNat] at ho17; rw [← Ny104.out] at ho17)); have n0_ := Aside0.mk (Kd.S_elder' (by (with_reducible repeat (first | apply Kd.S_alloc | apply Kd.S_drewN | apply Kd.S_drew)); exact HO_5.out) (Kd.R_base ho17) hb); have n1_ := Aside0.mk (Kd.R_lower ho17 (below_size (by repeat (first | (with_reducible first | exact HB.out | apply below_alloc | apply pw_below_drewN | apply below_drew1) | exact HB.out)))); have n2_ := Aside0.mk (below_step (by repeat (first | (with_reducible first | exact HB.out | apply below_alloc | apply pw_below_drewN | apply below_drew1) | exact HB.out)) hb); clear HO_5; clear HB; have HO_5 := n0_; have HO106 := n1_; have HB := n2_; clear n0_ n1_ n2_; clear hb ho17; have p15 : 0 ≤ (x16_1 : Int) := of_decide_eq_true (by first | (with_reducible assumption) | assumption); have q15 : (x16_1 : Int) < ((x5_1.length : Int) : Int) := of_decide_eq_true (by first | (with_reducible assumption) | assumption); obtain ⟨go15, co15, eo15, gb15, gl15, cl15, HG15⟩ := Kd.S_form HO_5.out (by omega); (first | cases eo15 | (injection eo15 with ea_ en_ ec_; (first | subst ea_ | (injection ea_ with ea_; subst ea_)); subst ec_; clear en_)); have GB15 := Aside0.mk gb15; have GG15 := Aside0.mk HG15; clear gb15 gl15 HG15; obtain ⟨_, ce15, hcl15, hM15, hcc15, hfr15, _, _⟩ := Kd.S_elem HO_5.out [] (x16_1 : Int) p15 q15; obtain ⟨ve15_0, rfl, ge15_0⟩ := hM15; have hx15_0 := hcc15 0 _ rfl; have hf15_0 := hfr15 0; (try simp only [show ((Kd.slice 3 (Kd.int .i64))).sz = 1 from rfl, Nat.mul_one, Nat.add_zero] at hx15_0); (try simp only [show ((Kd.slice 3 (Kd.int .i64))).sz = 1 from rfl, Nat.mul_one, Nat.add_zero] at hf15_0); clear hcl15 hcc15 hfr15; (try clear hM15); replace p15 := eq_true p15; replace q15 := eq_true q15; obtain ⟨Ao20, co20, eo20⟩ := Kd.R_slice HO106.out; subst eo20; have n_ := Aside0.mk (Kd.S_mono (ok' := (fun k_ => some k_ ≠ (.slice Ao20 y104.length co20 : Value).ownBlock)) HO_5.out (fun k_ hk => hk.2)); clear HO_5; have HO_5 := n_; clear n_; have HX18 := Aside0.mk (show Kd.S (Kd.slice 3 (Kd.int .i64)) 25 w16 w.heap.size (fun k_ => ((fun _ => True)) k_ ∧ ¬ ((fun k_ => some k_ = (.slice Ao20 y104.length co20 : Value).ownBlock)) k_) (.slice (some ⟨go15, 0, none⟩) x5_1.length co8) x5_1 from (by (with_reducible repeat (first | apply Kd.S_alloc | apply Kd.S_drewN | apply Kd.S_drew)); exact Kd.S_mono HO_5.out (fun k_ hk => ⟨trivial, fun e_ => hk e_⟩))); obtain ⟨oki18, ce18, hcl18, hM18, hcc18, hfr18, hoki18, hH18⟩ := Kd.S_elem HX18.out [] (x16_1 : Int) (of_decide_eq_true (by first | (with_reducible assumption) | assumption)) (by have h_ : (x16_1 : Int) < ((x5_1.length : Int) : Int) := of_decide_eq_true (by first | (with_reducible assumption) | assumption); first | exact h_ | (have e_ := (Kd.S_reads' HO_5.out).1; omega) | simpa using h_); obtain ⟨ve18_0, rfl, ge18_0⟩ := hM18; have HP18 := Kd.S_seg hH18 (of_decide_eq_true (by first | (with_reducible assumption) | assumption)) (by have h_ : (x16_1 : Int) < ((x5_1.length : Int) : Int) := of_decide_eq_true (by first | (with_reducible assumption) | assumption); first | exact h_ | (have e_ := (Kd.S_reads' HO_5.out).1; omega) | simpa using h_) (seg := [.slice Ao20 y104.length co20]) (j := 0) (show 1 ≤ 1 from by decide) (x' := y104) (Kd.M_row (Kd.R_mono (Kd.R_tight rfl (Kd.R_mono (ok' := fun k_ => ((fun _ => True)) k_ ∧ k_ ≠ go15) (Kd.R_apart' (HO106.out) (Kd.S_typed HO_5.out) (by decide)) (fun k_ hk => ⟨trivial, fun e_ => (hk.2) (by rw [e_]; rfl)⟩))) (fun _ h_ => Or.inr (h_)))) (fun _ hk => hk) (fun k_ hk_ => ((Kd.R_mono (ok' := fun k_ => ((fun _ => True)) k_ ∧ k_ ≠ go15) (Kd.R_apart' (HO106.out) (Kd.S_typed HO_5.out) (by decide)) (fun k_ hk => ⟨trivial, fun e_ => (hk.2) (by rw [e_]; rfl)⟩))).1 k_ hk_.symm); have hx18_0 := hcc18 0 _ rfl; (try simp only [show ((Kd.slice 3 (Kd.int .i64))).sz = 1 from rfl, Nat.mul_one, Nat.add_zero] at hx18_0); have hf18_0 := hfr18 0; (try simp only [show ((Kd.slice 3 (Kd.int .i64))).sz = 1 from rfl, Nat.mul_one, Nat.add_zero] at hf18_0); clear hcl18 hcc18 hfr18; (try clear hM18); clear hoki18 hH18; (try simp only [show ((Kd.slice 3 (Kd.int .i64))).sz = 1 from rfl, Nat.mul_one, Nat.add_zero] at HP18)) | ((with_reducible refine gate_store (t := 25) (p := 24) rfl ?_); (try (rw [drewN_self w16]; generalize hq_ : World.drewN w16 _ = w16; have n0_ := Aside0.mk (Kd.S_at hq_ HO_5.out); have n1_ := Aside0.mk (below_at hq_ HB.out); clear hq_ HO_5 HB; have HO_5 := n0_; have HB := n1_; clear n0_ n1_; (try (obtain ⟨Ao20, co20, eo20⟩ := Kd.R_slice HO106.out)); (try (subst eo20)); (try (have n_ := Aside0.mk (Kd.S_mono (ok' := (fun k_ => some k_ ≠ (.slice Ao20 y104.length co20 : Value).ownBlock)) HO_5.out (fun k_ hk => hk.2)); clear HO_5; have HO_5 := n_; clear n_)); (try (have HX18 := Aside0.mk (show Kd.S (Kd.slice 3 (Kd.int .i64)) 25 w16 w.heap.size (fun k_ => ((fun _ => True)) k_ ∧ ¬ ((fun k_ => some k_ = (.slice Ao20 y104.length co20 : Value).ownBlock)) k_) (.slice (some ⟨go15, 0, none⟩) x5_1.length co8) x5_1 from (by (with_reducible repeat (first | apply Kd.S_alloc | apply Kd.S_drewN | apply Kd.S_drew)); exact Kd.S_mono HO_5.out (fun k_ hk => ⟨trivial, fun e_ => hk e_⟩))))); (try (obtain ⟨oki18, ce18, hcl18, hM18, hcc18, hfr18, hoki18, hH18⟩ := Kd.S_elem HX18.out [] (x16_1 : Int) (of_decide_eq_true (by first | (with_reducible assumption) | assumption)) (by have h_ : (x16_1 : Int) < ((x5_1.length : Int) : Int) := of_decide_eq_true (by first | (with_reducible assumption) | assumption); first | exact h_ | (have e_ := (Kd.S_reads' HO_5.out).1; omega) | simpa using h_))); (try (obtain ⟨ve18_0, rfl, ge18_0⟩ := hM18)); (try (have HP18 := Kd.S_seg hH18 (of_decide_eq_true (by first | (with_reducible assumption) | assumption)) (by have h_ : (x16_1 : Int) < ((x5_1.length : Int) : Int) := of_decide_eq_true (by first | (with_reducible assumption) | assumption); first | exact h_ | (have e_ := (Kd.S_reads' HO_5.out).1; omega) | simpa using h_) (seg := [.slice Ao20 y104.length co20]) (j := 0) (show 1 ≤ 1 from by decide) (x' := y104) (Kd.M_row (Kd.R_mono (Kd.R_tight rfl (Kd.R_mono (ok' := fun k_ => ((fun _ => True)) k_ ∧ k_ ≠ go15) (Kd.R_apart' (HO106.out) (Kd.S_typed HO_5.out) (by decide)) (fun k_ hk => ⟨trivial, fun e_ => (hk.2) (by rw [e_]; rfl)⟩))) (fun _ h_ => Or.inr (h_)))) (fun _ hk => hk) (fun k_ hk_ => ((Kd.R_mono (ok' := fun k_ => ((fun _ => True)) k_ ∧ k_ ≠ go15) (Kd.R_apart' (HO106.out) (Kd.S_typed HO_5.out) (by decide)) (fun k_ hk => ⟨trivial, fun e_ => (hk.2) (by rw [e_]; rfl)⟩))).1 k_ hk_.symm))); (try (have hx18_0 := hcc18 0 _ rfl)); (try (try simp only [show ((Kd.slice 3 (Kd.int .i64))).sz = 1 from rfl, Nat.mul_one, Nat.add_zero] at hx18_0)); (try (have hf18_0 := hfr18 0)); (try (try simp only [show ((Kd.slice 3 (Kd.int .i64))).sz = 1 from rfl, Nat.mul_one, Nat.add_zero] at hf18_0)); (try (clear hcl18 hcc18 hfr18; (try clear hM18); clear hoki18 hH18)); (try (try simp only [show ((Kd.slice 3 (Kd.int .i64))).sz = 1 from rfl, Nat.mul_one, Nat.add_zero] at HP18)))); refine store_event (t := 25) (p := 24) (v := ?vo_w19) (w1 := (w16.setCell ⟨go15, (x16_1 : Int).toNat, none⟩ (.slice Ao20 y104.length co20))) ?hg ?ho ?hn ?hr ?_; (case ho => rfl); (case hg => rfl); (case hn => rfl); (case hr => first | (go_simp; done) | (go_simp; rfl)); intro w19 hw; have hg : w16.grownBy w19 (some go15) := (by rw [hw]; exact HP18.2); have hp_ : Kd.S (Kd.slice 3 (Kd.int .i64)) 25 w19 w.heap.size (fun _ => True) (.slice (some ⟨go15, 0, none⟩) x5_1.length co8) y107 := (by rw [hw, Ny107.out]; exact HP18.1); clear HP18; have n0_ := Aside0.mk (hp_); have n1_ := Aside0.mk ((by rw [hw]; exact below_set (HB.out) GB15.out : Below w.heap.size w w19)); clear HO_5; clear HB; clear HO106; have HO_5 := n0_; have HB := n1_; clear n0_ n1_; clear hg hw hp_))
                    repeat (go_quiet (first | ((with_reducible refine gate_dst (N := 23) rfl ?_); refine Kd.R_make (Kd.int .i64) _ 3 rfl (N := 23) rfl 25 _ _ rfl ji10 rfl rfl Try.underlying25 (.int .i64 0) 8 info3 rfl (by decide) (by omega) 0 (ok := fun _ => True) (okp := fun _ => True) rfl (fun _ hk => hk) trivial (of_decide_eq_true (by first | (with_reducible assumption) | assumption)) (Nat.le_trans (Nat.mul_le_mul_right _ (of_decide_eq_true (by first | (with_reducible assumption) | assumption) : ji10.toNat ≤ 35184372088832)) (by omega)) (Below.refl _ _) (Nat.le_refl _) ?_; intro v105 w16 ho17 hb hg_ hnew_; clear hg_ hnew_; (first | rw [← Ny104.out] at ho17 | (simp only [Int.reduceToNat] at ho17; rw [← Ny104.out] at ho17)); have n0_ := Aside0.mk (Kd.S_elder' (by (with_reducible repeat (first | apply Kd.S_alloc | apply Kd.S_drewN | apply Kd.S_drew)); exact HO_5.out) (Kd.R_base ho17) hb); have n1_ := Aside0.mk (Kd.R_lower ho17 (below_size (by repeat (first | (with_reducible first | exact HB.out | apply below_alloc | apply pw_below_drewN | apply below_drew1) | exact HB.out)))); have n2_ := Aside0.mk (below_step (by repeat (first | (with_reducible first | exact HB.out | apply below_alloc | apply pw_below_drewN | apply below_drew1) | exact HB.out)) hb); clear HO_5; clear HB; have HO_5 := n0_; have HO106 := n1_; have HB := n2_; clear n0_ n1_ n2_; clear hb ho17; have p15 : 0 ≤ (x16_1 : Int) := of_decide_eq_true (by first | (with_reducible assumption) | assumption); have q15 : (x16_1 : Int) < ((x5_1.length : Int) : Int) := of_decide_eq_true (by first | (with_reducible assumption) | assumption); obtain ⟨go15, co15, eo15, gb15, gl15, cl15, HG15⟩ := Kd.S_form HO_5.out (by omega); (first | cases eo15 | (injection eo15 with ea_ en_ ec_; (first | subst ea_ | (injection ea_ with ea_; subst ea_)); subst ec_; clear en_)); have GB15 := Aside0.mk gb15; have GG15 := Aside0.mk HG15; clear gb15 gl15 HG15; obtain ⟨_, ce15, hcl15, hM15, hcc15, hfr15, _, _⟩ := Kd.S_elem HO_5.out [] (x16_1 : Int) p15 q15; obtain ⟨ve15_0, rfl, ge15_0⟩ := hM15; have hx15_0 := hcc15 0 _ rfl; have hf15_0 := hfr15 0; (try simp only [show ((Kd.slice 3 (Kd.int .i64))).sz = 1 from rfl, Nat.mul_one, Nat.add_zero] at hx15_0); (try simp only [show ((Kd.slice 3 (Kd.int .i64))).sz = 1 from rfl, Nat.mul_one, Nat.add_zero] at hf15_0); clear hcl15 hcc15 hfr15; (try clear hM15); replace p15 := eq_true p15; replace q15 := eq_true q15; obtain ⟨Ao20, co20, eo20⟩ := Kd.R_slice HO106.out; subst eo20; have n_ := Aside0.mk (Kd.S_mono (ok' := (fun k_ => some k_ ≠ (.slice Ao20 y104.length co20 : Value).ownBlock)) HO_5.out (fun k_ hk => hk.2)); clear HO_5; have HO_5 := n_; clear n_; have HX18 := Aside0.mk (show Kd.S (Kd.slice 3 (Kd.int .i64)) 25 w16 w.heap.size (fun k_ => ((fun _ => True)) k_ ∧ ¬ ((fun k_ => some k_ = (.slice Ao20 y104.length co20 : Value).ownBlock)) k_) (.slice (some ⟨go15, 0, none⟩) x5_1.length co8) x5_1 from (by (with_reducible repeat (first | apply Kd.S_alloc | apply Kd.S_drewN | apply Kd.S_drew)); exact Kd.S_mono HO_5.out (fun k_ hk => ⟨trivial, fun e_ => hk e_⟩))); obtain ⟨oki18, ce18, hcl18, hM18, hcc18, hfr18, hoki18, hH18⟩ := Kd.S_elem HX18.out [] (x16_1 : Int) (of_decide_eq_true (by first | (with_reducible assumption) | assumption)) (by have h_ : (x16_1 : Int) < ((x5_1.length : Int) : Int) := of_decide_eq_true (by first | (with_reducible assumption) | assumption); first | exact h_ | (have e_ := (Kd.S_reads' HO_5.out).1; omega) | simpa using h_); obtain ⟨ve18_0, rfl, ge18_0⟩ := hM18; have HP18 := Kd.S_seg hH18 (of_decide_eq_true (by first | (with_reducible assumption) | assumption)) (by have h_ : (x16_1 : Int) < ((x5_1.length : Int) : Int) := of_decide_eq_true (by first | (with_reducible assumption) | assumption); first | exact h_ | (have e_ := (Kd.S_reads' HO_5.out).1; omega) | simpa using h_) (seg := [.slice Ao20 y104.length co20]) (j := 0) (show 1 ≤ 1 from by decide) (x' := y104) (Kd.M_row (Kd.R_mono (Kd.R_tight rfl (Kd.R_mono (ok' := fun k_ => ((fun _ => True)) k_ ∧ k_ ≠ go15) (Kd.R_apart' (HO106.out) (Kd.S_typed HO_5.out) (by decide)) (fun k_ hk => ⟨trivial, fun e_ => (hk.2) (by rw [e_]; rfl)⟩))) (fun _ h_ => Or.inr (h_)))) (fun _ hk => hk) (fun k_ hk_ => ((Kd.R_mono (ok' := fun k_ => ((fun _ => True)) k_ ∧ k_ ≠ go15) (Kd.R_apart' (HO106.out) (Kd.S_typed HO_5.out) (by decide)) (fun k_ hk => ⟨trivial, fun e_ => (hk.2) (by rw [e_]; rfl)⟩))).1 k_ hk_.symm); have hx18_0 := hcc18 0 _ rfl; (try simp only [show ((Kd.slice 3 (Kd.int .i64))).sz = 1 from rfl, Nat.mul_one, Nat.add_zero] at hx18_0); have hf18_0 := hfr18 0; (try simp only [show ((Kd.slice 3 (Kd.int .i64))).sz = 1 from rfl, Nat.mul_one, Nat.add_zero] at hf18_0); clear hcl18 hcc18 hfr18; (try clear hM18); clear hoki18 hH18; (try simp only [show ((Kd.slice 3 (Kd.int .i64))).sz = 1 from rfl, Nat.mul_one, Nat.add_zero] at HP18)) | ((with_reducible refine gate_store (t := 25) (p := 24) rfl ?_); (try (rw [drewN_self w16]; generalize hq_ : World.drewN w16 _ = w16; have n0_ := Aside0.mk (Kd.S_at hq_ HO_5.out); have n1_ := Aside0.mk (below_at hq_ HB.out); clear hq_ HO_5 HB; have HO_5 := n0_; have HB := n1_; clear n0_ n1_; (try (obtain ⟨Ao20, co20, eo20⟩ := Kd.R_slice HO106.out)); (try (subst eo20)); (try (have n_ := Aside0.mk (Kd.S_mono (ok' := (fun k_ => some k_ ≠ (.slice Ao20 y104.length co20 : Value).ownBlock)) HO_5.out (fun k_ hk => hk.2)); clear HO_5; have HO_5 := n_; clear n_)); (try (have HX18 := Aside0.mk (show Kd.S (Kd.slice 3 (Kd.int .i64)) 25 w16 w.heap.size (fun k_ => ((fun _ => True)) k_ ∧ ¬ ((fun k_ => some k_ = (.slice Ao20 y104.length co20 : Value).ownBlock)) k_) (.slice (some ⟨go15, 0, none⟩) x5_1.length co8) x5_1 from (by (with_reducible repeat (first | apply Kd.S_alloc | apply Kd.S_drewN | apply Kd.S_drew)); exact Kd.S_mono HO_5.out (fun k_ hk => ⟨trivial, fun e_ => hk e_⟩))))); (try (obtain ⟨oki18, ce18, hcl18, hM18, hcc18, hfr18, hoki18, hH18⟩ := Kd.S_elem HX18.out [] (x16_1 : Int) (of_decide_eq_true (by first | (with_reducible assumption) | assumption)) (by have h_ : (x16_1 : Int) < ((x5_1.length : Int) : Int) := of_decide_eq_true (by first | (with_reducible assumption) | assumption); first | exact h_ | (have e_ := (Kd.S_reads' HO_5.out).1; omega) | simpa using h_))); (try (obtain ⟨ve18_0, rfl, ge18_0⟩ := hM18)); (try (have HP18 := Kd.S_seg hH18 (of_decide_eq_true (by first | (with_reducible assumption) | assumption)) (by have h_ : (x16_1 : Int) < ((x5_1.length : Int) : Int) := of_decide_eq_true (by first | (with_reducible assumption) | assumption); first | exact h_ | (have e_ := (Kd.S_reads' HO_5.out).1; omega) | simpa using h_) (seg := [.slice Ao20 y104.length co20]) (j := 0) (show 1 ≤ 1 from by decide) (x' := y104) (Kd.M_row (Kd.R_mono (Kd.R_tight rfl (Kd.R_mono (ok' := fun k_ => ((fun _ => True)) k_ ∧ k_ ≠ go15) (Kd.R_apart' (HO106.out) (Kd.S_typed HO_5.out) (by decide)) (fun k_ hk => ⟨trivial, fun e_ => (hk.2) (by rw [e_]; rfl)⟩))) (fun _ h_ => Or.inr (h_)))) (fun _ hk => hk) (fun k_ hk_ => ((Kd.R_mono (ok' := fun k_ => ((fun _ => True)) k_ ∧ k_ ≠ go15) (Kd.R_apart' (HO106.out) (Kd.S_typed HO_5.out) (by decide)) (fun k_ hk => ⟨trivial, fun e_ => (hk.2) (by rw [e_]; rfl)⟩))).1 k_ hk_.symm))); (try (have hx18_0 := hcc18 0 _ rfl)); (try (try simp only [show ((Kd.slice 3 (Kd.int .i64))).sz = 1 from rfl, Nat.mul_one, Nat.add_zero] at hx18_0)); (try (have hf18_0 := hfr18 0)); (try (try simp only [show ((Kd.slice 3 (Kd.int .i64))).sz = 1 from rfl, Nat.mul_one, Nat.add_zero] at hf18_0)); (try (clear hcl18 hcc18 hfr18; (try clear hM18); clear hoki18 hH18)); (try (try simp only [show ((Kd.slice 3 (Kd.int .i64))).sz = 1 from rfl, Nat.mul_one, Nat.add_zero] at HP18)))); refine store_event (t := 25) (p := 24) (v := ?vo_w19) (w1 := (w16.setCell ⟨go15, (x16_1 : Int).toNat, none⟩ (.slice Ao20 y104.length co20))) ?hg ?ho ?hn ?hr ?_; (case ho => rfl); (case hg => rfl); (case hn => rfl); (case hr => first | (go_simp; done) | (go_simp; rfl)); intro w19 hw; have hg : w16.grownBy w19 (some go15) := (by rw [hw]; exact HP18.2); have hp_ : Kd.S (Kd.slice 3 (Kd.int .i64)) 25 w19 w.heap.size (fun _ => True) (.slice (some ⟨go15, 0, none⟩) x5_1.length co8) y107 := (by rw [hw, Ny107.out]; exact HP18.1); clear HP18; have n0_ := Aside0.mk (hp_); have n1_ := Aside0.mk ((by rw [hw]; exact below_set (HB.out) GB15.out : Below w.heap.size w w19)); clear HO_5; clear HB; clear HO106; have HO_5 := n0_; have HB := n1_; clear n0_ n1_; clear hg hw hp_)); try go_wp2_with (first | ((with_reducible refine gate_dst (N := 23) rfl ?_); refine Kd.R_make (Kd.int .i64) _ 3 rfl (N := 23) rfl 25 _ _ rfl ji10 rfl rfl Try.underlying25 (.int .i64 0) 8 info3 rfl (by decide) (by omega) 0 (ok := fun _ => True) (okp := fun _ => True) rfl (fun _ hk => hk) trivial (of_decide_eq_true (by first | (with_reducible assumption) | assumption)) (Nat.le_trans (Nat.mul_le_mul_right _ (of_decide_eq_true (by first | (with_reducible assumption) | assumption) : ji10.toNat ≤ 35184372088832)) (by omega)) (Below.refl _ _) (Nat.le_refl _) ?_; intro v105 w16 ho17 hb hg_ hnew_; clear hg_ hnew_; (first | rw [← Ny104.out] at ho17 | (simp only [Int.reduceToNat] at ho17; rw [← Ny104.out] at ho17)); have n0_ := Aside0.mk (Kd.S_elder' (by (with_reducible repeat (first | apply Kd.S_alloc | apply Kd.S_drewN | apply Kd.S_drew)); exact HO_5.out) (Kd.R_base ho17) hb); have n1_ := Aside0.mk (Kd.R_lower ho17 (below_size (by repeat (first | (with_reducible first | exact HB.out | apply below_alloc | apply pw_below_drewN | apply below_drew1) | exact HB.out)))); have n2_ := Aside0.mk (below_step (by repeat (first | (with_reducible first | exact HB.out | apply below_alloc | apply pw_below_drewN | apply below_drew1) | exact HB.out)) hb); clear HO_5; clear HB; have HO_5 := n0_; have HO106 := n1_; have HB := n2_; clear n0_ n1_ n2_; clear hb ho17; have p15 : 0 ≤ (x16_1 : Int) := of_decide_eq_true (by first | (with_reducible assumption) | assumption); have q15 : (x16_1 : Int) < ((x5_1.length : Int) : Int) := of_decide_eq_true (by first | (with_reducible assumption) | assumption); obtain ⟨go15, co15, eo15, gb15, gl15, cl15, HG15⟩ := Kd.S_form HO_5.out (by omega); (first | cases eo15 | (injection eo15 with ea_ en_ ec_; (first | subst ea_ | (injection ea_ with ea_; subst ea_)); subst ec_; clear en_)); have GB15 := Aside0.mk gb15; have GG15 := Aside0.mk HG15; clear gb15 gl15 HG15; obtain ⟨_, ce15, hcl15, hM15, hcc15, hfr15, _, _⟩ := Kd.S_elem HO_5.out [] (x16_1 : Int) p15 q15; obtain ⟨ve15_0, rfl, ge15_0⟩ := hM15; have hx15_0 := hcc15 0 _ rfl; have hf15_0 := hfr15 0; (try simp only [show ((Kd.slice 3 (Kd.int .i64))).sz = 1 from rfl, Nat.mul_one, Nat.add_zero] at hx15_0); (try simp only [show ((Kd.slice 3 (Kd.int .i64))).sz = 1 from rfl, Nat.mul_one, Nat.add_zero] at hf15_0); clear hcl15 hcc15 hfr15; (try clear hM15); replace p15 := eq_true p15; replace q15 := eq_true q15; obtain ⟨Ao20, co20, eo20⟩ := Kd.R_slice HO106.out; subst eo20; have n_ := Aside0.mk (Kd.S_mono (ok' := (fun k_ => some k_ ≠ (.slice Ao20 y104.length co20 : Value).ownBlock)) HO_5.out (fun k_ hk => hk.2)); clear HO_5; have HO_5 := n_; clear n_; have HX18 := Aside0.mk (show Kd.S (Kd.slice 3 (Kd.int .i64)) 25 w16 w.heap.size (fun k_ => ((fun _ => True)) k_ ∧ ¬ ((fun k_ => some k_ = (.slice Ao20 y104.length co20 : Value).ownBlock)) k_) (.slice (some ⟨go15, 0, none⟩) x5_1.length co8) x5_1 from (by (with_reducible repeat (first | apply Kd.S_alloc | apply Kd.S_drewN | apply Kd.S_drew)); exact Kd.S_mono HO_5.out (fun k_ hk => ⟨trivial, fun e_ => hk e_⟩))); obtain ⟨oki18, ce18, hcl18, hM18, hcc18, hfr18, hoki18, hH18⟩ := Kd.S_elem HX18.out [] (x16_1 : Int) (of_decide_eq_true (by first | (with_reducible assumption) | assumption)) (by have h_ : (x16_1 : Int) < ((x5_1.length : Int) : Int) := of_decide_eq_true (by first | (with_reducible assumption) | assumption); first | exact h_ | (have e_ := (Kd.S_reads' HO_5.out).1; omega) | simpa using h_); obtain ⟨ve18_0, rfl, ge18_0⟩ := hM18; have HP18 := Kd.S_seg hH18 (of_decide_eq_true (by first | (with_reducible assumption) | assumption)) (by have h_ : (x16_1 : Int) < ((x5_1.length : Int) : Int) := of_decide_eq_true (by first | (with_reducible assumption) | assumption); first | exact h_ | (have e_ := (Kd.S_reads' HO_5.out).1; omega) | simpa using h_) (seg := [.slice Ao20 y104.length co20]) (j := 0) (show 1 ≤ 1 from by decide) (x' := y104) (Kd.M_row (Kd.R_mono (Kd.R_tight rfl (Kd.R_mono (ok' := fun k_ => ((fun _ => True)) k_ ∧ k_ ≠ go15) (Kd.R_apart' (HO106.out) (Kd.S_typed HO_5.out) (by decide)) (fun k_ hk => ⟨trivial, fun e_ => (hk.2) (by rw [e_]; rfl)⟩))) (fun _ h_ => Or.inr (h_)))) (fun _ hk => hk) (fun k_ hk_ => ((Kd.R_mono (ok' := fun k_ => ((fun _ => True)) k_ ∧ k_ ≠ go15) (Kd.R_apart' (HO106.out) (Kd.S_typed HO_5.out) (by decide)) (fun k_ hk => ⟨trivial, fun e_ => (hk.2) (by rw [e_]; rfl)⟩))).1 k_ hk_.symm); have hx18_0 := hcc18 0 _ rfl; (try simp only [show ((Kd.slice 3 (Kd.int .i64))).sz = 1 from rfl, Nat.mul_one, Nat.add_zero] at hx18_0); have hf18_0 := hfr18 0; (try simp only [show ((Kd.slice 3 (Kd.int .i64))).sz = 1 from rfl, Nat.mul_one, Nat.add_zero] at hf18_0); clear hcl18 hcc18 hfr18; (try clear hM18); clear hoki18 hH18; (try simp only [show ((Kd.slice 3 (Kd.int .i64))).sz = 1 from rfl, Nat.mul_one, Nat.add_zero] at HP18)) | ((with_reducible refine gate_store (t := 25) (p := 24) rfl ?_); (try (rw [drewN_self w16]; generalize hq_ : World.drewN w16 _ = w16; have n0_ := Aside0.mk (Kd.S_at hq_ HO_5.out); have n1_ := Aside0.mk (below_at hq_ HB.out); clear hq_ HO_5 HB; have HO_5 := n0_; have HB := n1_; clear n0_ n1_; (try (obtain ⟨Ao20, co20, eo20⟩ := Kd.R_slice HO106.out)); (try (subst eo20)); (try (have n_ := Aside0.mk (Kd.S_mono (ok' := (fun k_ => some k_ ≠ (.slice Ao20 y104.length co20 : Value).ownBlock)) HO_5.out (fun k_ hk => hk.2)); clear HO_5; have HO_5 := n_; clear n_)); (try (have HX18 := Aside0.mk (show Kd.S (Kd.slice 3 (Kd.int .i64)) 25 w16 w.heap.size (fun k_ => ((fun _ => True)) k_ ∧ ¬ ((fun k_ => some k_ = (.slice Ao20 y104.length co20 : Value).ownBlock)) k_) (.slice (some ⟨go15, 0, none⟩) x5_1.length co8) x5_1 from (by (with_reducible repeat (first | apply Kd.S_alloc | apply Kd.S_drewN | apply Kd.S_drew)); exact Kd.S_mono HO_5.out (fun k_ hk => ⟨trivial, fun e_ => hk e_⟩))))); (try (obtain ⟨oki18, ce18, hcl18, hM18, hcc18, hfr18, hoki18, hH18⟩ := Kd.S_elem HX18.out [] (x16_1 : Int) (of_decide_eq_true (by first | (with_reducible assumption) | assumption)) (by have h_ : (x16_1 : Int) < ((x5_1.length : Int) : Int) := of_decide_eq_true (by first | (with_reducible assumption) | assumption); first | exact h_ | (have e_ := (Kd.S_reads' HO_5.out).1; omega) | simpa using h_))); (try (obtain ⟨ve18_0, rfl, ge18_0⟩ := hM18)); (try (have HP18 := Kd.S_seg hH18 (of_decide_eq_true (by first | (with_reducible assumption) | assumption)) (by have h_ : (x16_1 : Int) < ((x5_1.length : Int) : Int) := of_decide_eq_true (by first | (with_reducible assumption) | assumption); first | exact h_ | (have e_ := (Kd.S_reads' HO_5.out).1; omega) | simpa using h_) (seg := [.slice Ao20 y104.length co20]) (j := 0) (show 1 ≤ 1 from by decide) (x' := y104) (Kd.M_row (Kd.R_mono (Kd.R_tight rfl (Kd.R_mono (ok' := fun k_ => ((fun _ => True)) k_ ∧ k_ ≠ go15) (Kd.R_apart' (HO106.out) (Kd.S_typed HO_5.out) (by decide)) (fun k_ hk => ⟨trivial, fun e_ => (hk.2) (by rw [e_]; rfl)⟩))) (fun _ h_ => Or.inr (h_)))) (fun _ hk => hk) (fun k_ hk_ => ((Kd.R_mono (ok' := fun k_ => ((fun _ => True)) k_ ∧ k_ ≠ go15) (Kd.R_apart' (HO106.out) (Kd.S_typed HO_5.out) (by decide)) (fun k_ hk => ⟨trivial, fun e_ => (hk.2) (by rw [e_]; rfl)⟩))).1 k_ hk_.symm))); (try (have hx18_0 := hcc18 0 _ rfl)); (try (try simp only [show ((Kd.slice 3 (Kd.int .i64))).sz = 1 from rfl, Nat.mul_one, Nat.add_zero] at hx18_0)); (try (have hf18_0 := hfr18 0)); (try (try simp only [show ((Kd.slice 3 (Kd.int .i64))).sz = 1 from rfl, Nat.mul_one, Nat.add_zero] at hf18_0)); (try (clear hcl18 hcc18 hfr18; (try clear hM18); clear hoki18 hH18)); (try (try simp only [show ((Kd.slice 3 (Kd.int .i64))).sz = 1 from rfl, Nat.mul_one, Nat.add_zero] at HP18)))); refine store_event (t := 25) (p := 24) (v := ?vo_w19) (w1 := (w16.setCell ⟨go15, (x16_1 : Int).toNat, none⟩ (.slice Ao20 y104.length co20))) ?hg ?ho ?hn ?hr ?_; (case ho => rfl); (case hg => rfl); (case hn => rfl); (case hr => first | (go_simp; done) | (go_simp; rfl)); intro w19 hw; have hg : w16.grownBy w19 (some go15) := (by rw [hw]; exact HP18.2); have hp_ : Kd.S (Kd.slice 3 (Kd.int .i64)) 25 w19 w.heap.size (fun _ => True) (.slice (some ⟨go15, 0, none⟩) x5_1.length co8) y107 := (by rw [hw, Ny107.out]; exact HP18.1); clear HP18; have n0_ := Aside0.mk (hp_); have n1_ := Aside0.mk ((by rw [hw]; exact below_set (HB.out) GB15.out : Below w.heap.size w w19)); clear HO_5; clear HB; clear HO106; have HO_5 := n0_; have HB := n1_; clear n0_ n1_; clear hg hw hp_)))
                    go_loopg [7] k1 (fun kq v7 w' => ∃ (x5_2 : List (List Int)) (x7_2 : Int), v7 = .int .i64 x7_2 ∧ Aside0 (impl_byLines.l1 kq a1 x5_2 x16_1 x7_2 (y101.length : Int) x16_1 = some r) ∧ Aside0 (kq ≤ k1) ∧ Aside0 (Kd.S (Kd.slice 3 (Kd.int .i64)) 25 w' w.heap.size (fun _ => True) (.slice (some ⟨go15, 0, none⟩) x5_1.length co8) x5_2) ∧ Aside0 (Below w.heap.size w w'))
                    case atStart => exact ⟨(y107), (1), (by first | rfl | (simp; done) | (simp [*]; done)), H', ⟨Nat.le_refl _⟩, ⟨by (try simp only [hl5_1]); (with_reducible repeat (first | apply Kd.S_alloc | apply Kd.S_drewN | apply Kd.S_drew)); exact HO_5.out⟩, ⟨by repeat (first | (with_reducible first | exact HB.out | apply below_alloc | apply pw_below_drewN | apply below_drew1) | exact HB.out)⟩⟩
                    case round =>
                      clear H'
                      try clear c1
                      try clear p1
                      try clear q1
                      try clear hx1
                      try clear p2
                      try clear c4
                      try clear c4b0
                      try clear c4b1
                      try clear c5
                      try clear c5b0
                      try clear c5b1
                      try clear p6
                      try clear c7
                      try clear c9
                      try clear c9b0
                      try clear c11
                      try clear c11b0
                      try clear c11b1
                      try clear c12
                      try clear c12b0
                      try clear c12b1
                      try clear c13
                      try clear c13b0
                      try clear c14
                      try clear c14b0
                      try clear c15
                      try clear p15
                      try clear q15
                      try clear hx15
                      try clear hf15
                      try clear c18
                      try clear hx18
                      try clear hf18
                      try clear hx15_0
                      try clear hx18_0
                      try clear p15
                      try clear p2
                      try clear p6
                      try clear q15
                      obtain ⟨x5_2, x7_2, rfl, HA, HK2, HO_5, HB⟩ := hrel
                      have hl5_2 := (Kd.S_reads' HO_5.out).1
                      rw [hl5_2] at HO_5
                      (try simp only [hl5_2])
                      cases gk with
                      | zero => exact absurd HA.out (by simp [impl_byLines.l1])
                      | succ k2 =>
                        have H := HA.out
                        clear HA
                        simp only [impl_byLines.l1] at H
                        have HC21 := Aside0.mk H
                        clear H
                        go_upto_region 7 with (fail)
                        repeat (go_quiet (fail); go_upto_region 7 with (fail))
                        go_cut [31] (fun v31 wc => ∃ (kq : Nat) (x31_20 : Bool), v31 = .bool x31_20 ∧ Aside0 (impl_byLines.j2 kq a1 x5_2 x16_1 x7_2 (y101.length : Int) x16_1 x31_20 = some r) ∧ Aside0 (kq ≤ k2) ∧ Aside0 (Kd.S (Kd.slice 3 (Kd.int .i64)) 25 wc w.heap.size (fun _ => True) (.slice (some ⟨go15, 0, none⟩) x5_2.length co8) x5_2) ∧ Aside0 (Below w.heap.size w wc))
                        case first =>
                          have H := HC21.out
                          clear HC21
                          by_cases c22 : x7_2 ≤ a1
                          · rw [if_pos c22] at H
                            have c22b0 : decide (x7_2 ≤ a1) = true := decide_eq_true c22
                            clear c22
                            (first | rw [c22b0] | (simp only [i64_w, i32_w]; rw [c22b0]) | skip)
                            have H' := Aside0.mk H
                            clear H
                            go_wp2
                            repeat (go_quiet (fail); try go_wp2)
                            go_meet
                            case rel => exact ⟨_, (decide (x16_1 > 0)), (by first | rfl | (simp; done) | (simp [*]; done)), H', ⟨by have := HK1.out; have := HK2.out; first | omega | exact Nat.le_refl _⟩, ⟨by (try simp only [hl5_1]); (try simp only [hl5_2]); (with_reducible repeat (first | apply Kd.S_alloc | apply Kd.S_drewN | apply Kd.S_drew)); exact HO_5.out⟩, ⟨by repeat (first | (with_reducible first | exact HB.out | apply below_alloc | apply pw_below_drewN | apply below_drew1) | exact HB.out)⟩⟩
                          · rw [if_neg c22] at H
                            have c22b0 : decide (x7_2 ≤ a1) = false := decide_eq_false c22
                            clear c22
                            (first | rw [c22b0] | (simp only [i64_w, i32_w]; rw [c22b0]) | skip)
                            have H' := Aside0.mk H
                            clear H
                            go_wp2
                            repeat (go_quiet (fail); try go_wp2)
                            go_meet
                            case rel => exact ⟨_, (false), (by first | rfl | (simp; done) | (simp [*]; done)), H', ⟨by have := HK1.out; have := HK2.out; first | omega | exact Nat.le_refl _⟩, ⟨by (try simp only [hl5_1]); (try simp only [hl5_2]); (with_reducible repeat (first | apply Kd.S_alloc | apply Kd.S_drewN | apply Kd.S_drew)); exact HO_5.out⟩, ⟨by repeat (first | (with_reducible first | exact HB.out | apply below_alloc | apply pw_below_drewN | apply below_drew1) | exact HB.out)⟩⟩
                        case rest =>
                          clear HC21
                          try clear c1
                          try clear p1
                          try clear q1
                          try clear hx1
                          try clear c2
                          try clear p2
                          try clear c4
                          try clear c4b0
                          try clear c4b1
                          try clear c5
                          try clear c5b0
                          try clear c5b1
                          try clear p6
                          try clear c7
                          try clear c9
                          try clear c9b0
                          try clear c11
                          try clear c11b0
                          try clear c11b1
                          try clear c12
                          try clear c12b0
                          try clear c12b1
                          try clear c13
                          try clear c13b0
                          try clear c14
                          try clear c14b0
                          try clear c15
                          try clear p15
                          try clear q15
                          try clear hx15
                          try clear hf15
                          try clear c18
                          try clear hx18
                          try clear hf18
                          try clear c22
                          try clear c22b0
                          try clear hx15_0
                          try clear hx18_0
                          try clear p1
                          try clear p15
                          try clear p2
                          try clear p6
                          try clear q1
                          try clear q15
                          obtain ⟨kq, x31_20, rfl, HA, HJ20, HO_5, HB⟩ := hcut
                          cases kq with
                          | zero => exact absurd HA.out (by simp [impl_byLines.j2])
                          | succ kj20 =>
                            have H := HA.out
                            clear HA
                            simp only [impl_byLines.j2] at H
                            by_cases c23 : x31_20 = true
                            · subst c23
                              have H1 : (if x16_1 = x7_2 then (impl_byLines.j3 kj20 a1 x5_2 x16_1 x7_2 1 (y101.length : Int) x16_1) else (impl_byLines.j3 kj20 a1 x5_2 x16_1 x7_2 (wrap64 (x16_1 * x7_2)) (y101.length : Int) x16_1)) = some r := by rw [if_pos rfl] at H; exact H
                              clear H
                              have H := H1
                              clear H1
                              have HC24 := Aside0.mk H
                              clear H
                              go_upto_if 39 with (fail)
                              repeat (go_quiet (fail); go_upto_if 39 with (fail))
                              go_cut [8] (fun v8 wc => ∃ (kq : Nat) (x8_23 : Int), v8 = .int .i64 x8_23 ∧ Aside0 (impl_byLines.j3 kq a1 x5_2 x16_1 x7_2 x8_23 (y101.length : Int) x16_1 = some r) ∧ Aside0 (kq ≤ kj20) ∧ Aside0 (Kd.S (Kd.slice 3 (Kd.int .i64)) 25 wc w.heap.size (fun _ => True) (.slice (some ⟨go15, 0, none⟩) x5_2.length co8) x5_2) ∧ Aside0 (Below w.heap.size w wc))
                              case first =>
                                have H := HC24.out
                                clear HC24
                                by_cases c25 : x16_1 = x7_2
                                · rw [if_pos c25] at H
                                  have c25b0 : (x16_1 == x7_2) = true := beq_iff_eq.mpr c25
                                  have c25b1 : (x16_1 != x7_2) = false := bne_eq_false_iff_eq.mpr c25
                                  clear c25
                                  (first | rw [c25b0] | (simp only [i64_w, i32_w]; rw [c25b0]) | skip)
                                  have H' := Aside0.mk H
                                  clear H
                                  go_wp2
                                  repeat (go_quiet (fail); try go_wp2)
                                  go_meet
                                  case rel => exact ⟨_, (1), (by first | rfl | (simp; done) | (simp [*]; done)), H', ⟨by have := HK1.out; have := HK2.out; have := HJ20.out; first | omega | exact Nat.le_refl _⟩, ⟨by (try simp only [hl5_1]); (try simp only [hl5_2]); (with_reducible repeat (first | apply Kd.S_alloc | apply Kd.S_drewN | apply Kd.S_drew)); exact HO_5.out⟩, ⟨by repeat (first | (with_reducible first | exact HB.out | apply below_alloc | apply pw_below_drewN | apply below_drew1) | exact HB.out)⟩⟩
                                · rw [if_neg c25] at H
                                  have c25b0 : (x16_1 == x7_2) = false := beq_eq_false_iff_ne.mpr c25
                                  have c25b1 : (x16_1 != x7_2) = true := bne_iff_ne.mpr c25
                                  (first | rw [c25b0] | (simp only [i64_w, i32_w]; rw [c25b0]) | skip)
                                  have H' := Aside0.mk H
                                  clear H
                                  go_wp2
                                  repeat (go_quiet (fail); try go_wp2)
                                  go_meet
                                  case rel => exact ⟨_, (wrap64 (x16_1 * x7_2)), (by first | rfl | (simp; done) | (simp [*]; done)), H', ⟨by have := HK1.out; have := HK2.out; have := HJ20.out; first | omega | exact Nat.le_refl _⟩, ⟨by (try simp only [hl5_1]); (try simp only [hl5_2]); (with_reducible repeat (first | apply Kd.S_alloc | apply Kd.S_drewN | apply Kd.S_drew)); exact HO_5.out⟩, ⟨by repeat (first | (with_reducible first | exact HB.out | apply below_alloc | apply pw_below_drewN | apply below_drew1) | exact HB.out)⟩⟩
                              case rest =>
                                clear HC24
                                try clear c1
                                try clear p1
                                try clear q1
                                try clear hx1
                                try clear c2
                                try clear p2
                                try clear c4
                                try clear c4b0
                                try clear c4b1
                                try clear c5
                                try clear c5b0
                                try clear c5b1
                                try clear p6
                                try clear c7
                                try clear c9
                                try clear c9b0
                                try clear c11
                                try clear c11b0
                                try clear c11b1
                                try clear c12
                                try clear c12b0
                                try clear c12b1
                                try clear c13
                                try clear c13b0
                                try clear c14
                                try clear c14b0
                                try clear c15
                                try clear p15
                                try clear q15
                                try clear hx15
                                try clear hf15
                                try clear c18
                                try clear hx18
                                try clear hf18
                                try clear c22
                                try clear c22b0
                                try clear c23
                                try clear c25
                                try clear c25b0
                                try clear c25b1
                                try clear hx15_0
                                try clear hx18_0
                                try clear p1
                                try clear p15
                                try clear p2
                                try clear p6
                                try clear q1
                                try clear q15
                                obtain ⟨kq, x8_23, rfl, HA, HJ23, HO_5, HB⟩ := hcut
                                cases kq with
                                | zero => exact absurd HA.out (by simp [impl_byLines.j3])
                                | succ kj23 =>
                                  have H := HA.out
                                  clear HA
                                  simp only [impl_byLines.j3] at H
                                  have H' := Aside0.mk H
                                  clear H
                                  go_wp2
                                  repeat (go_quiet (fail); try go_wp2)
                                  go_loopg [8, 9] kj23 (fun kq v8 v9 w' => ∃ (x8_5 : Int) (x9_5 : Int), v8 = .int .i64 x8_5 ∧ v9 = .int .i64 x9_5 ∧ Aside0 (impl_byLines.l2 kq a1 x5_2 x16_1 x7_2 x8_5 x9_5 (y101.length : Int) x16_1 = some r) ∧ Aside0 (kq ≤ kj23) ∧ Aside0 (Kd.S (Kd.slice 3 (Kd.int .i64)) 25 w' w.heap.size (fun _ => True) (.slice (some ⟨go15, 0, none⟩) x5_2.length co8) x5_2) ∧ Aside0 (Below w.heap.size w w'))
                                  case atStart => exact ⟨(x8_23), (1), (by first | rfl | (simp; done) | (simp [*]; done)), (by first | rfl | (simp; done) | (simp [*]; done)), H', ⟨Nat.le_refl _⟩, ⟨by (try simp only [hl5_1]); (try simp only [hl5_2]); (with_reducible repeat (first | apply Kd.S_alloc | apply Kd.S_drewN | apply Kd.S_drew)); exact HO_5.out⟩, ⟨by repeat (first | (with_reducible first | exact HB.out | apply below_alloc | apply pw_below_drewN | apply below_drew1) | exact HB.out)⟩⟩
                                  case round =>
                                    clear H'
                                    try clear c1
                                    try clear p1
                                    try clear q1
                                    try clear hx1
                                    try clear c2
                                    try clear p2
                                    try clear c4
                                    try clear c4b0
                                    try clear c4b1
                                    try clear c5
                                    try clear c5b0
                                    try clear c5b1
                                    try clear p6
                                    try clear c7
                                    try clear c9
                                    try clear c9b0
                                    try clear c11
                                    try clear c11b0
                                    try clear c11b1
                                    try clear c12
                                    try clear c12b0
                                    try clear c12b1
                                    try clear c13
                                    try clear c13b0
                                    try clear c14
                                    try clear c14b0
                                    try clear c15
                                    try clear p15
                                    try clear q15
                                    try clear hx15
                                    try clear hf15
                                    try clear c18
                                    try clear hx18
                                    try clear hf18
                                    try clear c22
                                    try clear c22b0
                                    try clear c23
                                    try clear c25
                                    try clear c25b0
                                    try clear c25b1
                                    try clear hx15_0
                                    try clear hx18_0
                                    try clear p1
                                    try clear p15
                                    try clear p2
                                    try clear p6
                                    try clear q1
                                    try clear q15
                                    obtain ⟨x8_5, x9_5, rfl, rfl, HA, HK5, HO_5, HB⟩ := hrel
                                    cases gk with
                                    | zero => exact absurd HA.out (by simp [impl_byLines.l2])
                                    | succ k5 =>
                                      have H := HA.out
                                      clear HA
                                      simp only [impl_byLines.l2] at H
                                      by_cases c26 : x9_5 ≤ (wrap64 (Int.tdiv x16_1 2))
                                      · rw [if_pos c26] at H
                                        have c26b0 : decide (x9_5 ≤ (wrap64 (Int.tdiv x16_1 2))) = true := decide_eq_true c26
                                        clear c26
                                        by_cases c27 : 0 ≤ x9_5
                                        · rw [if_pos c27] at H
                                          have c27b0 : decide (0 ≤ x9_5) = true := decide_eq_true c27
                                          clear c27
                                          by_cases c28 : x9_5 < (x5_2.length : Int)
                                          · rw [if_pos c28] at H
                                            have c28b0 : decide (x9_5 < (x5_2.length : Int)) = true := decide_eq_true c28
                                            have c28b0x := c28b0
                                            (try simp only [hl5_1] at c28b0x)
                                            (try simp only [hl5_2] at c28b0x)
                                            clear c28
                                            by_cases c29 : 0 ≤ x7_2
                                            · rw [if_pos c29] at H
                                              have c29b0 : decide (0 ≤ x7_2) = true := decide_eq_true c29
                                              clear c29
                                              by_cases c30 : x7_2 < ((rd_L5 x5_2 x9_5).length : Int)
                                              · rw [if_pos c30] at H
                                                have c30b0 : decide (x7_2 < ((rd_L5 x5_2 x9_5).length : Int)) = true := decide_eq_true c30
                                                have c30b0x := c30b0
                                                (try simp only [hl5_1] at c30b0x)
                                                (try simp only [hl5_2] at c30b0x)
                                                clear c30
                                                obtain ⟨ji31, hji31⟩ : ∃ j_ : Int, (wrap64 (x16_1 - x9_5)) = j_ := ⟨_, rfl⟩
                                                replace H : (if 0 ≤ (ji31) then (if (ji31) < (x5_2.length : Int) then (if x7_2 < ((rd_L5 x5_2 (ji31)).length : Int) then (impl_byLines.l2 k5 a1 x5_2 x16_1 x7_2 (mn x8_5 (wrap64 ((rd (rd_L5 x5_2 x9_5) x7_2) + (rd (rd_L5 x5_2 (ji31)) x7_2)))) (wrap64 (x9_5 + 1)) (y101.length : Int) x16_1) else (none)) else (none)) else (none)) = some r := by first | (rw [hji31] at H; exact H) | (simp only [hji31] at H ⊢; exact H)
                                                have hji31w : (IntKind.i64.wrap (x16_1 - x9_5)) = ji31 := (i64_w _).trans hji31
                                                by_cases c32 : 0 ≤ (ji31)
                                                · rw [if_pos c32] at H
                                                  have c32b0 : decide (0 ≤ (ji31)) = true := decide_eq_true c32
                                                  clear c32
                                                  by_cases c33 : (ji31) < (x5_2.length : Int)
                                                  · rw [if_pos c33] at H
                                                    have c33b0 : decide ((ji31) < (x5_2.length : Int)) = true := decide_eq_true c33
                                                    have c33b0x := c33b0
                                                    (try simp only [hl5_1] at c33b0x)
                                                    (try simp only [hl5_2] at c33b0x)
                                                    clear c33
                                                    by_cases c34 : x7_2 < ((rd_L5 x5_2 (ji31)).length : Int)
                                                    · rw [if_pos c34] at H
                                                      have c34b0 : decide (x7_2 < ((rd_L5 x5_2 (ji31)).length : Int)) = true := decide_eq_true c34
                                                      have c34b0x := c34b0
                                                      (try simp only [hl5_1] at c34b0x)
                                                      (try simp only [hl5_2] at c34b0x)
                                                      clear c34
                                                      obtain ⟨ji35, hji35⟩ : ∃ j_ : Int, (mn x8_5 (wrap64 ((rd (rd_L5 x5_2 x9_5) x7_2) + (rd (rd_L5 x5_2 (ji31)) x7_2)))) = j_ := ⟨_, rfl⟩
                                                      replace H : (impl_byLines.l2 k5 a1 x5_2 x16_1 x7_2 ji35 (wrap64 (x9_5 + 1)) (y101.length : Int) x16_1) = some r := by first | (rw [hji35] at H; exact H) | (simp only [hji35] at H ⊢; exact H)
                                                      have hji35_ : (if (wrap64 ((rd (rd_L5 x5_2 x9_5) x7_2) + (rd (rd_L5 x5_2 (ji31)) x7_2))) < x8_5 then (wrap64 ((rd (rd_L5 x5_2 x9_5) x7_2) + (rd (rd_L5 x5_2 (ji31)) x7_2))) else x8_5) = ji35 := hji35
                                                      have H' := Aside0.mk H
                                                      clear H
                                                      have p108 : 0 ≤ (x9_5 : Int) := of_decide_eq_true (by first | (with_reducible assumption) | assumption)
                                                      have q108 : x9_5 < (x5_2.length : Int) := of_decide_eq_true (by first | (with_reducible assumption) | assumption)
                                                      obtain ⟨ad108, A108_0, c108_0, e108, hx108_0, hl108_0, hi108_0⟩ := at_L5 (Kd.S_reads' HO_5.out).2.2 x9_5 p108 q108
                                                      obtain rfl : (⟨go15, 0, none⟩ : Addr) = ad108 := (by injection e108)
                                                      obtain ⟨ce108, hce108, hMe108, hcc108⟩ := Kd.S_get HO_5.out [] x9_5 p108 (by first | exact q108 | exact of_decide_eq_true (by first | (with_reducible assumption) | assumption) | (have e_ := (Kd.S_reads' HO_5.out).1; omega))
                                                      obtain ⟨ve108_0, rfl, ge108_0⟩ := hMe108
                                                      have hv108_0 := hcc108 0 _ rfl
                                                      rw [Nat.add_zero, show ((Kd.slice 3 (Kd.int .i64))).sz = 1 from rfl, Nat.mul_one] at hv108_0
                                                      replace hv108_0 := Option.some.inj (hv108_0.symm.trans hx108_0)
                                                      rw [hv108_0] at ge108_0
                                                      have HL108_0 := Aside0.mk (show Kd.R (Kd.int .i64) 3 _ _ _ _ (rd_L5 x5_2 x9_5) from ge108_0)
                                                      clear hv108_0 ge108_0
                                                      have HX108_0 := Aside0.mk hx108_0
                                                      clear hcc108 hce108
                                                      (first | simp only [add_plain] at hx108_0 | simp only [add_at] at hx108_0 | simp only [Addr.add, Nat.zero_add] at hx108_0 | skip)
                                                      have HR108_0 := Aside0.mk hi108_0
                                                      have HC108_0 := Aside0.mk hl108_0
                                                      clear hi108_0 hl108_0
                                                      replace p108 := eq_true p108
                                                      replace q108 := eq_true q108
                                                      have p109 : 0 ≤ (x7_2 : Int) := of_decide_eq_true (by first | (with_reducible assumption) | assumption)
                                                      have q109 : x7_2 < ((rd_L5 x5_2 x9_5).length : Int) := of_decide_eq_true (by first | (with_reducible assumption) | assumption)
                                                      obtain ⟨ad109, e109, hx109_0⟩ := Kd.at_int (by repeat (first | (with_reducible exact HR108_0.out) | (with_reducible refine Kd.C_alloc ?_ _) | (with_reducible refine Kd.C_drewN ?_ _) | (with_reducible refine Kd.C_drew ?_) | exact HR108_0.out)) x7_2 p109 q109
                                                      cases e109
                                                      replace p109 := eq_true p109
                                                      replace q109 := eq_true q109
                                                      have p110 : 0 ≤ ((ji31) : Int) := of_decide_eq_true (by first | (with_reducible assumption) | assumption)
                                                      have q110 : (ji31) < (x5_2.length : Int) := of_decide_eq_true (by first | (with_reducible assumption) | assumption)
                                                      obtain ⟨ad110, A110_0, c110_0, e110, hx110_0, hl110_0, hi110_0⟩ := at_L5 (Kd.S_reads' HO_5.out).2.2 (ji31) p110 q110
                                                      obtain rfl : (⟨go15, 0, none⟩ : Addr) = ad110 := (by injection e110)
                                                      obtain ⟨ce110, hce110, hMe110, hcc110⟩ := Kd.S_get HO_5.out [] (ji31) p110 (by first | exact q110 | exact of_decide_eq_true (by first | (with_reducible assumption) | assumption) | (have e_ := (Kd.S_reads' HO_5.out).1; omega))
                                                      obtain ⟨ve110_0, rfl, ge110_0⟩ := hMe110
                                                      have hv110_0 := hcc110 0 _ rfl
                                                      rw [Nat.add_zero, show ((Kd.slice 3 (Kd.int .i64))).sz = 1 from rfl, Nat.mul_one] at hv110_0
                                                      replace hv110_0 := Option.some.inj (hv110_0.symm.trans hx110_0)
                                                      rw [hv110_0] at ge110_0
                                                      have HL110_0 := Aside0.mk (show Kd.R (Kd.int .i64) 3 _ _ _ _ (rd_L5 x5_2 (ji31)) from ge110_0)
                                                      clear hv110_0 ge110_0
                                                      have HX110_0 := Aside0.mk hx110_0
                                                      clear hcc110 hce110
                                                      (first | simp only [add_plain] at hx110_0 | simp only [add_at] at hx110_0 | simp only [Addr.add, Nat.zero_add] at hx110_0 | skip)
                                                      have HR110_0 := Aside0.mk hi110_0
                                                      have HC110_0 := Aside0.mk hl110_0
                                                      clear hi110_0 hl110_0
                                                      replace p110 := eq_true p110
                                                      replace q110 := eq_true q110
                                                      have p111 : 0 ≤ (x7_2 : Int) := of_decide_eq_true (by first | (with_reducible assumption) | assumption)
                                                      have q111 : x7_2 < ((rd_L5 x5_2 (ji31)).length : Int) := of_decide_eq_true (by first | (with_reducible assumption) | assumption)
                                                      obtain ⟨ad111, e111, hx111_0⟩ := Kd.at_int (by repeat (first | (with_reducible exact HR110_0.out) | (with_reducible refine Kd.C_alloc ?_ _) | (with_reducible refine Kd.C_drewN ?_ _) | (with_reducible refine Kd.C_drew ?_) | exact HR110_0.out)) x7_2 p111 q111
                                                      cases e111
                                                      replace p111 := eq_true p111
                                                      replace q111 := eq_true q111
                                                      go_wp2
                                                      repeat (go_quiet (fail); try go_wp2)
                                                      go_roundg k5
                                                      case measure => have := HK1.out; have := HK2.out; have := HJ20.out; have := HJ23.out; have := HK5.out; omega
                                                      case rel => exact ⟨(ji35), (wrap64 (x9_5 + 1)), (by first | rfl | (simp; done) | (simp only [← hji35] <;> (first | rfl | simp)) | (simp [*]; done)), (by first | rfl | (simp; done) | (simp [*]; done)), H', ⟨by have := HK1.out; have := HK2.out; have := HJ20.out; have := HJ23.out; have := HK5.out; omega⟩, ⟨by (try simp only [hl5_1]); (try simp only [hl5_2]); (with_reducible repeat (first | apply Kd.S_alloc | apply Kd.S_drewN | apply Kd.S_drew)); exact HO_5.out⟩, ⟨by repeat (first | (with_reducible first | exact HB.out | apply below_alloc | apply pw_below_drewN | apply below_drew1) | exact HB.out)⟩⟩
                                                    · rw [if_neg c34] at H
                                                      exact absurd H (by simp)
                                                  · rw [if_neg c33] at H
                                                    exact absurd H (by simp)
                                                · rw [if_neg c32] at H
                                                  exact absurd H (by simp)
                                              · rw [if_neg c30] at H
                                                exact absurd H (by simp)
                                            · rw [if_neg c29] at H
                                              exact absurd H (by simp)
                                          · rw [if_neg c28] at H
                                            exact absurd H (by simp)
                                        · rw [if_neg c27] at H
                                          exact absurd H (by simp)
                                      · rw [if_neg c26] at H
                                        have c26b0 : decide (x9_5 ≤ (wrap64 (Int.tdiv x16_1 2))) = false := decide_eq_false c26
                                        clear c26
                                        have H' := Aside0.mk H
                                        clear H
                                        go_wp2
                                        repeat (go_quiet (fail); try go_wp2)
                                        go_loopg [8, 10] k5 (fun kq v8 v10 w' => ∃ (x8_6 : Int) (x10_6 : Int), v8 = .int .i64 x8_6 ∧ v10 = .int .i64 x10_6 ∧ Aside0 (impl_byLines.l3 kq a1 x5_2 x16_1 x7_2 x8_6 x10_6 (y101.length : Int) x16_1 = some r) ∧ Aside0 (kq ≤ k5) ∧ Aside0 (Kd.S (Kd.slice 3 (Kd.int .i64)) 25 w' w.heap.size (fun _ => True) (.slice (some ⟨go15, 0, none⟩) x5_2.length co8) x5_2) ∧ Aside0 (Below w.heap.size w w'))
                                        case atStart => exact ⟨(x8_5), (1), (by first | rfl | (simp; done) | (simp [*]; done)), (by first | rfl | (simp; done) | (simp [*]; done)), H', ⟨Nat.le_refl _⟩, ⟨by (try simp only [hl5_1]); (try simp only [hl5_2]); (with_reducible repeat (first | apply Kd.S_alloc | apply Kd.S_drewN | apply Kd.S_drew)); exact HO_5.out⟩, ⟨by repeat (first | (with_reducible first | exact HB.out | apply below_alloc | apply pw_below_drewN | apply below_drew1) | exact HB.out)⟩⟩
                                        case round =>
                                          clear H'
                                          try clear c1
                                          try clear p1
                                          try clear q1
                                          try clear hx1
                                          try clear c2
                                          try clear p2
                                          try clear c3
                                          try clear c4
                                          try clear c4b0
                                          try clear c4b1
                                          try clear c5
                                          try clear c5b0
                                          try clear c5b1
                                          try clear p6
                                          try clear c7
                                          try clear c9
                                          try clear c9b0
                                          try clear c10
                                          try clear p10
                                          try clear q10
                                          try clear hx10
                                          try clear c11
                                          try clear c11b0
                                          try clear c11b1
                                          try clear p11
                                          try clear q11
                                          try clear hx11
                                          try clear c12
                                          try clear c12b0
                                          try clear c12b1
                                          try clear c13
                                          try clear c13b0
                                          try clear c14
                                          try clear c14b0
                                          try clear c15
                                          try clear p15
                                          try clear q15
                                          try clear hx15
                                          try clear hf15
                                          try clear c18
                                          try clear hx18
                                          try clear hf18
                                          try clear c22
                                          try clear c22b0
                                          try clear c23
                                          try clear c25
                                          try clear c25b0
                                          try clear c25b1
                                          try clear c26
                                          try clear c26b0
                                          try clear c27
                                          try clear c27b0
                                          try clear c28
                                          try clear c28b0
                                          try clear c29
                                          try clear c29b0
                                          try clear c30
                                          try clear c30b0
                                          try clear c32
                                          try clear c32b0
                                          try clear c33
                                          try clear c33b0
                                          try clear c34
                                          try clear c34b0
                                          try clear hx108_0
                                          try clear hx109_0
                                          try clear hx110_0
                                          try clear hx111_0
                                          try clear hx15_0
                                          try clear hx18_0
                                          try clear p1
                                          try clear p108
                                          try clear p109
                                          try clear p110
                                          try clear p111
                                          try clear p15
                                          try clear p2
                                          try clear p6
                                          try clear q1
                                          try clear q108
                                          try clear q109
                                          try clear q110
                                          try clear q111
                                          try clear q15
                                          obtain ⟨x8_6, x10_6, rfl, rfl, HA, HK6, HO_5, HB⟩ := hrel
                                          cases gk with
                                          | zero => exact absurd HA.out (by simp [impl_byLines.l3])
                                          | succ k6 =>
                                            have H := HA.out
                                            clear HA
                                            simp only [impl_byLines.l3] at H
                                            by_cases c36 : x10_6 ≤ (wrap64 (Int.tdiv x7_2 2))
                                            · rw [if_pos c36] at H
                                              have c36b0 : decide (x10_6 ≤ (wrap64 (Int.tdiv x7_2 2))) = true := decide_eq_true c36
                                              clear c36
                                              by_cases c37 : 0 ≤ x16_1
                                              · rw [if_pos c37] at H
                                                have c37b0 : decide (0 ≤ x16_1) = true := decide_eq_true c37
                                                clear c37
                                                by_cases c38 : x16_1 < (x5_2.length : Int)
                                                · rw [if_pos c38] at H
                                                  have c38b0 : decide (x16_1 < (x5_2.length : Int)) = true := decide_eq_true c38
                                                  have c38b0x := c38b0
                                                  (try simp only [hl5_1] at c38b0x)
                                                  (try simp only [hl5_2] at c38b0x)
                                                  clear c38
                                                  by_cases c39 : 0 ≤ x10_6
                                                  · rw [if_pos c39] at H
                                                    have c39b0 : decide (0 ≤ x10_6) = true := decide_eq_true c39
                                                    clear c39
                                                    by_cases c40 : x10_6 < ((rd_L5 x5_2 x16_1).length : Int)
                                                    · rw [if_pos c40] at H
                                                      have c40b0 : decide (x10_6 < ((rd_L5 x5_2 x16_1).length : Int)) = true := decide_eq_true c40
                                                      have c40b0x := c40b0
                                                      (try simp only [hl5_1] at c40b0x)
                                                      (try simp only [hl5_2] at c40b0x)
                                                      clear c40
                                                      obtain ⟨ji41, hji41⟩ : ∃ j_ : Int, (wrap64 (x7_2 - x10_6)) = j_ := ⟨_, rfl⟩
                                                      replace H : (if 0 ≤ (ji41) then (if (ji41) < ((rd_L5 x5_2 x16_1).length : Int) then (impl_byLines.l3 k6 a1 x5_2 x16_1 x7_2 (mn x8_6 (wrap64 ((rd (rd_L5 x5_2 x16_1) x10_6) + (rd (rd_L5 x5_2 x16_1) (ji41))))) (wrap64 (x10_6 + 1)) (y101.length : Int) x16_1) else (none)) else (none)) = some r := by first | (rw [hji41] at H; exact H) | (simp only [hji41] at H ⊢; exact H)
                                                      have hji41w : (IntKind.i64.wrap (x7_2 - x10_6)) = ji41 := (i64_w _).trans hji41
                                                      by_cases c42 : 0 ≤ (ji41)
                                                      · rw [if_pos c42] at H
                                                        have c42b0 : decide (0 ≤ (ji41)) = true := decide_eq_true c42
                                                        clear c42
                                                        by_cases c43 : (ji41) < ((rd_L5 x5_2 x16_1).length : Int)
                                                        · rw [if_pos c43] at H
                                                          have c43b0 : decide ((ji41) < ((rd_L5 x5_2 x16_1).length : Int)) = true := decide_eq_true c43
                                                          have c43b0x := c43b0
                                                          (try simp only [hl5_1] at c43b0x)
                                                          (try simp only [hl5_2] at c43b0x)
                                                          clear c43
                                                          obtain ⟨ji44, hji44⟩ : ∃ j_ : Int, (mn x8_6 (wrap64 ((rd (rd_L5 x5_2 x16_1) x10_6) + (rd (rd_L5 x5_2 x16_1) (ji41))))) = j_ := ⟨_, rfl⟩
                                                          replace H : (impl_byLines.l3 k6 a1 x5_2 x16_1 x7_2 ji44 (wrap64 (x10_6 + 1)) (y101.length : Int) x16_1) = some r := by first | (rw [hji44] at H; exact H) | (simp only [hji44] at H ⊢; exact H)
                                                          have hji44_ : (if (wrap64 ((rd (rd_L5 x5_2 x16_1) x10_6) + (rd (rd_L5 x5_2 x16_1) (ji41)))) < x8_6 then (wrap64 ((rd (rd_L5 x5_2 x16_1) x10_6) + (rd (rd_L5 x5_2 x16_1) (ji41)))) else x8_6) = ji44 := hji44
                                                          have H' := Aside0.mk H
                                                          clear H
                                                          have p112 : 0 ≤ (x16_1 : Int) := of_decide_eq_true (by first | (with_reducible assumption) | assumption)
                                                          have q112 : x16_1 < (x5_2.length : Int) := of_decide_eq_true (by first | (with_reducible assumption) | assumption)
                                                          obtain ⟨ad112, A112_0, c112_0, e112, hx112_0, hl112_0, hi112_0⟩ := at_L5 (Kd.S_reads' HO_5.out).2.2 x16_1 p112 q112
                                                          obtain rfl : (⟨go15, 0, none⟩ : Addr) = ad112 := (by injection e112)
                                                          obtain ⟨ce112, hce112, hMe112, hcc112⟩ := Kd.S_get HO_5.out [] x16_1 p112 (by first | exact q112 | exact of_decide_eq_true (by first | (with_reducible assumption) | assumption) | (have e_ := (Kd.S_reads' HO_5.out).1; omega))
                                                          obtain ⟨ve112_0, rfl, ge112_0⟩ := hMe112
                                                          have hv112_0 := hcc112 0 _ rfl
                                                          rw [Nat.add_zero, show ((Kd.slice 3 (Kd.int .i64))).sz = 1 from rfl, Nat.mul_one] at hv112_0
                                                          replace hv112_0 := Option.some.inj (hv112_0.symm.trans hx112_0)
                                                          rw [hv112_0] at ge112_0
                                                          have HL112_0 := Aside0.mk (show Kd.R (Kd.int .i64) 3 _ _ _ _ (rd_L5 x5_2 x16_1) from ge112_0)
                                                          clear hv112_0 ge112_0
                                                          have HX112_0 := Aside0.mk hx112_0
                                                          clear hcc112 hce112
                                                          (first | simp only [add_plain] at hx112_0 | simp only [add_at] at hx112_0 | simp only [Addr.add, Nat.zero_add] at hx112_0 | skip)
                                                          have HR112_0 := Aside0.mk hi112_0
                                                          have HC112_0 := Aside0.mk hl112_0
                                                          clear hi112_0 hl112_0
                                                          replace p112 := eq_true p112
                                                          replace q112 := eq_true q112
                                                          have p113 : 0 ≤ (x10_6 : Int) := of_decide_eq_true (by first | (with_reducible assumption) | assumption)
                                                          have q113 : x10_6 < ((rd_L5 x5_2 x16_1).length : Int) := of_decide_eq_true (by first | (with_reducible assumption) | assumption)
                                                          obtain ⟨ad113, e113, hx113_0⟩ := Kd.at_int (by repeat (first | (with_reducible exact HR112_0.out) | (with_reducible refine Kd.C_alloc ?_ _) | (with_reducible refine Kd.C_drewN ?_ _) | (with_reducible refine Kd.C_drew ?_) | exact HR112_0.out)) x10_6 p113 q113
                                                          cases e113
                                                          replace p113 := eq_true p113
                                                          replace q113 := eq_true q113
                                                          have p114 : 0 ≤ (x16_1 : Int) := of_decide_eq_true (by first | (with_reducible assumption) | assumption)
                                                          have q114 : x16_1 < (x5_2.length : Int) := of_decide_eq_true (by first | (with_reducible assumption) | assumption)
                                                          obtain ⟨ad114, A114_0, c114_0, e114, hx114_0, hl114_0, hi114_0⟩ := at_L5 (Kd.S_reads' HO_5.out).2.2 x16_1 p114 q114
                                                          obtain rfl : (⟨go15, 0, none⟩ : Addr) = ad114 := (by injection e114)
                                                          obtain ⟨ce114, hce114, hMe114, hcc114⟩ := Kd.S_get HO_5.out [] x16_1 p114 (by first | exact q114 | exact of_decide_eq_true (by first | (with_reducible assumption) | assumption) | (have e_ := (Kd.S_reads' HO_5.out).1; omega))
                                                          obtain ⟨ve114_0, rfl, ge114_0⟩ := hMe114
                                                          have hv114_0 := hcc114 0 _ rfl
                                                          rw [Nat.add_zero, show ((Kd.slice 3 (Kd.int .i64))).sz = 1 from rfl, Nat.mul_one] at hv114_0
                                                          replace hv114_0 := Option.some.inj (hv114_0.symm.trans hx114_0)
                                                          rw [hv114_0] at ge114_0
                                                          have HL114_0 := Aside0.mk (show Kd.R (Kd.int .i64) 3 _ _ _ _ (rd_L5 x5_2 x16_1) from ge114_0)
                                                          clear hv114_0 ge114_0
                                                          have HX114_0 := Aside0.mk hx114_0
                                                          clear hcc114 hce114
                                                          (first | simp only [add_plain] at hx114_0 | simp only [add_at] at hx114_0 | simp only [Addr.add, Nat.zero_add] at hx114_0 | skip)
                                                          have HR114_0 := Aside0.mk hi114_0
                                                          have HC114_0 := Aside0.mk hl114_0
                                                          clear hi114_0 hl114_0
                                                          replace p114 := eq_true p114
                                                          replace q114 := eq_true q114
                                                          have ea_ := Option.some.inj (hx112_0.symm.trans hx114_0)
                                                          injection ea_ with ea_ en_ ec_
                                                          subst ea_
                                                          subst ec_
                                                          clear en_
                                                          have p115 : 0 ≤ ((ji41) : Int) := of_decide_eq_true (by first | (with_reducible assumption) | assumption)
                                                          have q115 : (ji41) < ((rd_L5 x5_2 x16_1).length : Int) := of_decide_eq_true (by first | (with_reducible assumption) | assumption)
                                                          obtain ⟨ad115, e115, hx115_0⟩ := Kd.at_int (by repeat (first | (with_reducible exact HR114_0.out) | (with_reducible refine Kd.C_alloc ?_ _) | (with_reducible refine Kd.C_drewN ?_ _) | (with_reducible refine Kd.C_drew ?_) | exact HR114_0.out)) (ji41) p115 q115
                                                          cases e115
                                                          replace p115 := eq_true p115
                                                          replace q115 := eq_true q115
                                                          go_wp2
                                                          repeat (go_quiet (fail); try go_wp2)
                                                          go_roundg k6
                                                          case measure => have := HK1.out; have := HK2.out; have := HJ20.out; have := HJ23.out; have := HK5.out; have := HK6.out; omega
                                                          case rel => exact ⟨(ji44), (wrap64 (x10_6 + 1)), (by first | rfl | (simp; done) | (simp only [← hji44] <;> (first | rfl | simp)) | (simp [*]; done)), (by first | rfl | (simp; done) | (simp [*]; done)), H', ⟨by have := HK1.out; have := HK2.out; have := HJ20.out; have := HJ23.out; have := HK5.out; have := HK6.out; omega⟩, ⟨by (try simp only [hl5_1]); (try simp only [hl5_2]); (with_reducible repeat (first | apply Kd.S_alloc | apply Kd.S_drewN | apply Kd.S_drew)); exact HO_5.out⟩, ⟨by repeat (first | (with_reducible first | exact HB.out | apply below_alloc | apply pw_below_drewN | apply below_drew1) | exact HB.out)⟩⟩
                                                        · rw [if_neg c43] at H
                                                          exact absurd H (by simp)
                                                      · rw [if_neg c42] at H
                                                        exact absurd H (by simp)
                                                    · rw [if_neg c40] at H
                                                      exact absurd H (by simp)
                                                  · rw [if_neg c39] at H
                                                    exact absurd H (by simp)
                                                · rw [if_neg c38] at H
                                                  exact absurd H (by simp)
                                              · rw [if_neg c37] at H
                                                exact absurd H (by simp)
                                            · rw [if_neg c36] at H
                                              have c36b0 : decide (x10_6 ≤ (wrap64 (Int.tdiv x7_2 2))) = false := decide_eq_false c36
                                              clear c36
                                              by_cases c45 : 0 ≤ x16_1
                                              · rw [if_pos c45] at H
                                                have c45b0 : decide (0 ≤ x16_1) = true := decide_eq_true c45
                                                clear c45
                                                by_cases c46 : x16_1 < (x5_2.length : Int)
                                                · rw [if_pos c46] at H
                                                  have c46b0 : decide (x16_1 < (x5_2.length : Int)) = true := decide_eq_true c46
                                                  have c46b0x := c46b0
                                                  (try simp only [hl5_1] at c46b0x)
                                                  (try simp only [hl5_2] at c46b0x)
                                                  clear c46
                                                  by_cases c47 : 0 ≤ x7_2
                                                  · rw [if_pos c47] at H
                                                    have c47b0 : decide (0 ≤ x7_2) = true := decide_eq_true c47
                                                    clear c47
                                                    by_cases c48 : x7_2 < ((rd_L5 x5_2 x16_1).length : Int)
                                                    · rw [if_pos c48] at H
                                                      have c48b0 : decide (x7_2 < ((rd_L5 x5_2 x16_1).length : Int)) = true := decide_eq_true c48
                                                      have c48b0x := c48b0
                                                      (try simp only [hl5_1] at c48b0x)
                                                      (try simp only [hl5_2] at c48b0x)
                                                      clear c48
                                                      obtain ⟨y117, hy117⟩ : ∃ y_ : List Int, y_ = ((rd_L5 x5_2 x16_1).set (x7_2 : Int).toNat x8_6) := ⟨_, rfl⟩
                                                      replace H : (impl_byLines.l1 k6 a1 (x5_2.set (x16_1 : Int).toNat y117) x16_1 (wrap64 (x7_2 + 1)) (y101.length : Int) x16_1) = some r := by first | (rw [hy117]; with_reducible exact H) | (have H2_ := (Option.bind_some _ _).symm.trans H; rw [hy117]; with_reducible exact H2_) | (have H2_ := (Option.bind_some _ _).symm.trans H; with_reducible exact H2_) | with_reducible exact H | (rw [hy117]; exact H) | exact H
                                                      have Ny117 := Aside0.mk hy117
                                                      clear hy117
                                                      obtain ⟨y119, hy119⟩ : ∃ y_ : List (List Int), y_ = (x5_2.set (x16_1 : Int).toNat y117) := ⟨_, rfl⟩
                                                      replace H : (impl_byLines.l1 k6 a1 y119 x16_1 (wrap64 (x7_2 + 1)) (y101.length : Int) x16_1) = some r := by first | (rw [hy119]; with_reducible exact H) | (have H2_ := (Option.bind_some _ _).symm.trans H; rw [hy119]; with_reducible exact H2_) | (have H2_ := (Option.bind_some _ _).symm.trans H; with_reducible exact H2_) | with_reducible exact H | (rw [hy119]; exact H) | exact H
                                                      have Ny119 := Aside0.mk hy119
                                                      clear hy119
                                                      have H' := Aside0.mk H
                                                      clear H
                                                      have p116 : 0 ≤ (x16_1 : Int) := of_decide_eq_true (by first | (with_reducible assumption) | assumption)
                                                      have q116 : x16_1 < (x5_2.length : Int) := of_decide_eq_true (by first | (with_reducible assumption) | assumption)
                                                      obtain ⟨ad116, A116_0, c116_0, e116, hx116_0, hl116_0, hi116_0⟩ := at_L5 (Kd.S_reads' HO_5.out).2.2 x16_1 p116 q116
                                                      obtain rfl : (⟨go15, 0, none⟩ : Addr) = ad116 := (by injection e116)
                                                      obtain ⟨ce116, hce116, hMe116, hcc116⟩ := Kd.S_get HO_5.out [] x16_1 p116 (by first | exact q116 | exact of_decide_eq_true (by first | (with_reducible assumption) | assumption) | (have e_ := (Kd.S_reads' HO_5.out).1; omega))
                                                      obtain ⟨ve116_0, rfl, ge116_0⟩ := hMe116
                                                      have hv116_0 := hcc116 0 _ rfl
                                                      rw [Nat.add_zero, show ((Kd.slice 3 (Kd.int .i64))).sz = 1 from rfl, Nat.mul_one] at hv116_0
                                                      replace hv116_0 := Option.some.inj (hv116_0.symm.trans hx116_0)
                                                      rw [hv116_0] at ge116_0
                                                      have HL116_0 := Aside0.mk (show Kd.R (Kd.int .i64) 3 _ _ _ _ (rd_L5 x5_2 x16_1) from ge116_0)
                                                      clear hv116_0 ge116_0
                                                      have HX116_0 := Aside0.mk hx116_0
                                                      clear hcc116 hce116
                                                      (first | simp only [add_plain] at hx116_0 | simp only [add_at] at hx116_0 | simp only [Addr.add, Nat.zero_add] at hx116_0 | skip)
                                                      have HR116_0 := Aside0.mk hi116_0
                                                      have HC116_0 := Aside0.mk hl116_0
                                                      clear hi116_0 hl116_0
                                                      replace p116 := eq_true p116
                                                      replace q116 := eq_true q116
                                                      have p49 : 0 ≤ (x7_2 : Int) := of_decide_eq_true (by first | (with_reducible assumption) | assumption)
                                                      have q49 : (x7_2 : Int) < (((rd_L5 x5_2 x16_1).length : Int) : Int) := of_decide_eq_true (by first | (with_reducible assumption) | assumption)
                                                      obtain ⟨go49, co49, eo49, gb49, gl49, cl49, HG49⟩ := Kd.R_form HL116_0.out (by omega)
                                                      (first | cases eo49 | (injection eo49 with ea_ en_ ec_; (first | subst ea_ | (injection ea_ with ea_; subst ea_)); subst ec_; clear en_))
                                                      have GB49 := Aside0.mk gb49
                                                      have GG49 := Aside0.mk HG49
                                                      clear gb49 gl49 HG49
                                                      obtain ⟨hx49_0, hf49_0⟩ := Kd.R_celln 0 HL116_0.out (x7_2 : Int) p49 q49
                                                      replace p49 := eq_true p49
                                                      replace q49 := eq_true q49
                                                      have hq50 : (x16_1 : Int) < (x5_2.length : Int) := (by have h_ : (x16_1 : Int) < ((x5_2.length : Int) : Int) := of_decide_eq_true (by first | (with_reducible assumption) | assumption); first | exact h_ | (have e_ := (Kd.S_reads' HO_5.out).1; omega) | simpa only [List.length_set, List.length_set] using h_)
                                                      obtain ⟨oki50, ce50, hcl50, hM50, hcc50, hok50, hbk50⟩ := Kd.S_borrow HO_5.out [] (x16_1 : Int) (of_decide_eq_true (by first | (with_reducible assumption) | assumption)) hq50
                                                      obtain ⟨ve50_0, rfl, ge50_0⟩ := hM50
                                                      have hv50 := hcc50 0 _ rfl
                                                      rw [Nat.add_zero, show ((Kd.slice 3 (Kd.int .i64))).sz = 1 from rfl, Nat.mul_one] at hv50
                                                      replace hv50 := Option.some.inj (hv50.symm.trans HX116_0.out)
                                                      subst hv50
                                                      clear hcc50 hcl50
                                                      replace ge50_0 := (show Kd.R (Kd.int .i64) 3 _ _ _ _ (rd_L5 x5_2 x16_1) from ge50_0)
                                                      have HP50 := Kd.R_putg ge50_0 (x7_2 : Int) x8_6
                                                      go_wp2_with (first | ((with_reducible refine gate_store (t := 3) (p := 96) rfl ?_); (try (rw [drewN_self wr]; generalize hq_ : World.drewN wr _ = wr; have n0_ := Aside0.mk (Kd.S_at hq_ HO_5.out); have n1_ := Aside0.mk (Kd.R_at hq_ HL120.out); have n2_ := Aside0.mk (below_at hq_ HB.out); clear hq_ HO_5 HL120 HB; have HO_5 := n0_; have HL120 := n1_; have HB := n2_; clear n0_ n1_ n2_; (try (have hq50 : (x16_1 : Int) < (x5_2.length : Int) := (by have h_ : (x16_1 : Int) < ((x5_2.length : Int) : Int) := of_decide_eq_true (by first | (with_reducible assumption) | assumption); first | exact h_ | (have e_ := (Kd.S_reads' HO_5.out).1; omega) | simpa only [List.length_set, List.length_set] using h_))); (try (obtain ⟨oki50, ce50, hcl50, hM50, hcc50, hok50, hbk50⟩ := Kd.S_borrow HO_5.out [] (x16_1 : Int) (of_decide_eq_true (by first | (with_reducible assumption) | assumption)) hq50)); (try (obtain ⟨ve50_0, rfl, ge50_0⟩ := hM50)); (try (have hv50 := hcc50 0 _ rfl)); (try (rw [Nat.add_zero, show ((Kd.slice 3 (Kd.int .i64))).sz = 1 from rfl, Nat.mul_one] at hv50)); (try (replace hv50 := Option.some.inj (hv50.symm.trans HX116_0.out))); (try (subst hv50)); (try (clear hcc50 hcl50)); (try (replace ge50_0 := (show Kd.R (Kd.int .i64) 3 _ _ _ _ (rd_L5 x5_2 x16_1) from ge50_0))); (try (have HP50 := Kd.R_putg ge50_0 (x7_2 : Int) x8_6)))); refine store_event (t := 3) (p := 96) (v := ?vo_w51) (w1 := (wr.setCell ⟨go49, (x7_2 : Int).toNat, none⟩ (.int .i64 x8_6))) ?hg ?ho ?hn ?hr ?_; (case ho => rfl); (case hg => rfl); (case hn => rfl); (case hr => first | (go_simp; done) | (go_simp; rfl)); intro w51 hw; have hg : wr.grownBy w51 (some go49) := (by rw [hw]; exact HP50.2); have hz_ : Kd.R (Kd.int .i64) 3 w51 w.heap.size oki50 (.slice (some ⟨go49, 0, none⟩) (rd_L5 x5_2 x16_1).length c116_0) y117 := (by rw [hw, Ny117.out]; exact HP50.1); have hp_ : Kd.S (Kd.slice 3 (Kd.int .i64)) 25 w51 w.heap.size (fun _ => True) (.slice (some ⟨go15, 0, none⟩) x5_2.length co8) y119 := (by rw [Ny119.out]; exact hbk50 hg (fun k_ e_ => by injection e_ with e_; subst e_; exact ge50_0.1 _ rfl) (Kd.M_row hz_)); have hm_ := Kd.R_mono hz_ hok50; clear HP50 hbk50; have n0_ := Aside0.mk (hp_); have n1_ := Aside0.mk ((by rw [hw]; exact below_set (HB.out) GB49.out : Below w.heap.size w w51)); have n2_ := Aside0.mk (hm_); have n3_ := Aside0.mk ((Kd.R_reads' hm_).2.1); clear HO_5; clear HB; clear HL116_0; have HO_5 := n0_; have HB := n1_; have HL120 := n2_; have HC118 := n3_; clear n0_ n1_ n2_ n3_; clear hg hw hp_ hz_ hm_ hok50))
                                                      repeat (go_quiet (first | ((with_reducible refine gate_store (t := 3) (p := 96) rfl ?_); (try (rw [drewN_self wr]; generalize hq_ : World.drewN wr _ = wr; have n0_ := Aside0.mk (Kd.S_at hq_ HO_5.out); have n1_ := Aside0.mk (Kd.R_at hq_ HL120.out); have n2_ := Aside0.mk (below_at hq_ HB.out); clear hq_ HO_5 HL120 HB; have HO_5 := n0_; have HL120 := n1_; have HB := n2_; clear n0_ n1_ n2_; (try (have hq50 : (x16_1 : Int) < (x5_2.length : Int) := (by have h_ : (x16_1 : Int) < ((x5_2.length : Int) : Int) := of_decide_eq_true (by first | (with_reducible assumption) | assumption); first | exact h_ | (have e_ := (Kd.S_reads' HO_5.out).1; omega) | simpa only [List.length_set, List.length_set] using h_))); (try (obtain ⟨oki50, ce50, hcl50, hM50, hcc50, hok50, hbk50⟩ := Kd.S_borrow HO_5.out [] (x16_1 : Int) (of_decide_eq_true (by first | (with_reducible assumption) | assumption)) hq50)); (try (obtain ⟨ve50_0, rfl, ge50_0⟩ := hM50)); (try (have hv50 := hcc50 0 _ rfl)); (try (rw [Nat.add_zero, show ((Kd.slice 3 (Kd.int .i64))).sz = 1 from rfl, Nat.mul_one] at hv50)); (try (replace hv50 := Option.some.inj (hv50.symm.trans HX116_0.out))); (try (subst hv50)); (try (clear hcc50 hcl50)); (try (replace ge50_0 := (show Kd.R (Kd.int .i64) 3 _ _ _ _ (rd_L5 x5_2 x16_1) from ge50_0))); (try (have HP50 := Kd.R_putg ge50_0 (x7_2 : Int) x8_6)))); refine store_event (t := 3) (p := 96) (v := ?vo_w51) (w1 := (wr.setCell ⟨go49, (x7_2 : Int).toNat, none⟩ (.int .i64 x8_6))) ?hg ?ho ?hn ?hr ?_; (case ho => rfl); (case hg => rfl); (case hn => rfl); (case hr => first | (go_simp; done) | (go_simp; rfl)); intro w51 hw; have hg : wr.grownBy w51 (some go49) := (by rw [hw]; exact HP50.2); have hz_ : Kd.R (Kd.int .i64) 3 w51 w.heap.size oki50 (.slice (some ⟨go49, 0, none⟩) (rd_L5 x5_2 x16_1).length c116_0) y117 := (by rw [hw, Ny117.out]; exact HP50.1); have hp_ : Kd.S (Kd.slice 3 (Kd.int .i64)) 25 w51 w.heap.size (fun _ => True) (.slice (some ⟨go15, 0, none⟩) x5_2.length co8) y119 := (by rw [Ny119.out]; exact hbk50 hg (fun k_ e_ => by injection e_ with e_; subst e_; exact ge50_0.1 _ rfl) (Kd.M_row hz_)); have hm_ := Kd.R_mono hz_ hok50; clear HP50 hbk50; have n0_ := Aside0.mk (hp_); have n1_ := Aside0.mk ((by rw [hw]; exact below_set (HB.out) GB49.out : Below w.heap.size w w51)); have n2_ := Aside0.mk (hm_); have n3_ := Aside0.mk ((Kd.R_reads' hm_).2.1); clear HO_5; clear HB; clear HL116_0; have HO_5 := n0_; have HB := n1_; have HL120 := n2_; have HC118 := n3_; clear n0_ n1_ n2_ n3_; clear hg hw hp_ hz_ hm_ hok50)); try go_wp2_with (first | ((with_reducible refine gate_store (t := 3) (p := 96) rfl ?_); (try (rw [drewN_self wr]; generalize hq_ : World.drewN wr _ = wr; have n0_ := Aside0.mk (Kd.S_at hq_ HO_5.out); have n1_ := Aside0.mk (Kd.R_at hq_ HL120.out); have n2_ := Aside0.mk (below_at hq_ HB.out); clear hq_ HO_5 HL120 HB; have HO_5 := n0_; have HL120 := n1_; have HB := n2_; clear n0_ n1_ n2_; (try (have hq50 : (x16_1 : Int) < (x5_2.length : Int) := (by have h_ : (x16_1 : Int) < ((x5_2.length : Int) : Int) := of_decide_eq_true (by first | (with_reducible assumption) | assumption); first | exact h_ | (have e_ := (Kd.S_reads' HO_5.out).1; omega) | simpa only [List.length_set, List.length_set] using h_))); (try (obtain ⟨oki50, ce50, hcl50, hM50, hcc50, hok50, hbk50⟩ := Kd.S_borrow HO_5.out [] (x16_1 : Int) (of_decide_eq_true (by first | (with_reducible assumption) | assumption)) hq50)); (try (obtain ⟨ve50_0, rfl, ge50_0⟩ := hM50)); (try (have hv50 := hcc50 0 _ rfl)); (try (rw [Nat.add_zero, show ((Kd.slice 3 (Kd.int .i64))).sz = 1 from rfl, Nat.mul_one] at hv50)); (try (replace hv50 := Option.some.inj (hv50.symm.trans HX116_0.out))); (try (subst hv50)); (try (clear hcc50 hcl50)); (try (replace ge50_0 := (show Kd.R (Kd.int .i64) 3 _ _ _ _ (rd_L5 x5_2 x16_1) from ge50_0))); (try (have HP50 := Kd.R_putg ge50_0 (x7_2 : Int) x8_6)))); refine store_event (t := 3) (p := 96) (v := ?vo_w51) (w1 := (wr.setCell ⟨go49, (x7_2 : Int).toNat, none⟩ (.int .i64 x8_6))) ?hg ?ho ?hn ?hr ?_; (case ho => rfl); (case hg => rfl); (case hn => rfl); (case hr => first | (go_simp; done) | (go_simp; rfl)); intro w51 hw; have hg : wr.grownBy w51 (some go49) := (by rw [hw]; exact HP50.2); have hz_ : Kd.R (Kd.int .i64) 3 w51 w.heap.size oki50 (.slice (some ⟨go49, 0, none⟩) (rd_L5 x5_2 x16_1).length c116_0) y117 := (by rw [hw, Ny117.out]; exact HP50.1); have hp_ : Kd.S (Kd.slice 3 (Kd.int .i64)) 25 w51 w.heap.size (fun _ => True) (.slice (some ⟨go15, 0, none⟩) x5_2.length co8) y119 := (by rw [Ny119.out]; exact hbk50 hg (fun k_ e_ => by injection e_ with e_; subst e_; exact ge50_0.1 _ rfl) (Kd.M_row hz_)); have hm_ := Kd.R_mono hz_ hok50; clear HP50 hbk50; have n0_ := Aside0.mk (hp_); have n1_ := Aside0.mk ((by rw [hw]; exact below_set (HB.out) GB49.out : Below w.heap.size w w51)); have n2_ := Aside0.mk (hm_); have n3_ := Aside0.mk ((Kd.R_reads' hm_).2.1); clear HO_5; clear HB; clear HL116_0; have HO_5 := n0_; have HB := n1_; have HL120 := n2_; have HC118 := n3_; clear n0_ n1_ n2_ n3_; clear hg hw hp_ hz_ hm_ hok50)))
                                                      (try simp only [← hl5_2])
                                                      go_roundg k6
                                                      case measure => have := HK1.out; have := HK2.out; have := HJ20.out; have := HJ23.out; have := HK5.out; have := HK6.out; omega
                                                      case rel => exact ⟨(y119), (wrap64 (x7_2 + 1)), (by first | rfl | (simp; done) | (simp [*]; done)), H', ⟨by have := HK1.out; have := HK2.out; have := HJ20.out; have := HJ23.out; have := HK5.out; have := HK6.out; omega⟩, ⟨by (try simp only [hl5_1]); (try simp only [hl5_2]); (with_reducible repeat (first | apply Kd.S_alloc | apply Kd.S_drewN | apply Kd.S_drew)); exact HO_5.out⟩, ⟨by repeat (first | (with_reducible first | exact HB.out | apply below_alloc | apply pw_below_drewN | apply below_drew1) | exact HB.out)⟩⟩
                                                    · rw [if_neg c48] at H
                                                      exact absurd H (by simp)
                                                  · rw [if_neg c47] at H
                                                    exact absurd H (by simp)
                                                · rw [if_neg c46] at H
                                                  exact absurd H (by simp)
                                              · rw [if_neg c45] at H
                                                exact absurd H (by simp)
                            · replace c23 := Bool.eq_false_iff.mpr c23
                              subst c23
                              have H1 : (impl_byLines.l0 kj20 a1 x5_2 (y101.length : Int) (wrap64 (x16_1 + 1))) = some r := by rw [if_neg (show ¬ (false = true) by decide)] at H; exact H
                              clear H
                              have H := H1
                              clear H1
                              have H' := Aside0.mk H
                              clear H
                              go_wp2
                              repeat (go_quiet (fail); try go_wp2)
                              (try simp only [← hl5_1, ← hl5_2])
                              go_roundg kj20
                              case measure => have := HK1.out; have := HK2.out; have := HJ20.out; omega
                              case rel => exact ⟨(x5_2), (wrap64 (x16_1 + 1)), (by first | rfl | (simp; done) | (simp [*]; done)), H', ⟨by have := HK1.out; have := HK2.out; have := HJ20.out; omega⟩, ⟨by (try simp only [hl5_1]); (try simp only [hl5_2]); (with_reducible repeat (first | apply Kd.S_alloc | apply Kd.S_drewN | apply Kd.S_drew)); exact HO_5.out⟩, ⟨by repeat (first | (with_reducible first | exact HB.out | apply below_alloc | apply pw_below_drewN | apply below_drew1) | exact HB.out)⟩⟩
                  · rw [if_neg c14] at H
                    exact absurd H (by simp)
                · rw [if_neg c13] at H
                  exact absurd H (by simp)
              · rw [if_neg c12] at H
                exact absurd H (by simp)
            · rw [if_neg c11] at H
              exact absurd H (by simp)
          · rw [if_neg c9] at H
            have c9b0 : decide (x16_1 < (y101.length : Int)) = false := decide_eq_false c9
            have c9b0x := c9b0
            (try simp only [hl5_1] at c9b0x)
            (try simp only [hl5_2] at c9b0x)
            clear c9
            obtain rfl := Option.some.inj H
            go_wp2
            repeat (go_quiet (fail); try go_wp2)
            go_ret
            exact ⟨_, by first | rfl | (simp [errW_none, errW_some] <;> rfl) | (simp only [← hji3]; first | rfl | (simp [errW_none, errW_some] <;> rfl)) | (simp [*, errW_none, errW_some] <;> rfl), by (with_reducible repeat (first | apply Kd.S_alloc | apply Kd.S_drewN | apply Kd.S_drew)); exact HO_5.out, by repeat (first | (with_reducible first | exact HB.out | apply below_alloc | apply pw_below_drewN | apply below_drew1) | exact HB.out)⟩
    · rw [if_neg c5] at H
      exact absurd H (by simp)
  · rw [if_neg c4] at H
    exact absurd H (by simp)

end Go.Proofs.Ytfmhcgjmgaefcab.P

namespace Go.Proofs.Ytfmhcgjmgaefcab.P
open Go.RowKit Go.Proofs.YtfmhcgjmgaefcabW.PrintWords Go.Proofs.YtfmhcgjmgaefcabW.PrintLast Go.Proofs.YtfmhcgjmgaefcabW.PrintMore
attribute [local go_sem] max2_int min2_int max_two min_two max_three min_three max_four min_four
set_option linter.unusedVariables false
set_option linter.unusedSimpArgs false

/-! ### impl_FewestByLines: function 45 -/
def impl_FewestByLines.f (k : Nat) (a0 : Int) (a1 : Int) : Option (Int × Bool) := (impl_isLined.f a0 a1).bind fun t101 => (if t101 = true then ((impl_byLines.f k a0 a1).bind fun t102 => (if 0 ≤ a0 then (if a0 < (t102.length : Int) then (if 0 ≤ a1 then (if a1 < ((rd_L5 t102 a0).length : Int) then (some (rd (rd_L5 t102 a0) a1, true)) else (none)) else (none)) else (none)) else (none))) else (some (0, false)))
theorem impl_FewestByLines.mono : ∀ a0 a1 k, LeO (impl_FewestByLines.f k a0 a1) (impl_FewestByLines.f (k + 1) a0 a1) := by
  intro a0 a1 k
  unfold impl_FewestByLines.f
  repeat' first
      | (with_reducible exact impl_byLines.mono _ _ _)
      | (with_reducible exact LeO.refl _)
      | (with_reducible exact LeO.none _)
      | (with_reducible refine LeO.ite ?_ ?_)
      | (with_reducible refine LeO.bind ?_ (fun _ => ?_))
      | exact impl_byLines.mono _ _ _
      | exact LeO.none _
      | refine LeO.ite ?_ ?_
      | refine LeO.bind ?_ (fun _ => ?_)
set_option maxHeartbeats 8000000 in
set_option maxRecDepth 100000 in
theorem impl_FewestByLines.calls (k : Nat) (a0 : Int) (a1 : Int) (r1 : Int) (r2 : Bool) (w : World) (h : impl_FewestByLines.f k a0 a1 = some (r1, r2)) :
    Calls Try.prog 45 #[.int .i64 a0, .int .i64 a1] w fun e w' => e = .returned (.tuple #[.int .i64 r1, .bool r2]) ∧ Below w.heap.size w w' := by
  have HB := Aside0.mk (Below.refl w.heap.size w)
  have H : ((impl_isLined.f a0 a1).bind fun t101 => (if t101 = true then ((impl_byLines.f k a0 a1).bind fun t102 => (if 0 ≤ a0 then (if a0 < (t102.length : Int) then (if 0 ≤ a1 then (if a1 < ((rd_L5 t102 a0).length : Int) then (some (rd (rd_L5 t102 a0) a1, true)) else (none)) else (none)) else (none)) else (none))) else (some (0, false)))) = some (r1, r2) := h
  clear h
  replace H := Option.bind_eq_some_iff.mp H
  obtain ⟨t101, A30, H⟩ := H
  replace H : (if t101 = true then ((impl_byLines.f k a0 a1).bind fun t102 => (if 0 ≤ a0 then (if a0 < (t102.length : Int) then (if 0 ≤ a1 then (if a1 < ((rd_L5 t102 a0).length : Int) then (some (rd (rd_L5 t102 a0) a1, true)) else (none)) else (none)) else (none)) else (none))) else (some (0, false))) = some (r1, r2) := H
  have A3 := Aside0.mk A30
  clear A30
  by_cases c4 : t101 = true
  · subst c4
    have H1 : ((impl_byLines.f k a0 a1).bind fun t102 => (if 0 ≤ a0 then (if a0 < (t102.length : Int) then (if 0 ≤ a1 then (if a1 < ((rd_L5 t102 a0).length : Int) then (some (rd (rd_L5 t102 a0) a1, true)) else (none)) else (none)) else (none)) else (none))) = some (r1, r2) := by rw [if_pos rfl] at H; exact H
    clear H
    have H := H1
    clear H1
    replace H := Option.bind_eq_some_iff.mp H
    obtain ⟨t102, A50, H⟩ := H
    replace H : (if 0 ≤ a0 then (if a0 < (t102.length : Int) then (if 0 ≤ a1 then (if a1 < ((rd_L5 t102 a0).length : Int) then (some (rd (rd_L5 t102 a0) a1, true)) else (none)) else (none)) else (none)) else (none)) = some (r1, r2) := H
    have A5 := Aside0.mk A50
    clear A50
    by_cases c6 : 0 ≤ a0
    · rw [if_pos c6] at H
      have c6b0 : decide (0 ≤ a0) = true := decide_eq_true c6
      clear c6
      by_cases c7 : a0 < (t102.length : Int)
      · rw [if_pos c7] at H
        have c7b0 : decide (a0 < (t102.length : Int)) = true := decide_eq_true c7
        clear c7
        by_cases c8 : 0 ≤ a1
        · rw [if_pos c8] at H
          have c8b0 : decide (0 ≤ a1) = true := decide_eq_true c8
          clear c8
          by_cases c9 : a1 < ((rd_L5 t102 a0).length : Int)
          · rw [if_pos c9] at H
            have c9b0 : decide (a1 < ((rd_L5 t102 a0).length : Int)) = true := decide_eq_true c9
            clear c9
            simp only [Option.some.injEq, Prod.mk.injEq] at H
            obtain ⟨rfl, rfl⟩ := H
            go_enter Try.func45, Try.ntmps45
            go_wp2_with (first | ((with_reducible refine gate_callee (f := 69) rfl ?_); refine goesL_ (some 8) rfl rfl Try.func69 (by kernel_rfl) rfl #[.int .i64 a0, .int .i64 a1] rfl (by (try simp only [List.map_toArray, List.map_cons, List.map_nil]); first | done | rfl | (simp only [List.length_drop, List.length_take]; rfl)) ?_; (with_reducible refine (impl_isLined.calls a0 a1 true _ A3.out).mono ?_); rintro e w' ⟨rfl, ⟨nd, rfl⟩⟩; refine ⟨_, rfl, ?_⟩) | ((with_reducible refine gate_callee (f := 70) rfl ?_); refine goesL_ (some 12) rfl rfl Try.func70 (by kernel_rfl) rfl #[.int .i64 a0, .int .i64 a1] rfl (by (try simp only [List.map_toArray, List.map_cons, List.map_nil]); first | done | rfl | (simp only [List.length_drop, List.length_take]; rfl)) ?_; (with_reducible refine (impl_byLines.calls k a0 a1 t102 _ A5.out).mono ?_); rintro e w10 ⟨v103, rfl, ho0, hb⟩; refine ⟨_, rfl, ?_⟩; have n0_ := Aside0.mk (Kd.S_lower ho0 (below_size (by repeat (first | (with_reducible first | exact HB.out | apply below_alloc | apply pw_below_drewN | apply below_drew1) | exact HB.out)))); have n1_ := Aside0.mk (below_step (by repeat (first | (with_reducible first | exact HB.out | apply below_alloc | apply pw_below_drewN | apply below_drew1) | exact HB.out)) hb); clear HB; have HO104 := n0_; have HB := n1_; clear n0_ n1_; (try clear hb); (try clear hb2); (try clear hk); (try clear hi); (try clear ho0); obtain ⟨Ao11, co11, eo11⟩ := Kd.S_slice HO104.out; subst eo11; have p105 : 0 ≤ (a0 : Int) := of_decide_eq_true (by first | (with_reducible assumption) | assumption); have q105 : a0 < (t102.length : Int) := of_decide_eq_true (by first | (with_reducible assumption) | assumption); obtain ⟨ad105, A105_0, c105_0, e105, hx105_0, hl105_0, hi105_0⟩ := at_L5 (Kd.S_reads' HO104.out).2.2 a0 p105 q105; cases e105; obtain ⟨ce105, hce105, hMe105, hcc105⟩ := Kd.S_get HO104.out [] a0 p105 (by first | exact q105 | exact of_decide_eq_true (by first | (with_reducible assumption) | assumption) | (have e_ := (Kd.S_reads' HO104.out).1; omega)); obtain ⟨ve105_0, rfl, ge105_0⟩ := hMe105; have hv105_0 := hcc105 0 _ rfl; rw [Nat.add_zero, show ((Kd.slice 3 (Kd.int .i64))).sz = 1 from rfl, Nat.mul_one] at hv105_0; replace hv105_0 := Option.some.inj (hv105_0.symm.trans hx105_0); rw [hv105_0] at ge105_0; have HL105_0 := Aside0.mk (show Kd.R (Kd.int .i64) 3 _ _ _ _ (rd_L5 t102 a0) from ge105_0); clear hv105_0 ge105_0; clear hcc105 hce105; have HR105_0 := Aside0.mk hi105_0; have HC105_0 := Aside0.mk hl105_0; clear hi105_0 hl105_0; replace p105 := eq_true p105; replace q105 := eq_true q105; have p106 : 0 ≤ (a1 : Int) := of_decide_eq_true (by first | (with_reducible assumption) | assumption); have q106 : a1 < ((rd_L5 t102 a0).length : Int) := of_decide_eq_true (by first | (with_reducible assumption) | assumption); obtain ⟨ad106, e106, hx106_0⟩ := Kd.at_int (by repeat (first | (with_reducible exact HR105_0.out) | (with_reducible refine Kd.C_alloc ?_ _) | (with_reducible refine Kd.C_drewN ?_ _) | (with_reducible refine Kd.C_drew ?_) | exact HR105_0.out)) a1 p106 q106; cases e106; replace p106 := eq_true p106; replace q106 := eq_true q106))
            go_ret2
            exact ⟨by first | rfl | (simp [errW_none, errW_some] <;> rfl) | (simp [*, errW_none, errW_some] <;> rfl), by repeat (first | (with_reducible first | exact HB.out | apply below_alloc | apply pw_below_drewN | apply below_drew1) | exact HB.out)⟩
          · rw [if_neg c9] at H
            exact absurd H (by simp)
        · rw [if_neg c8] at H
          exact absurd H (by simp)
      · rw [if_neg c7] at H
        exact absurd H (by simp)
    · rw [if_neg c6] at H
      exact absurd H (by simp)
  · replace c4 := Bool.eq_false_iff.mpr c4
    subst c4
    have H1 : (some (0, false)) = some (r1, r2) := by rw [if_neg (show ¬ (false = true) by decide)] at H; exact H
    clear H
    have H := H1
    clear H1
    simp only [Option.some.injEq, Prod.mk.injEq] at H
    obtain ⟨rfl, rfl⟩ := H
    go_enter Try.func45, Try.ntmps45
    go_wp2_with (first | ((with_reducible refine gate_callee (f := 69) rfl ?_); refine goesL_ (some 8) rfl rfl Try.func69 (by kernel_rfl) rfl #[.int .i64 a0, .int .i64 a1] rfl (by (try simp only [List.map_toArray, List.map_cons, List.map_nil]); first | done | rfl | (simp only [List.length_drop, List.length_take]; rfl)) ?_; (with_reducible refine (impl_isLined.calls a0 a1 false _ A3.out).mono ?_); rintro e w' ⟨rfl, ⟨nd, rfl⟩⟩; refine ⟨_, rfl, ?_⟩))
    go_ret2
    exact ⟨by first | rfl | (simp [errW_none, errW_some] <;> rfl) | (simp [*, errW_none, errW_some] <;> rfl), by repeat (first | (with_reducible first | exact HB.out | apply below_alloc | apply pw_below_drewN | apply below_drew1) | exact HB.out)⟩

end Go.Proofs.Ytfmhcgjmgaefcab.P

namespace Go.Proofs.Ytfmhcgjmgaefcab.P
open Go.RowKit Go.Proofs.YtfmhcgjmgaefcabW.PrintWords Go.Proofs.YtfmhcgjmgaefcabW.PrintLast Go.Proofs.YtfmhcgjmgaefcabW.PrintMore
attribute [local go_sem] max2_int min2_int max_two min_two max_three min_three max_four min_four
set_option linter.unusedVariables false
set_option linter.unusedSimpArgs false

/-! ### impl_LinesLose: function 23 -/
def impl_LinesLose.f (k : Nat) (a0 : Int) (a1 : Int) : Option (Int × Bool) := (impl_FewestSquares.f a0 a1).bind fun bt101 => (if bt101.2 = true then ((impl_FewestByLines.f k a0 a1).bind fun bt103 => (some (wrap64 (bt103.1 - bt101.1), true))) else (some (0, false)))
theorem impl_LinesLose.mono : ∀ a0 a1 k, LeO (impl_LinesLose.f k a0 a1) (impl_LinesLose.f (k + 1) a0 a1) := by
  intro a0 a1 k
  unfold impl_LinesLose.f
  repeat' first
      | (with_reducible exact impl_FewestByLines.mono _ _ _)
      | (with_reducible exact LeO.refl _)
      | (with_reducible exact LeO.none _)
      | (with_reducible refine LeO.ite ?_ ?_)
      | (with_reducible refine LeO.bind ?_ (fun _ => ?_))
      | exact impl_FewestByLines.mono _ _ _
      | exact LeO.none _
      | refine LeO.ite ?_ ?_
      | refine LeO.bind ?_ (fun _ => ?_)
set_option maxHeartbeats 8000000 in
set_option maxRecDepth 100000 in
theorem impl_LinesLose.calls (k : Nat) (a0 : Int) (a1 : Int) (r1 : Int) (r2 : Bool) (w : World) (h : impl_LinesLose.f k a0 a1 = some (r1, r2)) :
    Calls Try.prog 23 #[.int .i64 a0, .int .i64 a1] w fun e w' => e = .returned (.tuple #[.int .i64 r1, .bool r2]) ∧ Below w.heap.size w w' := by
  have HB := Aside0.mk (Below.refl w.heap.size w)
  have H : ((impl_FewestSquares.f a0 a1).bind fun bt101 => (if bt101.2 = true then ((impl_FewestByLines.f k a0 a1).bind fun bt103 => (some (wrap64 (bt103.1 - bt101.1), true))) else (some (0, false)))) = some (r1, r2) := h
  clear h
  replace H := Option.bind_eq_some_iff.mp H
  obtain ⟨⟨t101, t102⟩, A30, H⟩ := H
  replace H : (if t102 = true then ((impl_FewestByLines.f k a0 a1).bind fun bt103 => (some (wrap64 (bt103.1 - t101), true))) else (some (0, false))) = some (r1, r2) := H
  have A3 := Aside0.mk A30
  clear A30
  by_cases c4 : t102 = true
  · subst c4
    have H1 : ((impl_FewestByLines.f k a0 a1).bind fun bt103 => (some (wrap64 (bt103.1 - t101), true))) = some (r1, r2) := by rw [if_pos rfl] at H; exact H
    clear H
    have H := H1
    clear H1
    replace H := Option.bind_eq_some_iff.mp H
    obtain ⟨⟨t103, t104⟩, A50, H⟩ := H
    replace H : (some (wrap64 (t103 - t101), true)) = some (r1, r2) := H
    have A5 := Aside0.mk A50
    clear A50
    simp only [Option.some.injEq, Prod.mk.injEq] at H
    obtain ⟨rfl, rfl⟩ := H
    go_enter Try.func23, Try.ntmps23
    go_wp2_with (first | ((with_reducible refine gate_callee (f := 44) rfl ?_); refine goesL_ (some 13) rfl rfl Try.func44 (by kernel_rfl) rfl #[.int .i64 a0, .int .i64 a1] rfl (by (try simp only [List.map_toArray, List.map_cons, List.map_nil]); first | done | rfl | (simp only [List.length_drop, List.length_take]; rfl)) ?_; (with_reducible refine (impl_FewestSquares.calls a0 a1 t101 true _ A3.out).mono ?_); rintro e w6 ⟨rfl, hb⟩; refine ⟨_, rfl, ?_⟩; have n0_ := Aside0.mk (below_step (by repeat (first | (with_reducible first | exact HB.out | apply below_alloc | apply pw_below_drewN | apply below_drew1) | exact HB.out)) hb); clear HB; have HB := n0_; clear n0_; (try clear hb); (try clear hb2); (try clear hk); (try clear hi)) | ((with_reducible refine gate_callee (f := 45) rfl ?_); refine goesL_ (some 21) rfl rfl Try.func45 (by kernel_rfl) rfl #[.int .i64 a0, .int .i64 a1] rfl (by (try simp only [List.map_toArray, List.map_cons, List.map_nil]); first | done | rfl | (simp only [List.length_drop, List.length_take]; rfl)) ?_; (with_reducible refine (impl_FewestByLines.calls k a0 a1 t103 t104 _ A5.out).mono ?_); rintro e w7 ⟨rfl, hb⟩; refine ⟨_, rfl, ?_⟩; have n0_ := Aside0.mk (below_step (by repeat (first | (with_reducible first | exact HB.out | apply below_alloc | apply pw_below_drewN | apply below_drew1) | exact HB.out)) hb); clear HB; have HB := n0_; clear n0_; (try clear hb); (try clear hb2); (try clear hk); (try clear hi)))
    go_ret2
    exact ⟨by first | rfl | (simp [errW_none, errW_some] <;> rfl) | (simp [*, errW_none, errW_some] <;> rfl), by repeat (first | (with_reducible first | exact HB.out | apply below_alloc | apply pw_below_drewN | apply below_drew1) | exact HB.out)⟩
  · replace c4 := Bool.eq_false_iff.mpr c4
    subst c4
    have H1 : (some (0, false)) = some (r1, r2) := by rw [if_neg (show ¬ (false = true) by decide)] at H; exact H
    clear H
    have H := H1
    clear H1
    simp only [Option.some.injEq, Prod.mk.injEq] at H
    obtain ⟨rfl, rfl⟩ := H
    go_enter Try.func23, Try.ntmps23
    go_wp2_with (first | ((with_reducible refine gate_callee (f := 44) rfl ?_); refine goesL_ (some 13) rfl rfl Try.func44 (by kernel_rfl) rfl #[.int .i64 a0, .int .i64 a1] rfl (by (try simp only [List.map_toArray, List.map_cons, List.map_nil]); first | done | rfl | (simp only [List.length_drop, List.length_take]; rfl)) ?_; (with_reducible refine (impl_FewestSquares.calls a0 a1 t101 false _ A3.out).mono ?_); rintro e w8 ⟨rfl, hb⟩; refine ⟨_, rfl, ?_⟩; have n0_ := Aside0.mk (below_step (by repeat (first | (with_reducible first | exact HB.out | apply below_alloc | apply pw_below_drewN | apply below_drew1) | exact HB.out)) hb); clear HB; have HB := n0_; clear n0_; (try clear hb); (try clear hb2); (try clear hk); (try clear hi)))
    go_ret2
    exact ⟨by first | rfl | (simp [errW_none, errW_some] <;> rfl) | (simp [*, errW_none, errW_some] <;> rfl), by repeat (first | (with_reducible first | exact HB.out | apply below_alloc | apply pw_below_drewN | apply below_drew1) | exact HB.out)⟩

end Go.Proofs.Ytfmhcgjmgaefcab.P
