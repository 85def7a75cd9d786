import Derived.Test.YthmcdiekgfgpdaaMFnExactCountMirroredwWords
import Derived.Test.YthmcdiekgfgpdaaMFnExactCountMirroredwLast
import Derived.Test.YthmcdiekgfgpdaaMFnExactCountMirroredwTab
import Derived.Test.YthmcdiekgfgpdaaMFnExactCountMirroredwApart
import Derived.Test.YthmcdiekgfgpdaaMFnExactCountMirroredwFoot
import Derived.Test.YthmcdiekgfgpdaaMFnExactCountMirroredwKept
import Derived.Test.YthmcdiekgfgpdaaMFnExactCountMirroredwShare
import Derived.Test.YthmcdiekgfgpdaaMFnExactCountMirroredwN
import Derived.Test.YthmcdiekgfgpdaaMFnExactCountMirroredwEqStruct
import Derived.Test.YthmcdiekgfgpdaaMFnExactCountMirroredwRepsOne
import Derived.Test.YthmcdiekgfgpdaaMFnExactCountMirroredwInv
import Derived.Test.YthmcdiekgfgpdaaMFnExactCountMirroredwMore
import Derived.Test.YthmcdiekgfgpdaaMFnExactCountMirroredx0
import Derived.Test.YthmcdiekgfgpdaaMFnExactCountMirroredx1
import Derived.Test.YthmcdiekgfgpdaaMFnExactCountMirroredx2
import Derived.StillTailTactics
import Derived.Shelf.Abstract
import Derived.RegionTactic
import Derived.ChangeAlike
import Derived.BigRegion
import Derived.Laws.EntriesVeiled
import Derived.Lib.SliceRun
import Derived.Deep.RegionLaw
import Derived.Deep.RegionLawGrows
import Derived.Sort.Lot0
import Derived.Laws.IdiomCopy
import Derived.Sort.LotA
import Derived.Sort.WalkA
import Derived.Shelf.SlicesQ.Load
import Derived.Shelf.SlSortCmp.WholeK
import Derived.WalkKit
import Derived.Shelf.SlGeneric
import Derived.Ground.SlsfProg
import Derived.Test.YthmcdiekgfgpdaaProg
namespace Go.Proofs.Ythmcdiekgfgpdaa.P
open Go.RowKit Go.Proofs.YthmcdiekgfgpdaaW.PrintWords Go.Proofs.YthmcdiekgfgpdaaW.PrintLast Go.Proofs.YthmcdiekgfgpdaaW.PrintMore
attribute [local go_sem] max2_int min2_int max_two min_two max_three min_three max_four min_four
set_option linter.unusedVariables false
set_option linter.unusedSimpArgs false
open Go.Proofs.Ythmcdiekgfgpdaa.T Go.Proofs.Ythmcdiekgfgpdaa.Gr Go.Proofs.Ythmcdiekgfgpdaa.Aid
structure Fr (base : Nat) (X : Nat → Prop) (w w' : World) : Prop where
  os : w'.os = w.os
  tape : w'.tape = w.tape
  output : w'.output = w.output
  size : w.heap.size ≤ w'.heap.size
  block : ∀ k, k < base → ¬ X k → w'.heap[k]? = w.heap[k]?
theorem Fr.refl (base : Nat) (X : Nat → Prop) (w : World) : Fr base X w w := ⟨rfl, rfl, rfl, Nat.le_refl _, fun _ _ _ => rfl⟩
theorem Fr.trans {b b' : Nat} {X X' : Nat → Prop} {w w1 w2 : World} (h : Fr b X w w1) (k : Fr b' X' w1 w2) (hb : b ≤ b') (hx : ∀ j, j < b → X' j → X j) : Fr b X w w2 :=
  ⟨k.os.trans h.os, k.tape.trans h.tape, k.output.trans h.output, Nat.le_trans h.size k.size, fun j hj hn => (k.block j (by omega) (fun hk => hn (hx j hj hk))).trans (h.block j hj hn)⟩
theorem Fr.of_below {b : Nat} {X : Nat → Prop} {w w' : World} (h : Below w.heap.size w w') (hb : b ≤ w.heap.size) : Fr b X w w' := ⟨h.os, h.tape, h.output, h.size, fun k hk _ => h.block k (by omega)⟩
theorem Fr.below {b : Nat} {X : Nat → Prop} {w w1 w2 : World} (h : Fr b X w w1) (k : Below w1.heap.size w1 w2) (hb : b ≤ w.heap.size) : Fr b X w w2 :=
  h.trans (Fr.of_below (X := X) k (Nat.le_trans hb h.size)) (Nat.le_refl _) (fun _ _ hx => hx)
theorem Fr.set_ {b : Nat} {X : Nat → Prop} {w w1 : World} (h : Fr b X w w1) {p : Addr} (hp : b ≤ p.block) (u : Value) : Fr b X w (w1.setCell p u) :=
  ⟨h.os, h.tape, h.output, by simpa [World.setCell] using h.size, fun k hk hn => (Below.heap_setCell w1 p u k (by omega)).trans (h.block k hk hn)⟩
structure Each {σ : Type} (g : Nat) (lb : Array Value) (Q : σ → List Sq → Prop) (step : σ → List Sq → σ × Bool) (I : σ → World → (Nat → Prop) → Prop) : Prop where
  bd : ∀ {s W X}, I s W X → ∀ k, X k → k < W.heap.size
  mv : ∀ {s W W' X}, I s W X → (∀ k, X k → W'.heap[k]? = W.heap[k]?) → I s W' X
  eg : ∀ args w, (callFunc g args).run Try.prog w = .ok (.enter g args) w
  call : ∀ s W X A c sq, I s W X → Kd.C k42 W A sq.length sq → sq.length ≤ c → Q s sq → Calls Try.prog g (#[.slice A sq.length c] ++ lb) W fun e W' =>
    e = .returned (.bool (step s sq).2) ∧ ∃ X', I (step s sq).1 W' X' ∧ (∀ k, X' k → X k ∨ W.heap.size ≤ k) ∧ Fr W.heap.size X W W'
structure FS {σ : Type} (I : σ → World → (Nat → Prop) → Prop) (base F G : Nat) (H most : Int) (ev : Value) (f : List Int) (sq : List Sq) (vS : Value) (s : σ) (X : Nat → Prop) (w : World) : Prop where
  st : I s w X
  fil : Fil w F G H most f vS ev
  row : Kd.R k42 42 w base (fun k => ¬ X k) vS sq
  nF : ¬ X F
  nG : ¬ X G
  size : base ≤ w.heap.size
section
variable {σ : Type} {g : Nat} {lb : Array Value} {Q : σ → List Sq → Prop} {step : σ → List Sq → σ × Bool} {I : σ → World → (Nat → Prop) → Prop} {base F G : Nat} {H most : Int} {ev vS : Value} {f : List Int} {sq : List Sq} {s : σ} {X : Nat → Prop} {w w1 : World}
theorem FS.ne (h : FS I base F G H most ev f sq vS s X w) : F ≠ G := blk_ne h.fil.own h.fil.cols (by decide)
theorem FS.below (E : Each g lb Q step I) (h : FS I base F G H most ev f sq vS s X w) (hb : Below w.heap.size w w1) : FS I base F G H most ev f sq vS s X w1 :=
  ⟨E.mv h.st (fun k hk => hb.block k (E.bd h.st k hk)), h.fil.below hb, Kd.R_below h.row hb, h.nF, h.nG, Nat.le_trans h.size hb.size⟩
theorem FS.col (E : Each g lb Q step I) (h : FS I base F G H most ev f sq vS s X w) (i : Nat) (hi : i < f.length) (v : Int) : FS I base F G H most ev (f.set i v) sq vS s X (w.setCell ⟨G, i, none⟩ (.int .i64 v)) := by
  have hne := h.ne
  refine ⟨E.mv h.st (fun k hk => Below.heap_setCell w _ _ k (fun e => h.nG (by subst e; exact hk))), ⟨?_, ?_⟩, ?_, h.nF, h.nG, by simpa [World.setCell] using h.size⟩
  · rw [List.length_set]
    exact blk_far h.fil.own (p := ⟨G, i, none⟩) hne _
  · refine blk_put h.fil.cols i _ ?_
    simp [List.map_set]
  · exact Kd.R_mono (Kd.R_far (p := ⟨G, i, none⟩) (Kd.R_types h.row h.fil.cols (by decide)) (fun _ hk => hk.2) _) (fun _ hk => hk.1)
theorem FS.put3 (E : Each g lb Q step I) {sq' : List Sq} {v1 : Value} (hst : I s w1 X) (hfil : Fil w1 F G H most f vS ev) (hrow : Kd.R k42 42 w1 base (fun k => ¬ X k) v1 sq') (nF : ¬ X F) (nG : ¬ X G) (hz : base ≤ w1.heap.size) :
    FS I base F G H most ev f sq' v1 s X (w1.setCell ⟨F, 3, none⟩ v1) := by
  have hne : F ≠ G := blk_ne hfil.own hfil.cols (by decide)
  refine ⟨E.mv hst (fun k hk => Below.heap_setCell w1 _ _ k (fun e => nF (by subst e; exact hk))), ⟨?_, ?_⟩, ?_, nF, nG, by simpa [World.setCell] using hz⟩
  · exact blk_put hfil.own 3 _ rfl
  · exact blk_far hfil.cols (p := ⟨F, 3, none⟩) (Ne.symm hne) _
  · exact Kd.R_mono (Kd.R_far (p := ⟨F, 3, none⟩) (Kd.R_types hrow hfil.own (by decide)) (fun _ hk => hk.2) _) (fun _ hk => hk.1)
theorem FS.grown (E : Each g lb Q step I) (h : FS I base F G H most ev f sq vS s X w) (hg : w.grownBy w1 vS.ownBlock) : I s w1 X ∧ Fil w1 F G H most f vS ev ∧ Fr base X w w1 := by
  refine ⟨E.mv h.st (fun k hk => hg.block k (E.bd h.st k hk) (fun e => h.row.1 k e.symm hk)), ⟨blk_grown h.fil.own hg (Kd.R_ne h.row h.fil.own (by decide)), blk_grown h.fil.cols hg (Kd.R_ne h.row h.fil.cols (by decide))⟩, hg.os, hg.tape, hg.output, hg.size, fun k hk _ => hg.block k (Nat.lt_of_lt_of_le hk h.size) (fun e => ?_)⟩
  have := Kd.R_base h.row k e.symm
  omega
theorem FS.cut {q : Sq} {A : Option Addr} {n c : Nat} (E : Each g lb Q step I) (h : FS I base F G H most ev f (sq ++ [q]) (.slice A n c) s X w) : FS I base F G H most ev f sq (.slice A sq.length c) s X (w.setCell ⟨F, 3, none⟩ (.slice A sq.length c)) := by
  refine FS.put3 E h.st h.fil ?_ h.nF h.nG h.size
  have := Kd.R_take h.row (m := sq.length) (by simp)
  rwa [List.take_left] at this
end
section
variable {σ : Type} {g : Nat} {lb : Array Value} {Q : σ → List Sq → Prop} {step : σ → List Sq → σ × Bool} {I : σ → World → (Nat → Prop) → Prop} {base F G : Nat} {H most : Int} {ev vS : Value} {f : List Int} {sq : List Sq} {s s' : σ} {X X' : Nat → Prop} {w w1 : World}
theorem FS.called (h : FS I base F G H most ev f sq vS s X w) (hI : I s' w1 X') (hsub : ∀ k, X' k → X k ∨ w.heap.size ≤ k) (hfr : Fr w.heap.size X w w1) : FS I base F G H most ev f sq vS s' X' w1 := by
  have hF := blk_lt h.fil.own
  have hG := blk_lt h.fil.cols
  refine ⟨hI, ⟨(hfr.block F hF h.nF).trans h.fil.own, (hfr.block G hG h.nG).trans h.fil.cols⟩, ?_, fun hk => ?_, fun hk => ?_, Nat.le_trans h.size hfr.size⟩
  · refine Kd.R_mono (Kd.R_step (Kd.R_bound h.row) (fun k hk hlt => hfr.block k hlt hk.1)) (fun k hk hx => ?_)
    rcases hsub k hx with h1 | h1
    · exact hk.1 h1
    · have := hk.2.2.1; omega
  · rcases hsub F hk with h1 | h1
    · exact h.nF h1
    · omega
  · rcases hsub G hk with h1 | h1
    · exact h.nG h1
    · omega
end
theorem foldE_one {σ α : Type} (step : σ → α → σ × Bool) (s : σ) (t : α) : foldE step s [t] = step s t := by
  simp only [foldE]
  cases c : (step s t).2
  · exact Prod.ext rfl c.symm
  · exact Prod.ext rfl c.symm
theorem leastL_bd {h : Int} {f : List Int} (hh : h ≤ 1000) (hf : ∀ c, c < f.length → 0 ≤ ht f c ∧ ht f c ≤ h) : ∀ (n x : Nat) (many : Int) (st : List Int), x ≤ f.length → leastL h f n x many st ≤ many + 1001 * ((f.length : Int) - x)
  | 0, x, many, st, hx => by simp only [leastL]; omega
  | n + 1, x, many, st, hx => by
    simp only [leastL]
    by_cases c : x < f.length
    · rw [if_pos c]
      have he := extra_bd c hf hh
      have hr := runAt_pos f x c
      have hl := runAt_le f x hx
      cases hp : pop (ht f x) st with
      | nil =>
        have := leastL_bd hh hf n (x + runAt f x) (many + extra h f x + if ht f x < h then 1 else 0) [ht f x] hl
        have h1 : (if ht f x < h then (1 : Int) else 0) ≤ 1 := by split <;> omega
        simp only [hp]
        omega
      | cons z r =>
        simp only [hp]
        by_cases c2 : ht f x < z
        · rw [if_pos c2]
          have := leastL_bd hh hf n (x + runAt f x) (many + extra h f x + if ht f x < h then 1 else 0) (ht f x :: z :: r) hl
          have h1 : (if ht f x < h then (1 : Int) else 0) ≤ 1 := by split <;> omega
          omega
        · rw [if_neg c2]
          have := leastL_bd hh hf n (x + runAt f x) (many + extra h f x) (z :: r) hl
          omega
    · rw [if_neg c]; omega
theorem least_bd {h : Int} {f : List Int} (hh : h ≤ 1000) (hn : f.length ≤ 1000) (hf : ∀ c, c < f.length → 0 ≤ ht f c ∧ ht f c ≤ h) : 0 ≤ least h f ∧ least h f ≤ 1001000 := by
  have h1 := leastL_ge f h (f.length + 1) 0 0 []
  have h2 := leastL_bd hh hf (f.length + 1) 0 0 [] (by omega)
  unfold least
  omega
theorem index_l (f : List Int) (hn : f.length ≤ 1000) (x : Nat) (hx : x < f.length) (hb : ∀ c, c < x → ht f c ≠ ht f x) : ∀ (d i : Nat), i + d = x → Ev (fun k => slices_Index_int_int.l0 k f (ht f x) (f.length : Int) i) (x : Int)
  | 0, i, hd => by
    obtain rfl : i = x := by omega
    exact Ev.step (fun _ => slices_Index_int_int.l0.eq_2 ..) (ev_pos (by omega) (ev_pos (by omega) (ev_pos (by omega) (ev_pos (by simp [rd, ht]) (ev_some rfl)))))
  | d + 1, i, hd => Ev.step (fun _ => slices_Index_int_int.l0.eq_2 ..) (ev_pos (by omega) (ev_pos (by omega) (ev_pos (by omega) (ev_neg (fun e => hb i (by omega) (by rw [e]; simp [rd, ht])) (by
      rw [w64 (by omega) (by omega)]
      exact index_l f hn x hx hb d (i + 1) (by omega))))))
theorem index_low (f : List Int) (hn : f.length ≤ 1000) (hne : f ≠ []) : ∃ k, slices_Index_int_int.f k f (ht f (low f)) = some (low f : Int) := by
  have L := low_spec f hne
  exact ev_at (index_l f hn (low f) L.lt (fun c hc => by have := L.first c hc; omega) (low f) 0 (by omega))
theorem Fil.reads {w : World} {F G : Nat} {H most : Int} {f : List Int} {vS each : Value} (h : Fil w F G H most f vS each) (hn : f.length ≤ 1000) : Kd.C (Kd.int .i64) w (some ⟨G, 0, none⟩) f.length f := by
  refine ⟨rfl, by omega, fun _ => ⟨_, rfl, fun j p hj => ⟨[.int .i64 p], rfl, rfl, fun i u hu => ?_⟩⟩⟩
  have hjl := (List.getElem?_eq_some_iff.1 hj).1
  have hi : i = 0 := by
    have := (List.getElem?_eq_some_iff.1 hu).1
    simpa using this
  subst hi
  injection hu with hu
  subst hu
  rw [add_plain, show j * (Kd.int .i64).sz + 0 = j from by show j * 1 + 0 = j; omega, h.col j hjl]
  simp [ht, hj]
def FillPost {σ : Type} (I : σ → World → (Nat → Prop) → Prop) (base F G : Nat) (H most : Int) (ev : Value) (f : List Int) (sq : List Sq) (X : Nat → Prop) (r : σ × Bool) (w : World) (e : Ending) (w' : World) : Prop :=
  e = .returned (.bool r.2) ∧ ∃ X' vS', FS I base F G H most ev f sq vS' r.1 X' w' ∧ (∀ k, X' k → X k ∨ w.heap.size ≤ k) ∧ Fr base X w w'
set_option maxHeartbeats 8000000 in
set_option maxRecDepth 100000 in
theorem filler_fill {σ : Type} {g : Nat} {lb : Array Value} {Q : σ → List Sq → Prop} {step : σ → List Sq → σ × Bool} {I : σ → World → (Nat → Prop) → Prop} (E : Each g lb Q step I) (base F G : Nat) (H most : Int) (hH : H ≤ 1000) (hbF : base ≤ F) (hbG : base ≤ G) :
    ∀ (n : Nat) (f : List Int) (sq : List Sq) (vS : Value) (s : σ) (X : Nat → Prop) (w : World), FS I base F G H most (.func (.func g) #[] lb) f sq vS s X w → Fits f H → left H f < n → f.length ≤ 1000 → (∀ c, c < f.length → 0 ≤ ht f c) →
      sq.length + left H f ≤ 1000000 → RunQ Q step s (fillP H most n f sq) →
      Calls Try.prog 44 #[.pointer (some ⟨F, 0, none⟩)] w (FillPost I base F G H most (.func (.func g) #[] lb) f sq X (foldE step s (fillP H most n f sq)) w) := by
  intro n
  induction n with
  | zero => intro f sq vS s X w _ _ hn; omega
  | succ n ih =>
    intro f sq vS s X w hFS hfit hleft hlen hpos hsq hQ
    have L := low_spec f hfit.1
    have hcap : ∀ c, c < f.length → 0 ≤ ht f c ∧ ht f c ≤ H := fun c hc => ⟨hpos c hc, hfit.2 c hc⟩
    have hxl := L.lt
    have hyb := hcap _ hxl
    obtain ⟨kI, hI⟩ := index_low f hlen hfit.1
    have HMIN := Aside0.mk (fun W h => slices_Min_int f G W h (by omega) hlen)
    have HIDX := Aside0.mk hI
    have HS := Aside0.mk hFS
    have HIH := Aside0.mk ih
    have HFIT := Aside0.mk hfit
    have HL := Aside0.mk L
    have HCAP := Aside0.mk hcap
    have HQ := Aside0.mk hQ
    have HSQ := Aside0.mk hsq
    have HLEFT := Aside0.mk hleft
    have HE := Aside0.mk E
    clear hI hFS ih hfit L hcap hpos hQ hsq hleft E
    generalize hy : ht f (low f) = y at HMIN HIDX hyb
    have HY := Aside0.mk hy
    clear hy
    generalize hx : low f = x at HIDX hxl HY
    have HX := Aside0.mk hx
    clear hx
    have c0 := blk_cell HS.out.fil.own 0
    have c1 := blk_cell HS.out.fil.own 1
    have c2 := blk_cell HS.out.fil.own 2
    have c3 := blk_cell HS.out.fil.own 3
    have c4 := blk_cell HS.out.fil.own 4
    have c5 := blk_cell HS.out.fil.own 5
    simp only [List.getElem?_toArray, List.getElem?_cons_zero, List.getElem?_cons_succ] at c0 c1 c2 c3 c4 c5
    obtain ⟨A, c, e⟩ := Kd.R_slice HS.out.row
    subst e
    go_enter Try.func44, Try.ntmps44
    go_wp2_with fail
    refine (HMIN.out _ (fun i hi => HS.out.fil.col i hi)).mono ?_
    rintro e w' ⟨rfl, rfl⟩
    by_cases hyH : y = H
    · have hyz : (y == H) = true := by simp [hyH]
      have HYH := Aside0.mk hyH
      clear hyH
      have hfP : fillP H most (n + 1) f sq = [sq] := by simp only [fillP]; rw [HX.out, HY.out, if_pos HYH.out]
      have HFP := Aside0.mk hfP
      clear hfP
      go_wp2_with fail
      have HS2 := Aside0.mk (HS.out.below HE.out ((Below.refl w.heap.size w).drew))
      have HFR2 := Aside0.mk (Fr.of_below (X := X) (b := base) ((Below.refl w.heap.size w).drew) HS.out.size)
      have hZ : Aside0 (w.drew.heap.size = w.heap.size) := ⟨rfl⟩
      go_still_tail 8, (by kernel_rfl)
      change wpList _ _ _ _ _ w.drew
      generalize w.drew = w2 at HS2 HFR2 hZ ⊢
      have eg := HE.out.eg
      have HCALL := Aside0.mk (HE.out.call s w2 X A c sq HS2.out.st (Kd.R_reads' HS2.out.row).2.2 (Kd.R_reads' HS2.out.row).2.1 (by have h_ := HQ.out; rw [HFP.out] at h_; exact h_.1))
      go_wp2_with (go_at_fn g; refine HCALL.out.mono ?_; rintro e w' ⟨rfl, X', hI', hsub, hfr⟩)
      go_ret
      rw [HFP.out, foldE_one]
      exact ⟨rfl, X', _, HS2.out.called hI' hsub hfr, fun k hk => by rw [← hZ.out]; exact hsub k hk, HFR2.out.trans hfr HS2.out.size (fun _ _ hx => hx)⟩
    · have hyz : (y == H) = false := by simp [hyH]
      have HYH := Aside0.mk hyH
      clear hyH
      have hlb := least_bd hH hlen HCAP.out
      have HLE := Aside0.mk (fun W (hW : Below w.heap.size w W) => filler_least W F G H most f _ _ (HS.out.fil.below hW) hlen hH HCAP.out)
      generalize hls : least H f = ls at HLE hlb
      have HLS := Aside0.mk hls
      clear hls
      have hFlt := blk_lt HS.out.fil.own
      have g3 := fun p => cell_gr (p := p) hFlt c3
      have g4 := fun p => cell_gr (p := p) hFlt c4
      have hsl := HSQ.out
      have hw : IntKind.i64.wrap ((sq.length : Int) + ls) = (sq.length : Int) + ls := (i64_w _).trans (w64 (by omega) (by omega))
      go_wp2_with fail
      refine wp_region_gr (by kernel_rfl) (by kernel_rfl) ?_
      repeat (go_big_quiet_step ((go_at_call 56; refine Calls.gr_of (HLE.out _ (Gr.h _)))))
      refine wpQuiet_nil ?_
      intro W2 hw'
      obtain ⟨⟨V2, hB2⟩, hw''⟩ := hw'
      replace hw'' : W2 = V2 := hw''
      subst hw''
      have HS2 := Aside0.mk (HS.out.below HE.out hB2)
      have HFR2 := Aside0.mk (Fr.of_below (X := X) (b := base) hB2 HS.out.size)
      have HSZ := Aside0.mk hB2.size
      clear g3 g4 c0 c1 c2 c3 c4 c5 hB2 hw
      by_cases hpr : most < (sq.length : Int) + ls
      · have hpz : decide (most < (sq.length : Int) + ls) = true := decide_eq_true hpr
        have hfP : fillP H most (n + 1) f sq = [] := by simp only [fillP]; rw [HX.out, HY.out, if_neg HYH.out, HLS.out, if_pos hpr]
        have HFP := Aside0.mk hfP
        clear hfP
        go_wp2_with fail
        go_ret
        rw [HFP.out]
        exact ⟨rfl, X, _, HS2.out, fun k hk => .inl hk, HFR2.out⟩
      · have hpz : decide (most < (sq.length : Int) + ls) = false := decide_eq_false hpr
        have c2 := blk_cell HS2.out.fil.own 2
        simp only [List.getElem?_toArray, List.getElem?_cons_zero, List.getElem?_cons_succ] at c2
        go_wp2_with (go_at_call 57; refine (slices_Index_int_int.calls kI (some ⟨G, 0, none⟩) f.length f y (x : Int) _ (HS2.out.fil.reads hlen) (Nat.le_refl _) HIDX.out).mono ?_; rintro e w' ⟨rfl, ⟨nd, rfl⟩⟩)
        have HS3 := Aside0.mk (HS2.out.below HE.out (pw_below_drewN (Below.refl _ _) nd))
        have HFR3 := Aside0.mk (HFR2.out.below (pw_below_drewN (Below.refl _ _) nd) HS.out.size)
        have HSZ3 : Aside0 (w.heap.size ≤ (W2.drewN nd).heap.size) := HSZ
        generalize W2.drewN nd = W3 at HS3 HFR3 HSZ3 ⊢
        obtain ⟨ch, hch⟩ : ∃ ch : Nat → List (List Sq), (fun (i : Nat) => fillP H most n (place f x (i + 1) (y + (i + 1 : Nat))) (sq ++ [⟨x, y, (i + 1 : Nat)⟩])) = ch := ⟨_, rfl⟩
        have HCH := Aside0.mk hch
        obtain ⟨rm, hrm⟩ : ∃ rm, room f H x = rm := ⟨_, rfl⟩
        have HRM := Aside0.mk hrm
        have hfP : fillP H most (n + 1) f sq = (List.range rm).flatMap ch := by
          simp only [fillP]
          rw [HX.out, HY.out, if_neg HYH.out, HLS.out, if_neg (by omega), hrm, ← hch]
        have HFP := Aside0.mk hfP
        have hrl : rm ≤ 1000 := by
          have := runAt_le f x (by omega)
          rw [← hrm]; unfold room; omega
        clear hfP hch hrm HIDX HMIN HLE HS2 HFR2 c2 hpz hpr
        go_loopg [5] rm (fun kq v5 wc => ∃ (i : Nat) (s1 : σ) (X1 : Nat → Prop) (vS1 : Value), i ≤ rm ∧ rm - i ≤ kq ∧ v5 = .int .i64 ((i + 1 : Nat) : Int) ∧ Aside0 (foldE step s ((List.range i).flatMap ch) = (s1, true)) ∧ Aside0 (FS I base F G H most (.func (.func g) #[] lb) f sq vS1 s1 X1 wc) ∧ Aside0 (∀ k, X1 k → X k ∨ w.heap.size ≤ k) ∧ Aside0 (Fr base X w wc) ∧ Aside0 (w.heap.size ≤ wc.heap.size))
        case atStart => exact ⟨0, s, X, _, by omega, by omega, rfl, ⟨rfl⟩, HS3, ⟨fun k hk => .inl hk⟩, HFR3, HSZ3⟩
        case round =>
          clear HS3 HFR3 HSZ3 HSZ
          obtain ⟨i, s1, X1, vS1, hi, hkq, rfl, HFO, HS1, HSUB, HFR, HSZ⟩ := hrel
          have d0 := blk_cell HS1.out.fil.own 0
          have d1 := blk_cell HS1.out.fil.own 1
          have d2 := blk_cell HS1.out.fil.own 2
          have d3 := blk_cell HS1.out.fil.own 3
          simp only [List.getElem?_toArray, List.getElem?_cons_zero, List.getElem?_cons_succ] at d0 d1 d2 d3
          have hriff := room_iff f H x hxl i (by rw [HY.out]; omega) (by rw [HRM.out]; exact hi)
          rw [HRM.out, HY.out] at hriff
          have HRI := Aside0.mk hriff
          clear hriff
          by_cases hir : i < rm
          · obtain ⟨h1, h2, h3⟩ := HRI.out.1 hir
            have e1 : (x : Int) + ((i : Int) + 1) ≤ (f.length : Int) := by omega
            have e2 : y + ((i : Int) + 1) ≤ H := by omega
            have hcol : wr.cell? ⟨G, x + i, none⟩ = some (.int .i64 y) := by rw [HS1.out.fil.col (x + i) (by omega), h3]
            have H3 := Aside0.mk h3
            clear h3
            have hplen : ∀ k Y, k ≤ i + 1 → (place f x k Y).length = f.length := fun k Y hk => place_length f x k Y (by omega)
            have HPLEN := Aside0.mk hplen
            clear hplen
            go_upto_block 1 with (fail)
            clear d0 d1 d2 d3 hcol
            go_wp2_with fail
            go_loopg [6, 83] (i + 1) (fun kq v6 v83 wc => ∃ (k : Nat), k ≤ i + 1 ∧ i + 1 - k ≤ kq ∧ v83 = .int .i64 (k : Int) ∧ Aside0 (FS I base F G H most (.func (.func g) #[] lb) (place f x k (y + ((i : Int) + 1))) sq vS1 s1 X1 wc) ∧ Aside0 (Fr base X w wc) ∧ Aside0 (w.heap.size ≤ wc.heap.size))
            case atStart => exact ⟨0, by omega, by omega, rfl, by rw [place_zero]; exact HS1, HFR, HSZ⟩
            case round =>
              clear HS1 HFR HSZ
              obtain ⟨k, hk, hkq2, rfl, HS1, HFR, HSZ⟩ := hrel
              have hpl := HPLEN.out k (y + ((i : Int) + 1)) hk
              have d2 := blk_cell HS1.out.fil.own 2
              have d3 := blk_cell HS1.out.fil.own 3
              rw [hpl] at d2
              simp only [List.getElem?_toArray, List.getElem?_cons_zero, List.getElem?_cons_succ] at d2 d3
              by_cases hki : k < i + 1
              · have e3 : (k : Int) < (i : Int) + 1 := by omega
                have e4 : (x : Int) + (k : Int) < (f.length : Int) := by omega
                have hcol := HS1.out.fil.col (x + k) (by rw [hpl]; omega)
                have hfz := blk_frozen HS1.out.fil.cols (x + k)
                clear d3 hpl
                generalize ht (place f x k (y + ((i : Int) + 1))) (x + k) = old at hcol
                go_wp2_with fail
                go_roundg (i + 1 - (k + 1))
                case measure => omega
                case rel =>
                  refine ⟨k + 1, by omega, by omega, by go_num, ⟨?_⟩, ⟨?_⟩, ⟨?_⟩⟩
                  · have := HS1.out.col HE.out (x + k) (by rw [HPLEN.out k _ hk]; omega) (y + ((i : Int) + 1))
                    rwa [place_one f x k _ (by omega)] at this
                  · exact HFR.out.set_ (p := ⟨G, x + k, none⟩) hbG _
                  · have := HSZ.out; simpa [World.setCell] using this
              · have e3 : ¬ (k : Int) < (i : Int) + 1 := by omega
                obtain rfl : k = i + 1 := by omega
                obtain ⟨f1, hf1⟩ : ∃ f1, place f x (i + 1) (y + ((i : Int) + 1)) = f1 := ⟨_, rfl⟩
                have HF1 := Aside0.mk hf1
                rw [hf1] at HS1 hpl
                have hfl : f1.length = f.length := hpl
                have HFL := Aside0.mk hfl
                clear hf1 hpl hfl
                obtain ⟨A1, k1, e1'⟩ := Kd.R_slice HS1.out.row
                subst e1'
                have hz3 := blk_frozen HS1.out.fil.own 3
                have hsl := HSQ.out
                clear d2
                go_wp2_with (first | ((with_reducible refine gate_builtin (b := .append) (xs := #[.tmp 102, .tmp 107]) rfl ?_); at_builtin; refine Kd.R_append k42 (w0 := wr) base rfl (.tmp 102) (.tmp 107) 27 42 (.agg #[(.int .i64 0), (.int .i64 0), (.int .i64 0)]) 24 rfl Try.underlying27 info42 rfl (by decide) (by omega) (.slice A1 sq.length k1) sq (⟨x, y, (i : Int) + 1⟩ : S42) [.int .i64 x, .int .i64 y, .int .i64 ((i : Int) + 1)] (fun k => ¬ X1 k) (fun _ => False) rfl rfl ?aP (fun _ hk => hk.elim) ?aF ?aO ?aB ?aS ?aL ?_; (case aP => exact k42_mkM _ _ _ (⟨x, y, (i : Int) + 1⟩ : S42)); (case aB => exact Below.refl _ _); (case aF => exact (fun k hk hx => by have := HE.out.bd HS1.out.st k hx; omega)); (case aO => exact HS1.out.row); (case aS => exact HS1.out.size); (case aL => omega); intro v71 w12 ho hb hg hat; have n0_ := Aside0.mk (HS1.out.grown HE.out hg); have n1_ := Aside0.mk ho; clear ho hb hg hat d3 hz3; have d3 := blk_cell n0_.out.2.1.own 3; have hz3 := blk_frozen n0_.out.2.1.own 3; (simp only [List.getElem?_toArray, List.getElem?_cons_zero, List.getElem?_cons_succ] at d3); (obtain ⟨A2, k2, e2'⟩ := Kd.R_slice n1_.out); (subst e2')))
                have hq1 : (sq ++ [(⟨x, y, (i : Int) + 1⟩ : S42)]).length = sq.length + 1 := by simp
                have HQ1 := Aside0.mk hq1
                have HSN : Aside0 (FS I base F G H most (.func (.func g) #[] lb) f1 (sq ++ [(⟨x, y, (i : Int) + 1⟩ : S42)]) (.slice A2 (sq.length + 1) k2) s1 X1 (w12.setCell ⟨F, 3, none⟩ (.slice A2 (sq.length + 1) k2))) := ⟨by
                  have := FS.put3 HE.out n0_.out.1 n0_.out.2.1 n1_.out HS1.out.nF HS1.out.nG (Nat.le_trans HS1.out.size n0_.out.2.2.size)
                  rwa [hq1] at this⟩
                have HFRN : Aside0 (Fr base X w (w12.setCell ⟨F, 3, none⟩ (.slice A2 (sq.length + 1) k2))) := ⟨(HFR.out.trans n0_.out.2.2 (Nat.le_refl _) (fun j hj hx => by
                  rcases HSUB.out j hx with h | h
                  · exact h
                  · exact absurd hj (by have := HS.out.size; omega))).set_ (p := ⟨F, 3, none⟩) hbF _⟩
                have HSZN : Aside0 (w.heap.size ≤ (w12.setCell ⟨F, 3, none⟩ (.slice A2 (sq.length + 1) k2)).heap.size) := ⟨by simpa [World.setCell] using Nat.le_trans HSZ.out n0_.out.2.2.size⟩
                clear n0_ n1_ HFR HSZ HS1 hq1 d3 hz3
                generalize w12.setCell ⟨F, 3, none⟩ (.slice A2 (sq.length + 1) k2) = w13 at HSN HFRN HSZN ⊢
                have hSF := step_fits HFIT.out (i := i) (n := n) (by rw [HX.out, HRM.out]; exact hir) HLEFT.out
                rw [HX.out, HY.out, show ((i + 1 : Nat) : Int) = (i : Int) + 1 from rfl, HF1.out] at hSF
                have hch : ch i = fillP H most n f1 (sq ++ [(⟨x, y, (i : Int) + 1⟩ : S42)]) := by rw [← HCH.out, ← HF1.out]; rfl
                have hcap1 : ∀ c, c < f1.length → 0 ≤ ht f1 c := fun c hc => by
                  rw [HFL.out] at hc
                  rw [← HF1.out, ht_place _ _ _ _ (by omega)]
                  have := HCAP.out c hc
                  split <;> omega
                have hleft1 : left H f1 + 1 ≤ left H f := by
                  have h0 := left_place H f x (i + 1) (by omega) (by
                    have h9 := HRM.out
                    unfold room at h9
                    omega) (by omega) (by rw [HY.out]; omega)
                  rw [HY.out, show ((i + 1 : Nat) : Int) = (i : Int) + 1 from rfl, HF1.out] at h0
                  have : 1 ≤ (i + 1) * (i + 1) := Nat.mul_pos (by omega) (by omega)
                  omega
                have hQ1 : RunQ Q step s1 (fillP H most n f1 (sq ++ [(⟨x, y, (i : Int) + 1⟩ : S42)])) := by
                  obtain ⟨rest_, hrest_⟩ := flat_range_at ch i (rm - (i + 1))
                  rw [show i + 1 + (rm - (i + 1)) = rm by omega] at hrest_
                  have h_ := HQ.out
                  rw [HFP.out, hrest_] at h_
                  have h2_ := (RunQ.right h_ HFO.out).left
                  rwa [hch] at h2_
                refine (HIH.out f1 (sq ++ [(⟨x, y, (i : Int) + 1⟩ : S42)]) _ s1 X1 _ HSN.out hSF.1 hSF.2 (by rw [HFL.out]; exact hlen) hcap1 (by rw [HQ1.out]; omega) hQ1).mono ?_
                have HCI := Aside0.mk hch
                clear hSF hch hcap1 hleft1 hQ1
                intro e w' hp
                obtain ⟨he, X2, vS2, hfs2, hsub2, hfr2⟩ := hp
                subst he
                generalize hr : foldE step s1 (fillP H most n f1 (sq ++ [(⟨x, y, (i : Int) + 1⟩ : S42)])) = r at hfs2 ⊢
                obtain ⟨s2, b⟩ := r
                have HR : Aside0 (foldE step s1 (ch i) = (s2, b)) := ⟨by rw [HCI.out]; exact hr⟩
                have HS2 := Aside0.mk hfs2
                have HSUB2 : Aside0 (∀ k, X2 k → X k ∨ w.heap.size ≤ k) := ⟨fun k hk => by
                  rcases hsub2 k hk with h | h
                  · exact HSUB.out k h
                  · exact .inr (Nat.le_trans HSZN.out h)⟩
                have HFR2 : Aside0 (Fr base X w w') := ⟨HFRN.out.trans hfr2 (Nat.le_refl _) (fun j hj hx => by
                  rcases HSUB.out j hx with h | h
                  · exact h
                  · exact absurd hj (by have := HS.out.size; omega))⟩
                have HSZ2 : Aside0 (w.heap.size ≤ w'.heap.size) := ⟨Nat.le_trans HSZN.out hfr2.size⟩
                clear hr hfs2 hsub2 hfr2 HSN HFRN HSZN HCI HSUB
                obtain ⟨A4, k4, e4'⟩ := Kd.R_slice HS2.out.row
                rw [HQ1.out] at e4'
                subst e4'
                have hk4 : sq.length + 1 ≤ k4 := (Kd.R_reads' HS2.out.row).2.1
                have d3 := blk_cell HS2.out.fil.own 3
                have hz3 := blk_frozen HS2.out.fil.own 3
                simp only [List.getElem?_toArray, List.getElem?_cons_zero, List.getElem?_cons_succ] at d3
                have q1 := eq_true (show sq.length ≤ k4 by omega)
                have q2 := eq_true (show (0 : Int) ≤ (sq.length : Int) by omega)
                go_upto_region 17 with (fail)
                clear e3
                have hw1 : IntKind.i64.wrap (((sq.length + 1 : Nat) : Int) - 1) = (sq.length : Int) := (i64_w _).trans (by unfold wrap64; omega)
                have hw2 : IntKind.i64.wrap ((sq.length : Int) + 1 - 1) = (sq.length : Int) := (i64_w _).trans (by unfold wrap64; omega)
                have hw3 : IntKind.i64.wrap (sq.length : Int) = (sq.length : Int) := (i64_w _).trans (by unfold wrap64; omega)
                go_region
                clear hw1 hw2 hw3 q1 q2 d3 hz3
                have HS3 : Aside0 (FS I base F G H most (.func (.func g) #[] lb) f1 sq (.slice A4 sq.length k4) s2 X2 (w'.setCell ⟨F, 3, none⟩ (.slice A4 sq.length k4)).drew) := ⟨(HS2.out.cut HE.out).below HE.out ((Below.refl _ _).drew)⟩
                have HFR3 : Aside0 (Fr base X w (w'.setCell ⟨F, 3, none⟩ (.slice A4 sq.length k4)).drew) := ⟨(HFR2.out.set_ (p := ⟨F, 3, none⟩) hbF _).below ((Below.refl _ _).drew) HS.out.size⟩
                have HSZ3 : Aside0 (w.heap.size ≤ (w'.setCell ⟨F, 3, none⟩ (.slice A4 sq.length k4)).drew.heap.size) := ⟨by have := HSZ2.out; simpa [World.setCell] using this⟩
                clear HS2 HFR2 HSZ2
                generalize (w'.setCell ⟨F, 3, none⟩ (.slice A4 sq.length k4)).drew = w14 at HS3 HFR3 HSZ3 ⊢
                have e1 : (x : Int) + ((i : Int) + 1) ≤ (f.length : Int) := by omega
                have HPL2 : Aside0 (∀ k, k ≤ i + 1 → (place f1 x k y).length = f.length) := ⟨fun k hk => by rw [place_length f1 x k y (by rw [HFL.out]; omega)]; exact HFL.out⟩
                go_wp2_with fail
                go_loopg [8, 128] (i + 1) (fun kq v8 v128 wc => ∃ (k : Nat), k ≤ i + 1 ∧ i + 1 - k ≤ kq ∧ v128 = .int .i64 (k : Int) ∧ Aside0 (FS I base F G H most (.func (.func g) #[] lb) (place f1 x k y) sq (.slice A4 sq.length k4) s2 X2 wc) ∧ Aside0 (Fr base X w wc) ∧ Aside0 (w.heap.size ≤ wc.heap.size))
                case atStart => exact ⟨0, by omega, by omega, rfl, by rw [place_zero]; exact HS3, HFR3, HSZ3⟩
                case round =>
                  clear HS3 HFR3 HSZ3
                  obtain ⟨k, hk, hkq3, rfl, HS3, HFR3, HSZ3⟩ := hrel
                  have hpl := HPL2.out k hk
                  have d2 := blk_cell HS3.out.fil.own 2
                  rw [hpl] at d2
                  simp only [List.getElem?_toArray, List.getElem?_cons_zero, List.getElem?_cons_succ] at d2
                  by_cases hki : k < i + 1
                  · have e3 : (k : Int) < (i : Int) + 1 := by omega
                    have e4 : (x : Int) + (k : Int) < (f.length : Int) := by omega
                    have hcol := HS3.out.fil.col (x + k) (by rw [hpl]; omega)
                    have hfz := blk_frozen HS3.out.fil.cols (x + k)
                    clear hpl
                    generalize ht (place f1 x k y) (x + k) = old at hcol
                    go_wp2_with fail
                    go_roundg (i + 1 - (k + 1))
                    case measure => omega
                    case rel =>
                      refine ⟨k + 1, by omega, by omega, by go_num, ⟨?_⟩, ⟨?_⟩, ⟨?_⟩⟩
                      · have := HS3.out.col HE.out (x + k) (by rw [HPL2.out k hk]; omega) y
                        rwa [place_one f1 x k _ (by rw [HFL.out]; omega)] at this
                      · exact HFR3.out.set_ (p := ⟨G, x + k, none⟩) hbG _
                      · have := HSZ3.out; simpa [World.setCell] using this
                  · have e3 : ¬ (k : Int) < (i : Int) + 1 := by omega
                    obtain rfl : k = i + 1 := by omega
                    have hback : place f1 x (i + 1) y = f := by
                      rw [← HF1.out]
                      exact place_back f x (i + 1) _ y (by omega) (fun j hj => by
                        have h9 := HRM.out
                        unfold room at h9
                        rw [runAt_eq f x j (by omega), HY.out])
                    rw [hback] at HS3
                    clear hback d2 hpl
                    cases b with
                    | true =>
                      go_wp2_with fail
                      go_roundg (rm - (i + 1))
                      case measure => omega
                      case rel => exact ⟨i + 1, s2, X2, _, by omega, by omega, by go_num, ⟨by rw [flat_range_succ, foldE_on _ _ _ _ _ HFO.out]; exact HR.out⟩, HS3, HSUB2, HFR3, HSZ3⟩
                    | false =>
                      have hfin : foldE step s (fillP H most (n + 1) f sq) = (s2, false) := by
                        obtain ⟨rest, hrest⟩ := flat_range_at ch i (rm - (i + 1))
                        rw [show i + 1 + (rm - (i + 1)) = rm by omega] at hrest
                        rw [HFP.out, hrest, foldE_on _ _ _ _ _ HFO.out]
                        exact foldE_off _ _ _ _ _ HR.out
                      have HFIN := Aside0.mk hfin
                      clear hfin
                      go_wp2_with fail
                      go_ret
                      rw [HFIN.out]
                      exact ⟨rfl, X2, _, HS3.out, HSUB2.out, HFR3.out⟩
          · have hii : i = rm := by omega
            have HFQ : Aside0 (foldE step s (fillP H most (n + 1) f sq) = (s1, true)) := ⟨by rw [HFP.out, ← hii]; exact HFO.out⟩
            have hn3 : ¬ (x + (i + 1) ≤ f.length ∧ y + ((i + 1 : Nat) : Int) ≤ H ∧ ht f (x + i) = y) := fun h => hir (HRI.out.2 h)
            have HN3 := Aside0.mk hn3
            clear hn3 hii
            by_cases h1 : (x : Int) + ((i : Int) + 1) ≤ (f.length : Int)
            · by_cases h2 : y + ((i : Int) + 1) ≤ H
              · have h3 : (ht f (x + i) == y) = false := by
                  rw [beq_eq_false_iff_ne]
                  exact fun h => HN3.out ⟨by omega, by omega, h⟩
                have hcol : wr.cell? ⟨G, x + i, none⟩ = some (.int .i64 (ht f (x + i))) := HS1.out.fil.col (x + i) (by omega)
                generalize ht f (x + i) = yy at h3 hcol
                go_wp2_with fail
                go_ret
                rw [HFQ.out]
                exact ⟨rfl, X1, _, HS1.out, HSUB.out, HFR.out⟩
              · go_wp2_with fail
                go_ret
                rw [HFQ.out]
                exact ⟨rfl, X1, _, HS1.out, HSUB.out, HFR.out⟩
            · go_wp2_with fail
              go_ret
              rw [HFQ.out]
              exact ⟨rfl, X1, _, HS1.out, HSUB.out, HFR.out⟩
end Go.Proofs.Ythmcdiekgfgpdaa.P

namespace Go.Proofs.Ythmcdiekgfgpdaa.P
open Go.RowKit Go.Proofs.YthmcdiekgfgpdaaW.PrintWords Go.Proofs.YthmcdiekgfgpdaaW.PrintLast Go.Proofs.YthmcdiekgfgpdaaW.PrintMore
attribute [local go_sem] max2_int min2_int max_two min_two max_three min_three max_four min_four
set_option linter.unusedVariables false
set_option linter.unusedSimpArgs false
open Go.Proofs.Ythmcdiekgfgpdaa.T Go.Proofs.Ythmcdiekgfgpdaa.Gr Go.Proofs.Ythmcdiekgfgpdaa.Aid
theorem madeCells_int (n : Nat) : madeCells (Value.int .i64 0).cells (n * 1) = ((List.replicate n (0 : Int)).map (Value.int .i64)).toArray := by
  unfold madeCells
  rw [Nat.mul_one]
  apply Array.ext
  · simp
  · intro i h1 h2
    have e : (Value.int .i64 0).cells = #[Value.int .i64 0] := rfl
    simp [e, Nat.mod_one]
theorem ht_rep (n c : Nat) : ht (List.replicate n 0) c = 0 := by
  unfold ht
  rw [List.getD_eq_getElem?_getD, List.getElem?_replicate]
  split <;> rfl
theorem left_rep (n : Nat) (H : Int) (h0 : 0 ≤ H) : left H (List.replicate n 0) = n * H.toNat := by rw [left_replicate]; simp
theorem fits_rep (n : Nat) (H : Int) (hn : 0 < n) (h0 : 0 ≤ H) : Fits (List.replicate n 0) H := ⟨fun e => by simp at e; omega, fun c _ => by rw [ht_rep]; exact h0⟩
set_option maxHeartbeats 2000000 in
theorem impl_fills {σ : Type} {g : Nat} {lb : Array Value} {Q : σ → List Sq → Prop} {step : σ → List Sq → σ × Bool} {I : σ → World → (Nat → Prop) → Prop} (E : Each g lb Q step I) (W : Nat) (H most : Int) (hW : 1 ≤ W ∧ W ≤ 100) (hH : 1 ≤ H ∧ H ≤ 100)
    (n : Nat) (hn : W * H.toNat < n) (s : σ) (X : Nat → Prop) (w : World) (hI : I s w X) (hQ : RunQ Q step s (fillP H most n (List.replicate W 0) [])) :
    Calls Try.prog 37 #[.int .i64 (W : Int), .int .i64 H, .int .i64 most, .func (.func g) #[] lb] w fun e w' => (∃ v, e = .returned v) ∧ ∃ X', I (foldE step s (fillP H most n (List.replicate W 0) [])).1 w' X' ∧ (∀ k, X' k → X k ∨ w.heap.size ≤ k) ∧ Fr w.heap.size X w w' := by
  obtain ⟨i0, hi0, hz0, hz1, hz2⟩ := info_parts info3
  have hmk : ∀ W' : World, (Instr.makeSlice 37 (.int .i64 (W : Int)) (.int .i64 (W : Int))).run Try.prog W' = .ok (.slice (some ⟨W'.heap.size, 0, none⟩) W W) (W'.alloc (.cells ((List.replicate W (0 : Int)).map (Value.int .i64)).toArray 3)) := fun W' => by
    have := run_make W' 37 3 i0 _ Try.underlying37 hi0 hz0 .i64 .i64 (W : Int) (W : Int) (by omega) (Int.le_refl _) (by rw [hz2]; omega) (by omega)
    rw [hz1, Int.toNat_natCast, madeCells_int] at this
    exact this
  have HI := Aside0.mk hI
  have HE := Aside0.mk E
  have HQ := Aside0.mk hQ
  have HN := Aside0.mk hn
  clear hi0 hz0 hz1 hz2 hI E hQ hn
  generalize hf : List.replicate W (0 : Int) = f at hmk HQ
  have hlen : f.length = W := by rw [← hf]; simp
  have HF := Aside0.mk hf
  clear hf
  subst hlen
  have hu69 := Try.underlying66
  go_enter Try.func37, Try.ntmps37
  go_wp2_with fail
  have HWB : Aside0 (Below w.heap.size w ((w.alloc (.cells (f.map (Value.int .i64)).toArray 3)).alloc (.cells #[.int .i64 (f.length : Int), .int .i64 H, .slice (some ⟨w.heap.size, 0, none⟩) f.length f.length, .slice none 0 0, .int .i64 most, .func (.func g) #[] lb] 66))) := ⟨((Below.refl _ _).alloc (Nat.le_refl _) _).alloc (by simp) _⟩
  have HFS : Aside0 (FS I w.heap.size (w.heap.size + 1) w.heap.size H most (.func (.func g) #[] lb) f [] (.slice none 0 0) s X ((w.alloc (.cells (f.map (Value.int .i64)).toArray 3)).alloc (.cells #[.int .i64 (f.length : Int), .int .i64 H, .slice (some ⟨w.heap.size, 0, none⟩) f.length f.length, .slice none 0 0, .int .i64 most, .func (.func g) #[] lb] 66))) := ⟨{
    st := HE.out.mv HI.out (fun k hk => HWB.out.block k (HE.out.bd HI.out k hk))
    fil := ⟨by
      have := heap_alloc_new (w.alloc (.cells (f.map (Value.int .i64)).toArray 3)) (.cells #[.int .i64 (f.length : Int), .int .i64 H, .slice (some ⟨w.heap.size, 0, none⟩) f.length f.length, .slice none 0 0, .int .i64 most, .func (.func g) #[] lb] 66)
      simpa using this, blk_alloc (heap_alloc_new w _) _⟩
    row := Kd.R_nil _ _ _ _ _
    nF := fun hk => by have := HE.out.bd HI.out _ hk; omega
    nG := fun hk => by have := HE.out.bd HI.out _ hk; omega
    size := HWB.out.size }⟩
  generalize ((w.alloc (.cells (f.map (Value.int .i64)).toArray 3)).alloc (.cells #[.int .i64 (f.length : Int), .int .i64 H, .slice (some ⟨w.heap.size, 0, none⟩) f.length f.length, .slice none 0 0, .int .i64 most, .func (.func g) #[] lb] 66)) = w1 at HWB HFS ⊢
  refine (filler_fill HE.out w.heap.size (w.heap.size + 1) w.heap.size H most (by omega) (by omega) (Nat.le_refl _) n f [] _ s X w1 HFS.out (by rw [← HF.out]; exact fits_rep _ _ (by omega) (by omega)) (by rw [← HF.out, left_rep _ _ (by omega)]; exact HN.out) (by omega) (fun c _ => by rw [← HF.out, ht_rep]; omega) ?_ HQ.out).mono ?_
  · rw [← HF.out, left_rep _ _ (by omega)]
    have : f.length * H.toNat ≤ 100 * 100 := Nat.mul_le_mul hW.2 (by omega)
    simp only [List.length_nil]
    omega
  · intro e w' hp
    obtain ⟨he, X', vS', h1, h2, h3⟩ := hp
    subst he
    have H1 := Aside0.mk h1.st
    have H2 : Aside0 (∀ k, X' k → X k ∨ w.heap.size ≤ k) := ⟨fun k hk => by
      rcases h2 k hk with h | h
      · exact .inl h
      · exact .inr (Nat.le_trans HWB.out.size h)⟩
    have H3 : Aside0 (Fr w.heap.size X w w') := ⟨(Fr.of_below HWB.out (Nat.le_refl _)).trans h3 (Nat.le_refl _) (fun _ _ hx => hx)⟩
    clear h1 h2 h3
    go_wp2_with fail
    go_end0
    exact ⟨⟨_, rfl⟩, X', H1.out, H2.out, H3.out⟩
end Go.Proofs.Ythmcdiekgfgpdaa.P

namespace Go.Proofs.Ythmcdiekgfgpdaa.P
open Go.RowKit Go.Proofs.YthmcdiekgfgpdaaW.PrintWords Go.Proofs.YthmcdiekgfgpdaaW.PrintLast Go.Proofs.YthmcdiekgfgpdaaW.PrintMore
attribute [local go_sem] max2_int min2_int max_two min_two max_three min_three max_four min_four
set_option linter.unusedVariables false
set_option linter.unusedSimpArgs false
open Go.Proofs.Ythmcdiekgfgpdaa.T Go.Proofs.Ythmcdiekgfgpdaa.Aid
theorem R_emptyq (W : World) (base : Nat) (hb : base ≤ W.heap.size) : Kd.R k42 42 (W.alloc (.cells #[] 42)) base (fun _ => True) (.slice (some ⟨W.heap.size, 0, none⟩) 0 0) [] :=
  ⟨fun k hk => trivial, [], World.ownsRow_lit (base := base) (e := 42) (size := 3) W #[] 0 hb (by simp [maxLen]) (by simp), Reps.none _ _⟩
set_option maxHeartbeats 1000000 in
theorem slices_Clone_sq (l : List Sq) (A : Option Addr) (c : Nat) (w : World) (hr : Kd.C k42 w A l.length l) (hc : l.length ≤ c) (hl : l.length ≤ 1000000) :
    Calls Try.prog 39 #[.slice A l.length c] w fun e w' => ∃ v, e = .returned v ∧ Kd.R k42 42 w' w.heap.size (fun _ => True) v l ∧ Below w.heap.size w w' := by
  have q36 : ∀ (w : World) (a : Option Addr) (n c n' c' : Nat), (binOp .eql 27 (.slice a n c) (.slice none n' c')).run Try.prog w = .ok (.bool a.isNone) w := fun w a n c n' c' => Go.Lib.run_eql_slice_nil w _ _ a n c n' c' Try.underlying27
  cases A with
  | none =>
    have h0 : l = [] := by
      cases l with
      | nil => rfl
      | cons x l =>
        obtain ⟨ad, e, _⟩ := at_T42 hr 0 (by omega) (by simp)
        cases e
    subst h0
    go_enter Try.func39, Try.ntmps39
    go_wp2_with fail
    go_ret
    exact ⟨_, rfl, Kd.R_nil _ _ _ _ _, by repeat (first | exact Below.refl _ _ | apply below_alloc | apply pw_below_drewN)⟩
  | some ad =>
    have HR := Aside0.mk hr
    clear hr
    go_enter Try.func39, Try.ntmps39
    go_wp2_with (first | ((with_reducible refine gate_builtin (b := .append) (xs := #[.tmp 5, .tmp 6]) rfl ?_); at_builtin; refine Kd.R_append_rows k42 (w0 := w) w.heap.size rfl (.tmp 5) (.tmp 6) 27 42 (.agg #[.int .i64 0, .int .i64 0, .int .i64 0]) 24 rfl Try.underlying27 info42 rfl (by decide) (by omega) (.slice (some ⟨w.heap.size, 0, none⟩) 0 0) [] l _ _ _ (fun _ => True) (fun _ => False) rfl rfl (R_emptyq w _ (Nat.le_refl _)) ?aR (fun _ _ h => h) (fun _ h => h.elim) (fun _ _ => trivial) (below_alloc (Below.refl _ _) _) (below_alloc (Below.refl _ _) _).size ?aL ?_; (case aR => exact (show Kd.C k42 _ (some ad) l.length l from Kd.C_alloc HR.out _)); (case aL => simp; omega); intro v1 w1 ho hb hg hat; rw [List.nil_append] at ho; have HO := Aside0.mk ho; have HB := Aside0.mk hb; clear ho hb hg hat))
    go_ret
    exact ⟨_, rfl, HO.out, HB.out⟩
end Go.Proofs.Ythmcdiekgfgpdaa.P

namespace Go.Proofs.Ythmcdiekgfgpdaa.P
open Go.RowKit Go.Proofs.YthmcdiekgfgpdaaW.PrintWords Go.Proofs.YthmcdiekgfgpdaaW.PrintLast Go.Proofs.YthmcdiekgfgpdaaW.PrintMore
attribute [local go_sem] max2_int min2_int max_two min_two max_three min_three max_four min_four
set_option linter.unusedVariables false
set_option linter.unusedSimpArgs false
open Go.Proofs.Ythmcdiekgfgpdaa.T Go.Proofs.Ythmcdiekgfgpdaa.Aid
def CuI_allCuts (base B C D : Nat) (a b : Int) (s : List Ct) (W : World) (X : Nat → Prop) : Prop :=
  ∃ (v : Value) (ok : Nat → Prop), W.heap[B]? = some (.cells #[v] 25 (0, 0)) ∧ W.heap[C]? = some (.cells #[.int .i64 a] 3 (0, 0)) ∧ W.heap[D]? = some (.cells #[.int .i64 b] 3 (0, 0)) ∧
    Kd.S k29 29 W base ok v s ∧ (∀ k, ok k → k ≠ B ∧ k ≠ C ∧ k ≠ D ∧ k < W.heap.size) ∧ ∀ k, X k ↔ (k = B ∨ k = C ∨ k = D ∨ ok k)
theorem S_sl_allCuts {α : Type} {d : Kd α} {w : World} {base e : Nat} {ok : Nat → Prop} {v : Value} {xs : List α} (h : Kd.S d e w base ok v xs) : ∃ A n c, v = .slice A n c := by
  obtain ⟨A, c, e⟩ := Kd.S_slice h
  exact ⟨_, _, _, e⟩
theorem CuI_put_allCuts {base B C D : Nat} {a b : Int} {s s' : List Ct} {W W1 w2 : World} {X ok : Nat → Prop} {v v1 : Value} (hBC : B ≠ C) (hBD : B ≠ D)
    (h1 : W.heap[B]? = some (.cells #[v] 25 (0, 0))) (h2 : W.heap[C]? = some (.cells #[.int .i64 a] 3 (0, 0))) (h3 : W.heap[D]? = some (.cells #[.int .i64 b] 3 (0, 0)))
    (hown : ∀ k, v.ownBlock = some k → ok k) (h5 : ∀ k, ok k → k ≠ B ∧ k ≠ C ∧ k ≠ D ∧ k < W.heap.size) (h7 : ∀ k, X k ↔ (k = B ∨ k = C ∨ k = D ∨ ok k))
    (hb : Below W.heap.size W W1) (hg : W1.grownBy w2 v.ownBlock) (ho : Kd.S k29 29 w2 base (fun k => ok k ∨ W.heap.size ≤ k) v1 s') (hbe : Below base W w2) :
    ∃ X', CuI_allCuts base B C D a b s' (w2.setCell ⟨B, 0, none⟩ v1) X' ∧ (∀ k, X' k → X k ∨ W.heap.size ≤ k) ∧ Fr W.heap.size X W (w2.setCell ⟨B, 0, none⟩ v1) := by
  have g1 := blk_below h1 hb
  have g2 := blk_below h2 hb
  have g3 := blk_below h3 hb
  have hB := blk_lt h1
  have hC := blk_lt h2
  have hD := blk_lt h3
  have nB : some B ≠ v.ownBlock := fun e => (h5 B (hown B e.symm)).1 rfl
  have nC : some C ≠ v.ownBlock := fun e => (h5 C (hown C e.symm)).2.1 rfl
  have nD : some D ≠ v.ownBlock := fun e => (h5 D (hown D e.symm)).2.2.1 rfl
  have k1 := blk_grown g1 hg nB
  have k2 := blk_grown g2 hg nC
  have k3 := blk_grown g3 hg nD
  have hsz : w2.heap.size = (w2.setCell ⟨B, 0, none⟩ v1).heap.size := by simp [World.setCell]
  refine ⟨fun k => k = B ∨ k = C ∨ k = D ∨ ((ok k ∨ W.heap.size ≤ k) ∧ k < w2.heap.size), ⟨v1, fun k => (ok k ∨ W.heap.size ≤ k) ∧ k < w2.heap.size, blk_put k1 0 _ rfl, blk_far k2 (p := ⟨B, 0, none⟩) (Ne.symm hBC) _, blk_far k3 (p := ⟨B, 0, none⟩) (Ne.symm hBD) _, ?_, fun k hk => ?_, fun k => Iff.rfl⟩, fun k hk => ?_, ?_⟩
  · exact Kd.S_far (p := ⟨B, 0, none⟩) (Kd.S_mono (Kd.S_bound ho) (fun k hk => ⟨hk.1, hk.2.2.1⟩)) (fun k hk => by
      rcases hk.1 with h | h
      · exact (h5 k h).1
      · simp only; omega) _
  · rw [← hsz]
    rcases hk.1 with h | h
    · exact ⟨(h5 k h).1, (h5 k h).2.1, (h5 k h).2.2.1, hk.2⟩
    · exact ⟨by omega, by omega, by omega, hk.2⟩
  · rcases hk with h | h | h | h
    · exact .inl ((h7 k).2 (.inl h))
    · exact .inl ((h7 k).2 (.inr (.inl h)))
    · exact .inl ((h7 k).2 (.inr (.inr (.inl h))))
    · rcases h.1 with h | h
      · exact .inl ((h7 k).2 (.inr (.inr (.inr h))))
      · exact .inr h
  · refine ⟨hbe.os, hbe.tape, hbe.output, by rw [← hsz]; exact hbe.size, fun k hk hn => ?_⟩
    have hkB : k ≠ B := fun e => hn ((h7 k).2 (.inl e))
    rw [Below.heap_setCell w2 _ _ k hkB]
    exact (hg.block k (Nat.lt_of_lt_of_le hk hb.size) (fun e => hn ((h7 k).2 (.inr (.inr (.inr (hown k e.symm))))))).trans (hb.block k hk)
theorem cutM_allCuts {W V : World} {base : Nat} {A1 : Option Addr} {n1 c1 : Nat} {sq : List Sq} (a b : Int) (hr : Kd.R k42 42 V W.heap.size (fun _ => True) (.slice A1 n1 c1) sq) (hb : base ≤ W.heap.size) :
    (k29).M V base (fun k => W.heap.size ≤ k) (⟨a, b, sq⟩ : Ct) [.int .i64 a, .int .i64 b, .slice A1 n1 c1] :=
  k29_mkM V base _ ⟨a, b, sq⟩ (Kd.R_lower (Kd.R_mono (Kd.R_bound hr) (fun k hk => hk.2.1)) hb)
set_option maxHeartbeats 8000000 in
theorem cut_each_allCuts (base B C D : Nat) (hBC : B ≠ C) (hBD : B ≠ D) (hbB : base ≤ B) (a b : Int) : Each 38 #[.pointer (some ⟨B, 0, none⟩), .pointer (some ⟨C, 0, none⟩), .pointer (some ⟨D, 0, none⟩)] (fun s t => s.length ≤ 1000000000000 ∧ t.length ≤ 1000000) (fun s t => (s ++ [⟨a, b, t⟩], true)) (CuI_allCuts base B C D a b) where
  bd := fun {s W X} h k hk => by
    obtain ⟨v, ok, h1, h2, h3, h4, h5, h7⟩ := h
    rcases (h7 k).1 hk with rfl | rfl | rfl | hk
    · exact blk_lt h1
    · exact blk_lt h2
    · exact blk_lt h3
    · exact (h5 k hk).2.2.2
  mv := fun {s W W' X} h hm => by
    obtain ⟨v, ok, h1, h2, h3, h4, h5, h7⟩ := h
    refine ⟨v, ok, (hm B ((h7 B).2 (.inl rfl))).trans h1, (hm C ((h7 C).2 (.inr (.inl rfl)))).trans h2, (hm D ((h7 D).2 (.inr (.inr (.inl rfl))))).trans h3, Kd.S_step h4 (fun k hk _ => hm k ((h7 k).2 (.inr (.inr (.inr hk))))), fun k hk => ⟨(h5 k hk).1, (h5 k hk).2.1, (h5 k hk).2.2.1, ?_⟩, h7⟩
    have e := hm k ((h7 k).2 (.inr (.inr (.inr hk))))
    have hlt := (h5 k hk).2.2.2
    rw [Array.getElem?_eq_getElem hlt] at e
    exact blk_lt e
  eg := enters_of Try.func38 (by kernel_rfl) rfl
  call := fun s W X A c sq hI hC hc hq => by
    obtain ⟨v, ok, h1, h2, h3, h4, h5, h7⟩ := hI
    have hbW : base ≤ W.heap.size := Nat.le_trans hbB (Nat.le_of_lt (blk_lt h1))
    have hown : ∀ k, v.ownBlock = some k → ok k := h4.choose_spec.1
    have HPUT := Aside0.mk (fun (W1 w2 : World) (v1 : Value) => CuI_put_allCuts (s := s) (s' := s ++ [⟨a, b, sq⟩]) (base := base) (a := a) (b := b) (W1 := W1) (w2 := w2) (v1 := v1) hBC hBD h1 h2 h3 hown h5 h7)
    have HCELL : Aside0 (∀ V, Below W.heap.size W V → V.cell? ⟨B, 0, none⟩ = some v ∧ V.cell? ⟨C, 0, none⟩ = some (.int .i64 a) ∧ V.cell? ⟨D, 0, none⟩ = some (.int .i64 b)) := ⟨fun V hV => ⟨(blk_cell (blk_below h1 hV) 0).trans rfl, (blk_cell (blk_below h2 hV) 0).trans rfl, (blk_cell (blk_below h3 hV) 0).trans rfl⟩⟩
    have HGR : Aside0 (∀ V w2, Below W.heap.size W V → V.grownBy w2 v.ownBlock → w2.cell? ⟨B, 0, none⟩ = some v ∧ w2.frozen? ⟨B, 0, none⟩ = false) := ⟨fun V w2 hV hg => by
      have k1 := blk_grown (blk_below h1 hV) hg (fun e => (h5 B (hown B e.symm)).1 rfl)
      exact ⟨(blk_cell k1 0).trans rfl, blk_frozen k1 0⟩⟩
    have HSO : Aside0 (∀ V, Below W.heap.size W V → Kd.S k29 29 V base (fun k => (ok k ∨ W.heap.size ≤ k) ∧ ¬ W.heap.size ≤ k) v s) := ⟨fun V hV => Kd.S_mono (Kd.S_below h4 hV) (fun k hk => ⟨.inl hk, by have := (h5 k hk).2.2.2; omega⟩)⟩
    have HNE : Aside0 (∀ k, W.heap.size ≤ k → (ok k ∨ W.heap.size ≤ k) ∧ some k ≠ v.ownBlock) := ⟨fun k hk => ⟨.inr hk, fun e => by have := (h5 k (hown k e.symm)).2.2.2; omega⟩⟩
    have HCL : Aside0 (∀ V, Below W.heap.size W V → Calls Try.prog 39 #[.slice A sq.length c] V fun e w' => ∃ v0, e = .returned v0 ∧ Kd.R k42 42 w' W.heap.size (fun _ => True) v0 sq ∧ Below W.heap.size W w') := ⟨fun V hV => by
      refine (slices_Clone_sq sq A c V (Kd.C_below hC hV) hc hq.2).mono ?_
      rintro e w' ⟨v0, rfl, hr, hb⟩
      exact ⟨v0, rfl, Kd.R_lower hr hV.size, hV.trans (hb.mono hV.size)⟩⟩
    have HLN := Aside0.mk hq.1
    have HBW := Aside0.mk hbW
    have hx := HCELL.out W (Below.refl _ _)
    have y1 := hx.1
    have y2 := hx.2.1
    have y3 := hx.2.2
    obtain ⟨AO, nO, cO, eO⟩ := S_sl_allCuts h4
    have hu38 := Try.underlying29
    clear h1 h2 h3 h4 h5 h7 hC hc hq hown hx hbW
    subst eO
    go_enter Try.func38, Try.ntmps38
    go_wp2_with fail
    go_region_law (first | (go_simp; go_at_call 39; refine (HCL.out _ (by first | exact Below.refl _ _ | exact below_drew (Below.refl _ _))).mono ?_; rintro e w' ⟨v0, rfl, hr, hb⟩; obtain ⟨A1, n1, c1, e1⟩ := R_sl hr; subst e1; have HR1 := Aside0.mk hr; have HB1 := Aside0.mk hb; have hx := HCELL.out _ hb; have x1 := hx.1; have x2 := hx.2.1; have x3 := hx.2.2; have x4 := (HCELL.out (w'.alloc (.cells #[.int .i64 a, .int .i64 b, .slice A1 n1 c1] 29)) (below_alloc hb _)).1; clear hx hr hb) | (refine Kd.S_append_step k29 (w0 := W) base (by simp [Region.wanted]) (.tmp 6) (.tmp 12) 25 29 (.agg #[.int .i64 0, .int .i64 0, .slice none 0 0]) 40 rfl Try.underlying25 info29 rfl (by decide) (by omega) (.slice AO nO cO) s (⟨a, b, sq⟩ : Ct) [.int .i64 a, .int .i64 b, .slice A1 n1 c1] (fun k => ok k ∨ W.heap.size ≤ k) (fun k => W.heap.size ≤ k) rfl rfl (cutM_allCuts a b HR1.out HBW.out) HNE.out (fun k hk => .inr (Nat.le_trans HB1.out.size hk)) (HSO.out _ HB1.out) (HB1.out.mono HBW.out) (Nat.le_trans HBW.out HB1.out.size) (by have := HLN.out; omega) ?_; intro v1 w1 ho hb hg hat; obtain ⟨A2, n2, c2, e2⟩ := S_sl_allCuts ho; subst e2; have HP := Aside0.mk (HPUT.out _ _ _ HB1.out hg ho hb); have hbx := HGR.out _ _ HB1.out hg; have hbx1 := hbx.1; have hbx2 := hbx.2; clear ho hb hg hat hbx))
    all_goals
      go_wp2_with fail
      go_ret
      exact ⟨rfl, HP.out⟩
theorem foldl_cuts_allCuts (a b : Int) : ∀ (l : List (List Sq)) (s : List Ct), l.foldl (fun s t => s ++ [(⟨a, b, t⟩ : Ct)]) s = s ++ l.map (fun t => (⟨a, b, t⟩ : Ct))
  | [], s => by simp
  | t :: l, s => by rw [List.foldl_cons, foldl_cuts_allCuts a b l, List.map_cons, List.append_assoc]; rfl
theorem runQ_cuts_allCuts (a b : Int) : ∀ (l : List (List Sq)) (s : List Ct), s.length + l.length ≤ 1000000000000 → (∀ t ∈ l, t.length ≤ 1000000) → RunQ (fun (s : List Ct) (t : List Sq) => s.length ≤ 1000000000000 ∧ t.length ≤ 1000000) (fun s t => (s ++ [(⟨a, b, t⟩ : Ct)], true)) s l
  | [], _, _, _ => trivial
  | t :: l, s, h, ht => ⟨⟨by simp at h; omega, ht t List.mem_cons_self⟩, fun _ => runQ_cuts_allCuts a b l _ (by simp at h ⊢; omega) (fun x hx => ht x (List.mem_cons_of_mem _ hx))⟩
theorem S_empty_allCuts (W : World) (base : Nat) (ok : Nat → Prop) (hb : base ≤ W.heap.size) (ho : ok W.heap.size) : Kd.S k29 29 (W.alloc (.cells #[] 29)) base ok (.slice (some ⟨W.heap.size, 0, none⟩) 0 0) [] :=
  ⟨fun _ => 0, fun k hk => by simp [Value.ownBlock] at hk; subst hk; exact ho, [], World.ownsRow_lit (base := base) (e := 29) (size := 3) W #[] 0 hb (by simp [maxLen]) (by simp), Reps.none _ _⟩
theorem CuI_start_allCuts (w : World) (a b : Int) :
    CuI_allCuts w.heap.size (w.heap.size + 3) w.heap.size (w.heap.size + 1) a b [] ((((w.alloc (.cells #[.int .i64 a] 3)).alloc (.cells #[.int .i64 b] 3)).alloc (.cells #[] 29)).alloc (.cells #[.slice (some ⟨w.heap.size + 2, 0, none⟩) 0 0] 25))
      (fun k => k = w.heap.size + 3 ∨ k = w.heap.size ∨ k = w.heap.size + 1 ∨ k = w.heap.size + 2) := by
  have h := S_empty_allCuts ((w.alloc (.cells #[.int .i64 a] 3)).alloc (.cells #[.int .i64 b] 3)) w.heap.size (fun k => k = w.heap.size + 2) (by simp; omega) (by simp)
  rw [show ((w.alloc (.cells #[.int .i64 a] 3)).alloc (.cells #[.int .i64 b] 3)).heap.size = w.heap.size + 2 from by simp] at h
  have hB := heap_alloc_new (((w.alloc (.cells #[.int .i64 a] 3)).alloc (.cells #[.int .i64 b] 3)).alloc (.cells #[] 29)) (.cells #[.slice (some ⟨w.heap.size + 2, 0, none⟩) 0 0] 25)
  have hD := heap_alloc_new (w.alloc (.cells #[.int .i64 a] 3)) (.cells #[.int .i64 b] 3)
  rw [show (((w.alloc (.cells #[.int .i64 a] 3)).alloc (.cells #[.int .i64 b] 3)).alloc (.cells #[] 29)).heap.size = w.heap.size + 3 from by simp] at hB
  rw [show (w.alloc (.cells #[.int .i64 a] 3)).heap.size = w.heap.size + 1 from by simp] at hD
  exact ⟨_, fun k => k = w.heap.size + 2, hB, blk_alloc (blk_alloc (blk_alloc (heap_alloc_new w _) _) _) _, blk_alloc (blk_alloc hD _) _, Kd.S_alloc h _, fun k hk => by subst hk; simp, fun k => Iff.rfl⟩
theorem prod_le {W H : Int} (h0 : 1 ≤ W) (h1 : 1 ≤ H) (h : W * H ≤ 16) : W ≤ 16 ∧ H ≤ 16 := by
  have e1 : W * 1 ≤ W * H := Int.mul_le_mul_of_nonneg_left h1 (by omega)
  have e2 : 1 * H ≤ W * H := Int.mul_le_mul_of_nonneg_right h0 (by omega)
  omega
def impl_allCuts.f (a0 a1 : Int) : Option (List Ct) := if 1 ≤ a0 ∧ 1 ≤ a1 ∧ a0 * a1 ≤ 16 then some ((tilings a0.toNat a1).map (fun t => (⟨a0, a1, t⟩ : Ct))) else none
set_option maxHeartbeats 4000000 in
theorem impl_allCuts.calls (a0 a1 : Int) (r : List Ct) (w : World) (h : impl_allCuts.f a0 a1 = some r) :
    Calls Try.prog 32 #[.int .i64 a0, .int .i64 a1] w fun e w' => ∃ v0_ : Value, e = .returned v0_ ∧ Kd.S k29 29 w' w.heap.size (fun _ => True) v0_ r ∧ Below w.heap.size w w' := by
  unfold impl_allCuts.f at h
  by_cases hr : 1 ≤ a0 ∧ 1 ≤ a1 ∧ a0 * a1 ≤ 16
  · rw [if_pos hr] at h
    have hp := prod_le hr.1 hr.2.1 hr.2.2
    obtain ⟨W, rfl⟩ : ∃ W : Nat, a0 = W := ⟨a0.toNat, by omega⟩
    simp only [Int.toNat_natCast] at h
    have hm0 : 0 ≤ (W : Int) * a1 := Int.mul_nonneg (by omega) (by omega)
    have hcnt := list_count W a1 (by omega) (by omega) hr.2.2
    have hfill := fillP_all W a1 (by omega) (by omega)
    have HEACH := Aside0.mk (cut_each_allCuts w.heap.size (w.heap.size + 3) w.heap.size (w.heap.size + 1) (by omega) (by omega) (by omega) (W : Int) a1)
    have hrun := runQ_cuts_allCuts (W : Int) a1 (tilings W a1) [] (by simp; omega) (fun t ht => by
      have h1 := (til_len W a1 (by omega) (by omega) t ht).2
      have h2 := hr.2.2
      omega)
    have HFILLS := Aside0.mk (fun V hI => impl_fills HEACH.out W a1 ((W : Int) * a1) (by omega) (by omega) (W * a1.toNat + 1) (by omega) [] (fun k => k = w.heap.size + 3 ∨ k = w.heap.size ∨ k = w.heap.size + 1 ∨ k = w.heap.size + 2) V hI (by rw [hfill]; exact hrun))
    rw [hfill, foldE_true _ (fun _ _ => rfl)] at HFILLS
    have HRES : Aside0 ((tilings W a1).foldl (fun s t => s ++ [(⟨(W : Int), a1, t⟩ : Ct)]) [] = r) := ⟨by rw [foldl_cuts_allCuts, List.nil_append]; exact Option.some.inj h⟩
    have HI := Aside0.mk (CuI_start_allCuts w (W : Int) a1)
    obtain ⟨M, hM⟩ : ∃ z : Int, (W : Int) * a1 = z := ⟨_, rfl⟩
    have hw2 : wrap64 ((W : Int) * a1) = M := by rw [w64 (by omega) (by omega)]; exact hM
    rw [hM] at HFILLS
    clear hcnt hfill hrun h hM hm0 hr hp
    go_enter Try.func32, Try.ntmps32
    have HW1 : Aside0 (Below w.heap.size w ((((w.alloc (.cells #[.int .i64 (W : Int)] 3)).alloc (.cells #[.int .i64 a1] 3)).alloc (.cells #[] 29)).alloc (.cells #[.slice (some ⟨w.heap.size + 2, 0, none⟩) 0 0] 25))) := ⟨by repeat (first | exact Below.refl _ _ | apply below_alloc)⟩
    go_upto_region 2 with (fail)
    generalize ((((w.alloc (.cells #[.int .i64 (W : Int)] 3)).alloc (.cells #[.int .i64 a1] 3)).alloc (.cells #[] 29)).alloc (.cells #[.slice (some ⟨w.heap.size + 2, 0, none⟩) 0 0] 25)) = w1 at HI HW1 ⊢
    have HCELL : Aside0 (∀ V, Below w1.heap.size w1 V → V.cell? ⟨w.heap.size, 0, none⟩ = some (.int .i64 (W : Int)) ∧ V.cell? ⟨w.heap.size + 1, 0, none⟩ = some (.int .i64 a1)) := ⟨fun V hV => by
      obtain ⟨v, ok, h1, h2, h3, _⟩ := HI.out
      exact ⟨(blk_cell (blk_below h2 hV) 0).trans rfl, (blk_cell (blk_below h3 hV) 0).trans rfl⟩⟩
    have HF3 : Aside0 (∀ V, Below w1.heap.size w1 V → Calls Try.prog 37 #[.int .i64 (W : Int), .int .i64 a1, .int .i64 M, .func (.func 38) #[] #[.pointer (some ⟨w.heap.size + 3, 0, none⟩), .pointer (some ⟨w.heap.size, 0, none⟩), .pointer (some ⟨w.heap.size + 1, 0, none⟩)]] V fun e w' => (∃ v, e = .returned v) ∧ ∃ A n c, w'.cell? ⟨w.heap.size + 3, 0, none⟩ = some (.slice A n c) ∧ Kd.S k29 29 w' w.heap.size (fun _ => True) (.slice A n c) r ∧ Below w.heap.size w w') := ⟨fun V hV => by
      refine (HFILLS.out V (HEACH.out.mv HI.out (fun k hk => hV.block k (HEACH.out.bd HI.out k hk)))).mono ?_
      rintro e w' ⟨hv, X', ⟨v, ok, h1, h2, h3, h4, h5, h7⟩, hsub, hfr⟩
      rw [HRES.out] at h4
      obtain ⟨A, n, c, e0⟩ := S_sl_allCuts h4
      subst e0
      refine ⟨hv, A, n, c, (blk_cell h1 0).trans rfl, Kd.S_mono h4 (fun _ _ => trivial), ?_⟩
      have hWV : Below w.heap.size w V := HW1.out.trans (hV.mono HW1.out.size)
      exact ⟨hfr.os.trans hWV.os, hfr.tape.trans hWV.tape, hfr.output.trans hWV.output, Nat.le_trans hWV.size hfr.size, fun k hk => (hfr.block k (Nat.lt_of_lt_of_le hk hWV.size) (fun h => by omega)).trans (hWV.block k hk)⟩⟩
    have hx := HCELL.out w1 (Below.refl _ _)
    have y1 := hx.1
    have y2 := hx.2
    clear hx
    go_wp2_with (go_at_call 37; refine (HF3.out _ (Below.refl _ _)).mono ?_; rintro e w3 ⟨⟨v, rfl⟩, A, n, c, hcell, hS, hbw⟩; have HS := Aside0.mk hS; have HBW := Aside0.mk hbw; clear hS hbw)
    go_ret
    exact ⟨_, rfl, HS.out, HBW.out⟩
  · rw [if_neg hr] at h; cases h
end Go.Proofs.Ythmcdiekgfgpdaa.P

namespace Go.Proofs.Ythmcdiekgfgpdaa.P
open Go.RowKit Go.Proofs.YthmcdiekgfgpdaaW.PrintWords Go.Proofs.YthmcdiekgfgpdaaW.PrintLast Go.Proofs.YthmcdiekgfgpdaaW.PrintMore
attribute [local go_sem] max2_int min2_int max_two min_two max_three min_three max_four min_four
set_option linter.unusedVariables false
set_option linter.unusedSimpArgs false
def impl_AllCuts.f (a0 : Int) (a1 : Int) : Option ((List (S29)) × Bool) := (impl_isListed.f a0 a1).bind fun t101 => (if t101 = true then ((impl_allCuts.f a0 a1).bind fun t102 => (some (t102, true))) else (some (([] : List (S29)), false)))
set_option maxHeartbeats 8000000 in
set_option maxRecDepth 100000 in
theorem impl_AllCuts.calls (a0 : Int) (a1 : Int) (r1 : List (S29)) (r2 : Bool) (w : World) (h : impl_AllCuts.f a0 a1 = some (r1, r2)) :
    Calls Try.prog 19 #[.int .i64 a0, .int .i64 a1] w fun e w' => ∃ v0_ : Value, e = .returned (.tuple #[v0_, .bool r2]) ∧ Kd.S k29 29 w' w.heap.size (fun _ => True) v0_ r1 ∧ Below w.heap.size w w' := by
  have HB := Aside0.mk (Below.refl w.heap.size w)
  have H : ((impl_isListed.f a0 a1).bind fun t101 => (if t101 = true then ((impl_allCuts.f a0 a1).bind fun t102 => (some (t102, true))) else (some (([] : List (S29)), false)))) = some (r1, r2) := h
  clear h
  replace H := Option.bind_eq_some_iff.mp H
  obtain ⟨t101, A30, H⟩ := H
  replace H : (if t101 = true then ((impl_allCuts.f a0 a1).bind fun t102 => (some (t102, true))) else (some (([] : List (S29)), false))) = some (r1, r2) := H
  have A3 := Aside0.mk A30
  clear A30
  by_cases c4 : t101 = true
  · subst c4
    have H1 : ((impl_allCuts.f a0 a1).bind fun t102 => (some (t102, true))) = some (r1, r2) := by rw [if_pos rfl] at H; exact H
    clear H
    have H := H1
    clear H1
    replace H := Option.bind_eq_some_iff.mp H
    obtain ⟨t102, A50, H⟩ := H
    replace H : (some (t102, true)) = some (r1, r2) := H
    have A5 := Aside0.mk A50
    clear A50
    simp only [Option.some.injEq, Prod.mk.injEq] at H
    obtain ⟨rfl, rfl⟩ := H
    go_enter Try.func19, Try.ntmps19
    go_wp2_with (first | ((with_reducible refine gate_callee (f := 31) rfl ?_); refine goesL_ (some 8) rfl rfl Try.func31 (by kernel_rfl) rfl #[.int .i64 a0, .int .i64 a1] rfl (by (try simp only [List.map_toArray, List.map_cons, List.map_nil]); first | done | rfl | (simp only [List.length_drop, List.length_take]; rfl)) ?_; (with_reducible refine (impl_isListed.calls a0 a1 true _ A3.out).mono ?_); rintro e w' ⟨rfl, ⟨nd, rfl⟩⟩; refine ⟨_, rfl, ?_⟩) | ((with_reducible refine gate_callee (f := 32) rfl ?_); refine goesL_ (some 12) rfl rfl Try.func32 (by kernel_rfl) rfl #[.int .i64 a0, .int .i64 a1] rfl (by (try simp only [List.map_toArray, List.map_cons, List.map_nil]); first | done | rfl | (simp only [List.length_drop, List.length_take]; rfl)) ?_; (with_reducible refine (impl_allCuts.calls a0 a1 t102 _ A5.out).mono ?_); rintro e w6 ⟨v103, rfl, ho0, hb⟩; refine ⟨_, rfl, ?_⟩; have n0_ := Aside0.mk (Kd.S_lower ho0 (below_size (by repeat (first | (with_reducible first | exact HB.out | apply below_alloc | apply pw_below_drewN | apply below_drew1) | exact HB.out)))); have n1_ := Aside0.mk (below_step (by repeat (first | (with_reducible first | exact HB.out | apply below_alloc | apply pw_below_drewN | apply below_drew1) | exact HB.out)) hb); clear HB; have HO104 := n0_; have HB := n1_; clear n0_ n1_; (try clear hb); (try clear hb2); (try clear hk); (try clear hi); (try clear ho0)))
    go_ret2
    exact ⟨_, by first | rfl | (simp [errW_none, errW_some] <;> rfl) | (simp [*, errW_none, errW_some] <;> rfl), by (with_reducible repeat (first | apply Kd.S_alloc | apply Kd.S_drewN | apply Kd.S_drew)); exact HO104.out, by repeat (first | (with_reducible first | exact HB.out | apply below_alloc | apply pw_below_drewN | apply below_drew1) | exact HB.out)⟩
  · replace c4 := Bool.eq_false_iff.mpr c4
    subst c4
    have H1 : (some (([] : List (S29)), false)) = some (r1, r2) := by rw [if_neg (show ¬ (false = true) by decide)] at H; exact H
    clear H
    have H := H1
    clear H1
    simp only [Option.some.injEq, Prod.mk.injEq] at H
    obtain ⟨rfl, rfl⟩ := H
    go_enter Try.func19, Try.ntmps19
    go_wp2_with (first | ((with_reducible refine gate_callee (f := 31) rfl ?_); refine goesL_ (some 8) rfl rfl Try.func31 (by kernel_rfl) rfl #[.int .i64 a0, .int .i64 a1] rfl (by (try simp only [List.map_toArray, List.map_cons, List.map_nil]); first | done | rfl | (simp only [List.length_drop, List.length_take]; rfl)) ?_; (with_reducible refine (impl_isListed.calls a0 a1 false _ A3.out).mono ?_); rintro e w' ⟨rfl, ⟨nd, rfl⟩⟩; refine ⟨_, rfl, ?_⟩))
    go_ret2
    exact ⟨_, by first | rfl | (simp [errW_none, errW_some] <;> rfl) | (simp [*, errW_none, errW_some] <;> rfl), by first | exact Kd.S_nil _ _ _ _ _ | exact Kd.N_nil _ _ _ _ _ | exact Kd.V_nil _ _ _ _ _ | exact Kd.Q_nil _ _ _ _ _ | exact Kd.R_nil _ _ _ _ _, by repeat (first | (with_reducible first | exact HB.out | apply below_alloc | apply pw_below_drewN | apply below_drew1) | exact HB.out)⟩
end Go.Proofs.Ythmcdiekgfgpdaa.P

namespace Go.Proofs.Ythmcdiekgfgpdaa.P
open Go.RowKit Go.Proofs.YthmcdiekgfgpdaaW.PrintWords Go.Proofs.YthmcdiekgfgpdaaW.PrintLast Go.Proofs.YthmcdiekgfgpdaaW.PrintMore
attribute [local go_sem] max2_int min2_int max_two min_two max_three min_three max_four min_four
set_option linter.unusedVariables false
set_option linter.unusedSimpArgs false
def impl_bit.f (a0 : Bool) : Option (Int) := if a0 = true then (some 1) else (some 0)
set_option maxHeartbeats 8000000 in
set_option maxRecDepth 100000 in
theorem impl_bit.calls (a0 : Bool) (r : Int) (w : World) (h : impl_bit.f a0 = some r) :
    Calls Try.prog 20 #[.bool a0] w fun e w' => e = .returned (.int .i64 r) ∧ Drawn0 w w' := by
  have H : (if a0 = true then (some 1) else (some 0)) = some r := h
  clear h
  by_cases c2 : a0 = true
  · subst c2
    have H1 : (some 1) = some r := by rw [if_pos rfl] at H; exact H
    clear H
    have H := H1
    clear H1
    obtain rfl := Option.some.inj H
    go_enter Try.func20, Try.ntmps20
    go_wp2
    go_ret
    exact ⟨by first | rfl | (simp; done) | (simp [*]; done), by repeat (first | exact Drawn0.refl _ | apply Drawn0.step)⟩
  · replace c2 := Bool.eq_false_iff.mpr c2
    subst c2
    have H1 : (some 0) = some r := by rw [if_neg (show ¬ (false = true) by decide)] at H; exact H
    clear H
    have H := H1
    clear H1
    obtain rfl := Option.some.inj H
    go_enter Try.func20, Try.ntmps20
    go_wp2
    go_ret
    exact ⟨by first | rfl | (simp; done) | (simp [*]; done), by repeat (first | exact Drawn0.refl _ | apply Drawn0.step)⟩
end Go.Proofs.Ythmcdiekgfgpdaa.P

namespace Go.Proofs.Ythmcdiekgfgpdaa.P
open Go.RowKit Go.Proofs.YthmcdiekgfgpdaaW.PrintWords Go.Proofs.YthmcdiekgfgpdaaW.PrintLast Go.Proofs.YthmcdiekgfgpdaaW.PrintMore
attribute [local go_sem] max2_int min2_int max_two min_two max_three min_three max_four min_four
set_option linter.unusedVariables false
set_option linter.unusedSimpArgs false
open Go.Proofs.Ythmcdiekgfgpdaa.T Go.Proofs.Ythmcdiekgfgpdaa.Aid
theorem cnt_at {w : World} {base g n cap : Nat} {ok : Nat → Prop} {L : List Ct} (h : Kd.S k29 29 w base ok (.slice (some ⟨g, 0, none⟩) n cap) L) (i : Int) (h0 : 0 ≤ i) (h1 : i < n) :
    ∃ A c, w.cell? ⟨g, i.toNat * 3, none⟩ = some (.int .i64 (rd_T29 L i).f0) ∧ w.cell? ⟨g, i.toNat * 3 + 1, none⟩ = some (.int .i64 (rd_T29 L i).f1) ∧ w.cell? ⟨g, i.toNat * 3 + 2, none⟩ = some (.slice A (rd_T29 L i).f2.length c) ∧ Kd.R k42 42 w base (fun _ => True) (.slice A (rd_T29 L i).f2.length c) (rd_T29 L i).f2 := by
  obtain ⟨oki, cs, hl, hM, hc, _, _, _⟩ := Kd.S_elem h (z29) i h0 h1
  obtain ⟨v2, rfl, hR⟩ := k29_openM hM
  obtain ⟨A, c, rfl⟩ := Kd.R_slice hR
  exact ⟨A, c, hc 0 _ rfl, hc 1 _ rfl, hc 2 _ rfl, Kd.R_mono hR (fun _ _ => trivial)⟩
def cntC (p : Ct → Bool) (L : List Ct) : Int := ((L.filter p).length : Int)
theorem cntC_step (p : Ct → Bool) (L : List Ct) (i : Nat) (hi : i < L.length) : cntC p (L.take (i + 1)) = cntC p (L.take i) + (if p (rd_T29 L (i : Int)) = true then 1 else 0) := by
  have e : rd_T29 L (i : Int) = L[i] := by unfold rd_T29; rw [Int.toNat_natCast, List.getD_eq_getElem?_getD, List.getElem?_eq_getElem hi]; rfl
  unfold cntC
  rw [List.take_succ_eq_append_getElem hi, List.filter_append, e]
  by_cases c : p L[i] = true
  · rw [if_pos c]; simp [c]
  · rw [if_neg c]; simp [c]
theorem cntC_bd (p : Ct → Bool) (L : List Ct) : 0 ≤ cntC p L ∧ cntC p L ≤ L.length := by
  unfold cntC
  have := List.length_filter_le p L
  omega
set_option maxHeartbeats 4000000 in
theorem countOf_calls (a0 a1 : Int) (g : Nat) (lb : Array Value) (p : Ct → Bool) (L : List Ct) (ok : Bool) (w : World) (hA : impl_AllCuts.f a0 a1 = some (L, ok)) (hL : L.length ≤ 4294967296) (eg : ∀ args w, (callFunc g args).run Try.prog w = .ok (.enter g args) w)
    (hp : ∀ (W : World) (x : Ct) (A : Option Addr) (c : Nat), Below w.heap.size w W → x ∈ L → Kd.C k42 W A x.f2.length x.f2 → x.f2.length ≤ c → Calls Try.prog g (#[.agg #[.int .i64 x.f0, .int .i64 x.f1, .slice A x.f2.length c]] ++ lb) W fun e w' => e = .returned (.bool (p x)) ∧ Below W.heap.size W w') :
    Calls Try.prog 10 #[.int .i64 a0, .int .i64 a1, .func (.func g) #[] lb] w fun e w' => e = .returned (.tuple #[.int .i64 (cntC p L), .bool ok]) ∧ Below w.heap.size w w' := by
  have HA := Aside0.mk (fun V => impl_AllCuts.calls a0 a1 L ok V hA)
  have HP := Aside0.mk hp
  have HL := Aside0.mk hL
  have hu38 := Try.underlying29
  clear hA hp hL
  go_enter Try.func10, Try.ntmps10
  go_wp2_with (go_at_call 19; refine (HA.out _).mono ?_; rintro e w1 ⟨vL, rfl, ho, hb⟩; obtain ⟨A0, c0, e0⟩ := Kd.S_slice ho; subst e0; have HO := Aside0.mk ho; have HB := Aside0.mk hb; clear ho hb)
  go_loopg [10, 21] L.length (fun kq v10 v21 wc => ∃ (i : Nat) (xi m : Int), i ≤ L.length ∧ L.length - i ≤ kq ∧ (i : Int) = xi ∧ v21 = .int .i64 xi ∧ v10 = .int .i64 m ∧ Aside0 (m = cntC p (L.take i)) ∧ Aside0 (Kd.S k29 29 wc w.heap.size (fun _ => True) (.slice A0 L.length c0) L) ∧ Aside0 (Below w.heap.size w wc))
  case atStart => exact ⟨0, 0, 0, by omega, by omega, rfl, rfl, rfl, ⟨rfl⟩, HO, HB⟩
  case round =>
    clear HO HB
    obtain ⟨i, xi, m, hi, hk, hxi, rfl, rfl, HM, HO, HB⟩ := hrel
    by_cases hlt : i < L.length
    · obtain ⟨gg, cap, ev, _⟩ := Kd.S_form HO.out (by omega)
      obtain ⟨rfl, rfl⟩ : A0 = some ⟨gg, 0, none⟩ ∧ c0 = cap := by injection ev with e1 e2 e3; exact ⟨e1, e3⟩
      clear ev
      have b1 : decide (xi < (L.length : Int)) = true := decide_eq_true (by omega)
      obtain ⟨A1, c1, y0, y1, y2, hR1⟩ := cnt_at HO.out xi (by omega) (by omega)
      have hst := cntC_step p L i hlt
      rw [hxi] at hst
      have hmem : rd_T29 L xi ∈ L := by
        unfold rd_T29
        rw [← hxi, Int.toNat_natCast, List.getD_eq_getElem?_getD, List.getElem?_eq_getElem hlt]
        exact List.getElem_mem _
      generalize rd_T29 L xi = q at y0 y1 y2 hR1 hst hmem
      have HR1 := Aside0.mk hR1
      have hbd := cntC_bd p (L.take i)
      have htl : (L.take i).length ≤ i := List.length_take_le _ _
      have hm := HM.out
      have hl2 := HL.out
      have q1 := eq_true (show 0 ≤ xi by omega)
      have q2 := eq_true (show xi < (L.length : Int) by omega)
      have HCALL : Aside0 (∀ V, Below wr.heap.size wr V → Calls Try.prog g (#[.agg #[.int .i64 q.f0, .int .i64 q.f1, .slice A1 q.f2.length c1]] ++ lb) V fun e w' => e = .returned (.bool (p q)) ∧ Below V.heap.size V w') := ⟨fun V hV => HP.out V q A1 c1 (HB.out.trans (hV.mono HB.out.size)) hmem (Kd.R_reads' (Kd.R_below HR1.out hV)).2.2 (Kd.R_reads' HR1.out).2.1⟩
      obtain ⟨bq, hbq⟩ : ∃ b, p q = b := ⟨_, rfl⟩
      rw [hbq] at HCALL hst
      obtain ⟨z, hz⟩ : ∃ z : Int, (if bq = true then (1 : Int) else 0) = z := ⟨_, rfl⟩
      have HBIT := Aside0.mk (fun V => impl_bit.calls bq z V (by unfold impl_bit.f; rw [← hz]; cases bq <;> rfl))
      rw [hz] at hst
      have hzb : 0 ≤ z ∧ z ≤ 1 := by rw [← hz]; cases bq <;> simp
      obtain ⟨m2, hm2⟩ : ∃ m2, m + z = m2 := ⟨_, rfl⟩
      have EM : Aside0 (wrap64 (m + z) = m2) := ⟨by rw [w64 (by omega) (by omega)]; exact hm2⟩
      have EI : Aside0 (wrap64 (xi + 1) = ((i + 1 : Nat) : Int)) := ⟨by rw [w64 (by omega) (by omega)]; omega⟩
      have HMN : Aside0 (m2 = cntC p (L.take (i + 1))) := ⟨by rw [hst, ← hm2, hm]⟩
      have HI : Aside0 (i < L.length ∧ L.length - i ≤ gk) := ⟨hlt, hk⟩
      clear hi hk hxi hlt hR1 hst hmem hbd htl hm hl2 hzb hz hbq hm2
      go_wp2_with (first | (go_at_fn g; refine (HCALL.out _ (by first | exact below_alloc (Below.refl _ _) _ | exact Below.refl _ _)).mono ?_; rintro e w2 ⟨rfl, hb⟩; have HB2 := Aside0.mk hb; clear hb) | (go_at_call 20; refine (HBIT.out _).mono ?_; rintro e w3 ⟨rfl, hb⟩; have HB3 := Aside0.mk hb; clear hb))
      go_roundg (L.length - (i + 1))
      case measure => have := HI.out; omega
      case rel => exact ⟨i + 1, _, m2, by have := HI.out; omega, Nat.le_refl _, rfl, by first | rfl | rw [EI.out], by first | rfl | rw [EM.out], HMN, ⟨Kd.S_below HO.out (below_step (below_step (below_alloc (Below.refl _ _) _) HB2.out) HB3.out.below)⟩, ⟨HB.out.trans ((below_step (below_step (below_alloc (Below.refl _ _) _) HB2.out) HB3.out.below).mono HB.out.size)⟩⟩
    · have b1 : decide (xi < (L.length : Int)) = false := decide_eq_false (by omega)
      obtain rfl : i = L.length := by omega
      have hm := HM.out
      rw [List.take_length] at hm
      have HME := Aside0.mk hm
      clear hm
      go_wp2_with fail
      go_ret2
      exact ⟨by rw [← HME.out]; rfl, HB.out⟩
end Go.Proofs.Ythmcdiekgfgpdaa.P

namespace Go.Proofs.Ythmcdiekgfgpdaa.P
open Go.RowKit Go.Proofs.YthmcdiekgfgpdaaW.PrintWords Go.Proofs.YthmcdiekgfgpdaaW.PrintLast Go.Proofs.YthmcdiekgfgpdaaW.PrintMore
attribute [local go_sem] max2_int min2_int max_two min_two max_three min_three max_four min_four
set_option linter.unusedVariables false
set_option linter.unusedSimpArgs false
open Go.Proofs.Ythmcdiekgfgpdaa.T Go.Proofs.Ythmcdiekgfgpdaa.Aid
def cmpFL (cf : Sq → Sq → Int) : List Sq → List Sq → Int
  | [], [] => 0
  | [], _ :: _ => -1
  | _ :: _, [] => 1
  | x :: a, y :: b => if cf x y = 0 then cmpFL cf a b else cf x y
set_option maxHeartbeats 2000000 in
theorem slices_CompareFunc_sq (l m : List Sq) (A B : Option Addr) (c c' : Nat) (g : Nat) (cf : Sq → Sq → Int) (w : World) (hr : Kd.C k42 w A l.length l) (hs : Kd.C k42 w B m.length m) (hl : l.length ≤ 1000000000) (hm : m.length ≤ 1000000000)
    (eg : ∀ args w, (callFunc g args).run Try.prog w = .ok (.enter g args) w)
    (hp : ∀ (W : World) (x y : Sq), Calls Try.prog g #[.agg #[.int .i64 x.f0, .int .i64 x.f1, .int .i64 x.f2], .agg #[.int .i64 y.f0, .int .i64 y.f1, .int .i64 y.f2]] W fun e w' => e = .returned (.int .i64 (cf x y)) ∧ Below W.heap.size W w') :
    Calls Try.prog 21 #[.slice A l.length c, .slice B m.length c', .func (.func g) #[] #[]] w fun e w' => e = .returned (.int .i64 (cmpFL cf l m)) ∧ Below w.heap.size w w' := by
  have HR := Aside0.mk hr
  have HS := Aside0.mk hs
  have HLM := Aside0.mk (And.intro hl hm)
  have HP := Aside0.mk hp
  clear hr hs hl hm hp
  go_enter Try.func21, Try.ntmps21
  go_wp2
  go_loopg [13] l.length (fun gg v13 wc => ∃ (i : Nat) (xi : Int), (i : Int) = xi ∧ i ≤ l.length ∧ i ≤ m.length ∧ l.length - i ≤ gg ∧ v13 = .int .i64 xi ∧ Aside0 (cmpFL cf (l.drop i) (m.drop i) = cmpFL cf l m) ∧ Aside0 (Below w.heap.size w wc))
  case atStart => exact ⟨0, 0, rfl, by omega, by omega, by omega, rfl, ⟨rfl⟩, ⟨Below.refl _ _⟩⟩
  case round =>
    obtain ⟨i, xi, hxi, hi, hi2, hg, rfl, HC, HB⟩ := hrel
    have hlm := HLM.out
    by_cases c4 : i < l.length
    · have c4b : decide (xi < (l.length : Int)) = true := decide_eq_true (by omega)
      obtain ⟨ad, e1, x0, x1, x2⟩ := at_T42 (Kd.C_below HR.out HB.out) xi (by omega) (by omega)
      cases e1
      have hld : l.drop i = rd_T42 l xi :: l.drop (i + 1) := by
        rw [List.drop_eq_getElem_cons c4, ← hxi]
        simp [rd_T42, c4]
      have q1 := eq_true (show 0 ≤ xi by omega)
      have q2 := eq_true (show xi < (l.length : Int) by omega)
      by_cases c5 : i < m.length
      · have c5b : decide (xi ≥ (m.length : Int)) = false := decide_eq_false (by omega)
        have c5c : decide ((m.length : Int) ≤ xi) = false := decide_eq_false (by omega)
        obtain ⟨bd, e2, y0, y1, y2⟩ := at_T42 (Kd.C_below HS.out HB.out) xi (by omega) (by omega)
        cases e2
        have hmd : m.drop i = rd_T42 m xi :: m.drop (i + 1) := by
          rw [List.drop_eq_getElem_cons c5, ← hxi]
          simp [rd_T42, c5]
        have q3 := eq_true (show xi < (m.length : Int) by omega)
        have hc := HC.out
        rw [hld, hmd] at hc
        simp only [cmpFL] at hc
        generalize rd_T42 l xi = x at x0 x1 x2 hc hld
        generalize rd_T42 m xi = y at y0 y1 y2 hc hmd
        have HCALL := Aside0.mk (fun W => HP.out W x y)
        have y0' : (wr.alloc (.cells #[.int .i64 x.f0, .int .i64 x.f1, .int .i64 x.f2] 42)).cell? (bd.add (xi.toNat * 3)) = _ := ((below_alloc (Below.refl wr.heap.size wr) _).cell (World.block_lt_of_cell? wr _ y0)).trans y0
        have y1' : (wr.alloc (.cells #[.int .i64 x.f0, .int .i64 x.f1, .int .i64 x.f2] 42)).cell? ⟨(bd.add (xi.toNat * 3)).block, (bd.add (xi.toNat * 3)).off + 1, none⟩ = _ := ((below_alloc (Below.refl wr.heap.size wr) _).cell (World.block_lt_of_cell? wr _ y1)).trans y1
        have y2' : (wr.alloc (.cells #[.int .i64 x.f0, .int .i64 x.f1, .int .i64 x.f2] 42)).cell? ⟨(bd.add (xi.toNat * 3)).block, (bd.add (xi.toNat * 3)).off + 2, none⟩ = _ := ((below_alloc (Below.refl wr.heap.size wr) _).cell (World.block_lt_of_cell? wr _ y2)).trans y2
        obtain ⟨z, hz⟩ : ∃ z, cf x y = z := ⟨_, rfl⟩
        rw [hz] at hc HCALL
        have HCC := Aside0.mk hc
        have HI : Aside0 (i < l.length ∧ i < m.length ∧ l.length - i ≤ gk ∧ (i : Int) = xi) := ⟨c4, c5, hg, hxi⟩
        have EI : Aside0 (wrap64 (xi + 1) = ((i + 1 : Nat) : Int)) := ⟨by rw [w64 (by omega) (by omega)]; omega⟩
        clear hc hz hld hmd hxi hi hi2 hg c4 c5 hlm y0 y1 y2
        by_cases cz : z = 0
        · subst cz
          go_wp2_with (go_at_fn g; refine (HCALL.out _).mono ?_; rintro e w' ⟨rfl, hb⟩; have HB2 := Aside0.mk hb; clear hb)
          go_roundg (l.length - (i + 1))
          case measure => have := HI.out; omega
          case rel => exact ⟨i + 1, _, rfl, by have := HI.out; omega, by have := HI.out; omega, Nat.le_refl _, by first | rfl | rw [EI.out], ⟨by have := HCC.out; simpa using this⟩, ⟨HB.out.trans ((below_step (below_alloc (below_alloc (Below.refl _ _) _) _) HB2.out).mono HB.out.size)⟩⟩
        · have z1 : (z != 0) = true := by simpa using cz
          have z2 : (z == 0) = false := by simpa using cz
          go_wp2_with (go_at_fn g; refine (HCALL.out _).mono ?_; rintro e w' ⟨rfl, hb⟩; have HB2 := Aside0.mk hb; clear hb)
          go_ret
          exact ⟨by have := HCC.out; rw [if_neg cz] at this; rw [← this]; rfl, HB.out.trans ((below_step (below_alloc (below_alloc (Below.refl _ _) _) _) HB2.out).mono HB.out.size)⟩
      · have c5b : decide (xi ≥ (m.length : Int)) = true := decide_eq_true (by omega)
        have c5c : decide ((m.length : Int) ≤ xi) = true := decide_eq_true (by omega)
        have hc := HC.out
        rw [hld, List.drop_eq_nil_of_le (show m.length ≤ i by omega)] at hc
        simp only [cmpFL] at hc
        have HCC := Aside0.mk hc
        generalize rd_T42 l xi = x at x0 x1 x2
        clear hc hld hxi hi hi2 hg c4 c5 hlm
        go_wp2_with fail
        go_ret
        exact ⟨by rw [← HCC.out]; rfl, below_alloc HB.out _⟩
    · have c4b : decide (xi < (l.length : Int)) = false := decide_eq_false (by omega)
      obtain rfl : i = l.length := by omega
      have hc := HC.out
      rw [List.drop_length] at hc
      by_cases c5 : l.length < m.length
      · have c5b : decide (l.length < m.length) = true := decide_eq_true c5
        have hne : m.drop l.length ≠ [] := by intro h; have := congrArg List.length h; simp at this; omega
        have hv : cmpFL cf l m = -1 := by
          rw [← hc]
          cases hd : m.drop l.length with
          | nil => exact absurd hd hne
          | cons y t => rfl
        have HV := Aside0.mk hv
        clear hc hv hne hxi hi hi2 hg hlm c4
        go_wp2_with fail
        go_ret
        exact ⟨by rw [HV.out]; rfl, HB.out⟩
      · have c5b : decide (l.length < m.length) = false := decide_eq_false c5
        have hv : cmpFL cf l m = 0 := by
          rw [← hc, List.drop_eq_nil_of_le (by omega)]
          rfl
        have HV := Aside0.mk hv
        clear hc hv hxi hi hi2 hg hlm c4
        go_wp2_with fail
        go_ret
        exact ⟨by rw [HV.out]; rfl, HB.out⟩
end Go.Proofs.Ythmcdiekgfgpdaa.P

namespace Go.Proofs.Ythmcdiekgfgpdaa.P
open Go.RowKit Go.Proofs.YthmcdiekgfgpdaaW.PrintWords Go.Proofs.YthmcdiekgfgpdaaW.PrintLast Go.Proofs.YthmcdiekgfgpdaaW.PrintMore
attribute [local go_sem] max2_int min2_int max_two min_two max_three min_three max_four min_four
set_option linter.unusedVariables false
set_option linter.unusedSimpArgs false
def cmp_isNaN_int.f (a0 : Int) : Option (Bool) := some (a0 != a0)
set_option maxHeartbeats 8000000 in
set_option maxRecDepth 100000 in
theorem cmp_isNaN_int.calls (a0 : Int) (r : Bool) (w : World) (h : cmp_isNaN_int.f a0 = some r) :
    Calls Try.prog 40 #[.int .i64 a0] w fun e w' => e = .returned (.bool r) ∧ Drawn0 w w' := by
  have H : (some (a0 != a0)) = some r := h
  clear h
  obtain rfl := Option.some.inj H
  go_enter Try.func40, Try.ntmps40
  go_wp2
  go_ret
  exact ⟨by first | rfl | (simp; done) | (simp [*]; done), by repeat (first | exact Drawn0.refl _ | apply Drawn0.step)⟩
end Go.Proofs.Ythmcdiekgfgpdaa.P

namespace Go.Proofs.Ythmcdiekgfgpdaa.P
open Go.RowKit Go.Proofs.YthmcdiekgfgpdaaW.PrintWords Go.Proofs.YthmcdiekgfgpdaaW.PrintLast Go.Proofs.YthmcdiekgfgpdaaW.PrintMore
attribute [local go_sem] max2_int min2_int max_two min_two max_three min_three max_four min_four
set_option linter.unusedVariables false
set_option linter.unusedSimpArgs false
def cmp_Compare_int.f (a0 : Int) (a1 : Int) : Option (Int) := (cmp_isNaN_int.f a0).bind fun t101 => ((cmp_isNaN_int.f a1).bind fun t102 => (if t101 = true then (if t102 = true then (some 0) else (some (-1))) else (if t102 = true then (some 1) else (if a0 < a1 then (some (-1)) else (if a0 > a1 then (some 1) else (some 0))))))
set_option maxHeartbeats 8000000 in
set_option maxRecDepth 100000 in
theorem cmp_Compare_int.calls (a0 : Int) (a1 : Int) (r : Int) (w : World) (h : cmp_Compare_int.f a0 a1 = some r) :
    Calls Try.prog 33 #[.int .i64 a0, .int .i64 a1] w fun e w' => e = .returned (.int .i64 r) ∧ Drawn0 w w' := by
  have H : ((cmp_isNaN_int.f a0).bind fun t101 => ((cmp_isNaN_int.f a1).bind fun t102 => (if t101 = true then (if t102 = true then (some 0) else (some (-1))) else (if t102 = true then (some 1) else (if a0 < a1 then (some (-1)) else (if a0 > a1 then (some 1) else (some 0))))))) = some r := h
  clear h
  replace H := Option.bind_eq_some_iff.mp H
  obtain ⟨t101, A30, H⟩ := H
  replace H : ((cmp_isNaN_int.f a1).bind fun t102 => (if t101 = true then (if t102 = true then (some 0) else (some (-1))) else (if t102 = true then (some 1) else (if a0 < a1 then (some (-1)) else (if a0 > a1 then (some 1) else (some 0)))))) = some r := H
  have A3 := Aside0.mk A30
  clear A30
  replace H := Option.bind_eq_some_iff.mp H
  obtain ⟨t102, A40, H⟩ := H
  replace H : (if t101 = true then (if t102 = true then (some 0) else (some (-1))) else (if t102 = true then (some 1) else (if a0 < a1 then (some (-1)) else (if a0 > a1 then (some 1) else (some 0))))) = some r := H
  have A4 := Aside0.mk A40
  clear A40
  by_cases c5 : t101 = true
  · subst c5
    have H1 : (if t102 = true then (some 0) else (some (-1))) = some r := by rw [if_pos rfl] at H; exact H
    clear H
    have H := H1
    clear H1
    by_cases c6 : t102 = true
    · subst c6
      have H1 : (some 0) = some r := by rw [if_pos rfl] at H; exact H
      clear H
      have H := H1
      clear H1
      obtain rfl := Option.some.inj H
      go_enter Try.func33, Try.ntmps33
      go_wp2_with (first | ((with_reducible refine gate_callee (f := 40) rfl ?_); refine goesL_ (some 8) rfl rfl Try.func40 (by kernel_rfl) rfl #[.int .i64 a0] rfl (by (try simp only [List.map_toArray, List.map_cons, List.map_nil]); first | done | rfl | (simp only [List.length_drop, List.length_take]; rfl)) ?_; (with_reducible refine (cmp_isNaN_int.calls a0 true _ A3.out).mono ?_); rintro e w' ⟨rfl, ⟨nd, rfl⟩⟩; refine ⟨_, rfl, ?_⟩) | ((with_reducible refine gate_callee (f := 40) rfl ?_); refine goesL_ (some 10) rfl rfl Try.func40 (by kernel_rfl) rfl #[.int .i64 a1] rfl (by (try simp only [List.map_toArray, List.map_cons, List.map_nil]); first | done | rfl | (simp only [List.length_drop, List.length_take]; rfl)) ?_; (with_reducible refine (cmp_isNaN_int.calls a1 true _ A4.out).mono ?_); rintro e w' ⟨rfl, ⟨nd, rfl⟩⟩; refine ⟨_, rfl, ?_⟩))
      go_ret
      exact ⟨by first | rfl | (simp; done) | (simp [*]; done), by repeat (first | exact Drawn0.refl _ | apply Drawn0.step)⟩
    · replace c6 := Bool.eq_false_iff.mpr c6
      subst c6
      have H1 : (some (-1)) = some r := by rw [if_neg (show ¬ (false = true) by decide)] at H; exact H
      clear H
      have H := H1
      clear H1
      obtain rfl := Option.some.inj H
      go_enter Try.func33, Try.ntmps33
      go_wp2_with (first | ((with_reducible refine gate_callee (f := 40) rfl ?_); refine goesL_ (some 8) rfl rfl Try.func40 (by kernel_rfl) rfl #[.int .i64 a0] rfl (by (try simp only [List.map_toArray, List.map_cons, List.map_nil]); first | done | rfl | (simp only [List.length_drop, List.length_take]; rfl)) ?_; (with_reducible refine (cmp_isNaN_int.calls a0 true _ A3.out).mono ?_); rintro e w' ⟨rfl, ⟨nd, rfl⟩⟩; refine ⟨_, rfl, ?_⟩) | ((with_reducible refine gate_callee (f := 40) rfl ?_); refine goesL_ (some 10) rfl rfl Try.func40 (by kernel_rfl) rfl #[.int .i64 a1] rfl (by (try simp only [List.map_toArray, List.map_cons, List.map_nil]); first | done | rfl | (simp only [List.length_drop, List.length_take]; rfl)) ?_; (with_reducible refine (cmp_isNaN_int.calls a1 false _ A4.out).mono ?_); rintro e w' ⟨rfl, ⟨nd, rfl⟩⟩; refine ⟨_, rfl, ?_⟩))
      go_ret
      exact ⟨by first | rfl | (simp; done) | (simp [*]; done), by repeat (first | exact Drawn0.refl _ | apply Drawn0.step)⟩
  · replace c5 := Bool.eq_false_iff.mpr c5
    subst c5
    have H1 : (if t102 = true then (some 1) else (if a0 < a1 then (some (-1)) else (if a0 > a1 then (some 1) else (some 0)))) = some r := by rw [if_neg (show ¬ (false = true) by decide)] at H; exact H
    clear H
    have H := H1
    clear H1
    by_cases c7 : t102 = true
    · subst c7
      have H1 : (some 1) = some r := by rw [if_pos rfl] at H; exact H
      clear H
      have H := H1
      clear H1
      obtain rfl := Option.some.inj H
      go_enter Try.func33, Try.ntmps33
      go_wp2_with (first | ((with_reducible refine gate_callee (f := 40) rfl ?_); refine goesL_ (some 8) rfl rfl Try.func40 (by kernel_rfl) rfl #[.int .i64 a0] rfl (by (try simp only [List.map_toArray, List.map_cons, List.map_nil]); first | done | rfl | (simp only [List.length_drop, List.length_take]; rfl)) ?_; (with_reducible refine (cmp_isNaN_int.calls a0 false _ A3.out).mono ?_); rintro e w' ⟨rfl, ⟨nd, rfl⟩⟩; refine ⟨_, rfl, ?_⟩) | ((with_reducible refine gate_callee (f := 40) rfl ?_); refine goesL_ (some 10) rfl rfl Try.func40 (by kernel_rfl) rfl #[.int .i64 a1] rfl (by (try simp only [List.map_toArray, List.map_cons, List.map_nil]); first | done | rfl | (simp only [List.length_drop, List.length_take]; rfl)) ?_; (with_reducible refine (cmp_isNaN_int.calls a1 true _ A4.out).mono ?_); rintro e w' ⟨rfl, ⟨nd, rfl⟩⟩; refine ⟨_, rfl, ?_⟩))
      go_ret
      exact ⟨by first | rfl | (simp; done) | (simp [*]; done), by repeat (first | exact Drawn0.refl _ | apply Drawn0.step)⟩
    · replace c7 := Bool.eq_false_iff.mpr c7
      subst c7
      have H1 : (if a0 < a1 then (some (-1)) else (if a0 > a1 then (some 1) else (some 0))) = some r := by rw [if_neg (show ¬ (false = true) by decide)] at H; exact H
      clear H
      have H := H1
      clear H1
      by_cases c8 : a0 < a1
      · rw [if_pos c8] at H
        have c8b0 : decide (a0 < a1) = true := decide_eq_true c8
        clear c8
        obtain rfl := Option.some.inj H
        go_enter Try.func33, Try.ntmps33
        go_wp2_with (first | ((with_reducible refine gate_callee (f := 40) rfl ?_); refine goesL_ (some 8) rfl rfl Try.func40 (by kernel_rfl) rfl #[.int .i64 a0] rfl (by (try simp only [List.map_toArray, List.map_cons, List.map_nil]); first | done | rfl | (simp only [List.length_drop, List.length_take]; rfl)) ?_; (with_reducible refine (cmp_isNaN_int.calls a0 false _ A3.out).mono ?_); rintro e w' ⟨rfl, ⟨nd, rfl⟩⟩; refine ⟨_, rfl, ?_⟩) | ((with_reducible refine gate_callee (f := 40) rfl ?_); refine goesL_ (some 10) rfl rfl Try.func40 (by kernel_rfl) rfl #[.int .i64 a1] rfl (by (try simp only [List.map_toArray, List.map_cons, List.map_nil]); first | done | rfl | (simp only [List.length_drop, List.length_take]; rfl)) ?_; (with_reducible refine (cmp_isNaN_int.calls a1 false _ A4.out).mono ?_); rintro e w' ⟨rfl, ⟨nd, rfl⟩⟩; refine ⟨_, rfl, ?_⟩))
        go_ret
        exact ⟨by first | rfl | (simp; done) | (simp [*]; done), by repeat (first | exact Drawn0.refl _ | apply Drawn0.step)⟩
      · rw [if_neg c8] at H
        have c8b0 : decide (a0 < a1) = false := decide_eq_false c8
        clear c8
        by_cases c9 : a0 > a1
        · rw [if_pos c9] at H
          have c9b0 : decide (a1 < a0) = true := decide_eq_true c9
          clear c9
          obtain rfl := Option.some.inj H
          go_enter Try.func33, Try.ntmps33
          go_wp2_with (first | ((with_reducible refine gate_callee (f := 40) rfl ?_); refine goesL_ (some 8) rfl rfl Try.func40 (by kernel_rfl) rfl #[.int .i64 a0] rfl (by (try simp only [List.map_toArray, List.map_cons, List.map_nil]); first | done | rfl | (simp only [List.length_drop, List.length_take]; rfl)) ?_; (with_reducible refine (cmp_isNaN_int.calls a0 false _ A3.out).mono ?_); rintro e w' ⟨rfl, ⟨nd, rfl⟩⟩; refine ⟨_, rfl, ?_⟩) | ((with_reducible refine gate_callee (f := 40) rfl ?_); refine goesL_ (some 10) rfl rfl Try.func40 (by kernel_rfl) rfl #[.int .i64 a1] rfl (by (try simp only [List.map_toArray, List.map_cons, List.map_nil]); first | done | rfl | (simp only [List.length_drop, List.length_take]; rfl)) ?_; (with_reducible refine (cmp_isNaN_int.calls a1 false _ A4.out).mono ?_); rintro e w' ⟨rfl, ⟨nd, rfl⟩⟩; refine ⟨_, rfl, ?_⟩))
          go_ret
          exact ⟨by first | rfl | (simp; done) | (simp [*]; done), by repeat (first | exact Drawn0.refl _ | apply Drawn0.step)⟩
        · rw [if_neg c9] at H
          have c9b0 : decide (a1 < a0) = false := decide_eq_false c9
          clear c9
          obtain rfl := Option.some.inj H
          go_enter Try.func33, Try.ntmps33
          go_wp2_with (first | ((with_reducible refine gate_callee (f := 40) rfl ?_); refine goesL_ (some 8) rfl rfl Try.func40 (by kernel_rfl) rfl #[.int .i64 a0] rfl (by (try simp only [List.map_toArray, List.map_cons, List.map_nil]); first | done | rfl | (simp only [List.length_drop, List.length_take]; rfl)) ?_; (with_reducible refine (cmp_isNaN_int.calls a0 false _ A3.out).mono ?_); rintro e w' ⟨rfl, ⟨nd, rfl⟩⟩; refine ⟨_, rfl, ?_⟩) | ((with_reducible refine gate_callee (f := 40) rfl ?_); refine goesL_ (some 10) rfl rfl Try.func40 (by kernel_rfl) rfl #[.int .i64 a1] rfl (by (try simp only [List.map_toArray, List.map_cons, List.map_nil]); first | done | rfl | (simp only [List.length_drop, List.length_take]; rfl)) ?_; (with_reducible refine (cmp_isNaN_int.calls a1 false _ A4.out).mono ?_); rintro e w' ⟨rfl, ⟨nd, rfl⟩⟩; refine ⟨_, rfl, ?_⟩))
          go_ret
          exact ⟨by first | rfl | (simp; done) | (simp [*]; done), by repeat (first | exact Drawn0.refl _ | apply Drawn0.step)⟩
end Go.Proofs.Ythmcdiekgfgpdaa.P

namespace Go.Proofs.Ythmcdiekgfgpdaa.P
open Go.RowKit Go.Proofs.YthmcdiekgfgpdaaW.PrintWords Go.Proofs.YthmcdiekgfgpdaaW.PrintLast Go.Proofs.YthmcdiekgfgpdaaW.PrintMore
attribute [local go_sem] max2_int min2_int max_two min_two max_three min_three max_four min_four
set_option linter.unusedVariables false
set_option linter.unusedSimpArgs false
def slices_Compare_int_int.l0 : Nat → List Int → List Int → List Int → Int → Int → Option (Int)
  | 0, _, _, _, _, _ => none
  | k + 1, x0, x1, x9, x10, x11 => if x11 < x10 then (if 0 ≤ x11 then (if x11 < (x9.length : Int) then (if x11 ≥ (x1.length : Int) then (some 1) else (if x11 < (x1.length : Int) then ((cmp_Compare_int.f (rd x9 x11) (rd x1 x11)).bind fun t103 => (if t103 = 0 then (slices_Compare_int_int.l0 k x0 x1 x9 x10 (wrap64 (x11 + 1))) else (some t103))) else (none))) else (none)) else (none)) else (if (x0.length : Int) < (x1.length : Int) then (some (-1)) else (some 0))
def slices_Compare_int_int.f (k : Nat) (l0 : List Int) (l1 : List Int) : Option (Int) := slices_Compare_int_int.l0 k l0 l1 l0 (l0.length : Int) 0
set_option maxHeartbeats 8000000 in
set_option maxRecDepth 100000 in
theorem slices_Compare_int_int.calls (k : Nat) (A0 : Option Addr) (c0 : Nat) (l0 : List Int) (A1 : Option Addr) (c1 : Nat) (l1 : List Int) (r : Int) (w : World) (hr0 : Kd.C (Kd.int .i64) w A0 l0.length l0) (hc0 : l0.length ≤ c0) (hr1 : Kd.C (Kd.int .i64) w A1 l1.length l1) (hc1 : l1.length ≤ c1) (h : slices_Compare_int_int.f k l0 l1 = some r) :
    Calls Try.prog 23 #[.slice A0 l0.length c0, .slice A1 l1.length c1] w fun e w' => e = .returned (.int .i64 r) ∧ Drawn0 w w' := by
  have HR0 := Aside0.mk hr0
  have HC0 := Aside0.mk hc0
  clear hr0 hc0
  have HR1 := Aside0.mk hr1
  have HC1 := Aside0.mk hc1
  clear hr1 hc1
  have H : (slices_Compare_int_int.l0 k l0 l1 l0 (l0.length : Int) 0) = some r := h
  clear h
  have H' := Aside0.mk H
  clear H
  go_enter Try.func23, Try.ntmps23
  go_wp2
  go_loopg [11] k (fun kq v11 w' => ∃ (x11_1 : Int), v11 = .int .i64 x11_1 ∧ Aside0 (slices_Compare_int_int.l0 kq l0 l1 l0 (l0.length : Int) x11_1 = some r) ∧ Aside0 (kq ≤ k) ∧ Drawn0 w w')
  case atStart => exact ⟨(0), (by first | rfl | (simp; done) | (simp [*]; done)), H', ⟨Nat.le_refl _⟩, by repeat (first | exact Drawn0.refl _ | apply Drawn0.step)⟩
  case round =>
    clear H'
    try clear c1
    try clear c2
    try clear p2
    obtain ⟨x11_1, rfl, HA, HK1, ⟨m1, rfl⟩⟩ := hrel
    cases gk with
    | zero => exact absurd HA.out (by simp [slices_Compare_int_int.l0])
    | succ k1 =>
      have H := HA.out
      clear HA
      simp only [slices_Compare_int_int.l0] at H
      by_cases c3 : x11_1 < (l0.length : Int)
      · rw [if_pos c3] at H
        have c3b0 : decide (x11_1 < (l0.length : Int)) = true := decide_eq_true c3
        clear c3
        by_cases c4 : 0 ≤ x11_1
        · rw [if_pos c4] at H
          have c4b0 : decide (0 ≤ x11_1) = true := decide_eq_true c4
          clear c4
          by_cases c5 : x11_1 < (l0.length : Int)
          · rw [if_pos c5] at H
            have c5b0 : decide (x11_1 < (l0.length : Int)) = true := decide_eq_true c5
            clear c5
            by_cases c6 : x11_1 ≥ (l1.length : Int)
            · rw [if_pos c6] at H
              have c6b0 : decide ((l1.length : Int) ≤ x11_1) = true := decide_eq_true c6
              clear c6
              obtain rfl := Option.some.inj H
              have p101 : 0 ≤ (x11_1 : Int) := of_decide_eq_true (by first | (with_reducible assumption) | assumption)
              have q101 : x11_1 < (l0.length : Int) := of_decide_eq_true (by first | (with_reducible assumption) | assumption)
              obtain ⟨ad101, e101, hx101_0⟩ := Kd.at_int HR0.out x11_1 p101 q101
              cases e101
              replace p101 := eq_true p101
              replace q101 := eq_true q101
              go_wp2
              go_ret
              exact ⟨by first | rfl | (simp; done) | (simp [*]; done), by repeat (first | exact Drawn0.refl _ | apply Drawn0.step)⟩
            · rw [if_neg c6] at H
              have c6b0 : decide ((l1.length : Int) ≤ x11_1) = false := decide_eq_false c6
              clear c6
              by_cases c7 : x11_1 < (l1.length : Int)
              · rw [if_pos c7] at H
                have c7b0 : decide (x11_1 < (l1.length : Int)) = true := decide_eq_true c7
                clear c7
                replace H := Option.bind_eq_some_iff.mp H
                obtain ⟨t103, A80, H⟩ := H
                replace H : (if t103 = 0 then (slices_Compare_int_int.l0 k1 l0 l1 l0 (l0.length : Int) (wrap64 (x11_1 + 1))) else (some t103)) = some r := H
                have A8 := Aside0.mk A80
                clear A80
                by_cases c9 : t103 = 0
                · rw [if_pos c9] at H
                  have c9b0 : (t103 == 0) = true := beq_iff_eq.mpr c9
                  have c9b1 : (t103 != 0) = false := bne_eq_false_iff_eq.mpr c9
                  clear c9
                  have H' := Aside0.mk H
                  clear H
                  have p101 : 0 ≤ (x11_1 : Int) := of_decide_eq_true (by first | (with_reducible assumption) | assumption)
                  have q101 : x11_1 < (l0.length : Int) := of_decide_eq_true (by first | (with_reducible assumption) | assumption)
                  obtain ⟨ad101, e101, hx101_0⟩ := Kd.at_int HR0.out x11_1 p101 q101
                  cases e101
                  replace p101 := eq_true p101
                  replace q101 := eq_true q101
                  have p102 : 0 ≤ (x11_1 : Int) := of_decide_eq_true (by first | (with_reducible assumption) | assumption)
                  have q102 : x11_1 < (l1.length : Int) := of_decide_eq_true (by first | (with_reducible assumption) | assumption)
                  obtain ⟨ad102, e102, hx102_0⟩ := Kd.at_int HR1.out x11_1 p102 q102
                  cases e102
                  replace p102 := eq_true p102
                  replace q102 := eq_true q102
                  go_wp2_with (first | ((with_reducible refine gate_callee (f := 33) rfl ?_); refine goesL_ (some 26) rfl rfl Try.func33 (by kernel_rfl) rfl #[.int .i64 (rd l0 x11_1), .int .i64 (rd l1 x11_1)] rfl (by (try simp only [List.map_toArray, List.map_cons, List.map_nil]); first | done | rfl | (simp only [List.length_drop, List.length_take]; rfl)) ?_; (with_reducible refine (cmp_Compare_int.calls (rd l0 x11_1) (rd l1 x11_1) t103 _ A8.out).mono ?_); rintro e w' ⟨rfl, ⟨nd, rfl⟩⟩; refine ⟨_, rfl, ?_⟩))
                  go_roundg k1
                  case measure => have := HK1.out; omega
                  case rel => exact ⟨(wrap64 (x11_1 + 1)), (by first | rfl | (simp; done) | (simp [*]; done)), H', ⟨by have := HK1.out; omega⟩, by repeat (first | exact Drawn0.refl _ | apply Drawn0.step)⟩
                · rw [if_neg c9] at H
                  have c9b0 : (t103 == 0) = false := beq_eq_false_iff_ne.mpr c9
                  have c9b1 : (t103 != 0) = true := bne_iff_ne.mpr c9
                  obtain rfl := Option.some.inj H
                  have p101 : 0 ≤ (x11_1 : Int) := of_decide_eq_true (by first | (with_reducible assumption) | assumption)
                  have q101 : x11_1 < (l0.length : Int) := of_decide_eq_true (by first | (with_reducible assumption) | assumption)
                  obtain ⟨ad101, e101, hx101_0⟩ := Kd.at_int HR0.out x11_1 p101 q101
                  cases e101
                  replace p101 := eq_true p101
                  replace q101 := eq_true q101
                  have p102 : 0 ≤ (x11_1 : Int) := of_decide_eq_true (by first | (with_reducible assumption) | assumption)
                  have q102 : x11_1 < (l1.length : Int) := of_decide_eq_true (by first | (with_reducible assumption) | assumption)
                  obtain ⟨ad102, e102, hx102_0⟩ := Kd.at_int HR1.out x11_1 p102 q102
                  cases e102
                  replace p102 := eq_true p102
                  replace q102 := eq_true q102
                  go_wp2_with (first | ((with_reducible refine gate_callee (f := 33) rfl ?_); refine goesL_ (some 26) rfl rfl Try.func33 (by kernel_rfl) rfl #[.int .i64 (rd l0 x11_1), .int .i64 (rd l1 x11_1)] rfl (by (try simp only [List.map_toArray, List.map_cons, List.map_nil]); first | done | rfl | (simp only [List.length_drop, List.length_take]; rfl)) ?_; (with_reducible refine (cmp_Compare_int.calls (rd l0 x11_1) (rd l1 x11_1) t103 _ A8.out).mono ?_); rintro e w' ⟨rfl, ⟨nd, rfl⟩⟩; refine ⟨_, rfl, ?_⟩))
                  go_ret
                  exact ⟨by first | rfl | (simp; done) | (simp [*]; done), by repeat (first | exact Drawn0.refl _ | apply Drawn0.step)⟩
              · rw [if_neg c7] at H
                exact absurd H (by simp)
          · rw [if_neg c5] at H
            exact absurd H (by simp)
        · rw [if_neg c4] at H
          exact absurd H (by simp)
      · rw [if_neg c3] at H
        have c3b0 : decide (x11_1 < (l0.length : Int)) = false := decide_eq_false c3
        clear c3
        by_cases c10 : (l0.length : Int) < (l1.length : Int)
        · rw [if_pos c10] at H
          have c10b0 : decide ((l0.length : Int) < (l1.length : Int)) = true := decide_eq_true c10
          have c10b1 : decide (l0.length < l1.length) = true := decide_eq_true (Int.ofNat_lt.mp c10)
          clear c10
          obtain rfl := Option.some.inj H
          go_wp2
          go_ret
          exact ⟨by first | rfl | (simp; done) | (simp [*]; done), by repeat (first | exact Drawn0.refl _ | apply Drawn0.step)⟩
        · rw [if_neg c10] at H
          have c10b0 : decide ((l0.length : Int) < (l1.length : Int)) = false := decide_eq_false c10
          have c10b1 : decide (l0.length < l1.length) = false := decide_eq_false (fun h => c10 (Int.ofNat_lt.mpr h))
          clear c10
          obtain rfl := Option.some.inj H
          go_wp2
          go_ret
          exact ⟨by first | rfl | (simp; done) | (simp [*]; done), by repeat (first | exact Drawn0.refl _ | apply Drawn0.step)⟩
end Go.Proofs.Ythmcdiekgfgpdaa.P

namespace Go.Proofs.Ythmcdiekgfgpdaa.P
open Go.RowKit Go.Proofs.YthmcdiekgfgpdaaW.PrintWords Go.Proofs.YthmcdiekgfgpdaaW.PrintLast Go.Proofs.YthmcdiekgfgpdaaW.PrintMore
attribute [local go_sem] max2_int min2_int max_two min_two max_three min_three max_four min_four
set_option linter.unusedVariables false
set_option linter.unusedSimpArgs false
open Go.Proofs.Ythmcdiekgfgpdaa.T Go.Proofs.Ythmcdiekgfgpdaa.Aid
def cmp3 (a b : Sq) : Int := if a.f0 < b.f0 then -1 else if a.f0 > b.f0 then 1 else if a.f1 < b.f1 then -1 else if a.f1 > b.f1 then 1 else if a.f2 < b.f2 then -1 else if a.f2 > b.f2 then 1 else 0
theorem cmpI_f (a b : Int) : cmp_Compare_int.f a b = some (if a < b then -1 else if a > b then 1 else 0) := by
  unfold cmp_Compare_int.f cmp_isNaN_int.f
  simp only [Option.bind_some, bne_self_eq_false, Bool.false_eq_true, if_false]
  split
  · rfl
  · split <;> rfl
theorem compare3 (x y : Sq) : slices_Compare_int_int.f 4 [x.f0, x.f1, x.f2] [y.f0, y.f1, y.f2] = some (cmp3 x y) := by
  have w1 : wrap64 (0 + 1) = 1 := by unfold wrap64; omega
  have w2 : wrap64 (1 + 1) = 2 := by unfold wrap64; omega
  have w3 : wrap64 (2 + 1) = 3 := by unfold wrap64; omega
  have r0 : ∀ a b c : Int, rd [a, b, c] 0 = a := fun _ _ _ => rfl
  have r1 : ∀ a b c : Int, rd [a, b, c] 1 = b := fun _ _ _ => rfl
  have r2 : ∀ a b c : Int, rd [a, b, c] 2 = c := fun _ _ _ => rfl
  unfold slices_Compare_int_int.f
  simp only [slices_Compare_int_int.l0, List.length_cons, List.length_nil, cmpI_f, Option.bind_some, w1, w2, w3, r0, r1, r2]
  unfold cmp3
  by_cases c0 : x.f0 < y.f0
  · simp [c0]
  · by_cases d0 : x.f0 > y.f0
    · simp [c0, d0]
    · by_cases c1 : x.f1 < y.f1
      · simp [c0, d0, c1]
      · by_cases d1 : x.f1 > y.f1
        · simp [c0, d0, c1, d1]
        · by_cases c2 : x.f2 < y.f2
          · simp [c0, d0, c1, d1, c2]
          · by_cases d2 : x.f2 > y.f2
            · simp [c0, d0, c1, d1, c2, d2]
            · simp [c0, d0, c1, d1, c2, d2]
theorem cc_row_of_blk {w : World} {g base : Nat} {ok : Nat → Prop} {l : List Int} (h : w.heap[g]? = some (.cells (l.map (Value.int .i64)).toArray 3 (0, 0))) (hb : base ≤ g) (ho : ok g) (hl : l.length ≤ 1000000) : Kd.R (Kd.int .i64) 3 w base ok (.slice (some ⟨g, 0, none⟩) l.length l.length) l := by
  have hs : (Kd.int .i64).sz = 1 := rfl
  refine ⟨fun k hk => ?_, l.map (Value.int .i64), ⟨by rw [hs]; simp, .inr ⟨g, l.length, _, rfl, hb, h, Nat.le_refl _, by simp only [maxLen]; omega, by rw [hs]; simp, by rw [hs]; simp; exact List.take_of_length_le (by simp)⟩⟩, by rw [hs]; simp, fun j p hj => ?_⟩
  · have : g = k := by simpa [Value.ownBlock] using hk
    subst this; exact ho
  · have hjl := (List.getElem?_eq_some_iff.1 hj).1
    have hp := (List.getElem?_eq_some_iff.1 hj).2
    rw [hs, Nat.mul_one]
    show (List.take 1 (List.drop j (l.map (Value.int .i64)))) = [.int .i64 p]
    rw [List.drop_eq_getElem_cons (by simpa using hjl)]
    simp [hp]
theorem C_lit3 {W : World} {g : Nat} {a b c : Int} (h : W.heap[g]? = some (.cells #[.int .i64 a, .int .i64 b, .int .i64 c] 3 (0, 0))) : Kd.C (Kd.int .i64) W (some ⟨g, 0, none⟩) 3 [a, b, c] := by
  have h2 := cc_row_of_blk (l := [a, b, c]) (base := 0) (ok := fun _ => True) h (Nat.zero_le _) trivial (by simp)
  exact (Kd.R_reads' h2).2.2
set_option maxHeartbeats 2000000 in
theorem compareClo (x y : Sq) (w : World) : Calls Try.prog 22 #[.agg #[.int .i64 x.f0, .int .i64 x.f1, .int .i64 x.f2], .agg #[.int .i64 y.f0, .int .i64 y.f1, .int .i64 y.f2]] w fun e w' => e = .returned (.int .i64 (cmp3 x y)) ∧ Below w.heap.size w w' := by
  have hu48 := Try.underlying42
  have HC := Aside0.mk (fun A B V h1 h2 => slices_Compare_int_int.calls 4 A 3 [x.f0, x.f1, x.f2] B 3 [y.f0, y.f1, y.f2] (cmp3 x y) V h1 (by simp) h2 (by simp) (compare3 x y))
  go_enter Try.func22, Try.ntmps22
  go_wp2_with fail
  have b1 := heap_alloc_new ((w.alloc (.cells #[.int .i64 x.f0, .int .i64 x.f1, .int .i64 x.f2] 42)).alloc (.cells #[.int .i64 y.f0, .int .i64 y.f1, .int .i64 y.f2] 42)) (.cells #[.int .i64 x.f0, .int .i64 x.f1, .int .i64 x.f2] 3)
  rw [show ((w.alloc (.cells #[.int .i64 x.f0, .int .i64 x.f1, .int .i64 x.f2] 42)).alloc (.cells #[.int .i64 y.f0, .int .i64 y.f1, .int .i64 y.f2] 42)).heap.size = w.heap.size + 1 + 1 from by simp] at b1
  have b2 := heap_alloc_new (((w.alloc (.cells #[.int .i64 x.f0, .int .i64 x.f1, .int .i64 x.f2] 42)).alloc (.cells #[.int .i64 y.f0, .int .i64 y.f1, .int .i64 y.f2] 42)).alloc (.cells #[.int .i64 x.f0, .int .i64 x.f1, .int .i64 x.f2] 3)) (.cells #[.int .i64 y.f0, .int .i64 y.f1, .int .i64 y.f2] 3)
  rw [show (((w.alloc (.cells #[.int .i64 x.f0, .int .i64 x.f1, .int .i64 x.f2] 42)).alloc (.cells #[.int .i64 y.f0, .int .i64 y.f1, .int .i64 y.f2] 42)).alloc (.cells #[.int .i64 x.f0, .int .i64 x.f1, .int .i64 x.f2] 3)).heap.size = w.heap.size + 1 + 1 + 1 from by simp] at b2
  refine (HC.out _ _ _ (C_lit3 (blk_alloc b1 _)) (C_lit3 b2)).mono ?_
  clear b1 b2
  rintro e w' ⟨rfl, hd⟩
  have HD := Aside0.mk (below_step (below_alloc (below_alloc (below_alloc (below_alloc (Below.refl w.heap.size w) _) _) _) _) hd.below)
  clear hd
  go_wp2_with fail
  go_ret
  exact ⟨rfl, HD.out⟩
def impl_compareCuts.f (a0_0 a0_1 : Int) (l0_2 : List Sq) (a1_0 a1_1 : Int) (l1_2 : List Sq) : Option Int := if l0_2.length ≤ 1000000000 ∧ l1_2.length ≤ 1000000000 then some (cmpFL cmp3 l0_2 l1_2) else none
set_option maxHeartbeats 2000000 in
theorem impl_compareCuts.calls (a0_0 a0_1 : Int) (A0_2 : Option Addr) (c0_2 : Nat) (l0_2 : List Sq) (a1_0 a1_1 : Int) (A1_2 : Option Addr) (c1_2 : Nat) (l1_2 : List Sq) (r : Int) (w : World) (hr0_2 : Kd.C k42 w A0_2 l0_2.length l0_2) (hc0_2 : l0_2.length ≤ c0_2) (hr1_2 : Kd.C k42 w A1_2 l1_2.length l1_2) (hc1_2 : l1_2.length ≤ c1_2) (h : impl_compareCuts.f a0_0 a0_1 l0_2 a1_0 a1_1 l1_2 = some r) :
    Calls Try.prog 12 #[.agg #[.int .i64 a0_0, .int .i64 a0_1, .slice A0_2 l0_2.length c0_2], .agg #[.int .i64 a1_0, .int .i64 a1_1, .slice A1_2 l1_2.length c1_2]] w fun e w' => e = .returned (.int .i64 r) ∧ Below w.heap.size w w' := by
  unfold impl_compareCuts.f at h
  by_cases hl : l0_2.length ≤ 1000000000 ∧ l1_2.length ≤ 1000000000
  · rw [if_pos hl] at h
    obtain rfl : cmpFL cmp3 l0_2 l1_2 = r := Option.some.inj h
    have HC := Aside0.mk (fun (V : World) (hV : Below w.heap.size w V) => slices_CompareFunc_sq l0_2 l1_2 A0_2 A1_2 c0_2 c1_2 22 cmp3 V (Kd.C_below hr0_2 hV) (Kd.C_below hr1_2 hV) hl.1 hl.2 (enters_of Try.func22 (by kernel_rfl) rfl) (fun W x y => compareClo x y W))
    have hu29 := Try.underlying29
    clear hr0_2 hr1_2 hc0_2 hc1_2 h hl
    go_enter Try.func12, Try.ntmps12
    go_wp2_with (go_at_call 21; refine (HC.out _ (below_alloc (below_alloc (Below.refl _ _) _) _)).mono ?_; rintro e w' ⟨rfl, hb⟩; have HB := Aside0.mk (below_step (below_alloc (below_alloc (Below.refl w.heap.size w) _) _) hb); clear hb)
    go_ret
    exact ⟨rfl, HB.out⟩
  · rw [if_neg hl] at h; cases h
end Go.Proofs.Ythmcdiekgfgpdaa.P

namespace Go.Proofs.Ythmcdiekgfgpdaa.P
open Go.RowKit Go.Proofs.YthmcdiekgfgpdaaW.PrintWords Go.Proofs.YthmcdiekgfgpdaaW.PrintLast Go.Proofs.YthmcdiekgfgpdaaW.PrintMore
attribute [local go_sem] max2_int min2_int max_two min_two max_three min_three max_four min_four
set_option linter.unusedVariables false
set_option linter.unusedSimpArgs false
end Go.Proofs.Ythmcdiekgfgpdaa.P

namespace Go.Proofs.Ythmcdiekgfgpdaa.T
open Go.Sort
variable {α : Type} [Inhabited α]
theorem swpGet (d : Array α) {i j : Nat} (hi : i < d.size) (hj : j < d.size) (k : Nat) :
    (swp d i j)[k]! = if k = j then d[i]! else if k = i then d[j]! else d[k]! := by
  unfold swp
  simp only [getElem!_def, Array.getElem?_setIfInBounds, Array.size_setIfInBounds]
  by_cases h1 : k = j
  · subst h1; simp [hj]
  · by_cases h2 : k = i
    · subst h2; simp [hi, Ne.symm h1, h1]
    · simp [Ne.symm h1, Ne.symm h2, h1, h2]
theorem swpSize (d : Array α) (i j : Nat) : (swp d i j).size = d.size := by simp [swp]
def swpN (d : Array α) (a b : Nat) : Nat → Array α
  | 0 => d
  | n + 1 => swp (swpN d a b n) (a + n) (b + n)
theorem swpN_size (d : Array α) (a b : Nat) : ∀ n, (swpN d a b n).size = d.size
  | 0 => rfl
  | n + 1 => by rw [swpN, swpSize, swpN_size d a b n]
theorem swpN_get (d : Array α) (a b : Nat) : ∀ n, a + n ≤ b → b + n ≤ d.size → ∀ k, (swpN d a b n)[k]! = if a ≤ k ∧ k < a + n then d[b + (k - a)]! else if b ≤ k ∧ k < b + n then d[a + (k - b)]! else d[k]!
  | 0, _, _, k => by simp only [swpN]; rw [if_neg (by omega), if_neg (by omega)]
  | n + 1, h1, h2, k => by
    have ih := swpN_get d a b n (by omega) (by omega)
    rw [swpN, swpGet _ (by rw [swpN_size]; omega) (by rw [swpN_size]; omega), ih (a + n), ih (b + n), ih k]
    by_cases c1 : k = b + n
    · subst c1
      rw [if_pos rfl, if_neg (by omega), if_neg (by omega), if_neg (by omega), if_pos (by omega)]
      congr 1; omega
    · rw [if_neg c1]
      by_cases c2 : k = a + n
      · subst c2
        rw [if_pos rfl, if_neg (by omega), if_neg (by omega), if_pos (by omega)]
        congr 1; omega
      · rw [if_neg c2]
        by_cases c3 : a ≤ k ∧ k < a + n
        · rw [if_pos c3, if_pos (by omega)]
        · have e3 : ¬ (a ≤ k ∧ k < a + (n + 1)) := by omega
          rw [if_neg c3, if_neg e3]
          by_cases c4 : b ≤ k ∧ k < b + n
          · rw [if_pos c4, if_pos (by omega)]
          · rw [if_neg c4, if_neg (by omega)]
structure Rot (d : Array α) (a m b : Nat) (d' : Array α) : Prop where
  size : d'.size = d.size
  out : ∀ k, k < a ∨ b ≤ k → d'[k]! = d[k]!
  lo : ∀ k, k < b - m → d'[a + k]! = d[m + k]!
  hi : ∀ k, k < m - a → d'[a + (b - m) + k]! = d[a + k]!
theorem Rot.left {d d' : Array α} {m i j : Nat} (h1 : i ≤ m) (hj : j < i) (h2 : m + j ≤ d.size) (h : Rot (swpN d (m - i) m j) (m - (i - j)) m (m + j) d') : Rot d (m - i) m (m + j) d' := by
  have g := swpN_get d (m - i) m j (by omega) h2
  refine ⟨h.size.trans (swpN_size _ _ _ _), fun k hk => ?_, fun k hk => ?_, fun k hk => ?_⟩
  · rw [h.out k (by omega), g, if_neg (by omega), if_neg (by omega)]
  · rw [h.out _ (by omega), g, if_pos (by omega)]; congr 1; omega
  · by_cases c : k < j
    · have := h.lo k (by omega)
      rw [show m - (i - j) + k = m - i + (m + j - m) + k by omega] at this
      rw [this, g, if_neg (by omega), if_pos (by omega)]; congr 1; omega
    · have := h.hi (k - j) (by omega)
      rw [show m - (i - j) + (m + j - m) + (k - j) = m - i + (m + j - m) + k by omega] at this
      rw [this, g, if_neg (by omega), if_neg (by omega)]; congr 1; omega
theorem Rot.right {d d' : Array α} {m i j : Nat} (h1 : i ≤ m) (hj : i < j) (h2 : m + j ≤ d.size) (h : Rot (swpN d (m - i) (m + j - i) i) (m - i) m (m + (j - i)) d') : Rot d (m - i) m (m + j) d' := by
  have g := swpN_get d (m - i) (m + j - i) i (by omega) (by omega)
  refine ⟨h.size.trans (swpN_size _ _ _ _), fun k hk => ?_, fun k hk => ?_, fun k hk => ?_⟩
  · rw [h.out k (by omega), g, if_neg (by omega), if_neg (by omega)]
  · by_cases c : k < j - i
    · rw [h.lo k (by omega), g, if_neg (by omega), if_neg (by omega)]
    · have := h.hi (k - (j - i)) (by omega)
      rw [show m - i + (m + (j - i) - m) + (k - (j - i)) = m - i + k by omega] at this
      rw [this, g, if_pos (by omega)]; congr 1; omega
  · rw [h.out _ (by omega), g, if_neg (by omega), if_pos (by omega)]; congr 1; omega
variable {lt : α → α → Bool}
theorem SortedIn.le (O : SWO lt) {a b : Nat} {d : Array α} (h : SortedIn lt a b d) {i j : Nat} (hi : a ≤ i) (hij : i ≤ j) (hj : j < b) : lt d[j]! d[i]! = false := by
  rcases Nat.lt_or_eq_of_le hij with h1 | h1
  · exact h i j hi h1 hj
  · subst h1; exact O.irrefl _
end Go.Proofs.Ythmcdiekgfgpdaa.T

namespace Go.Proofs.Ythmcdiekgfgpdaa.Sk
set_option linter.unusedVariables false
set_option linter.unusedSimpArgs false
set_option linter.unusedSectionVars false
open Go Go.RowKit Go.Sort Go.Proofs Go.Proofs.Ythmcdiekgfgpdaa.P Go.Proofs.Ythmcdiekgfgpdaa.T Go.Proofs.YthmcdiekgfgpdaaW.PrintWords Go.Proofs.YthmcdiekgfgpdaaW.PrintLast Go.Proofs.YthmcdiekgfgpdaaW.PrintMore
theorem sk_put {B : Nat} {w w1 : World} (h : Below B w w1) {p : Addr} (hp : B ≤ p.block) (u : Value) : Below B w (w1.setCell p u) :=
  ⟨h.os, h.tape, h.output, by simpa [World.setCell] using h.size, fun k hk => (Below.heap_setCell w1 p u k (by omega)).trans (h.block k hk)⟩
def encQ (q : Sq) : List Value := [.int .i64 q.f0, .int .i64 q.f1, .int .i64 q.f2]
variable {α : Type} [Inhabited α] {val : α → Sq} {base g cap : Nat} {w0 W W1 : World} {d : Array α}
structure SB (val : α → Sq) (base : Nat) (w0 : World) (g cap : Nat) (d : Array α) (W : World) : Prop where
  row : Kd.R k42 42 W base (fun k => k = g) (.slice (some ⟨g, 0, none⟩) d.size cap) (d.toList.map val)
  kept : Kept w0 W (fun k => k = g)
  be : Below base w0 W
theorem SB.ge (h : SB val base w0 g cap d W) : base ≤ g := Kd.R_base h.row g rfl
theorem SB.lt (h : SB val base w0 g cap d W) : g < W.heap.size := Kd.R_lt h.row g rfl
theorem SB.below (h : SB val base w0 g cap d W) (hb : Below W.heap.size W W1) : SB val base w0 g cap d W1 :=
  ⟨Kd.R_below h.row hb, h.kept.below hb, h.be.trans (hb.mono (Nat.le_of_lt (Nat.lt_of_le_of_lt h.ge h.lt)))⟩
theorem SB.drew (h : SB val base w0 g cap d W) : SB val base w0 g cap d W.drew := h.below (below_drew (Below.refl _ _))
theorem getD_val (d : Array α) (i : Nat) (hi : i < d.size) (z : Sq) : (d.toList.map val).getD i z = val d[i]! := by
  rw [List.getD_eq_getElem?_getD, List.getElem?_map, List.getElem?_eq_getElem (by simpa using hi)]
  simp [hi]
theorem SB.cells (h : SB val base w0 g cap d W) {i : Nat} (hi : i < d.size) :
    (W.cell? ⟨g, i * 3, none⟩ = some (.int .i64 (val d[i]!).f0) ∧ W.cell? ⟨g, i * 3 + 1, none⟩ = some (.int .i64 (val d[i]!).f1) ∧ W.cell? ⟨g, i * 3 + 2, none⟩ = some (.int .i64 (val d[i]!).f2)) ∧
    (W.frozen? ⟨g, i * 3, none⟩ = false ∧ W.frozen? ⟨g, i * 3 + 1, none⟩ = false ∧ W.frozen? ⟨g, i * 3 + 2, none⟩ = false) := by
  obtain ⟨c, hcl, hM, hcc, hfr⟩ := Kd.R_elem h.row (⟨0, 0, 0⟩ : Sq) (i : Int) (by omega) (by omega)
  obtain rfl := k42_openM hM
  simp only [Int.toNat_natCast, getD_val d i hi] at hcc hfr
  exact ⟨⟨hcc 0 _ rfl, hcc 1 _ rfl, hcc 2 _ rfl⟩, hfr 0, hfr 1, hfr 2⟩
theorem map_set (d : Array α) (i : Nat) (x : α) : (d.setIfInBounds i x).toList.map val = (d.toList.map val).set i (val x) := by
  rw [Array.toList_setIfInBounds, List.map_set]
theorem SB.set (h : SB val base w0 g cap d W) {i : Nat} (hi : i < d.size) (x : α) : SB val base w0 g cap (d.setIfInBounds i x) (W.setCells g (i * 3) (encQ (val x))) := by
  obtain ⟨c, hcl, hM, hcc, hfr⟩ := Kd.R_elem h.row (⟨0, 0, 0⟩ : Sq) (i : Int) (by omega) (by omega)
  have hc3 : c.length = 3 := hcl
  have hs := Kd.R_seg h.row (i : Int) (by omega) (by omega) (c := c) (seg := encQ (val x)) (j := 0) hcl hcc (show 3 ≤ 3 by omega) (x' := val x) (okp := fun _ => False) (by
    have e : c.take 0 ++ encQ (val x) ++ c.drop (0 + (encQ (val x)).length) = encQ (val x) := by
      rw [List.take_zero, List.nil_append, List.drop_of_length_le (by rw [hc3]; show 3 ≤ 0 + 3; omega), List.append_nil]
    rw [e]
    exact k42_mkM _ _ _ _) (fun _ h => h.elim)
  have hw : W.setCells g ((i : Int).toNat * (k42).sz + 0) (encQ (val x)) = W.setCells g (i * 3) (encQ (val x)) := by rw [Int.toNat_natCast]; rfl
  rw [hw, Int.toNat_natCast] at hs
  refine ⟨?_, Kept.of_grown hs.2 h.kept (fun k e => .inl (by injection e with e; exact e.symm)), ?_⟩
  · rw [map_set, Array.size_setIfInBounds]; exact hs.1
  · have hge := h.ge
    exact sk_put (sk_put (sk_put h.be hge _) hge _) hge _
theorem SB.swap (h : SB val base w0 g cap d W) {i j : Nat} (hi : i < d.size) (hj : j < d.size) :
    SB val base w0 g cap (swp d i j) ((W.setCells g (i * 3) (encQ (val d[j]!))).setCells g (j * 3) (encQ (val d[i]!))) :=
  (h.set hi d[j]!).set (by rw [Array.size_setIfInBounds]; exact hj) d[i]!
theorem SB.st (h : SB val base w0 g cap d W) {i : Nat} (hi : i < d.size) (q : Sq) (P : Program) : Sem.run P (storeCells ⟨g, i * 3, none⟩ (encQ q) 0) W = .ok () (W.setCells g (i * 3) (encQ q)) := by
  obtain ⟨⟨l0, l1, l2⟩, f0, f1, f2⟩ := h.cells hi
  have := run_storeCells_cells (P := P) g (i * 3) (encQ q) 0 W (fun c hc => by
    have hc : c < 3 := hc
    rcases (by omega : c = 0 ∨ c = 1 ∨ c = 2) with rfl | rfl | rfl
    · rw [show i * 3 + 0 + 0 = i * 3 from rfl, l0]; rfl
    · rw [show i * 3 + 0 + 1 = i * 3 + 1 from rfl, l1]; rfl
    · rw [show i * 3 + 0 + 2 = i * 3 + 2 from rfl, l2]; rfl) (fun c hc => by
    have hc : c < 3 := hc
    rcases (by omega : c = 0 ∨ c = 1 ∨ c = 2) with rfl | rfl | rfl
    · exact f0
    · exact f1
    · exact f2) (fun v hv => by
    unfold encQ at hv
    rcases List.mem_cons.1 hv with rfl | hv
    · rfl
    · rcases List.mem_cons.1 hv with rfl | hv
      · rfl
      · rw [List.mem_singleton.1 hv]; rfl)
  exact this
def ltC (cf : α → α → Int) (x y : α) : Bool := decide (cf x y < 0)
end Go.Proofs.Ythmcdiekgfgpdaa.Sk

namespace Go.Proofs.Ythmcdiekgfgpdaa.P
set_option linter.unusedVariables false
set_option linter.unusedSimpArgs false
open Go.RowKit Go.Proofs.YthmcdiekgfgpdaaW.PrintWords Go.Proofs.YthmcdiekgfgpdaaW.PrintLast Go.Proofs.YthmcdiekgfgpdaaW.PrintMore Go.Proofs.Ythmcdiekgfgpdaa.T
def cmpP (a b : Sq) : Int := if a.f1 = b.f1 then wrap64 (a.f0 - b.f0) else wrap64 (a.f1 - b.f1)
end Go.Proofs.Ythmcdiekgfgpdaa.P

namespace Go.Proofs.Ythmcdiekgfgpdaa.P
set_option linter.unusedVariables false
set_option linter.unusedSimpArgs false
open Go.RowKit Go.Proofs.YthmcdiekgfgpdaaW.PrintWords Go.Proofs.YthmcdiekgfgpdaaW.PrintLast Go.Proofs.YthmcdiekgfgpdaaW.PrintMore Go.Proofs.Ythmcdiekgfgpdaa.T Go.Proofs.Ythmcdiekgfgpdaa.Aid Go.Proofs.Ythmcdiekgfgpdaa.Sk Go.Sort
def okQ (q : Sq) : Bool := decide (-100000000000000000 ≤ q.f0) && decide (q.f0 ≤ 100000000000000000) && decide (-100000000000000000 ≤ q.f1) && decide (q.f1 ≤ 100000000000000000)
theorem okQ_iff {q : Sq} : okQ q = true ↔ ((-100000000000000000 ≤ q.f0 ∧ q.f0 ≤ 100000000000000000) ∧ -100000000000000000 ≤ q.f1) ∧ q.f1 ≤ 100000000000000000 := by
  simp [okQ, and_assoc]
abbrev BSq := { q : Sq // okQ q = true }
instance : Inhabited BSq := ⟨⟨⟨0, 0, 0⟩, by decide⟩⟩
def cfB (x y : BSq) : Int := cmpP x.1 y.1
theorem ltC_b (x y : BSq) : ltC cfB x y = ltb x.1 y.1 := by
  have hx := okQ_iff.1 x.2
  have hy := okQ_iff.1 y.2
  unfold ltC cfB cmpP ltb
  by_cases c : x.1.f1 = y.1.f1
  · rw [if_pos c, w64 (by omega) (by omega), decide_eq_false (show ¬ x.1.f1 < y.1.f1 by omega), decide_eq_true c, Bool.false_or, Bool.true_and]
    exact decide_eq_decide.2 (by omega)
  · rw [if_neg c, w64 (by omega) (by omega), decide_eq_false c, Bool.false_and, Bool.or_false]
    exact decide_eq_decide.2 (by omega)
theorem swo_b : SWO (ltC cfB) where
  irrefl := fun x => by rw [ltC_b, ltb_not]; unfold Lt; omega
  trans := fun x y z h k => by rw [ltC_b, ltb_iff] at *; unfold Lt at *; omega
  ntrans := fun x y z h k => by rw [ltC_b] at *; exact ltb_ntrans _ _ _ h k
theorem lift_b (l : List Sq) (h : ∀ q ∈ l, okQ q = true) : ∃ L : List BSq, L.map (·.1) = l := ⟨l.attach.map (fun x => ⟨x.1, h x.1 x.2⟩), by simp⟩
theorem sorted_list {d d' : Array BSq} (hp : PermIn 0 d.size d d') (hs : SortedIn (ltC cfB) 0 d.size d') : (d'.toList.map (·.1)).Perm (d.toList.map (·.1)) ∧ Up ltb (d'.toList.map (·.1)) := by
  refine ⟨List.Perm.map _ ?_, ?_⟩
  · have h := hp.2.2
    rw [← hp.1] at h
    rw [Array.extract_size] at h
    rw [hp.1, Array.extract_size] at h
    exact h
  · unfold Up
    rw [List.pairwise_map, List.pairwise_iff_getElem]
    intro i j hi hj hij
    have h := hs i j (Nat.zero_le _) hij (by rw [← hp.1]; simpa using hj)
    rw [ltC_b] at h
    have e1 : d'[i]! = d'.toList[i] := by simp at hi; simp [hi]
    have e2 : d'[j]! = d'.toList[j] := by simp at hj; simp [hj]
    rw [e1, e2] at h
    exact h
end Go.Proofs.Ythmcdiekgfgpdaa.P

namespace Go.Proofs.Ythmcdiekgfgpdaa.Sk
set_option linter.unusedVariables false
set_option linter.unusedSimpArgs false
set_option linter.unusedSectionVars false
open Go Go.RowKit Go.Sort Go.Proofs Go.Proofs.Ythmcdiekgfgpdaa.P Go.Proofs.Ythmcdiekgfgpdaa.T Go.Proofs.YthmcdiekgfgpdaaW.PrintWords Go.Proofs.YthmcdiekgfgpdaaW.PrintLast Go.Proofs.YthmcdiekgfgpdaaW.PrintMore
variable {α : Type} [Inhabited α] {val : α → Sq} {base g cap : Nat} {w0 W W1 : World} {d : Array α}
theorem SB.holds (h : SB val base w0 g cap d W) : HoldsK (fun x => encQ (val x)) 3 W g 0 d := by
  intro t ht
  rw [size_flatK] at ht
  rw [get_flatK _ _ _ _ ht]
  obtain ⟨⟨c0, c1, c2⟩, f0, f1, f2⟩ := h.cells (i := t / 3) (by omega)
  rcases (by omega : t % 3 = 0 ∨ t % 3 = 1 ∨ t % 3 = 2) with e | e | e
  · rw [show 0 + t = t / 3 * 3 from by omega, e]; exact ⟨c0, f0⟩
  · rw [show 0 + t = t / 3 * 3 + 1 from by omega, e]; exact ⟨c1, f1⟩
  · rw [show 0 + t = t / 3 * 3 + 2 from by omega, e]; exact ⟨c2, f2⟩
theorem sw_heap (W : World) (g n : Nat) (F : Array Value) (os : Array Obj) (cur : Array Value) (t : TypeId) (h : W.heap[g]? = some (.cells cur t (0, 0))) :
    (grow (putRow id (Sort.ahead W n) g 0 F) os).heap[g]? = some (.cells (putCells id 0 F cur) t (0, 0)) := by
  have hlt : g < W.heap.size := (Array.getElem?_eq_some_iff.1 h).1
  show ((W.heap.modify g (onCells (putCells id 0 F))) ++ os)[g]? = _
  rw [Array.getElem?_append_left (by simpa using hlt), Array.getElem?_modify, if_pos rfl, h]
  rfl
theorem sw_other (W : World) (g n : Nat) (F : Array Value) (os : Array Obj) (k : Nat) (hk : k < W.heap.size) (hne : k ≠ g) : (grow (putRow id (Sort.ahead W n) g 0 F) os).heap[k]? = W.heap[k]? := by
  show ((W.heap.modify g (onCells (putCells id 0 F))) ++ os)[k]? = _
  rw [Array.getElem?_append_left (by simpa using hk), Array.getElem?_modify, if_neg (Ne.symm hne)]
theorem sw_size (W : World) (g n : Nat) (F : Array Value) (os : Array Obj) : W.heap.size ≤ (grow (putRow id (Sort.ahead W n) g 0 F) os).heap.size := by
  show _ ≤ ((W.heap.modify g (onCells (putCells id 0 F))) ++ os).size
  simp
theorem SB.sorted (h : SB val base w0 g cap d W) {d' : Array α} (hs : d'.size = d.size) (n : Nat) (os : Array Obj) : SB val base w0 g cap d' (sortWorldK (fun x => encQ (val x)) 3 W g 0 n d' os) := by
  have hge := h.ge
  have hlt := h.lt
  have hH := holdsK_sortWorldK_c (fun x => encQ (val x)) 3 W g 0 d d' n os h.holds hlt hs
  obtain ⟨h0, inner, ⟨hn, hor⟩, hreps⟩ := h.row
  rcases hor with ⟨hv, _⟩ | ⟨g', cap', cur, hv, hb, hcur, hnc, hcm, hsz, htk⟩
  · cases hv
  · injection hv with e1 e2 e3
    injection e1 with e1
    injection e1 with e1
    subst e1 e3
    have hcur' := sw_heap W g n (flatK (fun x => encQ (val x)) 3 d') os cur _ hcur
    have hsz3 : cur.size = cap * 3 := hsz
    have hsz' : (putCells id 0 (flatK (fun x => encQ (val x)) 3 d') cur).size = cap * 3 := by rw [← hsz3]; simp [putCells]
    have hlen : ((putCells id 0 (flatK (fun x => encQ (val x)) 3 d') cur).toList.take ((List.map val d'.toList).length * 3)).length = (List.map val d'.toList).length * 3 := by
      have h1 : d.size ≤ cap := by simpa using hnc
      have h2 := Nat.mul_le_mul_right 3 (show d'.size ≤ cap by omega)
      have h3 : (List.map val d'.toList).length = d'.size := by rw [List.length_map, Array.length_toList]
      rw [h3, List.length_take, show (putCells id 0 (flatK (fun x => encQ (val x)) 3 d') cur).toList.length = cap * 3 from by rw [← hsz', Array.length_toList]]
      exact Nat.min_eq_left h2
    refine ⟨⟨h0, _, ⟨?_, .inr ⟨g, cap, _, by rw [List.length_map, Array.length_toList], hb, hcur', ?_, hcm, hsz', rfl⟩⟩, ?_, ?_⟩, ?_, ?_⟩
    · exact hlen
    · rw [List.length_map, Array.length_toList]; simpa [hs] using hnc
    · exact hlen
    · intro j p hj
      have hjl : j < d'.size := by have := (List.getElem?_eq_some_iff.1 hj).1; simpa using this
      have hp : p = val d'[j]! := by
        rw [List.getElem?_map] at hj
        obtain ⟨x, hx, rfl⟩ := Option.map_eq_some_iff.1 hj
        rw [Array.getElem?_toList] at hx
        rw [getElem!_pos d' j hjl, (Array.getElem?_eq_some_iff.1 hx).2]
      subst hp
      have hc : ∀ c, c < 3 → (putCells id 0 (flatK (fun x => encQ (val x)) 3 d') cur)[j * 3 + c]? = some (encQ (val d'[j]!))[c]! := fun c hc => by
        have := (hH.cell hjl hc).1
        rw [show 0 + j * 3 + c = j * 3 + c from by omega] at this
        rw [← this]
        exact (blk_cell hcur' _).symm
      have h3 : j * 3 + 3 ≤ d'.size * 3 := by have := Nat.mul_le_mul_right 3 (show j + 1 ≤ d'.size from hjl); rwa [Nat.add_mul, Nat.one_mul] at this
      have hl : ((List.drop (j * 3) ((putCells id 0 (flatK (fun x => encQ (val x)) 3 d') cur).toList.take (List.length (List.map val d'.toList) * 3))).take 3) = [.int .i64 (val d'[j]!).f0, .int .i64 (val d'[j]!).f1, .int .i64 (val d'[j]!).f2] := by
        refine List.ext_getElem? (fun i => ?_)
        by_cases hi : i < 3
        · rw [List.getElem?_take, if_pos hi, List.getElem?_drop, List.getElem?_take, if_pos (by simp; omega), Array.getElem?_toList, hc i hi]
          rcases (by omega : i = 0 ∨ i = 1 ∨ i = 2) with rfl | rfl | rfl <;> rfl
        · rw [List.getElem?_take, if_neg hi, List.getElem?_eq_none (by simp; omega)]
      exact hl ▸ k42_mkM _ _ _ _
    · exact ⟨Nat.le_trans h.kept.1 (sw_size _ _ _ _ _), fun i hi hne => (sw_other W g n _ os i (Nat.lt_of_lt_of_le hi h.kept.1) hne).trans (h.kept.2 i hi hne)⟩
    · exact h.be.trans ⟨rfl, rfl, rfl, sw_size _ _ _ _ _, fun k hk => sw_other W g n _ os k (by omega) (by omega)⟩
end Go.Proofs.Ythmcdiekgfgpdaa.Sk

namespace Go.Proofs
open Go.Shelf
def Try.sortSq_ren : Go.Shelf.Ren := ⟨fun | 6 => 34 | 15 => 42 | 14 => 41 | 28 => 53 | 29 => 54 | 20 => 45 | 21 => 46 | 22 => 47 | 23 => 48 | 24 => 49 | 25 => 50 | 26 => 51 | 27 => 52 | 46 => 58 | 47 => 59 | 48 => 60 | 49 => 61 | 50 => 62 | 57 => 63 | n => n, fun | 22 => 27 | 24 => 42 | 25 => 49 | 3 => 3 | 39 => 64 | 0 => 0 | 53 => 76 | 55 => 78 | 4 => 4 | 46 => 70 | 45 => 69 | 50 => 22 | 5 => 5 | 9 => 9 | 66 => 83 | 70 => 87 | 76 => 89 | 77 => 90 | n => n, fun | n => n⟩
theorem Try.sortSq : Go.Proofs.SlLaysF0.n6 Try.prog Try.sortSq_ren := {
  mixed := by kernel_rfl
  f6 := ⟨Try.f34.name, by decide, Try.func34.trans (congrArg some (by kernel_rfl))⟩
  f14 := ⟨Try.f41.name, by decide, Try.func41.trans (congrArg some (by kernel_rfl))⟩
  f15 := Try.func42.trans (congrArg some (by kernel_rfl))
  f20 := ⟨Try.f45.name, by decide, Try.func45.trans (congrArg some (by kernel_rfl))⟩
  f21 := ⟨Try.f46.name, by decide, Try.func46.trans (congrArg some (by kernel_rfl))⟩
  f22 := ⟨Try.f47.name, by decide, Try.func47.trans (congrArg some (by kernel_rfl))⟩
  f23 := ⟨Try.f48.name, by decide, Try.func48.trans (congrArg some (by kernel_rfl))⟩
  f24 := ⟨Try.f49.name, by decide, Try.func49.trans (congrArg some (by kernel_rfl))⟩
  f25 := ⟨Try.f50.name, by decide, Try.func50.trans (congrArg some (by kernel_rfl))⟩
  f26 := ⟨Try.f51.name, by decide, Try.func51.trans (congrArg some (by kernel_rfl))⟩
  f27 := ⟨Try.f52.name, by decide, Try.func52.trans (congrArg some (by kernel_rfl))⟩
  f28 := Try.func53.trans (congrArg some (by kernel_rfl))
  f29 := Try.func54.trans (congrArg some (by kernel_rfl))
  f46 := ⟨Try.f58.name, by decide, Try.func58.trans (congrArg some (by kernel_rfl))⟩
  f47 := Try.func59.trans (congrArg some (by kernel_rfl))
  f48 := Try.func60.trans (congrArg some (by kernel_rfl))
  f49 := ⟨Try.f61.name, by decide, Try.func61.trans (congrArg some (by kernel_rfl))⟩
  f50 := ⟨Try.f62.name, by decide, Try.func62.trans (congrArg some (by kernel_rfl))⟩
  f57 := ⟨Try.f63.name, by decide, Try.func63.trans (congrArg some (by kernel_rfl))⟩
  t0 := Try.underlying0
  a0 := Try.isAgg0
  z0 := Try.sizeOf0
  v0 := Try.zeroValue0
  t3 := Try.underlying3
  a3 := Try.isAgg3
  z3 := Try.sizeOf3
  v3 := Try.zeroValue3
  t4 := Try.underlying4
  a4 := Try.isAgg4
  z4 := Try.sizeOf4
  v4 := Try.zeroValue4
  t5 := Try.underlying5
  a5 := Try.isAgg5
  z5 := Try.sizeOf5
  v5 := Try.zeroValue5
  t9 := Try.underlying9
  a9 := Try.isAgg9
  z9 := Try.sizeOf9
  v9 := Try.zeroValue9
  t22 := Try.underlying27
  a22 := Try.isAgg27
  z22 := Try.sizeOf27
  v22 := Try.zeroValue27
  t25 := Try.underlying49
  a25 := Try.isAgg49
  z25 := Try.sizeOf49
  v25 := Try.zeroValue49
  t39 := Try.underlying64
  a39 := Try.isAgg64
  z39 := Try.sizeOf64
  v39 := Try.zeroValue64
  t45 := Try.underlying69
  a45 := Try.isAgg69
  z45 := Try.sizeOf69
  v45 := Try.zeroValue69
  t46 := Try.underlying70
  a46 := Try.isAgg70
  z46 := Try.sizeOf70
  v46 := Try.zeroValue70
  t50 := Try.underlying22
  a50 := Try.isAgg22
  z50 := Try.sizeOf22
  v50 := Try.zeroValue22
  t53 := Try.underlying76
  a53 := Try.isAgg76
  z53 := Try.sizeOf76
  v53 := Try.zeroValue76
  t55 := Try.underlying78
  a55 := Try.isAgg78
  z55 := Try.sizeOf78
  v55 := Try.zeroValue78
  t66 := Try.underlying83
  a66 := Try.isAgg83
  z66 := Try.sizeOf83
  v66 := Try.zeroValue83
  t70 := Try.underlying87
  a70 := Try.isAgg87
  z70 := Try.sizeOf87
  v70 := Try.zeroValue87
  t76 := Try.underlying89
  a76 := Try.isAgg89
  z76 := Try.sizeOf89
  v76 := Try.zeroValue89
  t77 := Try.underlying90
  a77 := Try.isAgg90
  z77 := Try.sizeOf90
  v77 := Try.zeroValue90 }
end Go.Proofs

namespace Go.Proofs.Ythmcdiekgfgpdaa.P
open Go.RowKit Go.Proofs.YthmcdiekgfgpdaaW.PrintWords Go.Proofs.YthmcdiekgfgpdaaW.PrintLast Go.Proofs.YthmcdiekgfgpdaaW.PrintMore
attribute [local go_sem] max2_int min2_int max_two min_two max_three min_three max_four min_four
set_option linter.unusedVariables false
set_option linter.unusedSimpArgs false
open Go.Proofs.Ythmcdiekgfgpdaa.T Go.Proofs.Ythmcdiekgfgpdaa.Aid Go.Proofs.Ythmcdiekgfgpdaa.Sk Go.Sort Go.Shelf Go.Lib
theorem cp_grow (x y : Sq) (W : World) : Calls Try.prog 35 #[.agg #[.int .i64 x.f0, .int .i64 x.f1, .int .i64 x.f2], .agg #[.int .i64 y.f0, .int .i64 y.f1, .int .i64 y.f2]] W fun e w' => e = .returned (.int .i64 (cmpP x y)) ∧ ∃ q os', w' = grow (W.drewN q) os' := by
  have hu := Try.underlying42
  by_cases c : x.f1 = y.f1
  · have hz : cmpP x y = wrap64 (x.f0 - y.f0) := by unfold cmpP; rw [if_pos c]
    rw [hz]
    have c1 : (x.f1 == y.f1) = true := beq_iff_eq.mpr c
    have c2 : (x.f1 != y.f1) = false := bne_eq_false_iff_eq.mpr c
    clear c hz
    go_enter Try.func35, Try.ntmps35
    go_wp2_with fail
    go_ret
    exact ⟨rfl, 0, _, by rw [alloc_eq_grow, alloc_eq_grow, grow_grow]; rfl⟩
  · have hz : cmpP x y = wrap64 (x.f1 - y.f1) := by unfold cmpP; rw [if_neg c]
    rw [hz]
    have c1 : (x.f1 == y.f1) = false := beq_eq_false_iff_ne.mpr c
    have c2 : (x.f1 != y.f1) = true := bne_iff_ne.mpr c
    clear c hz
    go_enter Try.func35, Try.ntmps35
    go_wp2_with fail
    go_ret
    exact ⟨rfl, 0, _, by rw [alloc_eq_grow, alloc_eq_grow, grow_grow]; rfl⟩
theorem cp_lays (blk off size : Nat) (w : World) : CmpLays Try.prog 35 #[] (fun x : BSq => encQ x.1) 3 cfB blk off size w := fun _ _ _ _ x y => cp_grow x.1 y.1 _
theorem sortSq {base g cap : Nat} {w0 W : World} {L : List BSq} {l : List Sq} (hL : L.map (·.1) = l) (hp : (srt l).Pairwise Lt) (h : SB (fun x : BSq => x.1) base w0 g cap L.toArray W) (hsz : L.length ≤ 1000000) :
    Calls Try.prog 34 #[.slice (some ⟨g, 0, none⟩) L.length cap, .func (.func 35) #[] #[]] W fun e w' =>
      e = .returned (.tuple #[]) ∧ ∃ d' : Array BSq, d'.size = L.length ∧ d'.toList.map (·.1) = srt l ∧ SB (fun x : BSq => x.1) base w0 g cap d' w' := by
  have hsz2 : L.toArray.size = L.length := by simp
  have hcon := AnyQ.slices_SortFunc Try.sortSq 3 Try.isAgg42 Try.sizeOf42 (fun x : BSq => encQ x.1) (fun _ => rfl) (fun x v hv => by simp [encQ] at hv; rcases hv with rfl | rfl | rfl <;> rfl) cfB swo_b 35 #[] g 0 cap L.toArray W (enters_of Try.func35 (by kernel_rfl) rfl) (cp_lays _ _ _ _) h.holds h.lt (by simp; omega)
  change Calls Try.prog 34 _ _ _ at hcon
  rw [hsz2] at hcon
  refine hcon.mono ?_
  rintro e w' ⟨he, d', n, os, hP, hS, rfl⟩
  rw [← hsz2] at hP hS
  have hso := sorted_list hP hS
  have hd : d'.size = L.length := by rw [hP.1, hsz2]
  refine ⟨he, d', hd, ?_, h.sorted (by rw [hd, hsz2]) n os⟩
  have h1 : (L.toArray).toList.map (fun x : BSq => x.1) = l := hL
  rw [h1] at hso
  exact (up_unique ((srt_perm l).trans hso.1.symm) (hp.imp (fun h => ltb_iff.2 h)) hso.2).symm
theorem ch_step (p : Sq → Sq) (l : List Sq) (i : Nat) (hi : i < l.length) (q : Sq) (hq : l[i]? = some q) : (l.take i).map p ++ [p q] = (l.take (i + 1)).map p := by
  rw [List.take_add_one, hq, List.map_append]; rfl
theorem ch_app {W w1 : World} {base B9 n cap : Nat} {A : Option Addr} {xs : List Sq} {ok : Nat → Prop} (h : Kd.R k42 42 W base ok (.slice A n cap) xs) {cs : Array Value} (hb : W.heap[B9]? = some (.cells cs 29 (0, 0))) (hg : W.grownBy w1 (Value.slice A n cap).ownBlock) : w1.heap[B9]? = some (.cells cs 29 (0, 0)) := blk_grown hb hg (Kd.R_ne h hb (by decide))
set_option maxHeartbeats 8000000 in
set_option maxRecDepth 100000 in
theorem changed_calls (a b W H : Int) (A : Option Addr) (c : Nat) (l : List Sq) (g : Nat) (lb : Array Value) (p : Sq → Sq) (w : World) (hr : Kd.C k42 w A l.length l) (hc : l.length ≤ c) (hl0 : 0 < l.length) (hl : l.length ≤ 1000000) (hok : ∀ q ∈ l, okQ (p q) = true) (hlt : (srt (l.map p)).Pairwise Lt)
    (eg : ∀ args w, (callFunc g args).run Try.prog w = .ok (.enter g args) w)
    (hp : ∀ (V : World) (x : Sq), Below w.heap.size w V → x ∈ l → Calls Try.prog g (#[.agg #[.int .i64 x.f0, .int .i64 x.f1, .int .i64 x.f2]] ++ lb) V fun e w' => e = .returned (.agg #[.int .i64 (p x).f0, .int .i64 (p x).f1, .int .i64 (p x).f2]) ∧ Below V.heap.size V w') :
    Calls Try.prog 24 #[.agg #[.int .i64 a, .int .i64 b, .slice A l.length c], .int .i64 W, .int .i64 H, .func (.func g) #[] lb] w fun e w' => ∃ v, e = .returned (.agg #[.int .i64 W, .int .i64 H, v]) ∧ Kd.R k42 42 w' w.heap.size (fun _ => True) v (srt (l.map p)) ∧ Below w.heap.size w w' := by
  have HR := Aside0.mk hr
  have HC := Aside0.mk hc
  have HOK := Aside0.mk hok
  have HLT := Aside0.mk hlt
  have HP := Aside0.mk hp
  have HL := Aside0.mk (And.intro hl0 hl)
  have hu := Try.underlying42
  have hu2 := Try.underlying29
  have HX0 := Aside0.mk (heap_alloc_new (w.alloc (.cells #[.int .i64 a, .int .i64 b, .slice A l.length c] 29)) (.cells #[.int .i64 0, .int .i64 0, .slice none 0 0] 29))
  rw [show (w.alloc (.cells #[.int .i64 a, .int .i64 b, .slice A l.length c] 29)).heap.size = w.heap.size + 1 from by simp] at HX0
  have HX1 := Aside0.mk (heap_alloc_new ((w.alloc (.cells #[.int .i64 a, .int .i64 b, .slice A l.length c] 29)).alloc (.cells #[.int .i64 0, .int .i64 0, .slice none 0 0] 29)) (.cells #[.int .i64 W, .int .i64 H, .slice none 0 0] 29))
  rw [show ((w.alloc (.cells #[.int .i64 a, .int .i64 b, .slice A l.length c] 29)).alloc (.cells #[.int .i64 0, .int .i64 0, .slice none 0 0] 29)).heap.size = w.heap.size + 1 + 1 from by simp] at HX1
  clear hr hc hok hlt hp hl0 hl
  go_enter Try.func24, Try.ntmps24
  go_wp2_with fail
  go_loopg [18] l.length (fun kq v18 wc => ∃ (i : Nat) (xi : Int) (A9 : Option Addr) (n9 c9 : Nat), i ≤ l.length ∧ l.length - i ≤ kq ∧ (i : Int) = xi ∧ v18 = .int .i64 xi ∧ Aside0 (wc.heap[w.heap.size + 1]? = some (.cells #[.int .i64 0, .int .i64 0, .slice none 0 0] 29 (0, 0))) ∧ Aside0 (wc.heap[w.heap.size + 1 + 1]? = some (.cells #[.int .i64 W, .int .i64 H, .slice A9 n9 c9] 29 (0, 0))) ∧ Aside0 (Kd.R k42 42 wc w.heap.size (fun _ => True) (.slice A9 n9 c9) ((l.take i).map p)) ∧ Aside0 (Below w.heap.size w wc))
  case atStart => exact ⟨0, 0, none, 0, 0, by omega, by omega, rfl, rfl, ⟨blk_alloc HX0.out _⟩, HX1, ⟨Kd.R_nil _ _ _ _ _⟩, ⟨below_alloc (below_alloc (below_alloc (Below.refl _ _) _) _) _⟩⟩
  case round =>
    clear HX0 HX1
    obtain ⟨i, xi, A9, n9, c9, hi, hk, hxi, rfl, HX0, HX1, HR9, HB⟩ := hrel
    by_cases hlt : i < l.length
    · have b1 : decide (xi < (l.length : Int)) = true := decide_eq_true (by omega)
      obtain ⟨ad, e1, x0, x1, x2⟩ := at_T42 (Kd.C_below HR.out HB.out) xi (by omega) (by omega)
      cases e1
      have hq : l[i]? = some (rd_T42 l xi) := by
        unfold rd_T42
        rw [← hxi, Int.toNat_natCast, List.getD_eq_getElem?_getD, List.getElem?_eq_getElem hlt]; rfl
      have hmem := List.mem_of_getElem? hq
      have hst := ch_step p l i hlt _ hq
      generalize rd_T42 l xi = q at x0 x1 x2 hmem hst
      have HST := Aside0.mk hst
      have HCALL : Aside0 (∀ V, Below w.heap.size w V → Calls Try.prog g (#[.agg #[.int .i64 q.f0, .int .i64 q.f1, .int .i64 q.f2]] ++ lb) V fun e w' => e = .returned (.agg #[.int .i64 (p q).f0, .int .i64 (p q).f1, .int .i64 (p q).f2]) ∧ Below V.heap.size V w') := ⟨fun V hV => HP.out V q hV hmem⟩
      generalize p q = r at HST HCALL
      have q1 := eq_true (show 0 ≤ xi by omega)
      have q2 := eq_true (show xi < (l.length : Int) by omega)
      have HI : Aside0 (i < l.length ∧ l.length - i ≤ gk ∧ (i : Int) = xi) := ⟨hlt, hk, hxi⟩
      have HNE : Aside0 (some wr.heap.size ≠ (Value.slice A9 n9 c9).ownBlock) := ⟨fun e => Nat.lt_irrefl _ (Kd.R_lt HR9.out _ e.symm)⟩
      have HX0b := Aside0.mk (blk_drew (blk_alloc HX0.out (.cells #[.int .i64 q.f0, .int .i64 q.f1, .int .i64 q.f2] 42)))
      have HX1b := Aside0.mk (blk_drew (blk_alloc HX1.out (.cells #[.int .i64 q.f0, .int .i64 q.f1, .int .i64 q.f2] 42)))
      have HX2b := Aside0.mk (blk_drew (heap_alloc_new wr (.cells #[.int .i64 q.f0, .int .i64 q.f1, .int .i64 q.f2] 42)))
      have HR9b := Aside0.mk (Kd.R_drew (Kd.R_alloc HR9.out (.cells #[.int .i64 q.f0, .int .i64 q.f1, .int .i64 q.f2] 42)))
      have HBb := Aside0.mk (below_drew (below_alloc HB.out (.cells #[.int .i64 q.f0, .int .i64 q.f1, .int .i64 q.f2] 42)))
      clear hi hk hxi hlt hq hmem hst HX0 HX1 HR9 HB
      go_wp2_with fail
      refine start_ (n := 9) (S := fun w' => w'.cell? ⟨w.heap.size + 1 + 1, 2, none⟩ = some (.slice A9 n9 c9) ∧ w'.cell? ⟨wr.heap.size, 0, none⟩ = some (.int .i64 q.f0) ∧ w'.cell? ⟨wr.heap.size, 1, none⟩ = some (.int .i64 q.f1) ∧ w'.cell? ⟨wr.heap.size, 2, none⟩ = some (.int .i64 q.f2)) (ds := [8]) #[false, false, false, false, false, false, false, false, false] (by kernel_rfl) rfl rfl ⟨(blk_cell HX1b.out 2).trans rfl, (blk_cell HX2b.out 0).trans rfl, (blk_cell HX2b.out 1).trans rfl, (blk_cell HX2b.out 2).trans rfl⟩ (fun hHeld => ?_)
      generalize (wr.alloc (.cells #[.int .i64 q.f0, .int .i64 q.f1, .int .i64 q.f2] 42)).drew = w5 at HX0b HX1b HX2b HR9b HBb hHeld ⊢
      clear x0 x1 x2
      refine pure_ (i := 0) (N := some 22) (v := ?_) (a' := ?_) #[true, false, false, false, false, false, false, false, false] rfl rfl (by kernel_rfl) (fun _ _ _ h => h) (Or.inl ⟨by rfl, ?_⟩) ?_ ?_
      rotate_left
      · intro w'
        go_simp
        with_reducible rfl
      rotate_left
      · simp only [Act.put, List.setIfInBounds_toArray, List.set_cons_zero, List.set_cons_succ, i64_w, i32_w]
        rfl
      refine take_ (i := 1) (N := some 23) (v := ?_) (a' := ?_) #[true, true, false, false, false, false, false, false, false] rfl rfl (by kernel_rfl) (fun _ _ _ h => h) (Or.inl ⟨by rfl, ?_⟩) hHeld ?_ ?_
      rotate_left
      · rintro w' ⟨s0, s1, s2, s3⟩
        go_simp
        with_reducible rfl
      rotate_left
      · simp only [Act.put, List.setIfInBounds_toArray, List.set_cons_zero, List.set_cons_succ, i64_w, i32_w]
        rfl
      refine pure_ (i := 2) (N := some 24) (v := ?_) (a' := ?_) #[true, true, true, false, false, false, false, false, false] rfl rfl (by kernel_rfl) (fun _ _ _ h => h) (Or.inl ⟨by rfl, ?_⟩) ?_ ?_
      rotate_left
      · intro w'
        go_simp
        with_reducible rfl
      rotate_left
      · simp only [Act.put, List.setIfInBounds_toArray, List.set_cons_zero, List.set_cons_succ, i64_w, i32_w]
        rfl
      refine take_ (i := 3) (N := some 25) (v := ?_) (a' := ?_) #[true, true, true, true, false, false, false, false, false] rfl rfl (by kernel_rfl) (fun _ _ _ h => h) (Or.inl ⟨by rfl, ?_⟩) hHeld ?_ ?_
      rotate_left
      · rintro w' ⟨s0, s1, s2, s3⟩
        go_simp
        with_reducible rfl
      rotate_left
      · simp only [Act.put, List.setIfInBounds_toArray, List.set_cons_zero, List.set_cons_succ, i64_w, i32_w]
        rfl
      refine one_ (i := 4) (N := some 26) #[true, true, true, true, true, false, false, false, false] rfl rfl (by kernel_rfl) (by decide) (fun K hK => ?_)
      go_simp
      go_at_fn g
      refine (HCALL.out _ HBb.out).mono ?_
      rintro e w6 ⟨rfl, hb⟩
      have HX0c := Aside0.mk (blk_below HX0b.out hb)
      have HX1c := Aside0.mk (blk_below HX1b.out hb)
      have HX2c := Aside0.mk (blk_below HX2b.out hb)
      have HR9c := Aside0.mk (Kd.R_below HR9b.out hb)
      have HBc := Aside0.mk (below_step HBb.out hb)
      clear HX0b HX1b HX2b HR9b HBb hb hHeld
      refine hK.out _ _ ⟨(blk_cell HX1c.out 2).trans rfl, (blk_cell HX2c.out 0).trans rfl, (blk_cell HX2c.out 1).trans rfl, (blk_cell HX2c.out 2).trans rfl⟩ (fun hHeld => ?_)
      clear hK K
      refine one_ (i := 5) (N := some 27) #[true, true, true, true, true, true, false, false, false] rfl rfl (by kernel_rfl) (by decide) (fun K hK => ?_)
      go_simp
      refine hK.out _ _ ⟨(blk_cell (blk_alloc HX1c.out _) 2).trans rfl, (blk_cell (blk_alloc HX2c.out _) 0).trans rfl, (blk_cell (blk_alloc HX2c.out _) 1).trans rfl, (blk_cell (blk_alloc HX2c.out _) 2).trans rfl⟩ (fun hHeld => ?_)
      clear hK K
      refine one_ (i := 6) (N := some 28) #[true, true, true, true, true, true, true, false, false] rfl rfl (by kernel_rfl) (by decide) (fun K hK => ?_)
      have hlen : ((l.take i).map p).length ≤ 1000000 := by rw [List.length_map]; exact Nat.le_trans (List.length_take_le' _ _) HL.out.2
      have HLN := Aside0.mk hlen
      clear hlen
      refine Kd.R_append_step k42 (w0 := w) w.heap.size (by simp [Region.wanted]) (.tmp 23) (.tmp 27) 27 42 (.agg #[.int .i64 0, .int .i64 0, .int .i64 0]) 24 rfl Try.underlying27 info42 rfl (by decide) (by omega) (.slice A9 n9 c9) ((l.take i).map p) r [.int .i64 r.f0, .int .i64 r.f1, .int .i64 r.f2] (fun _ => True) (fun _ => False) rfl rfl (k42_mkM _ _ _ _) (fun _ h => h.elim) (fun _ _ => trivial) HR9c.out HBc.out HBc.out.size (by have := HLN.out; omega) ?_
      intro v7 w7 ho hb hg hat
      obtain ⟨A7, c7, e7⟩ := Kd.R_slice ho
      subst e7
      have HX0d := Aside0.mk (ch_app HR9c.out HX0c.out hg)
      have HX1d := Aside0.mk (ch_app HR9c.out HX1c.out hg)
      have HX2d := Aside0.mk (blk_grown HX2c.out hg HNE.out)
      have HR9d := Aside0.mk ho
      have HBd := Aside0.mk hb
      obtain ⟨n7, hn7⟩ : ∃ n7, ((l.take i).map p ++ [r]).length = n7 := ⟨_, rfl⟩
      rw [hn7] at HR9d
      clear HX0c HX1c HX2c HR9c HBc ho hb hg hat hHeld HNE HLN
      refine hK.out _ _ ⟨(blk_cell HX1d.out 2).trans rfl, (blk_cell HX2d.out 0).trans rfl, (blk_cell HX2d.out 1).trans rfl, (blk_cell HX2d.out 2).trans rfl⟩ (fun hHeld => ?_)
      clear hK K
      refine norm_ (a' := ?_) ?_ ?_
      rotate_left
      · show Act.put _ (some 28) _ = _
        simp only [hn7, Act.put, List.setIfInBounds_toArray, List.set_cons_zero, List.set_cons_succ, i64_w, i32_w]
        rfl
      refine pure_ (i := 7) (N := some 29) (v := ?_) (a' := ?_) #[true, true, true, true, true, true, true, true, false] rfl rfl (by kernel_rfl) (fun _ _ _ h => h) (Or.inl ⟨by rfl, ?_⟩) ?_ ?_
      rotate_left
      · intro w'
        go_simp
        with_reducible rfl
      rotate_left
      · simp only [Act.put, List.setIfInBounds_toArray, List.set_cons_zero, List.set_cons_succ, i64_w, i32_w]
        rfl
      refine last_ (i := 8) (N := none) #[true, true, true, true, true, true, true, true, true] rfl rfl (by kernel_rfl) (by decide) (fun K hK => ?_)
      have k2 : w7.cell? ⟨w.heap.size + 1 + 1, 2, none⟩ = some (.slice A9 n9 c9) := (blk_cell HX1d.out 2).trans rfl
      have f2 := blk_frozen HX1d.out 2
      go_simp
      refine hK.out _ _ ?_
      clear hK K hHeld k2 f2
      refine done_ (by kernel_rfl) ?_
      have HX0e : Aside0 ((w7.setCell ⟨w.heap.size + 1 + 1, 2, none⟩ (.slice A7 n7 c7)).heap[w.heap.size + 1]? = some (.cells #[.int .i64 0, .int .i64 0, .slice none 0 0] 29 (0, 0))) := ⟨(Below.heap_setCell _ _ _ _ (by simp)).trans HX0d.out⟩
      have HX1e := Aside0.mk (blk_put HX1d.out 2 (.slice A7 n7 c7) (cs' := #[.int .i64 W, .int .i64 H, .slice A7 n7 c7]) rfl)
      have HR9e := Aside0.mk (Kd.R_set HR9d.out HX1d.out (by decide) 2 (.slice A7 n7 c7))
      have HBe := Aside0.mk (below_set (j := 2) (v := .slice A7 n7 c7) HBd.out (show w.heap.size ≤ w.heap.size + 1 + 1 by omega))
      clear HX0d HX1d HX2d HR9d HBd
      have EI : Aside0 (wrap64 (xi + 1) = ((i + 1 : Nat) : Int)) := ⟨by have h1 := HI.out; have h2 := HL.out; rw [w64 (by omega) (by omega)]; omega⟩
      rw [HST.out] at HR9e
      clear hn7
      go_wp2_with fail
      go_roundg (l.length - (i + 1))
      case measure => have h1 := HI.out; omega
      case rel => exact ⟨i + 1, _, A7, n7, c7, by have h1 := HI.out; omega, Nat.le_refl _, rfl, by first | rfl | rw [EI.out], HX0e, HX1e, HR9e, HBe⟩
    · have b1 : decide (xi < (l.length : Int)) = false := decide_eq_false (by omega)
      obtain rfl : i = l.length := by omega
      have hr9 := HR9.out
      rw [List.take_length] at hr9
      obtain ⟨L, hL⟩ := lift_b (l.map p) (fun q hq => by obtain ⟨s, hs, rfl⟩ := List.mem_map.1 hq; exact HOK.out s hs)
      have hLl : L.length = l.length := by have := congrArg List.length hL; rwa [List.length_map, List.length_map] at this
      obtain ⟨g9, cap9, e9, hge, hlt9, cells9, hcl⟩ := Kd.R_form hr9 (by rw [List.length_map]; exact HL.out.1)
      rw [List.length_map, ← hLl] at e9
      injection e9 with e1 e2 e3
      subst e1 e2 e3
      have HSB : Aside0 (SB (fun x : BSq => x.1) w.heap.size wr g9 c9 L.toArray wr) := ⟨⟨by
        have h1 := Kd.R_mono (ok' := fun k => k = g9) (Kd.R_tight rfl hr9) (fun k hk => by simpa [Value.ownBlock] using hk)
        rw [show L.toArray.size = L.length by simp]
        show Kd.R _ _ _ _ _ _ (L.map (·.1))
        rw [hL]
        exact h1, Kept.refl _ _, Below.refl _ _⟩⟩
      have HSORT := Aside0.mk (sortSq hL HLT.out HSB.out (by rw [hLl]; exact HL.out.2))
      have HN0 : Aside0 (¬ (w.heap.size + 1 = g9)) := ⟨blk_ne HX0.out hcl (by decide)⟩
      have HN1 : Aside0 (¬ (w.heap.size + 1 + 1 = g9)) := ⟨blk_ne HX1.out hcl (by decide)⟩
      have k2 : wr.cell? ⟨w.heap.size + 1 + 1, 2, none⟩ = some (.slice (some ⟨g9, 0, none⟩) L.length c9) := (blk_cell HX1.out 2).trans rfl
      clear hr9 hLl hge hlt9 hcl HSB HR9 hi hk hxi hlt hL
      go_wp2_with (go_at_call 34; refine HSORT.out.mono ?_; rintro e w8 ⟨rfl, d', hd, hm, hS⟩; have HD := Aside0.mk (And.intro hd hm); have HS := Aside0.mk hS; have HX0b := Aside0.mk (blk_kept HX0.out hS.kept HN0.out); have HX1b := Aside0.mk (blk_kept HX1.out hS.kept HN1.out); have m0 : w8.cell? ⟨w.heap.size + 1 + 1, 0, none⟩ = some (.int .i64 W) := (blk_cell HX1b.out 0).trans rfl; have m1 : w8.cell? ⟨w.heap.size + 1 + 1, 1, none⟩ = some (.int .i64 H) := (blk_cell HX1b.out 1).trans rfl; have m2 : w8.cell? ⟨w.heap.size + 1 + 1, 2, none⟩ = some (.slice (some ⟨g9, 0, none⟩) L.length c9) := (blk_cell HX1b.out 2).trans rfl; have n0 : w8.cell? ⟨w.heap.size + 1, 0, none⟩ = some (.int .i64 0) := (blk_cell HX0b.out 0).trans rfl; have n1 : w8.cell? ⟨w.heap.size + 1, 1, none⟩ = some (.int .i64 0) := (blk_cell HX0b.out 1).trans rfl; have n2 : w8.cell? ⟨w.heap.size + 1, 2, none⟩ = some (.slice none 0 0) := (blk_cell HX0b.out 2).trans rfl; have f0 := blk_frozen HX0b.out 0; have f1 := blk_frozen HX0b.out 1; have f2 := blk_frozen HX0b.out 2; clear hd hm hS k2 HSORT)
      have hrow := HS.out.row
      rw [HD.out.1] at hrow
      change Kd.R _ _ _ _ _ _ (d'.toList.map (fun x : BSq => x.1)) at hrow
      rw [show d'.toList.map (fun x : BSq => x.1) = srt (l.map p) from HD.out.2] at hrow
      refine bodyPost_ret (results_cell_row rfl _ _ (w.heap.size + 1) 29 #[.int .i64 W, .int .i64 H, .slice (some ⟨g9, 0, none⟩) L.length c9] (0, 0) _ rfl (blk_put (blk_put (blk_put HX0b.out 0 (.int .i64 W) rfl) 1 (.int .i64 H) rfl) 2 (.slice (some ⟨g9, 0, none⟩) L.length c9) rfl) Try.underlying29 rfl (by kernel_rfl)) rfl ?_
      have h1 := Kd.R_types hrow HX0b.out (by decide)
      refine ⟨_, rfl, ?_, below_set (below_set (below_set (HB.out.trans HS.out.be) (Nat.le_add_right _ _)) (Nat.le_add_right _ _)) (Nat.le_add_right _ _)⟩
      exact Kd.R_mono (Kd.R_far (p := ⟨w.heap.size + 1, 2, none⟩) (Kd.R_far (p := ⟨w.heap.size + 1, 1, none⟩) (Kd.R_far (p := ⟨w.heap.size + 1, 0, none⟩) h1 (fun _ hk => hk.2) _) (fun _ hk => hk.2) _) (fun _ hk => hk.2) _) (fun _ _ => trivial)
end Go.Proofs.Ythmcdiekgfgpdaa.P

namespace Go.Proofs.Ythmcdiekgfgpdaa.T
set_option linter.unusedVariables false
set_option linter.unusedSimpArgs false
def pairB (p : Sq → Sq → Bool) : List Sq → Bool
  | [] => true
  | q :: l => l.all (p q) && pairB p l
theorem pairB_iff {p : Sq → Sq → Bool} : ∀ l : List Sq, pairB p l = true ↔ l.Pairwise (fun a b => p a b = true)
  | [] => by simp [pairB]
  | q :: l => by
    simp only [pairB, Bool.and_eq_true, List.all_eq_true, List.pairwise_cons, pairB_iff l]
def boxB (W H : Int) (q : Sq) : Bool := decide (1 ≤ q.f2) && (decide (0 ≤ q.f0) && (decide (q.f0 + q.f2 ≤ W) && (decide (0 ≤ q.f1) && decide (q.f1 + q.f2 ≤ H))))
def apB (p q : Sq) : Bool := !(decide (p.f0 < q.f0 + q.f2) && (decide (q.f0 < p.f0 + p.f2) && (decide (p.f1 < q.f1 + q.f2) && decide (q.f1 < p.f1 + p.f2))))
theorem apB_iff {p q : Sq} : apB p q = true ↔ Apart p q := by
  unfold apB Apart
  rw [Bool.not_eq_true', ← Bool.not_eq_true]
  simp only [Bool.and_eq_true, decide_eq_true_eq]
def goodC (W H : Int) (l : List Sq) : Bool := (decide (1 ≤ W) && decide (W ≤ 500)) && ((decide (1 ≤ H) && decide (H ≤ 500)) && (decide (l.length ≤ 30) && (l.all (boxB W H) && (pairB apB l && (pairB ltb l && decide (area l = W * H))))))
theorem goodC_iff {W H : Int} {l : List Sq} : goodC W H l = true ↔ T.Good W H l := by
  have e1 : pairB apB l = true ↔ l.Pairwise Apart := by rw [pairB_iff]; simp only [apB_iff]
  have e2 : pairB ltb l = true ↔ l.Pairwise Lt := by rw [pairB_iff]; simp only [ltb_iff]
  have e3 : l.all (boxB W H) = true ↔ ∀ q ∈ l, inBox W H q := by
    rw [List.all_eq_true]
    refine forall_congr' (fun q => forall_congr' (fun _ => ?_))
    unfold boxB inBox; simp only [Bool.and_eq_true, decide_eq_true_eq]
  unfold goodC
  simp only [Bool.and_eq_true, decide_eq_true_eq, e1, e2, e3]
  exact ⟨fun ⟨h1, h2, h3, h4, h5, h6, h7⟩ => ⟨h1, h2, h3, h4, h5, h6, h7⟩, fun g => ⟨g.w, g.h, g.len, g.box, g.apart, g.lt, g.area⟩⟩
end Go.Proofs.Ythmcdiekgfgpdaa.T

namespace Go.Proofs.Ythmcdiekgfgpdaa.LawAid
open Go.RowKit Go.Proofs.YthmcdiekgfgpdaaW.PrintWords Go.Proofs.YthmcdiekgfgpdaaW.PrintLast Go.Proofs.YthmcdiekgfgpdaaW.PrintMore
section
variable {P : World → Prop} {w W W2 : World} {α : Type} {d : Kd α} {e base : Nat} {ok : Nat → Prop} {v u : Value} {xs : List α}
theorem fin_blk {B t : Nat} {a b c : Value} (h : W.heap[B]? = some (.cells #[a, b, c] t (0, 0))) (x y z : Value) : (((W.setCell ⟨B, 0, none⟩ x).setCell ⟨B, 1, none⟩ y).setCell ⟨B, 2, none⟩ z).heap[B]? = some (.cells #[x, y, z] t (0, 0)) :=
  blk_put (blk_put (blk_put h 0 x rfl) 1 y rfl) 2 z rfl
theorem fin_below {B : Nat} (h : Below w.heap.size w W) (hB : w.heap.size ≤ B) (x y z : Value) : Below w.heap.size w (((W.setCell ⟨B, 0, none⟩ x).setCell ⟨B, 1, none⟩ y).setCell ⟨B, 2, none⟩ z) := below_set (below_set (below_set h hB) hB) hB
theorem fin_row {B t : Nat} {cs : Array Value} (hr : d.R e W base ok v xs) (h : W.heap[B]? = some (.cells cs t (0, 0))) (ht : ∀ q, q ∈ e :: d.E → q ≠ t) (x y z : Value) : d.R e (((W.setCell ⟨B, 0, none⟩ x).setCell ⟨B, 1, none⟩ y).setCell ⟨B, 2, none⟩ z) base ok v xs :=
  Kd.R_mono (Kd.R_far (p := ⟨B, 2, none⟩) (Kd.R_far (p := ⟨B, 1, none⟩) (Kd.R_far (p := ⟨B, 0, none⟩) (Kd.R_types hr h ht) (fun _ hk => hk.2) x) (fun _ hk => hk.2) y) (fun _ hk => hk.2) z) (fun _ hk => hk.1)
end
end Go.Proofs.Ythmcdiekgfgpdaa.LawAid

namespace Go.Proofs.Ythmcdiekgfgpdaa.P
open Go.RowKit Go.Proofs.YthmcdiekgfgpdaaW.PrintWords Go.Proofs.YthmcdiekgfgpdaaW.PrintLast Go.Proofs.YthmcdiekgfgpdaaW.PrintMore
attribute [local go_sem] max2_int min2_int max_two min_two max_three min_three max_four min_four
set_option linter.unusedVariables false
set_option linter.unusedSimpArgs false
open Go.Proofs.Ythmcdiekgfgpdaa.T Go.Proofs.Ythmcdiekgfgpdaa.Aid Go.Proofs.Ythmcdiekgfgpdaa.LawAid
set_option maxHeartbeats 1000000 in
theorem mirrored_clo (q : Sq) (B : Nat) (m : Int) (V : World) (h1 : V.cell? ⟨B, 0, none⟩ = some (.int .i64 m)) :
    Calls Try.prog 25 #[.agg #[.int .i64 q.f0, .int .i64 q.f1, .int .i64 q.f2], .pointer (some ⟨B, 0, none⟩)] V fun e w' => e = .returned (.agg #[.int .i64 (wrap64 (wrap64 (m - q.f0) - q.f2)), .int .i64 q.f1, .int .i64 q.f2]) ∧ Below V.heap.size V w' := by
  have hu := Try.underlying42
  have k1 := ((below_alloc (below_alloc (Below.refl V.heap.size V) (.cells #[.int .i64 q.f0, .int .i64 q.f1, .int .i64 q.f2] 42)) (.cells #[.int .i64 0, .int .i64 0, .int .i64 0] 42)).cell (World.block_lt_of_cell? V _ h1)).trans h1
  have HX := Aside0.mk (heap_alloc_new (V.alloc (.cells #[.int .i64 q.f0, .int .i64 q.f1, .int .i64 q.f2] 42)) (.cells #[.int .i64 (wrap64 (wrap64 (m - q.f0) - q.f2)), .int .i64 q.f1, .int .i64 q.f2] 42))
  rw [show (V.alloc (.cells #[.int .i64 q.f0, .int .i64 q.f1, .int .i64 q.f2] 42)).heap.size = V.heap.size + 1 from by simp] at HX
  clear h1
  go_enter Try.func25, Try.ntmps25
  go_wp2_with fail
  refine bodyPost_ret (results_cell_row rfl _ _ (V.heap.size + 1) 42 #[.int .i64 (wrap64 (wrap64 (m - q.f0) - q.f2)), .int .i64 q.f1, .int .i64 q.f2] (0, 0) _ rfl HX.out Try.underlying42 rfl (by kernel_rfl)) rfl ?_
  exact ⟨rfl, below_alloc (below_alloc (Below.refl _ _) _) _⟩
def impl_Cut_mirrored.f (a0_0 a0_1 : Int) (l0_2 : List Sq) : Option (Int × Int × List Sq) := if goodC a0_0 a0_1 l0_2 = true then some (a0_0, a0_1, mirL a0_0 l0_2) else none
set_option maxHeartbeats 4000000 in
theorem impl_Cut_mirrored.calls (a0_0 a0_1 : Int) (A0_2 : Option Addr) (c0_2 : Nat) (l0_2 : List Sq) (r1 r2 : Int) (r3 : List Sq) (w : World) (hr0_2 : Kd.C k42 w A0_2 l0_2.length l0_2) (hc0_2 : l0_2.length ≤ c0_2) (h : impl_Cut_mirrored.f a0_0 a0_1 l0_2 = some (r1, r2, r3)) :
    Calls Try.prog 13 #[.agg #[.int .i64 a0_0, .int .i64 a0_1, .slice A0_2 l0_2.length c0_2]] w fun e w' => ∃ v2_ : Value, e = .returned (.agg #[.int .i64 r1, .int .i64 r2, v2_]) ∧ Kd.R k42 42 w' w.heap.size (fun _ => True) v2_ r3 ∧ Below w.heap.size w w' := by
  unfold impl_Cut_mirrored.f at h
  by_cases hg : goodC a0_0 a0_1 l0_2 = true
  · rw [if_pos hg] at h
    have g : Go.Proofs.Ythmcdiekgfgpdaa.T.Good a0_0 a0_1 l0_2 := goodC_iff.1 hg
    obtain ⟨rfl, rfl, h3⟩ : a0_0 = r1 ∧ a0_1 = r2 ∧ mirL a0_0 l0_2 = r3 := by simpa using h
    have H3 := Aside0.mk h3
    have hw := g.w
    have hh := g.h
    have hbox : ∀ q ∈ l0_2, inBox a0_0 a0_1 q := g.box
    have HX := Aside0.mk (heap_alloc_new (w.alloc (.cells #[.int .i64 a0_0, .int .i64 a0_1, .slice A0_2 l0_2.length c0_2] 29)) (.cells #[.int .i64 0, .int .i64 0, .slice none 0 0] 29))
    rw [show (w.alloc (.cells #[.int .i64 a0_0, .int .i64 a0_1, .slice A0_2 l0_2.length c0_2] 29)).heap.size = w.heap.size + 1 from by simp] at HX
    have HY := Aside0.mk (blk_alloc (heap_alloc_new w (.cells #[.int .i64 a0_0, .int .i64 a0_1, .slice A0_2 l0_2.length c0_2] 29)) (.cells #[.int .i64 0, .int .i64 0, .slice none 0 0] 29))
    have HB := Aside0.mk (below_alloc (below_alloc (Below.refl w.heap.size w) (.cells #[.int .i64 a0_0, .int .i64 a0_1, .slice A0_2 l0_2.length c0_2] 29)) (.cells #[.int .i64 0, .int .i64 0, .slice none 0 0] 29))
    have HCALL := Aside0.mk (changed_calls a0_0 a0_1 a0_0 a0_1 A0_2 c0_2 l0_2 25 #[.pointer (some ⟨w.heap.size, 0, none⟩)] (mirS a0_0) _ (Kd.C_below hr0_2 HB.out) hc0_2 g.pos (Nat.le_trans g.len (by omega)) (fun q hq => by
      have hb := hbox q hq
      unfold inBox at hb
      refine okQ_iff.2 ?_
      unfold mirS
      simp only
      omega) g.mir.lt (enters_of Try.func25 (by kernel_rfl) rfl) (fun V q hV hq => by
      have hb := hbox q hq
      unfold inBox at hb
      have hc := mirrored_clo q w.heap.size a0_0 V ((blk_cell (blk_below HY.out hV) 0).trans rfl)
      have e : wrap64 (wrap64 (a0_0 - q.f0) - q.f2) = a0_0 - q.f0 - q.f2 := by rw [w64 (e := a0_0 - q.f0) (by omega) (by omega), w64 (e := a0_0 - q.f0 - q.f2) (by omega) (by omega)]
      rw [e] at hc
      exact hc))
    have hu2 := Try.underlying29
    clear h h3 g hw hh hbox hr0_2 hc0_2 hg
    go_enter Try.func13, Try.ntmps13
    go_wp2_with (go_at_call 24; refine HCALL.out.mono ?_; rintro e w1 ⟨v, rfl, ho, hb⟩; obtain ⟨A1, c1, e1⟩ := Kd.R_slice ho; subst e1; have HR := Aside0.mk (Kd.R_lower ho HB.out.size); have HB1 := Aside0.mk (below_step HB.out hb); have HX1 := Aside0.mk (blk_below HX.out hb); have n0 : w1.cell? ⟨w.heap.size + 1, 0, none⟩ = some (.int .i64 0) := (blk_cell HX1.out 0).trans rfl; have n1 : w1.cell? ⟨w.heap.size + 1, 1, none⟩ = some (.int .i64 0) := (blk_cell HX1.out 1).trans rfl; have n2 : w1.cell? ⟨w.heap.size + 1, 2, none⟩ = some (.slice none 0 0) := (blk_cell HX1.out 2).trans rfl; have f0 := blk_frozen HX1.out 0; have f1 := blk_frozen HX1.out 1; have f2 := blk_frozen HX1.out 2; clear ho hb)
    refine bodyPost_ret (results_cell_row rfl _ _ (w.heap.size + 1) 29 _ (0, 0) _ rfl (fin_blk HX1.out _ _ _) Try.underlying29 rfl (by kernel_rfl)) rfl ?_
    exact ⟨_, rfl, by rw [← H3.out]; exact fin_row HR.out HX1.out (by decide) _ _ _, fin_below HB1.out (Nat.le_succ _) _ _ _⟩
  · rw [if_neg hg] at h; cases h
end Go.Proofs.Ythmcdiekgfgpdaa.P

namespace Go.Proofs.Ythmcdiekgfgpdaa.P
open Go.RowKit Go.Proofs.YthmcdiekgfgpdaaW.PrintWords Go.Proofs.YthmcdiekgfgpdaaW.PrintLast Go.Proofs.YthmcdiekgfgpdaaW.PrintMore
attribute [local go_sem] max2_int min2_int max_two min_two max_three min_three max_four min_four
set_option linter.unusedVariables false
set_option linter.unusedSimpArgs false
open Go.Proofs.Ythmcdiekgfgpdaa.T Go.Proofs.Ythmcdiekgfgpdaa.Aid
def mirP (x : Ct) : Bool := (cmpFL cmp3 x.f2 (mirL x.f0 x.f2) == 0)
set_option maxHeartbeats 4000000 in
theorem mirC_clo (x : Ct) (A : Option Addr) (c : Nat) (W : World) (hg : goodC x.f0 x.f1 x.f2 = true) (hl : x.f2.length ≤ 1000000) (hx : Kd.C k42 W A x.f2.length x.f2) (hc : x.f2.length ≤ c) :
    Calls Try.prog 11 #[.agg #[.int .i64 x.f0, .int .i64 x.f1, .slice A x.f2.length c]] W fun e w' => e = .returned (.bool (mirP x)) ∧ Below W.heap.size W w' := by
  have hlm : (mirL x.f0 x.f2).length = x.f2.length := by unfold mirL; rw [(srt_perm _).length_eq, List.length_map]
  obtain ⟨z, hz⟩ : ∃ z, cmpFL cmp3 x.f2 (mirL x.f0 x.f2) = z := ⟨_, rfl⟩
  have hp : (z == 0) = mirP x := by unfold mirP; rw [hz]
  have HM := Aside0.mk (fun (V : World) (hV : Below W.heap.size W V) => impl_Cut_mirrored.calls x.f0 x.f1 A c x.f2 x.f0 x.f1 (mirL x.f0 x.f2) V (Kd.C_below hx hV) hc (by unfold impl_Cut_mirrored.f; rw [if_pos hg]))
  generalize mirL x.f0 x.f2 = m at hlm hz HM
  have HC := Aside0.mk (fun (V : World) (A1 : Option Addr) (c1 : Nat) (hV : Below W.heap.size W V) (h1 : Kd.C k42 V A1 m.length m) (h2 : m.length ≤ c1) => impl_compareCuts.calls x.f0 x.f1 A c x.f2 x.f0 x.f1 A1 c1 m z V (Kd.C_below hx hV) hc h1 h2 (by unfold impl_compareCuts.f; rw [if_pos (by omega), hz]))
  have HP := Aside0.mk hp
  have hu := Try.underlying29
  have HX := Aside0.mk (heap_alloc_new W (.cells #[.int .i64 x.f0, .int .i64 x.f1, .slice A x.f2.length c] 29))
  have HB := Aside0.mk (below_alloc (Below.refl W.heap.size W) (.cells #[.int .i64 x.f0, .int .i64 x.f1, .slice A x.f2.length c] 29))
  clear hg hl hx hc hlm hz hp
  go_enter Try.func11, Try.ntmps11
  go_wp2_with fail
  have HXd := Aside0.mk (blk_drew HX.out)
  have HBd := Aside0.mk (below_drew HB.out)
  refine start_ (n := 6) (S := fun w' => w'.cell? ⟨W.heap.size, 0, none⟩ = some (.int .i64 x.f0) ∧ w'.cell? ⟨W.heap.size, 1, none⟩ = some (.int .i64 x.f1) ∧ w'.cell? ⟨W.heap.size, 2, none⟩ = some (.slice A x.f2.length c)) (ds := []) #[false, false, false, false, false, false] (by kernel_rfl) rfl rfl ⟨(blk_cell HXd.out 0).trans rfl, (blk_cell HXd.out 1).trans rfl, (blk_cell HXd.out 2).trans rfl⟩ (fun hHeld => ?_)
  generalize (W.alloc (.cells #[.int .i64 x.f0, .int .i64 x.f1, .slice A x.f2.length c] 29)).drew = w5 at HXd HBd hHeld ⊢
  refine take_ (i := 0) (N := some 3) (v := ?_) (a' := ?_) #[true, false, false, false, false, false] rfl rfl (by kernel_rfl) (fun _ _ _ h => h) (Or.inl ⟨by rfl, ?_⟩) hHeld ?_ ?_
  rotate_left
  · rintro w' ⟨s0, s1, s2⟩
    go_simp
    with_reducible rfl
  rotate_left
  · simp only [Act.put, List.setIfInBounds_toArray, List.set_cons_zero, List.set_cons_succ, i64_w, i32_w]
    rfl
  refine take_ (i := 1) (N := some 4) (v := ?_) (a' := ?_) #[true, true, false, false, false, false] rfl rfl (by kernel_rfl) (fun _ _ _ h => h) (Or.inl ⟨by rfl, ?_⟩) hHeld ?_ ?_
  rotate_left
  · rintro w' ⟨s0, s1, s2⟩
    go_simp
    with_reducible rfl
  rotate_left
  · simp only [Act.put, List.setIfInBounds_toArray, List.set_cons_zero, List.set_cons_succ, i64_w, i32_w]
    rfl
  refine one_ (i := 2) (N := some 5) #[true, true, true, false, false, false] rfl rfl (by kernel_rfl) (by decide) (fun K hK => ?_)
  refine goes_ Try.func13 (by kernel_rfl) rfl #[.agg #[.int .i64 x.f0, .int .i64 x.f1, .slice A x.f2.length c]] (by rfl) rfl rfl (by (try simp only [List.map_toArray, List.map_cons, List.map_nil]); first | done | rfl) ?_
  refine (HM.out _ HBd.out).mono ?_
  rintro e w6 ⟨v6, rfl, ho, hb⟩
  refine ⟨_, rfl, ?_⟩
  obtain ⟨A1, c1, e1⟩ := Kd.R_slice ho
  subst e1
  have HR6 := Aside0.mk (Kd.R_reads' ho)
  have HX6 := Aside0.mk (blk_below HXd.out hb)
  have HB6 := Aside0.mk (below_step HBd.out hb)
  clear ho hb hHeld
  refine hK.out _ _ ⟨(blk_cell HX6.out 0).trans rfl, (blk_cell HX6.out 1).trans rfl, (blk_cell HX6.out 2).trans rfl⟩ (fun hHeld => ?_)
  clear hK K
  refine norm_ (a' := ?_) ?_ ?_
  rotate_left
  · show Act.put _ (some 5) _ = _
    simp only [Act.put, List.setIfInBounds_toArray, List.set_cons_zero, List.set_cons_succ, i64_w, i32_w]
    rfl
  refine one_ (i := 3) (N := some 6) #[true, true, true, true, false, false] rfl rfl (by kernel_rfl) (by decide) (fun K hK => ?_)
  refine goes_ Try.func12 (by kernel_rfl) rfl #[.agg #[.int .i64 x.f0, .int .i64 x.f1, .slice A x.f2.length c], .agg #[.int .i64 x.f0, .int .i64 x.f1, .slice A1 m.length c1]] (by rfl) rfl rfl (by (try simp only [List.map_toArray, List.map_cons, List.map_nil]); first | done | rfl) ?_
  refine (HC.out _ A1 c1 HB6.out HR6.out.2.2 HR6.out.2.1).mono ?_
  rintro e w7 ⟨rfl, hb⟩
  refine ⟨_, rfl, ?_⟩
  have HX7 := Aside0.mk (blk_below HX6.out hb)
  have HB7 := Aside0.mk (below_step HB6.out hb)
  clear hb hHeld
  refine hK.out _ _ ⟨(blk_cell HX7.out 0).trans rfl, (blk_cell HX7.out 1).trans rfl, (blk_cell HX7.out 2).trans rfl⟩ (fun hHeld => ?_)
  clear hK K
  refine norm_ (a' := ?_) ?_ ?_
  rotate_left
  · show Act.put _ (some 6) _ = _
    simp only [Act.put, List.setIfInBounds_toArray, List.set_cons_zero, List.set_cons_succ, i64_w, i32_w]
    rfl
  refine pure_ (i := 4) (N := some 7) (v := ?_) (a' := ?_) #[true, true, true, true, true, false] rfl rfl (by kernel_rfl) (fun _ _ _ h => h) (Or.inl ⟨by rfl, ?_⟩) ?_ ?_
  rotate_left
  · intro w'
    go_simp
    with_reducible rfl
  rotate_left
  · simp only [Act.put, List.setIfInBounds_toArray, List.set_cons_zero, List.set_cons_succ, i64_w, i32_w]
    rfl
  refine pure_ (i := 5) (N := some 2) (v := ?_) (a' := ?_) #[true, true, true, true, true, true] rfl rfl (by kernel_rfl) (fun _ _ _ h => h) (Or.inl ⟨by rfl, ?_⟩) ?_ ?_
  rotate_left
  · intro w'
    go_simp
    with_reducible rfl
  rotate_left
  · simp only [Act.put, List.setIfInBounds_toArray, List.set_cons_zero, List.set_cons_succ, i64_w, i32_w]
    rfl
  refine done_ (by kernel_rfl) ?_
  try go_wp2_with fail
  go_ret
  exact ⟨by rw [← HP.out]; rfl, HB7.out⟩
def impl_CountMirrored.f (a0 a1 : Int) : Option (Int × Bool) := (impl_AllCuts.f a0 a1).bind fun r => if r.1.all (fun c => goodC c.f0 c.f1 c.f2 && decide (c.f2.length ≤ 1000000)) = true ∧ r.1.length ≤ 4294967296 then some (cntC mirP r.1, r.2) else none
set_option maxHeartbeats 2000000 in
theorem impl_CountMirrored.calls (a0 a1 : Int) (r1 : Int) (r2 : Bool) (w : World) (h : impl_CountMirrored.f a0 a1 = some (r1, r2)) :
    Calls Try.prog 5 #[.int .i64 a0, .int .i64 a1] w fun e w' => e = .returned (.tuple #[.int .i64 r1, .bool r2]) ∧ Below w.heap.size w w' := by
  unfold impl_CountMirrored.f at h
  obtain ⟨⟨L, ok⟩, hL, h⟩ := Option.bind_eq_some_iff.mp h
  simp only at h
  by_cases c : L.all (fun c => goodC c.f0 c.f1 c.f2 && decide (c.f2.length ≤ 1000000)) = true ∧ L.length ≤ 4294967296
  · rw [if_pos c] at h
    obtain ⟨h1, rfl⟩ : cntC mirP L = r1 ∧ ok = r2 := by simpa using h
    have HC := Aside0.mk (fun V => countOf_calls a0 a1 11 #[] mirP L ok V hL c.2 (enters_of Try.func11 (by kernel_rfl) rfl) (fun W x A n _ hx hR hc => by
      have h := List.all_eq_true.1 c.1 x hx
      rw [Bool.and_eq_true, decide_eq_true_eq] at h
      exact mirC_clo x A n W h.1 h.2 hR hc))
    rw [h1] at HC
    clear h hL h1 c
    go_enter Try.func5, Try.ntmps5
    go_wp2_with (go_at_call 10; refine (HC.out _).mono ?_; rintro e w1 ⟨rfl, hb⟩; have HB := Aside0.mk hb; clear hb)
    go_ret2
    exact ⟨rfl, HB.out⟩
  · rw [if_neg c] at h; cases h
end Go.Proofs.Ythmcdiekgfgpdaa.P

namespace Go.Proofs.Ythmcdiekgfgpdaa.P
open Go.RowKit Go.Proofs.YthmcdiekgfgpdaaW.PrintWords Go.Proofs.YthmcdiekgfgpdaaW.PrintLast Go.Proofs.YthmcdiekgfgpdaaW.PrintMore
attribute [local go_sem] max2_int min2_int max_two min_two max_three min_three max_four min_four
set_option linter.unusedVariables false
set_option linter.unusedSimpArgs false
def laws_FnExactCountMirrored.f (k : Nat) (a0 : Int) (a1 : Int) : Option (Bool) := (spec_CountMirrored.f k a0 a1).bind fun bt101 => ((impl_CountMirrored.f a0 a1).bind fun bt103 => (if bt103.1 = bt101.1 then (if (bt103.2 != bt101.2) = true then (some false) else (some true)) else (some false)))
set_option maxHeartbeats 8000000 in
set_option maxRecDepth 100000 in
theorem laws_FnExactCountMirrored.calls (k : Nat) (a0 : Int) (a1 : Int) (r : Bool) (w : World) (h : laws_FnExactCountMirrored.f k a0 a1 = some r) :
    Calls Try.prog 3 #[.int .i64 a0, .int .i64 a1] w fun e w' => e = .returned (.bool r) ∧ Below w.heap.size w w' := by
  have HB := Aside0.mk (Below.refl w.heap.size w)
  have H : ((spec_CountMirrored.f k a0 a1).bind fun bt101 => ((impl_CountMirrored.f a0 a1).bind fun bt103 => (if bt103.1 = bt101.1 then (if (bt103.2 != bt101.2) = true then (some false) else (some true)) else (some false)))) = some r := h
  clear h
  replace H := Option.bind_eq_some_iff.mp H
  obtain ⟨⟨t101, t102⟩, A30, H⟩ := H
  replace H : ((impl_CountMirrored.f a0 a1).bind fun bt103 => (if bt103.1 = t101 then (if (bt103.2 != t102) = true then (some false) else (some true)) else (some false))) = some r := H
  have A3 := Aside0.mk A30
  clear A30
  replace H := Option.bind_eq_some_iff.mp H
  obtain ⟨⟨t103, t104⟩, A40, H⟩ := H
  replace H : (if t103 = t101 then (if (t104 != t102) = true then (some false) else (some true)) else (some false)) = some r := H
  have A4 := Aside0.mk A40
  clear A40
  by_cases c5 : t103 = t101
  · rw [if_pos c5] at H
    have c5b0 : (t103 == t101) = true := beq_iff_eq.mpr c5
    have c5b1 : (t103 != t101) = false := bne_eq_false_iff_eq.mpr c5
    clear c5
    by_cases c6 : (t104 != t102) = true
    · rw [if_pos c6] at H
      have c6b0 : (t104 != t102) = true := c6
      (try (have c6b1 : decide (t104 = t102) = false := by simpa using c6))
      (try (have c6b2 : (t104 == t102) = false := by simpa using c6))
      (try (have c6b3 : ¬ (t104 = t102) := by simpa using c6))
      clear c6
      obtain rfl := Option.some.inj H
      go_enter Try.func3, Try.ntmps3
      go_wp2_with (first | ((with_reducible refine gate_callee (f := 4) rfl ?_); refine goesL_ (some 12) rfl rfl Try.func4 (by kernel_rfl) rfl #[.int .i64 a0, .int .i64 a1] rfl (by (try simp only [List.map_toArray, List.map_cons, List.map_nil]); first | done | rfl | (simp only [List.length_drop, List.length_take]; rfl)) ?_; (with_reducible refine (spec_CountMirrored.calls k a0 a1 t101 t102 _ A3.out).mono ?_); rintro e w7 ⟨rfl, hb⟩; refine ⟨_, rfl, ?_⟩; have n0_ := Aside0.mk (below_step (by repeat (first | (with_reducible first | exact HB.out | apply below_alloc | apply pw_below_drewN | apply below_drew1) | exact HB.out)) hb); clear HB; have HB := n0_; clear n0_; (try clear hb); (try clear hb2); (try clear hk); (try clear hi)) | ((with_reducible refine gate_callee (f := 5) rfl ?_); refine goesL_ (some 18) rfl rfl Try.func5 (by kernel_rfl) rfl #[.int .i64 a0, .int .i64 a1] rfl (by (try simp only [List.map_toArray, List.map_cons, List.map_nil]); first | done | rfl | (simp only [List.length_drop, List.length_take]; rfl)) ?_; (with_reducible refine (impl_CountMirrored.calls a0 a1 t103 t104 _ A4.out).mono ?_); rintro e w8 ⟨rfl, hb⟩; refine ⟨_, rfl, ?_⟩; have n0_ := Aside0.mk (below_step (by repeat (first | (with_reducible first | exact HB.out | apply below_alloc | apply pw_below_drewN | apply below_drew1) | exact HB.out)) hb); clear HB; have HB := n0_; clear n0_; (try clear hb); (try clear hb2); (try clear hk); (try clear hi)))
      go_ret
      exact ⟨by first | rfl | (simp [errW_none, errW_some] <;> rfl) | (simp [*, errW_none, errW_some] <;> rfl), by repeat (first | (with_reducible first | exact HB.out | apply below_alloc | apply pw_below_drewN | apply below_drew1) | exact HB.out)⟩
    · rw [if_neg c6] at H
      have c6b0 : (t104 != t102) = false := by simpa using c6
      (try (have c6b1 : decide (t104 = t102) = true := by simpa using c6))
      (try (have c6b2 : (t104 == t102) = true := by simpa using c6))
      clear c6
      obtain rfl := Option.some.inj H
      go_enter Try.func3, Try.ntmps3
      go_wp2_with (first | ((with_reducible refine gate_callee (f := 4) rfl ?_); refine goesL_ (some 12) rfl rfl Try.func4 (by kernel_rfl) rfl #[.int .i64 a0, .int .i64 a1] rfl (by (try simp only [List.map_toArray, List.map_cons, List.map_nil]); first | done | rfl | (simp only [List.length_drop, List.length_take]; rfl)) ?_; (with_reducible refine (spec_CountMirrored.calls k a0 a1 t101 t102 _ A3.out).mono ?_); rintro e w9 ⟨rfl, hb⟩; refine ⟨_, rfl, ?_⟩; have n0_ := Aside0.mk (below_step (by repeat (first | (with_reducible first | exact HB.out | apply below_alloc | apply pw_below_drewN | apply below_drew1) | exact HB.out)) hb); clear HB; have HB := n0_; clear n0_; (try clear hb); (try clear hb2); (try clear hk); (try clear hi)) | ((with_reducible refine gate_callee (f := 5) rfl ?_); refine goesL_ (some 18) rfl rfl Try.func5 (by kernel_rfl) rfl #[.int .i64 a0, .int .i64 a1] rfl (by (try simp only [List.map_toArray, List.map_cons, List.map_nil]); first | done | rfl | (simp only [List.length_drop, List.length_take]; rfl)) ?_; (with_reducible refine (impl_CountMirrored.calls a0 a1 t103 t104 _ A4.out).mono ?_); rintro e w10 ⟨rfl, hb⟩; refine ⟨_, rfl, ?_⟩; have n0_ := Aside0.mk (below_step (by repeat (first | (with_reducible first | exact HB.out | apply below_alloc | apply pw_below_drewN | apply below_drew1) | exact HB.out)) hb); clear HB; have HB := n0_; clear n0_; (try clear hb); (try clear hb2); (try clear hk); (try clear hi)))
      go_ret
      exact ⟨by first | rfl | (simp [errW_none, errW_some] <;> rfl) | (simp [*, errW_none, errW_some] <;> rfl), by repeat (first | (with_reducible first | exact HB.out | apply below_alloc | apply pw_below_drewN | apply below_drew1) | exact HB.out)⟩
  · rw [if_neg c5] at H
    have c5b0 : (t103 == t101) = false := beq_eq_false_iff_ne.mpr c5
    have c5b1 : (t103 != t101) = true := bne_iff_ne.mpr c5
    obtain rfl := Option.some.inj H
    go_enter Try.func3, Try.ntmps3
    go_wp2_with (first | ((with_reducible refine gate_callee (f := 4) rfl ?_); refine goesL_ (some 12) rfl rfl Try.func4 (by kernel_rfl) rfl #[.int .i64 a0, .int .i64 a1] rfl (by (try simp only [List.map_toArray, List.map_cons, List.map_nil]); first | done | rfl | (simp only [List.length_drop, List.length_take]; rfl)) ?_; (with_reducible refine (spec_CountMirrored.calls k a0 a1 t101 t102 _ A3.out).mono ?_); rintro e w11 ⟨rfl, hb⟩; refine ⟨_, rfl, ?_⟩; have n0_ := Aside0.mk (below_step (by repeat (first | (with_reducible first | exact HB.out | apply below_alloc | apply pw_below_drewN | apply below_drew1) | exact HB.out)) hb); clear HB; have HB := n0_; clear n0_; (try clear hb); (try clear hb2); (try clear hk); (try clear hi)) | ((with_reducible refine gate_callee (f := 5) rfl ?_); refine goesL_ (some 18) rfl rfl Try.func5 (by kernel_rfl) rfl #[.int .i64 a0, .int .i64 a1] rfl (by (try simp only [List.map_toArray, List.map_cons, List.map_nil]); first | done | rfl | (simp only [List.length_drop, List.length_take]; rfl)) ?_; (with_reducible refine (impl_CountMirrored.calls a0 a1 t103 t104 _ A4.out).mono ?_); rintro e w12 ⟨rfl, hb⟩; refine ⟨_, rfl, ?_⟩; have n0_ := Aside0.mk (below_step (by repeat (first | (with_reducible first | exact HB.out | apply below_alloc | apply pw_below_drewN | apply below_drew1) | exact HB.out)) hb); clear HB; have HB := n0_; clear n0_; (try clear hb); (try clear hb2); (try clear hk); (try clear hi)))
    go_ret
    exact ⟨by first | rfl | (simp [errW_none, errW_some] <;> rfl) | (simp [*, errW_none, errW_some] <;> rfl), by repeat (first | (with_reducible first | exact HB.out | apply below_alloc | apply pw_below_drewN | apply below_drew1) | exact HB.out)⟩
def laws_FnExactCountMirrored.Pure : Prop := ∀ (a0 : Int) (a1 : Int), (Lit.int .i64 a0).wf = true → (Lit.int .i64 a1).wf = true → ∃ k, laws_FnExactCountMirrored.f k a0 a1 = some true
theorem laws_FnExactCountMirrored.walk (P : laws_FnExactCountMirrored.Pure) (a0 : Int) (a1 : Int) (w : World) (w0 : (Lit.int .i64 a0).wf = true) (w1 : (Lit.int .i64 a1).wf = true) :
    Calls Try.prog 3 #[.int .i64 a0, .int .i64 a1] w fun e w' => e = .returned (.bool true) ∧ Below w.heap.size w w' := by
  obtain ⟨k, h⟩ := P a0 a1 w0 w1
  refine (laws_FnExactCountMirrored.calls k a0 a1 true w h).mono ?_
  rintro e w' ⟨rfl, hd⟩
  exact ⟨rfl, hd⟩
end Go.Proofs.Ythmcdiekgfgpdaa.P

namespace Go.Proofs.Ythmcdiekgfgpdaa.Pure
set_option linter.unusedVariables false
set_option linter.unusedSimpArgs false
open Go.RowKit Go.Proofs.Ythmcdiekgfgpdaa.P Go.Proofs.YthmcdiekgfgpdaaW.PrintWords Go.Proofs.YthmcdiekgfgpdaaW.PrintLast Go.Proofs.Ythmcdiekgfgpdaa.Aid
theorem l1In_f (n lo hi : Int) : spec_l1In.f n lo hi = some (inR n lo hi) := by
  unfold spec_l1In.f inR; by_cases c : lo ≤ n <;> simp [c]
theorem within_f (n lo hi : Int) : impl_within.f n lo hi = some (inR n lo hi) := by
  unfold impl_within.f inR; by_cases c : lo ≤ n <;> simp [c]
end Go.Proofs.Ythmcdiekgfgpdaa.Pure

namespace Go.Proofs.Ythmcdiekgfgpdaa.Pure
set_option linter.unusedVariables false
set_option linter.unusedSimpArgs false
open Go.RowKit Go.Proofs.Ythmcdiekgfgpdaa.P Go.Proofs.YthmcdiekgfgpdaaW.PrintWords Go.Proofs.YthmcdiekgfgpdaaW.PrintLast Go.Proofs.YthmcdiekgfgpdaaW.PrintMore Go.Proofs.Ythmcdiekgfgpdaa.Aid Go.Proofs.Ythmcdiekgfgpdaa.T
def listOk (a b : Int) : Bool := inR a 1 6 && (inR b 1 6 && decide (a * b ≤ 16))
theorem mul66 {a b : Int} (h1 : inR a 1 6 = true) (h2 : inR b 1 6 = true) : 0 ≤ a * b ∧ a * b ≤ 36 := by
  have h1 := inR_iff.1 h1
  have h2 := inR_iff.1 h2
  refine ⟨Int.mul_nonneg (by omega) (by omega), ?_⟩
  have e1 : a * b ≤ 6 * b := Int.mul_le_mul_of_nonneg_right h1.2 (by omega)
  omega
theorem listOk_rng {a b : Int} (h : listOk a b = true) : (1 ≤ a ∧ a ≤ 6) ∧ (1 ≤ b ∧ b ≤ 6) ∧ a * b ≤ 16 := by
  unfold listOk at h
  rw [Bool.and_eq_true, Bool.and_eq_true, inR_iff, inR_iff, decide_eq_true_eq] at h
  exact h
theorem listOk_w (a b : Int) : (if inR a 1 6 = true then (if inR b 1 6 = true then some (decide (wrap64 (a * b) ≤ 16)) else some false) else some false) = some (listOk a b) := by
  unfold listOk
  cases h1 : inR a 1 6 with
  | false => simp
  | true =>
    cases h2 : inR b 1 6 with
    | false => simp
    | true =>
      have := mul66 h1 h2
      rw [w64 (by omega) (by omega)]
      simp
theorem isListed_f (a b : Int) : impl_isListed.f a b = some (listOk a b) := by
  rw [← listOk_w]
  unfold impl_isListed.f impl_isCounted.f
  simp only [within_f, Option.bind_some]
  cases inR a 1 6 <;> simp
theorem ctFew_f (a b : Int) : spec_ctFew.f a b = some (listOk a b) := by
  rw [← listOk_w]
  unfold spec_ctFew.f spec_ctSize.f
  simp only [l1In_f, Option.bind_some]
  cases inR a 1 6 <;> simp
def allC (a b : Int) : List Ct := (tilings a.toNat b).map (fun t => (⟨a, b, t⟩ : Ct))
theorem allC_len {a b : Int} (h : listOk a b = true) : (allC a b).length ≤ 4294967296 := by
  obtain ⟨h1, h2, h3⟩ := listOk_rng h
  unfold allC
  rw [List.length_map]
  exact list_count a.toNat b (by omega) (by omega) (by rw [Int.toNat_of_nonneg (by omega)]; exact h3)
theorem allC_mem {a b : Int} (h : listOk a b = true) {c : Ct} (hc : c ∈ allC a b) : c.f0 = a ∧ c.f1 = b ∧ c.f2.length ≤ 16 ∧ c.f2 ∈ tilings a.toNat b := by
  obtain ⟨h1, h2, h3⟩ := listOk_rng h
  obtain ⟨t, ht, rfl⟩ := List.mem_map.1 hc
  have hl := (til_len a.toNat b (by omega) (by omega) t ht).2
  rw [Int.toNat_of_nonneg (by omega)] at hl
  exact ⟨rfl, rfl, by simp only; omega, ht⟩
theorem ctAll_f {a b : Int} (h : listOk a b = true) : spec_ctAll.f a b = some (allC a b) := by
  obtain ⟨h1, h2, h3⟩ := listOk_rng h
  unfold spec_ctAll.f allC
  rw [if_pos ⟨by omega, by omega, h3⟩]
theorem allCuts_f {a b : Int} (h : listOk a b = true) : impl_allCuts.f a b = some (allC a b) := by
  obtain ⟨h1, h2, h3⟩ := listOk_rng h
  unfold impl_allCuts.f allC
  rw [if_pos ⟨by omega, by omega, h3⟩]
def allV (a b : Int) : List Ct × Bool := if listOk a b = true then (allC a b, true) else ([], false)
theorem implAll_f (a b : Int) : impl_AllCuts.f a b = some (allV a b) := by
  unfold impl_AllCuts.f allV
  rw [isListed_f, Option.bind_some]
  by_cases h : listOk a b = true
  · rw [if_pos h, if_pos h, allCuts_f h]; rfl
  · rw [if_neg h, if_neg h]
end Go.Proofs.Ythmcdiekgfgpdaa.Pure

namespace Go.Proofs.Ythmcdiekgfgpdaa.Pure
set_option linter.unusedVariables false
set_option linter.unusedSimpArgs false
open Go.RowKit Go.Proofs.Ythmcdiekgfgpdaa.P Go.Proofs.YthmcdiekgfgpdaaW.PrintWords Go.Proofs.YthmcdiekgfgpdaaW.PrintLast Go.Proofs.YthmcdiekgfgpdaaW.PrintMore Go.Proofs.Ythmcdiekgfgpdaa.Aid Go.Proofs.Ythmcdiekgfgpdaa.T
def numv (n : Int) : ByteArray := strOfNums [(wrap64 (48 + n)) % 256]
def dgt (n : Int) : UInt8 := UInt8.ofNat ((wrap64 (48 + n)) % 256).toNat
theorem numv_size (n : Int) : (numv n).size = 1 := by unfold numv; rw [strOfNums_size]; rfl
theorem numv_data (n : Int) : (numv n).data.toList = [dgt n] := rfl
theorem dgt_nat {n : Int} (h : 0 ≤ n ∧ n ≤ 9) : (dgt n).toNat = 48 + n.toNat := by
  unfold dgt
  rw [w64 (by omega) (by omega), UInt8.toNat_ofNat']
  omega
theorem dgt_inj {a b : Int} (ha : 0 ≤ a ∧ a ≤ 9) (hb : 0 ≤ b ∧ b ≤ 9) (h : dgt a = dgt b) : a = b := by
  have := congrArg UInt8.toNat h
  rw [dgt_nat ha, dgt_nat hb] at this
  omega
theorem l1Num_ev {n : Int} (h : n ≤ 9) : Ev (fun k => spec_l1Num.f k n) (numv n) := Ev.step (fun _ => spec_l1Num.f.eq_2 ..) (ev_pos (by omega) (ev_some rfl))
theorem dl_app (a b : ByteArray) : (a ++ b).data.toList = a.data.toList ++ b.data.toList := by simp
def sqT (q : Sq) : ByteArray := (((((⟨#[59]⟩ : ByteArray) ++ numv q.f0) ++ (⟨#[44]⟩ : ByteArray)) ++ numv q.f1) ++ (⟨#[44]⟩ : ByteArray)) ++ numv q.f2
theorem lit_size (c : UInt8) : (⟨#[c]⟩ : ByteArray).size = 1 := rfl
theorem sqT_size (q : Sq) : (sqT q).size = 6 := by
  unfold sqT
  simp only [ByteArray.size_append, numv_size, lit_size]
theorem sqT_data (q : Sq) : (sqT q).data.toList = [59, dgt q.f0, 44, dgt q.f1, 44, dgt q.f2] := by
  unfold sqT
  simp only [dl_app, numv_data]
  rfl
def smallD (q : Sq) : Prop := (0 ≤ q.f0 ∧ q.f0 ≤ 9) ∧ (0 ≤ q.f1 ∧ q.f1 ≤ 9) ∧ (0 ≤ q.f2 ∧ q.f2 ≤ 9)
theorem sqT_inj {p q : Sq} (hp : smallD p) (hq : smallD q) (h : (sqT p).data.toList = (sqT q).data.toList) : p = q := by
  rw [sqT_data, sqT_data] at h
  simp only [List.cons.injEq, true_and, and_true] at h
  obtain ⟨h0, h1, h2⟩ := h
  obtain ⟨p0, p1, p2⟩ := p
  obtain ⟨q0, q1, q2⟩ := q
  obtain ⟨a0, a1, a2⟩ := hp
  obtain ⟨b0, b1, b2⟩ := hq
  simp only at *
  rw [dgt_inj a0 b0 h0, dgt_inj a1 b1 h1, dgt_inj a2 b2 h2]
def catT (acc : ByteArray) (l : List Sq) : ByteArray := l.foldl (fun x q => x ++ sqT q) acc
theorem cat_data : ∀ (l : List Sq) (acc : ByteArray), (catT acc l).data.toList = acc.data.toList ++ l.flatMap (fun q => (sqT q).data.toList)
  | [], acc => by simp [catT]
  | q :: l, acc => by
    have ih := cat_data l (acc ++ sqT q)
    unfold catT at ih ⊢
    rw [List.foldl_cons, ih, List.flatMap_cons, dl_app, List.append_assoc]
theorem flat_inj : ∀ l m : List Sq, (∀ q ∈ l, smallD q) → (∀ q ∈ m, smallD q) → l.flatMap (fun q => (sqT q).data.toList) = m.flatMap (fun q => (sqT q).data.toList) → l = m
  | [], [], _, _, _ => rfl
  | [], q :: m, _, _, h => by
    rw [List.flatMap_cons, sqT_data] at h
    simp at h
  | p :: l, [], _, _, h => by
    rw [List.flatMap_cons, sqT_data] at h
    simp at h
  | p :: l, q :: m, hl, hm, h => by
    rw [List.flatMap_cons, List.flatMap_cons] at h
    obtain ⟨h1, h2⟩ := List.append_inj h (by rw [sqT_data, sqT_data]; rfl)
    rw [sqT_inj (hl p (List.mem_cons_self ..)) (hm q (List.mem_cons_self ..)) h1, flat_inj l m (fun x hx => hl x (List.mem_cons_of_mem _ hx)) (fun x hx => hm x (List.mem_cons_of_mem _ hx)) h2]
theorem cat_inj (acc : ByteArray) (l m : List Sq) (hl : ∀ q ∈ l, smallD q) (hm : ∀ q ∈ m, smallD q) : (catT acc l).toList = (catT acc m).toList ↔ l = m := by
  constructor
  · intro h
    rw [ByteArray.toList_eq, ByteArray.toList_eq, cat_data, cat_data] at h
    exact flat_inj l m hl hm (List.append_cancel_left h)
  · intro h; rw [h]
theorem rdqt (l : List Sq) (i : Nat) : rd_T42 l (i : Int) = nq l i := by unfold rd_T42 nq; rw [Int.toNat_natCast]; rfl
theorem drop_qt (l : List Sq) (i : Nat) (hi : i < l.length) : l.drop i = nq l i :: l.drop (i + 1) := by
  rw [List.drop_eq_getElem_cons hi, nq_get l i hi]
theorem text_l (l : List Sq) (hl : l.length ≤ 1000) (hs : ∀ q ∈ l, smallD q) : ∀ (d i : Nat) (acc : ByteArray), i + d = l.length → acc.size ≤ 10 + 6 * i → Ev (fun k => spec_cuText.l0 k acc l l.length i) (catT acc (l.drop i))
  | 0, i, acc, hd, ha => by
    rw [List.drop_eq_nil_of_le (by omega)]
    exact Ev.step (fun _ => spec_cuText.l0.eq_2 ..) (ev_neg (by omega) (ev_some rfl))
  | d + 1, i, acc, hd, ha => by
    have hi : i < l.length := by omega
    have hq := hs _ (nq_mem l i hi)
    unfold smallD at hq
    have z := sqT_size (nq l i)
    unfold sqT at z
    have ih := text_l l hl hs d (i + 1) (acc ++ sqT (nq l i)) (by omega) (by rw [ByteArray.size_append, sqT_size]; omega)
    refine Ev.step (fun _ => spec_cuText.l0.eq_2 ..) (ev_pos (by omega) (ev_pos (by omega) (ev_pos (by omega) ?_)))
    rw [rdqt, w64 (e := (i : Int) + 1) (by omega) (by omega), drop_qt l i hi]
    refine ev_bind (l1Num_ev (by omega)) (ev_pos (by rw [numv_size]; omega) (ev_pos (by simp only [ByteArray.size_append, numv_size, lit_size]; omega) ?_))
    refine ev_bind (l1Num_ev (by omega)) (ev_pos (by simp only [ByteArray.size_append, numv_size, lit_size]; omega) (ev_pos (by simp only [ByteArray.size_append, numv_size, lit_size]; omega) ?_))
    refine ev_bind (l1Num_ev (by omega)) (ev_pos (by simp only [ByteArray.size_append, numv_size, lit_size]; omega) (ev_pos (by rw [z]; omega) ?_))
    exact ih
def headT (a b : Int) : ByteArray := (numv a ++ (⟨#[120]⟩ : ByteArray)) ++ numv b
theorem text_ev (a b : Int) (l : List Sq) (ha : a ≤ 9) (hb : b ≤ 9) (hl : l.length ≤ 1000) (hs : ∀ q ∈ l, smallD q) : Ev (fun k => spec_cuText.f k a b l) (catT (headT a b) l) := by
  have h := text_l l hl hs l.length 0 (headT a b) (by omega) (by unfold headT; simp only [ByteArray.size_append, numv_size, lit_size]; omega)
  rw [List.drop_zero] at h
  exact ev_bind (l1Num_ev ha) (ev_pos (by rw [numv_size]; omega) (ev_bind (l1Num_ev hb) (ev_pos (by simp only [ByteArray.size_append, numv_size, lit_size]; omega) h)))
theorem mirror_l (a b : Int) (ha : 0 ≤ a ∧ a ≤ 1000) (l : List Sq) (hl : l.length ≤ 1000) (hs : ∀ q ∈ l, smallD q) : ∀ (d i : Nat) (acc : List Sq), i + d = l.length → acc.length = i → Ev (fun k => spec_cuMirror.l0 k acc l l.length i a b l) (a, b, srt (acc ++ (l.drop i).map (mirS a)))
  | 0, i, acc, hd, hc => by
    rw [List.drop_eq_nil_of_le (by omega), List.map_nil, List.append_nil]
    have hso : Ev (fun k => spec_cuSorted.f k acc) (srt acc) := by
      unfold spec_cuSorted.f
      exact ev_pos (by omega) (ev_some rfl)
    exact Ev.step (fun _ => spec_cuMirror.l0.eq_2 ..) (ev_neg (by omega) (ev_bind hso (ev_some rfl)))
  | d + 1, i, acc, hd, hc => by
    have hi : i < l.length := by omega
    have hq := hs _ (nq_mem l i hi)
    unfold smallD at hq
    have ih := mirror_l a b ha l hl hs d (i + 1) (acc ++ [mirS a (nq l i)]) (by omega) (by rw [List.length_append]; simp; omega)
    refine Ev.step (fun _ => spec_cuMirror.l0.eq_2 ..) (ev_pos (by omega) (ev_pos (by omega) (ev_pos (by omega) (ev_pos (by omega) ?_))))
    rw [rdqt, w64 (e := (i : Int) + 1) (by omega) (by omega), drop_qt l i hi, List.map_cons, w64 (e := a - (nq l i).f0) (by omega) (by omega), w64 (e := a - (nq l i).f0 - (nq l i).f2) (by omega) (by omega)]
    rw [List.append_assoc] at ih
    exact ih
theorem mirror_ev (a b : Int) (ha : 0 ≤ a ∧ a ≤ 1000) (l : List Sq) (hl : l.length ≤ 1000) (hs : ∀ q ∈ l, smallD q) : Ev (fun k => spec_cuMirror.f k a b l) (a, b, mirL a l) := by
  have h := mirror_l a b ha l hl hs l.length 0 [] (by omega) rfl
  rw [List.drop_zero, List.nil_append] at h
  exact h
end Go.Proofs.Ythmcdiekgfgpdaa.Pure

namespace Go.Proofs.Ythmcdiekgfgpdaa.Pure
set_option linter.unusedVariables false
set_option linter.unusedSimpArgs false
open Go.RowKit Go.Proofs.Ythmcdiekgfgpdaa.P Go.Proofs.YthmcdiekgfgpdaaW.PrintWords Go.Proofs.YthmcdiekgfgpdaaW.PrintLast Go.Proofs.YthmcdiekgfgpdaaW.PrintMore Go.Proofs.Ythmcdiekgfgpdaa.Aid Go.Proofs.Ythmcdiekgfgpdaa.T
theorem cm3_zero (a b : Sq) : cmp3 a b = 0 ↔ a = b := by
  obtain ⟨a0, a1, a2⟩ := a
  obtain ⟨b0, b1, b2⟩ := b
  unfold cmp3
  simp only [Sq.mk.injEq]
  split <;> (try (split <;> (try (split <;> (try (split <;> (try (split <;> (try split)))))))))
  all_goals omega
theorem cmFL_zero : ∀ a b : List Sq, cmpFL cmp3 a b = 0 ↔ a = b
  | [], [] => by simp [cmpFL]
  | [], y :: b => by simp [cmpFL]
  | x :: a, [] => by simp [cmpFL]
  | x :: a, y :: b => by
    unfold cmpFL
    by_cases h : cmp3 x y = 0
    · rw [if_pos h, cmFL_zero a b, (cm3_zero x y).1 h]; simp
    · rw [if_neg h]
      constructor
      · exact fun e => absurd e h
      · exact fun e => absurd ((cm3_zero x y).2 (by injection e)) h
def MirOk (c : Ct) : Prop := (0 ≤ c.f0 ∧ c.f0 ≤ 9) ∧ c.f1 ≤ 9 ∧ c.f2.length ≤ 1000 ∧ (∀ q ∈ c.f2, smallD q) ∧ (∀ q ∈ mirL c.f0 c.f2, smallD q) ∧ (mirL c.f0 c.f2).length ≤ 1000
theorem allC_mir {a b : Int} (h : listOk a b = true) {c : Ct} (hc : c ∈ allC a b) : MirOk c ∧ goodC c.f0 c.f1 c.f2 = true := by
  obtain ⟨h1, h2, h3⟩ := listOk_rng h
  obtain ⟨e0, e1, hl, ht⟩ := allC_mem h hc
  have hT := (tilL_iff a b (by omega) (by omega) c.f2).1 ht
  have hG : T.Good c.f0 c.f1 c.f2 := by rw [e0, e1]; exact hT.good (by omega) (by omega) (by omega)
  have hsm : ∀ l : List Sq, T.Good c.f0 c.f1 l → ∀ q ∈ l, smallD q := fun l g q hq => by
    have hb := g.box q hq
    rw [e0, e1] at hb
    unfold inBox at hb
    unfold smallD
    omega
  refine ⟨⟨by omega, by omega, by omega, hsm _ hG, hsm _ hG.mir, ?_⟩, goodC_iff.2 hG⟩
  have := hG.mir.len
  omega
theorem rdct (L : List Ct) (i : Nat) (hi : i < L.length) : rd_T29 L (i : Int) = L[i] := by
  unfold rd_T29
  rw [Int.toNat_natCast, List.getD_eq_getElem?_getD, List.getElem?_eq_getElem hi]; rfl
theorem mir_l (L : List Ct) (hL : L.length ≤ 4294967296) (hs : ∀ c ∈ L, MirOk c) : ∀ (d i : Nat) (n : Int), i + d = L.length → 0 ≤ n → n ≤ i → Ev (fun k => spec_CountMirrored.l0 k n L L.length i) (n + (((L.drop i).filter mirP).length : Nat), true)
  | 0, i, n, hd, h0, hn => by
    rw [List.drop_eq_nil_of_le (by omega)]
    exact Ev.step (fun _ => spec_CountMirrored.l0.eq_2 ..) (ev_neg (by omega) (ev_some (by simp)))
  | d + 1, i, n, hd, h0, hn => by
    have hi : i < L.length := by omega
    obtain ⟨m1, m2, m3, m4, m5, m6⟩ := hs _ (List.getElem_mem hi)
    have ih1 := mir_l L hL hs d (i + 1) (n + 1) (by omega) (by omega) (by omega)
    have ih0 := mir_l L hL hs d (i + 1) n (by omega) h0 (by omega)
    refine Ev.step (fun _ => spec_CountMirrored.l0.eq_2 ..) (ev_pos (by omega) (ev_pos (by omega) (ev_pos (by omega) ?_)))
    rw [rdct L i hi, List.drop_eq_getElem_cons hi, List.filter_cons, w64 (e := (i : Int) + 1) (by omega) (by omega), w64 (e := n + 1) (by omega) (by omega)]
    generalize L[i] = c at m1 m2 m3 m4 m5 m6
    refine ev_bind (mirror_ev c.f0 c.f1 (by omega) c.f2 m3 m4) (ev_bind (text_ev c.f0 c.f1 (mirL c.f0 c.f2) (by omega) m2 m6 m5) (ev_bind (text_ev c.f0 c.f1 c.f2 (by omega) m2 m3 m4) ?_))
    have hi2 := cat_inj (headT c.f0 c.f1) (mirL c.f0 c.f2) c.f2 m5 m4
    by_cases hc : mirL c.f0 c.f2 = c.f2
    · have hp : mirP c = true := by
        unfold mirP
        rw [beq_iff_eq, cmFL_zero]
        exact hc.symm
      rw [if_pos hp, List.length_cons]
      refine ev_pos (hi2.2 hc) ?_
      rw [show n + (((List.drop (i + 1) L).filter mirP).length + 1 : Nat) = n + 1 + (((List.drop (i + 1) L).filter mirP).length : Nat) by omega]
      exact ih1
    · have hp : ¬ mirP c = true := by
        unfold mirP
        rw [beq_iff_eq, cmFL_zero]
        exact fun e => hc e.symm
      rw [if_neg hp]
      exact ev_neg (fun e => hc (hi2.1 e)) ih0
theorem countMirrored_both (a b : Int) : ∃ r : Int × Bool, Ev (fun k => spec_CountMirrored.f k a b) r ∧ impl_CountMirrored.f a b = some r := by
  unfold impl_CountMirrored.f
  rw [implAll_f, Option.bind_some]
  unfold allV
  by_cases h : listOk a b = true
  · rw [if_pos h]
    have hc : (allC a b).all (fun c => goodC c.f0 c.f1 c.f2 && decide (c.f2.length ≤ 1000000)) = true ∧ (allC a b).length ≤ 4294967296 := by
      refine ⟨List.all_eq_true.2 (fun c hc => ?_), allC_len h⟩
      obtain ⟨m, g⟩ := allC_mir h hc
      have := m.2.2.1
      rw [g, Bool.true_and, decide_eq_true_eq]
      omega
    have hl := mir_l (allC a b) (allC_len h) (fun c hc => (allC_mir h hc).1) (allC a b).length 0 0 (by omega) (by omega) (by omega)
    rw [List.drop_zero, Int.zero_add] at hl
    rw [if_pos hc]
    exact ⟨_, ev_call (ctFew_f a b) (ev_pos h (ev_call (ctAll_f h) hl)), rfl⟩
  · rw [if_neg h]
    exact ⟨(0, false), ev_call (ctFew_f a b) (ev_neg h (ev_some rfl)), rfl⟩
theorem FnExactCountMirrored : laws_FnExactCountMirrored.Pure := by
  intro a b _ _
  obtain ⟨⟨r1, r2⟩, h1, h2⟩ := countMirrored_both a b
  exact ev_at (ev_bind h1 (ev_call h2 (ev_pos rfl (ev_neg (by simp) (ev_some rfl)))))
end Go.Proofs.Ythmcdiekgfgpdaa.Pure
