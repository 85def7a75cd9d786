import Derived.Test.YtdfcljfajiihdaaMFnExactCountWithoutCrosswWords
import Derived.Test.YtdfcljfajiihdaaMFnExactCountWithoutCrosswLast
import Derived.Test.YtdfcljfajiihdaaMFnExactCountWithoutCrosswApart
import Derived.Test.YtdfcljfajiihdaaMFnExactCountWithoutCrosswFoot
import Derived.Test.YtdfcljfajiihdaaMFnExactCountWithoutCrosswKept
import Derived.Test.YtdfcljfajiihdaaMFnExactCountWithoutCrosswShare
import Derived.Test.YtdfcljfajiihdaaMFnExactCountWithoutCrosswN
import Derived.Test.YtdfcljfajiihdaaMFnExactCountWithoutCrosswEqStruct
import Derived.Test.YtdfcljfajiihdaaMFnExactCountWithoutCrosswRepsOne
import Derived.Test.YtdfcljfajiihdaaMFnExactCountWithoutCrosswInv
import Derived.Test.YtdfcljfajiihdaaMFnExactCountWithoutCrosswMore
import Derived.Test.YtdfcljfajiihdaaMFnExactCountWithoutCrossx0
import Derived.Test.YtdfcljfajiihdaaMFnExactCountWithoutCrossx1
import Derived.Test.YtdfcljfajiihdaaMFnExactCountWithoutCrossx2
import Derived.Laws.EntriesVeiled
import Derived.Lib.SliceRun
import Derived.Shelf.Abstract
import Derived.Deep.RegionLaw
import Derived.Deep.RegionLawGrows
namespace Go.Proofs.Ytdfcljfajiihdaa.P
open Go.RowKit Go.Proofs.YtdfcljfajiihdaaW.PrintWords Go.Proofs.YtdfcljfajiihdaaW.PrintLast Go.Proofs.YtdfcljfajiihdaaW.PrintMore
attribute [local go_sem] max2_int min2_int max_two min_two max_three min_three max_four min_four
set_option linter.unusedVariables false
set_option linter.unusedSimpArgs false
open Go.Proofs.Ytdfcljfajiihdaa.T Go.Proofs.Ytdfcljfajiihdaa.Gr Go.Proofs.Ytdfcljfajiihdaa.Aid
theorem madeCells_int (n : Nat) : madeCells (Value.int .i64 0).cells (n * 1) = ((List.replicate n (0 : Int)).map (Value.int .i64)).toArray := by
  unfold madeCells
  rw [Nat.mul_one]
  apply Array.ext
  · simp
  · intro i h1 h2
    have e : (Value.int .i64 0).cells = #[Value.int .i64 0] := rfl
    simp [e, Nat.mod_one]
theorem ht_rep (n c : Nat) : ht (List.replicate n 0) c = 0 := by
  unfold ht
  rw [List.getD_eq_getElem?_getD, List.getElem?_replicate]
  split <;> rfl
theorem left_rep (n : Nat) (H : Int) (h0 : 0 ≤ H) : left H (List.replicate n 0) = n * H.toNat := by rw [left_replicate]; simp
theorem fits_rep (n : Nat) (H : Int) (hn : 0 < n) (h0 : 0 ≤ H) : Fits (List.replicate n 0) H := ⟨fun e => by simp at e; omega, fun c _ => by rw [ht_rep]; exact h0⟩
set_option maxHeartbeats 2000000 in
theorem impl_fills {σ : Type} {g : Nat} {lb : Array Value} {Q : σ → List Sq → Prop} {step : σ → List Sq → σ × Bool} {I : σ → World → (Nat → Prop) → Prop} (E : Each g lb Q step I) (W : Nat) (H most : Int) (hW : 1 ≤ W ∧ W ≤ 100) (hH : 1 ≤ H ∧ H ≤ 100)
    (n : Nat) (hn : W * H.toNat < n) (s : σ) (X : Nat → Prop) (w : World) (hI : I s w X) (hQ : RunQ Q step s (fillP H most n (List.replicate W 0) [])) :
    Calls Try.prog 86 #[.int .i64 (W : Int), .int .i64 H, .int .i64 most, .func (.func g) #[] lb] w fun e w' => (∃ v, e = .returned v) ∧ ∃ X', I (foldE step s (fillP H most n (List.replicate W 0) [])).1 w' X' ∧ (∀ k, X' k → X k ∨ w.heap.size ≤ k) ∧ Fr w.heap.size X w w' := by
  obtain ⟨i0, hi0, hz0, hz1, hz2⟩ := info_parts info3
  have hmk : ∀ W' : World, (Instr.makeSlice 22 (.int .i64 (W : Int)) (.int .i64 (W : Int))).run Try.prog W' = .ok (.slice (some ⟨W'.heap.size, 0, none⟩) W W) (W'.alloc (.cells ((List.replicate W (0 : Int)).map (Value.int .i64)).toArray 3)) := fun W' => by
    have := run_make W' 22 3 i0 _ Try.underlying22 hi0 hz0 .i64 .i64 (W : Int) (W : Int) (by omega) (Int.le_refl _) (by rw [hz2]; omega) (by omega)
    rw [hz1, Int.toNat_natCast, madeCells_int] at this
    exact this
  have HI := Aside0.mk hI
  have HE := Aside0.mk E
  have HQ := Aside0.mk hQ
  have HN := Aside0.mk hn
  clear hi0 hz0 hz1 hz2 hI E hQ hn
  generalize hf : List.replicate W (0 : Int) = f at hmk HQ
  have hlen : f.length = W := by rw [← hf]; simp
  have HF := Aside0.mk hf
  clear hf
  subst hlen
  have hu69 := Try.underlying101
  go_enter Try.func86, Try.ntmps86
  go_wp2_with fail
  have HWB : Aside0 (Below w.heap.size w ((w.alloc (.cells (f.map (Value.int .i64)).toArray 3)).alloc (.cells #[.int .i64 (f.length : Int), .int .i64 H, .slice (some ⟨w.heap.size, 0, none⟩) f.length f.length, .slice none 0 0, .int .i64 most, .func (.func g) #[] lb] 101))) := ⟨((Below.refl _ _).alloc (Nat.le_refl _) _).alloc (by simp) _⟩
  have HFS : Aside0 (FS I w.heap.size (w.heap.size + 1) w.heap.size H most (.func (.func g) #[] lb) f [] (.slice none 0 0) s X ((w.alloc (.cells (f.map (Value.int .i64)).toArray 3)).alloc (.cells #[.int .i64 (f.length : Int), .int .i64 H, .slice (some ⟨w.heap.size, 0, none⟩) f.length f.length, .slice none 0 0, .int .i64 most, .func (.func g) #[] lb] 101))) := ⟨{
    st := HE.out.mv HI.out (fun k hk => HWB.out.block k (HE.out.bd HI.out k hk))
    fil := ⟨by
      have := heap_alloc_new (w.alloc (.cells (f.map (Value.int .i64)).toArray 3)) (.cells #[.int .i64 (f.length : Int), .int .i64 H, .slice (some ⟨w.heap.size, 0, none⟩) f.length f.length, .slice none 0 0, .int .i64 most, .func (.func g) #[] lb] 101)
      simpa using this, blk_alloc (heap_alloc_new w _) _⟩
    row := Kd.R_nil _ _ _ _ _
    nF := fun hk => by have := HE.out.bd HI.out _ hk; omega
    nG := fun hk => by have := HE.out.bd HI.out _ hk; omega
    size := HWB.out.size }⟩
  generalize ((w.alloc (.cells (f.map (Value.int .i64)).toArray 3)).alloc (.cells #[.int .i64 (f.length : Int), .int .i64 H, .slice (some ⟨w.heap.size, 0, none⟩) f.length f.length, .slice none 0 0, .int .i64 most, .func (.func g) #[] lb] 101)) = w1 at HWB HFS ⊢
  refine (filler_fill HE.out w.heap.size (w.heap.size + 1) w.heap.size H most (by omega) (by omega) (Nat.le_refl _) n f [] _ s X w1 HFS.out (by rw [← HF.out]; exact fits_rep _ _ (by omega) (by omega)) (by rw [← HF.out, left_rep _ _ (by omega)]; exact HN.out) (by omega) (fun c _ => by rw [← HF.out, ht_rep]; omega) ?_ HQ.out).mono ?_
  · rw [← HF.out, left_rep _ _ (by omega)]
    have : f.length * H.toNat ≤ 100 * 100 := Nat.mul_le_mul hW.2 (by omega)
    simp only [List.length_nil]
    omega
  · intro e w' hp
    obtain ⟨he, X', vS', h1, h2, h3⟩ := hp
    subst he
    have H1 := Aside0.mk h1.st
    have H2 : Aside0 (∀ k, X' k → X k ∨ w.heap.size ≤ k) := ⟨fun k hk => by
      rcases h2 k hk with h | h
      · exact .inl h
      · exact .inr (Nat.le_trans HWB.out.size h)⟩
    have H3 : Aside0 (Fr w.heap.size X w w') := ⟨(Fr.of_below HWB.out (Nat.le_refl _)).trans h3 (Nat.le_refl _) (fun _ _ hx => hx)⟩
    clear h1 h2 h3
    go_wp2_with fail
    go_end0
    exact ⟨⟨_, rfl⟩, X', H1.out, H2.out, H3.out⟩
end Go.Proofs.Ytdfcljfajiihdaa.P

namespace Go.Proofs.Ytdfcljfajiihdaa.P
open Go.RowKit Go.Proofs.YtdfcljfajiihdaaW.PrintWords Go.Proofs.YtdfcljfajiihdaaW.PrintLast Go.Proofs.YtdfcljfajiihdaaW.PrintMore
attribute [local go_sem] max2_int min2_int max_two min_two max_three min_three max_four min_four
set_option linter.unusedVariables false
set_option linter.unusedSimpArgs false
open Go.Proofs.Ytdfcljfajiihdaa.T Go.Proofs.Ytdfcljfajiihdaa.Aid
theorem R_emptyq (W : World) (base : Nat) (hb : base ≤ W.heap.size) : Kd.R k56 56 (W.alloc (.cells #[] 56)) base (fun _ => True) (.slice (some ⟨W.heap.size, 0, none⟩) 0 0) [] :=
  ⟨fun k hk => trivial, [], World.ownsRow_lit (base := base) (e := 56) (size := 3) W #[] 0 hb (by simp [maxLen]) (by simp), Reps.none _ _⟩
set_option maxHeartbeats 1000000 in
theorem slices_Clone_sq (l : List Sq) (A : Option Addr) (c : Nat) (w : World) (hr : Kd.C k56 w A l.length l) (hc : l.length ≤ c) (hl : l.length ≤ 1000000) :
    Calls Try.prog 88 #[.slice A l.length c] w fun e w' => ∃ v, e = .returned v ∧ Kd.R k56 56 w' w.heap.size (fun _ => True) v l ∧ Below w.heap.size w w' := by
  have q36 : ∀ (w : World) (a : Option Addr) (n c n' c' : Nat), (binOp .eql 35 (.slice a n c) (.slice none n' c')).run Try.prog w = .ok (.bool a.isNone) w := fun w a n c n' c' => Go.Lib.run_eql_slice_nil w _ _ a n c n' c' Try.underlying35
  cases A with
  | none =>
    have h0 : l = [] := by
      cases l with
      | nil => rfl
      | cons x l =>
        obtain ⟨ad, e, _⟩ := at_T56 hr 0 (by omega) (by simp)
        cases e
    subst h0
    go_enter Try.func88, Try.ntmps88
    go_wp2_with fail
    go_ret
    exact ⟨_, rfl, Kd.R_nil _ _ _ _ _, by repeat (first | exact Below.refl _ _ | apply below_alloc | apply pw_below_drewN)⟩
  | some ad =>
    have HR := Aside0.mk hr
    clear hr
    go_enter Try.func88, Try.ntmps88
    go_wp2_with (first | ((with_reducible refine gate_builtin (b := .append) (xs := #[.tmp 5, .tmp 6]) rfl ?_); at_builtin; refine Kd.R_append_rows k56 (w0 := w) w.heap.size rfl (.tmp 5) (.tmp 6) 35 56 (.agg #[.int .i64 0, .int .i64 0, .int .i64 0]) 24 rfl Try.underlying35 info56 rfl (by decide) (by omega) (.slice (some ⟨w.heap.size, 0, none⟩) 0 0) [] l _ _ _ (fun _ => True) (fun _ => False) rfl rfl (R_emptyq w _ (Nat.le_refl _)) ?aR (fun _ _ h => h) (fun _ h => h.elim) (fun _ _ => trivial) (below_alloc (Below.refl _ _) _) (below_alloc (Below.refl _ _) _).size ?aL ?_; (case aR => exact (show Kd.C k56 _ (some ad) l.length l from Kd.C_alloc HR.out _)); (case aL => simp; omega); intro v1 w1 ho hb hg hat; rw [List.nil_append] at ho; have HO := Aside0.mk ho; have HB := Aside0.mk hb; clear ho hb hg hat))
    go_ret
    exact ⟨_, rfl, HO.out, HB.out⟩
end Go.Proofs.Ytdfcljfajiihdaa.P

namespace Go.Proofs.Ytdfcljfajiihdaa.P
open Go.RowKit Go.Proofs.YtdfcljfajiihdaaW.PrintWords Go.Proofs.YtdfcljfajiihdaaW.PrintLast Go.Proofs.YtdfcljfajiihdaaW.PrintMore
attribute [local go_sem] max2_int min2_int max_two min_two max_three min_three max_four min_four
set_option linter.unusedVariables false
set_option linter.unusedSimpArgs false
open Go.Proofs.Ytdfcljfajiihdaa.T Go.Proofs.Ytdfcljfajiihdaa.Aid
def CuI_allCuts (base B C D : Nat) (a b : Int) (s : List Ct) (W : World) (X : Nat → Prop) : Prop :=
  ∃ (v : Value) (ok : Nat → Prop), W.heap[B]? = some (.cells #[v] 53 (0, 0)) ∧ W.heap[C]? = some (.cells #[.int .i64 a] 3 (0, 0)) ∧ W.heap[D]? = some (.cells #[.int .i64 b] 3 (0, 0)) ∧
    Kd.S k37 37 W base ok v s ∧ (∀ k, ok k → k ≠ B ∧ k ≠ C ∧ k ≠ D ∧ k < W.heap.size) ∧ ∀ k, X k ↔ (k = B ∨ k = C ∨ k = D ∨ ok k)
theorem S_sl_allCuts {α : Type} {d : Kd α} {w : World} {base e : Nat} {ok : Nat → Prop} {v : Value} {xs : List α} (h : Kd.S d e w base ok v xs) : ∃ A n c, v = .slice A n c := by
  obtain ⟨A, c, e⟩ := Kd.S_slice h
  exact ⟨_, _, _, e⟩
theorem CuI_put_allCuts {base B C D : Nat} {a b : Int} {s s' : List Ct} {W W1 w2 : World} {X ok : Nat → Prop} {v v1 : Value} (hBC : B ≠ C) (hBD : B ≠ D)
    (h1 : W.heap[B]? = some (.cells #[v] 53 (0, 0))) (h2 : W.heap[C]? = some (.cells #[.int .i64 a] 3 (0, 0))) (h3 : W.heap[D]? = some (.cells #[.int .i64 b] 3 (0, 0)))
    (hown : ∀ k, v.ownBlock = some k → ok k) (h5 : ∀ k, ok k → k ≠ B ∧ k ≠ C ∧ k ≠ D ∧ k < W.heap.size) (h7 : ∀ k, X k ↔ (k = B ∨ k = C ∨ k = D ∨ ok k))
    (hb : Below W.heap.size W W1) (hg : W1.grownBy w2 v.ownBlock) (ho : Kd.S k37 37 w2 base (fun k => ok k ∨ W.heap.size ≤ k) v1 s') (hbe : Below base W w2) :
    ∃ X', CuI_allCuts base B C D a b s' (w2.setCell ⟨B, 0, none⟩ v1) X' ∧ (∀ k, X' k → X k ∨ W.heap.size ≤ k) ∧ Fr W.heap.size X W (w2.setCell ⟨B, 0, none⟩ v1) := by
  have g1 := blk_below h1 hb
  have g2 := blk_below h2 hb
  have g3 := blk_below h3 hb
  have hB := blk_lt h1
  have hC := blk_lt h2
  have hD := blk_lt h3
  have nB : some B ≠ v.ownBlock := fun e => (h5 B (hown B e.symm)).1 rfl
  have nC : some C ≠ v.ownBlock := fun e => (h5 C (hown C e.symm)).2.1 rfl
  have nD : some D ≠ v.ownBlock := fun e => (h5 D (hown D e.symm)).2.2.1 rfl
  have k1 := blk_grown g1 hg nB
  have k2 := blk_grown g2 hg nC
  have k3 := blk_grown g3 hg nD
  have hsz : w2.heap.size = (w2.setCell ⟨B, 0, none⟩ v1).heap.size := by simp [World.setCell]
  refine ⟨fun k => k = B ∨ k = C ∨ k = D ∨ ((ok k ∨ W.heap.size ≤ k) ∧ k < w2.heap.size), ⟨v1, fun k => (ok k ∨ W.heap.size ≤ k) ∧ k < w2.heap.size, blk_put k1 0 _ rfl, blk_far k2 (p := ⟨B, 0, none⟩) (Ne.symm hBC) _, blk_far k3 (p := ⟨B, 0, none⟩) (Ne.symm hBD) _, ?_, fun k hk => ?_, fun k => Iff.rfl⟩, fun k hk => ?_, ?_⟩
  · exact Kd.S_far (p := ⟨B, 0, none⟩) (Kd.S_mono (Kd.S_bound ho) (fun k hk => ⟨hk.1, hk.2.2.1⟩)) (fun k hk => by
      rcases hk.1 with h | h
      · exact (h5 k h).1
      · simp only; omega) _
  · rw [← hsz]
    rcases hk.1 with h | h
    · exact ⟨(h5 k h).1, (h5 k h).2.1, (h5 k h).2.2.1, hk.2⟩
    · exact ⟨by omega, by omega, by omega, hk.2⟩
  · rcases hk with h | h | h | h
    · exact .inl ((h7 k).2 (.inl h))
    · exact .inl ((h7 k).2 (.inr (.inl h)))
    · exact .inl ((h7 k).2 (.inr (.inr (.inl h))))
    · rcases h.1 with h | h
      · exact .inl ((h7 k).2 (.inr (.inr (.inr h))))
      · exact .inr h
  · refine ⟨hbe.os, hbe.tape, hbe.output, by rw [← hsz]; exact hbe.size, fun k hk hn => ?_⟩
    have hkB : k ≠ B := fun e => hn ((h7 k).2 (.inl e))
    rw [Below.heap_setCell w2 _ _ k hkB]
    exact (hg.block k (Nat.lt_of_lt_of_le hk hb.size) (fun e => hn ((h7 k).2 (.inr (.inr (.inr (hown k e.symm))))))).trans (hb.block k hk)
theorem cutM_allCuts {W V : World} {base : Nat} {A1 : Option Addr} {n1 c1 : Nat} {sq : List Sq} (a b : Int) (hr : Kd.R k56 56 V W.heap.size (fun _ => True) (.slice A1 n1 c1) sq) (hb : base ≤ W.heap.size) :
    (k37).M V base (fun k => W.heap.size ≤ k) (⟨a, b, sq⟩ : Ct) [.int .i64 a, .int .i64 b, .slice A1 n1 c1] :=
  k37_mkM V base _ ⟨a, b, sq⟩ (Kd.R_lower (Kd.R_mono (Kd.R_bound hr) (fun k hk => hk.2.1)) hb)
set_option maxHeartbeats 8000000 in
theorem cut_each_allCuts (base B C D : Nat) (hBC : B ≠ C) (hBD : B ≠ D) (hbB : base ≤ B) (a b : Int) : Each 87 #[.pointer (some ⟨B, 0, none⟩), .pointer (some ⟨C, 0, none⟩), .pointer (some ⟨D, 0, none⟩)] (fun s t => s.length ≤ 1000000000000 ∧ t.length ≤ 1000000) (fun s t => (s ++ [⟨a, b, t⟩], true)) (CuI_allCuts base B C D a b) where
  bd := fun {s W X} h k hk => by
    obtain ⟨v, ok, h1, h2, h3, h4, h5, h7⟩ := h
    rcases (h7 k).1 hk with rfl | rfl | rfl | hk
    · exact blk_lt h1
    · exact blk_lt h2
    · exact blk_lt h3
    · exact (h5 k hk).2.2.2
  mv := fun {s W W' X} h hm => by
    obtain ⟨v, ok, h1, h2, h3, h4, h5, h7⟩ := h
    refine ⟨v, ok, (hm B ((h7 B).2 (.inl rfl))).trans h1, (hm C ((h7 C).2 (.inr (.inl rfl)))).trans h2, (hm D ((h7 D).2 (.inr (.inr (.inl rfl))))).trans h3, Kd.S_step h4 (fun k hk _ => hm k ((h7 k).2 (.inr (.inr (.inr hk))))), fun k hk => ⟨(h5 k hk).1, (h5 k hk).2.1, (h5 k hk).2.2.1, ?_⟩, h7⟩
    have e := hm k ((h7 k).2 (.inr (.inr (.inr hk))))
    have hlt := (h5 k hk).2.2.2
    rw [Array.getElem?_eq_getElem hlt] at e
    exact blk_lt e
  eg := enters_of Try.func87 (by kernel_rfl) rfl
  call := fun s W X A c sq hI hC hc hq => by
    obtain ⟨v, ok, h1, h2, h3, h4, h5, h7⟩ := hI
    have hbW : base ≤ W.heap.size := Nat.le_trans hbB (Nat.le_of_lt (blk_lt h1))
    have hown : ∀ k, v.ownBlock = some k → ok k := h4.choose_spec.1
    have HPUT := Aside0.mk (fun (W1 w2 : World) (v1 : Value) => CuI_put_allCuts (s := s) (s' := s ++ [⟨a, b, sq⟩]) (base := base) (a := a) (b := b) (W1 := W1) (w2 := w2) (v1 := v1) hBC hBD h1 h2 h3 hown h5 h7)
    have HCELL : Aside0 (∀ V, Below W.heap.size W V → V.cell? ⟨B, 0, none⟩ = some v ∧ V.cell? ⟨C, 0, none⟩ = some (.int .i64 a) ∧ V.cell? ⟨D, 0, none⟩ = some (.int .i64 b)) := ⟨fun V hV => ⟨(blk_cell (blk_below h1 hV) 0).trans rfl, (blk_cell (blk_below h2 hV) 0).trans rfl, (blk_cell (blk_below h3 hV) 0).trans rfl⟩⟩
    have HGR : Aside0 (∀ V w2, Below W.heap.size W V → V.grownBy w2 v.ownBlock → w2.cell? ⟨B, 0, none⟩ = some v ∧ w2.frozen? ⟨B, 0, none⟩ = false) := ⟨fun V w2 hV hg => by
      have k1 := blk_grown (blk_below h1 hV) hg (fun e => (h5 B (hown B e.symm)).1 rfl)
      exact ⟨(blk_cell k1 0).trans rfl, blk_frozen k1 0⟩⟩
    have HSO : Aside0 (∀ V, Below W.heap.size W V → Kd.S k37 37 V base (fun k => (ok k ∨ W.heap.size ≤ k) ∧ ¬ W.heap.size ≤ k) v s) := ⟨fun V hV => Kd.S_mono (Kd.S_below h4 hV) (fun k hk => ⟨.inl hk, by have := (h5 k hk).2.2.2; omega⟩)⟩
    have HNE : Aside0 (∀ k, W.heap.size ≤ k → (ok k ∨ W.heap.size ≤ k) ∧ some k ≠ v.ownBlock) := ⟨fun k hk => ⟨.inr hk, fun e => by have := (h5 k (hown k e.symm)).2.2.2; omega⟩⟩
    have HCL : Aside0 (∀ V, Below W.heap.size W V → Calls Try.prog 88 #[.slice A sq.length c] V fun e w' => ∃ v0, e = .returned v0 ∧ Kd.R k56 56 w' W.heap.size (fun _ => True) v0 sq ∧ Below W.heap.size W w') := ⟨fun V hV => by
      refine (slices_Clone_sq sq A c V (Kd.C_below hC hV) hc hq.2).mono ?_
      rintro e w' ⟨v0, rfl, hr, hb⟩
      exact ⟨v0, rfl, Kd.R_lower hr hV.size, hV.trans (hb.mono hV.size)⟩⟩
    have HLN := Aside0.mk hq.1
    have HBW := Aside0.mk hbW
    have hx := HCELL.out W (Below.refl _ _)
    have y1 := hx.1
    have y2 := hx.2.1
    have y3 := hx.2.2
    obtain ⟨AO, nO, cO, eO⟩ := S_sl_allCuts h4
    have hu38 := Try.underlying37
    clear h1 h2 h3 h4 h5 h7 hC hc hq hown hx hbW
    subst eO
    go_enter Try.func87, Try.ntmps87
    go_wp2_with fail
    go_region_law (first | (go_simp; go_at_call 88; refine (HCL.out _ (by first | exact Below.refl _ _ | exact below_drew (Below.refl _ _))).mono ?_; rintro e w' ⟨v0, rfl, hr, hb⟩; obtain ⟨A1, n1, c1, e1⟩ := R_sl hr; subst e1; have HR1 := Aside0.mk hr; have HB1 := Aside0.mk hb; have hx := HCELL.out _ hb; have x1 := hx.1; have x2 := hx.2.1; have x3 := hx.2.2; have x4 := (HCELL.out (w'.alloc (.cells #[.int .i64 a, .int .i64 b, .slice A1 n1 c1] 37)) (below_alloc hb _)).1; clear hx hr hb) | (refine Kd.S_append_step k37 (w0 := W) base (by simp [Region.wanted]) (.tmp 6) (.tmp 12) 53 37 (.agg #[.int .i64 0, .int .i64 0, .slice none 0 0]) 40 rfl Try.underlying53 info37 rfl (by decide) (by omega) (.slice AO nO cO) s (⟨a, b, sq⟩ : Ct) [.int .i64 a, .int .i64 b, .slice A1 n1 c1] (fun k => ok k ∨ W.heap.size ≤ k) (fun k => W.heap.size ≤ k) rfl rfl (cutM_allCuts a b HR1.out HBW.out) HNE.out (fun k hk => .inr (Nat.le_trans HB1.out.size hk)) (HSO.out _ HB1.out) (HB1.out.mono HBW.out) (Nat.le_trans HBW.out HB1.out.size) (by have := HLN.out; omega) ?_; intro v1 w1 ho hb hg hat; obtain ⟨A2, n2, c2, e2⟩ := S_sl_allCuts ho; subst e2; have HP := Aside0.mk (HPUT.out _ _ _ HB1.out hg ho hb); have hbx := HGR.out _ _ HB1.out hg; have hbx1 := hbx.1; have hbx2 := hbx.2; clear ho hb hg hat hbx))
    all_goals
      go_wp2_with fail
      go_ret
      exact ⟨rfl, HP.out⟩
theorem foldl_cuts_allCuts (a b : Int) : ∀ (l : List (List Sq)) (s : List Ct), l.foldl (fun s t => s ++ [(⟨a, b, t⟩ : Ct)]) s = s ++ l.map (fun t => (⟨a, b, t⟩ : Ct))
  | [], s => by simp
  | t :: l, s => by rw [List.foldl_cons, foldl_cuts_allCuts a b l, List.map_cons, List.append_assoc]; rfl
theorem runQ_cuts_allCuts (a b : Int) : ∀ (l : List (List Sq)) (s : List Ct), s.length + l.length ≤ 1000000000000 → (∀ t ∈ l, t.length ≤ 1000000) → RunQ (fun (s : List Ct) (t : List Sq) => s.length ≤ 1000000000000 ∧ t.length ≤ 1000000) (fun s t => (s ++ [(⟨a, b, t⟩ : Ct)], true)) s l
  | [], _, _, _ => trivial
  | t :: l, s, h, ht => ⟨⟨by simp at h; omega, ht t List.mem_cons_self⟩, fun _ => runQ_cuts_allCuts a b l _ (by simp at h ⊢; omega) (fun x hx => ht x (List.mem_cons_of_mem _ hx))⟩
theorem S_empty_allCuts (W : World) (base : Nat) (ok : Nat → Prop) (hb : base ≤ W.heap.size) (ho : ok W.heap.size) : Kd.S k37 37 (W.alloc (.cells #[] 37)) base ok (.slice (some ⟨W.heap.size, 0, none⟩) 0 0) [] :=
  ⟨fun _ => 0, fun k hk => by simp [Value.ownBlock] at hk; subst hk; exact ho, [], World.ownsRow_lit (base := base) (e := 37) (size := 3) W #[] 0 hb (by simp [maxLen]) (by simp), Reps.none _ _⟩
theorem CuI_start_allCuts (w : World) (a b : Int) :
    CuI_allCuts w.heap.size (w.heap.size + 3) w.heap.size (w.heap.size + 1) a b [] ((((w.alloc (.cells #[.int .i64 a] 3)).alloc (.cells #[.int .i64 b] 3)).alloc (.cells #[] 37)).alloc (.cells #[.slice (some ⟨w.heap.size + 2, 0, none⟩) 0 0] 53))
      (fun k => k = w.heap.size + 3 ∨ k = w.heap.size ∨ k = w.heap.size + 1 ∨ k = w.heap.size + 2) := by
  have h := S_empty_allCuts ((w.alloc (.cells #[.int .i64 a] 3)).alloc (.cells #[.int .i64 b] 3)) w.heap.size (fun k => k = w.heap.size + 2) (by simp; omega) (by simp)
  rw [show ((w.alloc (.cells #[.int .i64 a] 3)).alloc (.cells #[.int .i64 b] 3)).heap.size = w.heap.size + 2 from by simp] at h
  have hB := heap_alloc_new (((w.alloc (.cells #[.int .i64 a] 3)).alloc (.cells #[.int .i64 b] 3)).alloc (.cells #[] 37)) (.cells #[.slice (some ⟨w.heap.size + 2, 0, none⟩) 0 0] 53)
  have hD := heap_alloc_new (w.alloc (.cells #[.int .i64 a] 3)) (.cells #[.int .i64 b] 3)
  rw [show (((w.alloc (.cells #[.int .i64 a] 3)).alloc (.cells #[.int .i64 b] 3)).alloc (.cells #[] 37)).heap.size = w.heap.size + 3 from by simp] at hB
  rw [show (w.alloc (.cells #[.int .i64 a] 3)).heap.size = w.heap.size + 1 from by simp] at hD
  exact ⟨_, fun k => k = w.heap.size + 2, hB, blk_alloc (blk_alloc (blk_alloc (heap_alloc_new w _) _) _) _, blk_alloc (blk_alloc hD _) _, Kd.S_alloc h _, fun k hk => by subst hk; simp, fun k => Iff.rfl⟩
theorem prod_le {W H : Int} (h0 : 1 ≤ W) (h1 : 1 ≤ H) (h : W * H ≤ 16) : W ≤ 16 ∧ H ≤ 16 := by
  have e1 : W * 1 ≤ W * H := Int.mul_le_mul_of_nonneg_left h1 (by omega)
  have e2 : 1 * H ≤ W * H := Int.mul_le_mul_of_nonneg_right h0 (by omega)
  omega
def impl_allCuts.f (a0 a1 : Int) : Option (List Ct) := if 1 ≤ a0 ∧ 1 ≤ a1 ∧ a0 * a1 ≤ 16 then some ((tilings a0.toNat a1).map (fun t => (⟨a0, a1, t⟩ : Ct))) else none
set_option maxHeartbeats 4000000 in
theorem impl_allCuts.calls (a0 a1 : Int) (r : List Ct) (w : World) (h : impl_allCuts.f a0 a1 = some r) :
    Calls Try.prog 62 #[.int .i64 a0, .int .i64 a1] w fun e w' => ∃ v0_ : Value, e = .returned v0_ ∧ Kd.S k37 37 w' w.heap.size (fun _ => True) v0_ r ∧ Below w.heap.size w w' := by
  unfold impl_allCuts.f at h
  by_cases hr : 1 ≤ a0 ∧ 1 ≤ a1 ∧ a0 * a1 ≤ 16
  · rw [if_pos hr] at h
    have hp := prod_le hr.1 hr.2.1 hr.2.2
    obtain ⟨W, rfl⟩ : ∃ W : Nat, a0 = W := ⟨a0.toNat, by omega⟩
    simp only [Int.toNat_natCast] at h
    have hm0 : 0 ≤ (W : Int) * a1 := Int.mul_nonneg (by omega) (by omega)
    have hcnt := list_count W a1 (by omega) (by omega) hr.2.2
    have hfill := fillP_all W a1 (by omega) (by omega)
    have HEACH := Aside0.mk (cut_each_allCuts w.heap.size (w.heap.size + 3) w.heap.size (w.heap.size + 1) (by omega) (by omega) (by omega) (W : Int) a1)
    have hrun := runQ_cuts_allCuts (W : Int) a1 (tilings W a1) [] (by simp; omega) (fun t ht => by
      have h1 := (til_len W a1 (by omega) (by omega) t ht).2
      have h2 := hr.2.2
      omega)
    have HFILLS := Aside0.mk (fun V hI => impl_fills HEACH.out W a1 ((W : Int) * a1) (by omega) (by omega) (W * a1.toNat + 1) (by omega) [] (fun k => k = w.heap.size + 3 ∨ k = w.heap.size ∨ k = w.heap.size + 1 ∨ k = w.heap.size + 2) V hI (by rw [hfill]; exact hrun))
    rw [hfill, foldE_true _ (fun _ _ => rfl)] at HFILLS
    have HRES : Aside0 ((tilings W a1).foldl (fun s t => s ++ [(⟨(W : Int), a1, t⟩ : Ct)]) [] = r) := ⟨by rw [foldl_cuts_allCuts, List.nil_append]; exact Option.some.inj h⟩
    have HI := Aside0.mk (CuI_start_allCuts w (W : Int) a1)
    obtain ⟨M, hM⟩ : ∃ z : Int, (W : Int) * a1 = z := ⟨_, rfl⟩
    have hw2 : wrap64 ((W : Int) * a1) = M := by rw [w64 (by omega) (by omega)]; exact hM
    rw [hM] at HFILLS
    clear hcnt hfill hrun h hM hm0 hr hp
    go_enter Try.func62, Try.ntmps62
    have HW1 : Aside0 (Below w.heap.size w ((((w.alloc (.cells #[.int .i64 (W : Int)] 3)).alloc (.cells #[.int .i64 a1] 3)).alloc (.cells #[] 37)).alloc (.cells #[.slice (some ⟨w.heap.size + 2, 0, none⟩) 0 0] 53))) := ⟨by repeat (first | exact Below.refl _ _ | apply below_alloc)⟩
    go_upto_region 2 with (fail)
    generalize ((((w.alloc (.cells #[.int .i64 (W : Int)] 3)).alloc (.cells #[.int .i64 a1] 3)).alloc (.cells #[] 37)).alloc (.cells #[.slice (some ⟨w.heap.size + 2, 0, none⟩) 0 0] 53)) = w1 at HI HW1 ⊢
    have HCELL : Aside0 (∀ V, Below w1.heap.size w1 V → V.cell? ⟨w.heap.size, 0, none⟩ = some (.int .i64 (W : Int)) ∧ V.cell? ⟨w.heap.size + 1, 0, none⟩ = some (.int .i64 a1)) := ⟨fun V hV => by
      obtain ⟨v, ok, h1, h2, h3, _⟩ := HI.out
      exact ⟨(blk_cell (blk_below h2 hV) 0).trans rfl, (blk_cell (blk_below h3 hV) 0).trans rfl⟩⟩
    have HF3 : Aside0 (∀ V, Below w1.heap.size w1 V → Calls Try.prog 86 #[.int .i64 (W : Int), .int .i64 a1, .int .i64 M, .func (.func 87) #[] #[.pointer (some ⟨w.heap.size + 3, 0, none⟩), .pointer (some ⟨w.heap.size, 0, none⟩), .pointer (some ⟨w.heap.size + 1, 0, none⟩)]] V fun e w' => (∃ v, e = .returned v) ∧ ∃ A n c, w'.cell? ⟨w.heap.size + 3, 0, none⟩ = some (.slice A n c) ∧ Kd.S k37 37 w' w.heap.size (fun _ => True) (.slice A n c) r ∧ Below w.heap.size w w') := ⟨fun V hV => by
      refine (HFILLS.out V (HEACH.out.mv HI.out (fun k hk => hV.block k (HEACH.out.bd HI.out k hk)))).mono ?_
      rintro e w' ⟨hv, X', ⟨v, ok, h1, h2, h3, h4, h5, h7⟩, hsub, hfr⟩
      rw [HRES.out] at h4
      obtain ⟨A, n, c, e0⟩ := S_sl_allCuts h4
      subst e0
      refine ⟨hv, A, n, c, (blk_cell h1 0).trans rfl, Kd.S_mono h4 (fun _ _ => trivial), ?_⟩
      have hWV : Below w.heap.size w V := HW1.out.trans (hV.mono HW1.out.size)
      exact ⟨hfr.os.trans hWV.os, hfr.tape.trans hWV.tape, hfr.output.trans hWV.output, Nat.le_trans hWV.size hfr.size, fun k hk => (hfr.block k (Nat.lt_of_lt_of_le hk hWV.size) (fun h => by omega)).trans (hWV.block k hk)⟩⟩
    have hx := HCELL.out w1 (Below.refl _ _)
    have y1 := hx.1
    have y2 := hx.2
    clear hx
    go_wp2_with (go_at_call 86; refine (HF3.out _ (Below.refl _ _)).mono ?_; rintro e w3 ⟨⟨v, rfl⟩, A, n, c, hcell, hS, hbw⟩; have HS := Aside0.mk hS; have HBW := Aside0.mk hbw; clear hS hbw)
    go_ret
    exact ⟨_, rfl, HS.out, HBW.out⟩
  · rw [if_neg hr] at h; cases h
end Go.Proofs.Ytdfcljfajiihdaa.P

namespace Go.Proofs.Ytdfcljfajiihdaa.P
open Go.RowKit Go.Proofs.YtdfcljfajiihdaaW.PrintWords Go.Proofs.YtdfcljfajiihdaaW.PrintLast Go.Proofs.YtdfcljfajiihdaaW.PrintMore
attribute [local go_sem] max2_int min2_int max_two min_two max_three min_three max_four min_four
set_option linter.unusedVariables false
set_option linter.unusedSimpArgs false
def impl_AllCuts.f (a0 : Int) (a1 : Int) : Option ((List (S37)) × Bool) := (impl_isListed.f a0 a1).bind fun t101 => (if t101 = true then ((impl_allCuts.f a0 a1).bind fun t102 => (some (t102, true))) else (some (([] : List (S37)), false)))
set_option maxHeartbeats 8000000 in
set_option maxRecDepth 100000 in
theorem impl_AllCuts.calls (a0 : Int) (a1 : Int) (r1 : List (S37)) (r2 : Bool) (w : World) (h : impl_AllCuts.f a0 a1 = some (r1, r2)) :
    Calls Try.prog 72 #[.int .i64 a0, .int .i64 a1] w fun e w' => ∃ v0_ : Value, e = .returned (.tuple #[v0_, .bool r2]) ∧ Kd.S k37 37 w' w.heap.size (fun _ => True) v0_ r1 ∧ Below w.heap.size w w' := by
  have HB := Aside0.mk (Below.refl w.heap.size w)
  have H : ((impl_isListed.f a0 a1).bind fun t101 => (if t101 = true then ((impl_allCuts.f a0 a1).bind fun t102 => (some (t102, true))) else (some (([] : List (S37)), false)))) = some (r1, r2) := h
  clear h
  replace H := Option.bind_eq_some_iff.mp H
  obtain ⟨t101, A30, H⟩ := H
  replace H : (if t101 = true then ((impl_allCuts.f a0 a1).bind fun t102 => (some (t102, true))) else (some (([] : List (S37)), false))) = some (r1, r2) := H
  have A3 := Aside0.mk A30
  clear A30
  by_cases c4 : t101 = true
  · subst c4
    have H1 : ((impl_allCuts.f a0 a1).bind fun t102 => (some (t102, true))) = some (r1, r2) := by rw [if_pos rfl] at H; exact H
    clear H
    have H := H1
    clear H1
    replace H := Option.bind_eq_some_iff.mp H
    obtain ⟨t102, A50, H⟩ := H
    replace H : (some (t102, true)) = some (r1, r2) := H
    have A5 := Aside0.mk A50
    clear A50
    simp only [Option.some.injEq, Prod.mk.injEq] at H
    obtain ⟨rfl, rfl⟩ := H
    go_enter Try.func72, Try.ntmps72
    go_wp2_with (first | ((with_reducible refine gate_callee (f := 60) rfl ?_); refine goesL_ (some 8) rfl rfl Try.func60 (by kernel_rfl) rfl #[.int .i64 a0, .int .i64 a1] rfl (by (try simp only [List.map_toArray, List.map_cons, List.map_nil]); first | done | rfl | (simp only [List.length_drop, List.length_take]; rfl)) ?_; (with_reducible refine (impl_isListed.calls a0 a1 true _ A3.out).mono ?_); rintro e w' ⟨rfl, ⟨nd, rfl⟩⟩; refine ⟨_, rfl, ?_⟩) | ((with_reducible refine gate_callee (f := 62) rfl ?_); refine goesL_ (some 12) rfl rfl Try.func62 (by kernel_rfl) rfl #[.int .i64 a0, .int .i64 a1] rfl (by (try simp only [List.map_toArray, List.map_cons, List.map_nil]); first | done | rfl | (simp only [List.length_drop, List.length_take]; rfl)) ?_; (with_reducible refine (impl_allCuts.calls a0 a1 t102 _ A5.out).mono ?_); rintro e w6 ⟨v103, rfl, ho0, hb⟩; refine ⟨_, rfl, ?_⟩; have n0_ := Aside0.mk (Kd.S_lower ho0 (below_size (by repeat (first | (with_reducible first | exact HB.out | apply below_alloc | apply pw_below_drewN | apply below_drew1) | exact HB.out)))); have n1_ := Aside0.mk (below_step (by repeat (first | (with_reducible first | exact HB.out | apply below_alloc | apply pw_below_drewN | apply below_drew1) | exact HB.out)) hb); clear HB; have HO104 := n0_; have HB := n1_; clear n0_ n1_; (try clear hb); (try clear hb2); (try clear hk); (try clear hi); (try clear ho0)))
    go_ret2
    exact ⟨_, by first | rfl | (simp [errW_none, errW_some] <;> rfl) | (simp [*, errW_none, errW_some] <;> rfl), by (with_reducible repeat (first | apply Kd.S_alloc | apply Kd.S_drewN | apply Kd.S_drew)); exact HO104.out, by repeat (first | (with_reducible first | exact HB.out | apply below_alloc | apply pw_below_drewN | apply below_drew1) | exact HB.out)⟩
  · replace c4 := Bool.eq_false_iff.mpr c4
    subst c4
    have H1 : (some (([] : List (S37)), false)) = some (r1, r2) := by rw [if_neg (show ¬ (false = true) by decide)] at H; exact H
    clear H
    have H := H1
    clear H1
    simp only [Option.some.injEq, Prod.mk.injEq] at H
    obtain ⟨rfl, rfl⟩ := H
    go_enter Try.func72, Try.ntmps72
    go_wp2_with (first | ((with_reducible refine gate_callee (f := 60) rfl ?_); refine goesL_ (some 8) rfl rfl Try.func60 (by kernel_rfl) rfl #[.int .i64 a0, .int .i64 a1] rfl (by (try simp only [List.map_toArray, List.map_cons, List.map_nil]); first | done | rfl | (simp only [List.length_drop, List.length_take]; rfl)) ?_; (with_reducible refine (impl_isListed.calls a0 a1 false _ A3.out).mono ?_); rintro e w' ⟨rfl, ⟨nd, rfl⟩⟩; refine ⟨_, rfl, ?_⟩))
    go_ret2
    exact ⟨_, by first | rfl | (simp [errW_none, errW_some] <;> rfl) | (simp [*, errW_none, errW_some] <;> rfl), by first | exact Kd.S_nil _ _ _ _ _ | exact Kd.N_nil _ _ _ _ _ | exact Kd.V_nil _ _ _ _ _ | exact Kd.Q_nil _ _ _ _ _ | exact Kd.R_nil _ _ _ _ _, by repeat (first | (with_reducible first | exact HB.out | apply below_alloc | apply pw_below_drewN | apply below_drew1) | exact HB.out)⟩
end Go.Proofs.Ytdfcljfajiihdaa.P

namespace Go.Proofs.Ytdfcljfajiihdaa.P
open Go.RowKit Go.Proofs.YtdfcljfajiihdaaW.PrintWords Go.Proofs.YtdfcljfajiihdaaW.PrintLast Go.Proofs.YtdfcljfajiihdaaW.PrintMore
attribute [local go_sem] max2_int min2_int max_two min_two max_three min_three max_four min_four
set_option linter.unusedVariables false
set_option linter.unusedSimpArgs false
open Go.Proofs.Ytdfcljfajiihdaa.T Go.Proofs.Ytdfcljfajiihdaa.Aid
theorem cnt_at {w : World} {base g n cap : Nat} {ok : Nat → Prop} {L : List Ct} (h : Kd.S k37 37 w base ok (.slice (some ⟨g, 0, none⟩) n cap) L) (i : Int) (h0 : 0 ≤ i) (h1 : i < n) :
    ∃ A c, w.cell? ⟨g, i.toNat * 3, none⟩ = some (.int .i64 (rd_T37 L i).f0) ∧ w.cell? ⟨g, i.toNat * 3 + 1, none⟩ = some (.int .i64 (rd_T37 L i).f1) ∧ w.cell? ⟨g, i.toNat * 3 + 2, none⟩ = some (.slice A (rd_T37 L i).f2.length c) ∧ Kd.R k56 56 w base (fun _ => True) (.slice A (rd_T37 L i).f2.length c) (rd_T37 L i).f2 := by
  obtain ⟨oki, cs, hl, hM, hc, _, _, _⟩ := Kd.S_elem h (z37) i h0 h1
  obtain ⟨v2, rfl, hR⟩ := k37_openM hM
  obtain ⟨A, c, rfl⟩ := Kd.R_slice hR
  exact ⟨A, c, hc 0 _ rfl, hc 1 _ rfl, hc 2 _ rfl, Kd.R_mono hR (fun _ _ => trivial)⟩
def cntC (p : Ct → Bool) (L : List Ct) : Int := ((L.filter p).length : Int)
theorem cntC_step (p : Ct → Bool) (L : List Ct) (i : Nat) (hi : i < L.length) : cntC p (L.take (i + 1)) = cntC p (L.take i) + (if p (rd_T37 L (i : Int)) = true then 1 else 0) := by
  have e : rd_T37 L (i : Int) = L[i] := by unfold rd_T37; rw [Int.toNat_natCast, List.getD_eq_getElem?_getD, List.getElem?_eq_getElem hi]; rfl
  unfold cntC
  rw [List.take_succ_eq_append_getElem hi, List.filter_append, e]
  by_cases c : p L[i] = true
  · rw [if_pos c]; simp [c]
  · rw [if_neg c]; simp [c]
theorem cntC_bd (p : Ct → Bool) (L : List Ct) : 0 ≤ cntC p L ∧ cntC p L ≤ L.length := by
  unfold cntC
  have := List.length_filter_le p L
  omega
set_option maxHeartbeats 4000000 in
theorem countOf_calls (a0 a1 : Int) (g : Nat) (lb : Array Value) (p : Ct → Bool) (L : List Ct) (ok : Bool) (w : World) (hA : impl_AllCuts.f a0 a1 = some (L, ok)) (hL : L.length ≤ 4294967296) (eg : ∀ args w, (callFunc g args).run Try.prog w = .ok (.enter g args) w)
    (hp : ∀ (W : World) (x : Ct) (A : Option Addr) (c : Nat), Below w.heap.size w W → x ∈ L → Kd.C k56 W A x.f2.length x.f2 → x.f2.length ≤ c → Calls Try.prog g (#[.agg #[.int .i64 x.f0, .int .i64 x.f1, .slice A x.f2.length c]] ++ lb) W fun e w' => e = .returned (.bool (p x)) ∧ Below W.heap.size W w') :
    Calls Try.prog 37 #[.int .i64 a0, .int .i64 a1, .func (.func g) #[] lb] w fun e w' => e = .returned (.tuple #[.int .i64 (cntC p L), .bool ok]) ∧ Below w.heap.size w w' := by
  have HA := Aside0.mk (fun V => impl_AllCuts.calls a0 a1 L ok V hA)
  have HP := Aside0.mk hp
  have HL := Aside0.mk hL
  have hu38 := Try.underlying37
  clear hA hp hL
  go_enter Try.func37, Try.ntmps37
  go_wp2_with (go_at_call 72; refine (HA.out _).mono ?_; rintro e w1 ⟨vL, rfl, ho, hb⟩; obtain ⟨A0, c0, e0⟩ := Kd.S_slice ho; subst e0; have HO := Aside0.mk ho; have HB := Aside0.mk hb; clear ho hb)
  go_loopg [10, 21] L.length (fun kq v10 v21 wc => ∃ (i : Nat) (xi m : Int), i ≤ L.length ∧ L.length - i ≤ kq ∧ (i : Int) = xi ∧ v21 = .int .i64 xi ∧ v10 = .int .i64 m ∧ Aside0 (m = cntC p (L.take i)) ∧ Aside0 (Kd.S k37 37 wc w.heap.size (fun _ => True) (.slice A0 L.length c0) L) ∧ Aside0 (Below w.heap.size w wc))
  case atStart => exact ⟨0, 0, 0, by omega, by omega, rfl, rfl, rfl, ⟨rfl⟩, HO, HB⟩
  case round =>
    clear HO HB
    obtain ⟨i, xi, m, hi, hk, hxi, rfl, rfl, HM, HO, HB⟩ := hrel
    by_cases hlt : i < L.length
    · obtain ⟨gg, cap, ev, _⟩ := Kd.S_form HO.out (by omega)
      obtain ⟨rfl, rfl⟩ : A0 = some ⟨gg, 0, none⟩ ∧ c0 = cap := by injection ev with e1 e2 e3; exact ⟨e1, e3⟩
      clear ev
      have b1 : decide (xi < (L.length : Int)) = true := decide_eq_true (by omega)
      obtain ⟨A1, c1, y0, y1, y2, hR1⟩ := cnt_at HO.out xi (by omega) (by omega)
      have hst := cntC_step p L i hlt
      rw [hxi] at hst
      have hmem : rd_T37 L xi ∈ L := by
        unfold rd_T37
        rw [← hxi, Int.toNat_natCast, List.getD_eq_getElem?_getD, List.getElem?_eq_getElem hlt]
        exact List.getElem_mem _
      generalize rd_T37 L xi = q at y0 y1 y2 hR1 hst hmem
      have HR1 := Aside0.mk hR1
      have hbd := cntC_bd p (L.take i)
      have htl : (L.take i).length ≤ i := List.length_take_le _ _
      have hm := HM.out
      have hl2 := HL.out
      have q1 := eq_true (show 0 ≤ xi by omega)
      have q2 := eq_true (show xi < (L.length : Int) by omega)
      have HCALL : Aside0 (∀ V, Below wr.heap.size wr V → Calls Try.prog g (#[.agg #[.int .i64 q.f0, .int .i64 q.f1, .slice A1 q.f2.length c1]] ++ lb) V fun e w' => e = .returned (.bool (p q)) ∧ Below V.heap.size V w') := ⟨fun V hV => HP.out V q A1 c1 (HB.out.trans (hV.mono HB.out.size)) hmem (Kd.R_reads' (Kd.R_below HR1.out hV)).2.2 (Kd.R_reads' HR1.out).2.1⟩
      obtain ⟨bq, hbq⟩ : ∃ b, p q = b := ⟨_, rfl⟩
      rw [hbq] at HCALL hst
      obtain ⟨z, hz⟩ : ∃ z : Int, (if bq = true then (1 : Int) else 0) = z := ⟨_, rfl⟩
      have HBIT := Aside0.mk (fun V => impl_bit.calls bq z V (by unfold impl_bit.f; rw [← hz]; cases bq <;> rfl))
      rw [hz] at hst
      have hzb : 0 ≤ z ∧ z ≤ 1 := by rw [← hz]; cases bq <;> simp
      obtain ⟨m2, hm2⟩ : ∃ m2, m + z = m2 := ⟨_, rfl⟩
      have EM : Aside0 (wrap64 (m + z) = m2) := ⟨by rw [w64 (by omega) (by omega)]; exact hm2⟩
      have EI : Aside0 (wrap64 (xi + 1) = ((i + 1 : Nat) : Int)) := ⟨by rw [w64 (by omega) (by omega)]; omega⟩
      have HMN : Aside0 (m2 = cntC p (L.take (i + 1))) := ⟨by rw [hst, ← hm2, hm]⟩
      have HI : Aside0 (i < L.length ∧ L.length - i ≤ gk) := ⟨hlt, hk⟩
      clear hi hk hxi hlt hR1 hst hmem hbd htl hm hl2 hzb hz hbq hm2
      go_wp2_with (first | (go_at_fn g; refine (HCALL.out _ (by first | exact below_alloc (Below.refl _ _) _ | exact Below.refl _ _)).mono ?_; rintro e w2 ⟨rfl, hb⟩; have HB2 := Aside0.mk hb; clear hb) | (go_at_call 73; refine (HBIT.out _).mono ?_; rintro e w3 ⟨rfl, hb⟩; have HB3 := Aside0.mk hb; clear hb))
      go_roundg (L.length - (i + 1))
      case measure => have := HI.out; omega
      case rel => exact ⟨i + 1, _, m2, by have := HI.out; omega, Nat.le_refl _, rfl, by first | rfl | rw [EI.out], by first | rfl | rw [EM.out], HMN, ⟨Kd.S_below HO.out (below_step (below_step (below_alloc (Below.refl _ _) _) HB2.out) HB3.out.below)⟩, ⟨HB.out.trans ((below_step (below_step (below_alloc (Below.refl _ _) _) HB2.out) HB3.out.below).mono HB.out.size)⟩⟩
    · have b1 : decide (xi < (L.length : Int)) = false := decide_eq_false (by omega)
      obtain rfl : i = L.length := by omega
      have hm := HM.out
      rw [List.take_length] at hm
      have HME := Aside0.mk hm
      clear hm
      go_wp2_with fail
      go_ret2
      exact ⟨by rw [← HME.out]; rfl, HB.out⟩
end Go.Proofs.Ytdfcljfajiihdaa.P

namespace Go.Proofs.Ytdfcljfajiihdaa.P
open Go.RowKit Go.Proofs.YtdfcljfajiihdaaW.PrintWords Go.Proofs.YtdfcljfajiihdaaW.PrintLast Go.Proofs.YtdfcljfajiihdaaW.PrintMore
attribute [local go_sem] max2_int min2_int max_two min_two max_three min_three max_four min_four
set_option linter.unusedVariables false
set_option linter.unusedSimpArgs false
open Go.Proofs.Ytdfcljfajiihdaa.T Go.Proofs.Ytdfcljfajiihdaa.Aid Go.Proofs.Ytdfcljfajiihdaa.Pure
set_option maxHeartbeats 2000000 in
theorem cross_clo (x : Ct) (A : Option Addr) (c : Nat) (W : World) (hs : smallL x.f2 = true) (hx : Kd.C k56 W A x.f2.length x.f2) (hc : x.f2.length ≤ c) :
    Calls Try.prog 38 #[.agg #[.int .i64 x.f0, .int .i64 x.f1, .slice A x.f2.length c]] W fun e w' => e = .returned (.bool (noXI x.f2)) ∧ Below W.heap.size W w' := by
  obtain ⟨k, hk⟩ := ev_at (crosses_ev x.f2 hs x.f0 x.f1)
  have hn : ((((x.f2.filter (isXI x.f2)).map rowX).length : Int) == 0) = noXI x.f2 := by unfold noXI; rw [List.length_map]
  generalize (x.f2.filter (isXI x.f2)).map rowX = xs at hk hn
  have HC := Aside0.mk (fun (V : World) (hV : Below W.heap.size W V) => impl_Cut_crosses.calls k x.f0 x.f1 A c x.f2 xs V (Kd.C_below hx hV) hc hk)
  have HN := Aside0.mk hn
  have hu29 := Try.underlying37
  clear hx hc hk hn hs
  go_enter Try.func38, Try.ntmps38
  go_wp2_with (go_at_call 39; refine (HC.out _ (below_alloc (Below.refl _ _) _)).mono ?_; rintro e w' ⟨v, rfl, ho, hb⟩; obtain ⟨A1, c1, e1⟩ := Kd.S_slice ho; subst e1; have HB := Aside0.mk (below_step (below_alloc (Below.refl W.heap.size W) _) hb); clear ho hb)
  go_ret
  exact ⟨by rw [← HN.out]; rfl, HB.out⟩
def impl_CountWithoutCross.f (a0 a1 : Int) : Option (Int × Bool) := (impl_AllCuts.f a0 a1).bind fun r => if r.1.all (fun c => smallL c.f2) = true ∧ r.1.length ≤ 4294967296 then some (cntC (fun c => noXI c.f2) r.1, r.2) else none
set_option maxHeartbeats 2000000 in
theorem impl_CountWithoutCross.calls (a0 a1 : Int) (r1 : Int) (r2 : Bool) (w : World) (h : impl_CountWithoutCross.f a0 a1 = some (r1, r2)) :
    Calls Try.prog 15 #[.int .i64 a0, .int .i64 a1] w fun e w' => e = .returned (.tuple #[.int .i64 r1, .bool r2]) ∧ Below w.heap.size w w' := by
  unfold impl_CountWithoutCross.f at h
  obtain ⟨⟨L, ok⟩, hL, h⟩ := Option.bind_eq_some_iff.mp h
  simp only at h
  by_cases c : L.all (fun c => smallL c.f2) = true ∧ L.length ≤ 4294967296
  · rw [if_pos c] at h
    obtain ⟨h1, rfl⟩ : cntC (fun c => noXI c.f2) L = r1 ∧ ok = r2 := by simpa using h
    have HC := Aside0.mk (fun V => countOf_calls a0 a1 38 #[] (fun c => noXI c.f2) L ok V hL c.2 (enters_of Try.func38 (by kernel_rfl) rfl) (fun W x A n _ hx hR hc => cross_clo x A n W (List.all_eq_true.1 c.1 x hx) hR hc))
    rw [h1] at HC
    clear h hL h1 c
    go_enter Try.func15, Try.ntmps15
    go_wp2_with (go_at_call 37; refine (HC.out _).mono ?_; rintro e w1 ⟨rfl, hb⟩; have HB := Aside0.mk hb; clear hb)
    go_ret2
    exact ⟨rfl, HB.out⟩
  · rw [if_neg c] at h; cases h
end Go.Proofs.Ytdfcljfajiihdaa.P

namespace Go.Proofs.Ytdfcljfajiihdaa.P
open Go.RowKit Go.Proofs.YtdfcljfajiihdaaW.PrintWords Go.Proofs.YtdfcljfajiihdaaW.PrintLast Go.Proofs.YtdfcljfajiihdaaW.PrintMore
attribute [local go_sem] max2_int min2_int max_two min_two max_three min_three max_four min_four
set_option linter.unusedVariables false
set_option linter.unusedSimpArgs false
def laws_FnExactCountWithoutCross.f (a0 : Int) (a1 : Int) : Option (Bool) := (spec_CountWithoutCross.f a0 a1).bind fun bt101 => ((impl_CountWithoutCross.f a0 a1).bind fun bt103 => (if bt103.1 = bt101.1 then (if (bt103.2 != bt101.2) = true then (some false) else (some true)) else (some false)))
set_option maxHeartbeats 8000000 in
set_option maxRecDepth 100000 in
theorem laws_FnExactCountWithoutCross.calls (a0 : Int) (a1 : Int) (r : Bool) (w : World) (h : laws_FnExactCountWithoutCross.f a0 a1 = some r) :
    Calls Try.prog 4 #[.int .i64 a0, .int .i64 a1] w fun e w' => e = .returned (.bool r) ∧ Below w.heap.size w w' := by
  have HB := Aside0.mk (Below.refl w.heap.size w)
  have H : ((spec_CountWithoutCross.f a0 a1).bind fun bt101 => ((impl_CountWithoutCross.f a0 a1).bind fun bt103 => (if bt103.1 = bt101.1 then (if (bt103.2 != bt101.2) = true then (some false) else (some true)) else (some false)))) = some r := h
  clear h
  replace H := Option.bind_eq_some_iff.mp H
  obtain ⟨⟨t101, t102⟩, A30, H⟩ := H
  replace H : ((impl_CountWithoutCross.f a0 a1).bind fun bt103 => (if bt103.1 = t101 then (if (bt103.2 != t102) = true then (some false) else (some true)) else (some false))) = some r := H
  have A3 := Aside0.mk A30
  clear A30
  replace H := Option.bind_eq_some_iff.mp H
  obtain ⟨⟨t103, t104⟩, A40, H⟩ := H
  replace H : (if t103 = t101 then (if (t104 != t102) = true then (some false) else (some true)) else (some false)) = some r := H
  have A4 := Aside0.mk A40
  clear A40
  by_cases c5 : t103 = t101
  · rw [if_pos c5] at H
    have c5b0 : (t103 == t101) = true := beq_iff_eq.mpr c5
    have c5b1 : (t103 != t101) = false := bne_eq_false_iff_eq.mpr c5
    clear c5
    by_cases c6 : (t104 != t102) = true
    · rw [if_pos c6] at H
      have c6b0 : (t104 != t102) = true := c6
      (try (have c6b1 : decide (t104 = t102) = false := by simpa using c6))
      (try (have c6b2 : (t104 == t102) = false := by simpa using c6))
      (try (have c6b3 : ¬ (t104 = t102) := by simpa using c6))
      clear c6
      obtain rfl := Option.some.inj H
      go_enter Try.func4, Try.ntmps4
      go_wp2_with (first | ((with_reducible refine gate_callee (f := 14) rfl ?_); refine goesL_ (some 12) rfl rfl Try.func14 (by kernel_rfl) rfl #[.int .i64 a0, .int .i64 a1] rfl (by (try simp only [List.map_toArray, List.map_cons, List.map_nil]); first | done | rfl | (simp only [List.length_drop, List.length_take]; rfl)) ?_; (with_reducible refine (spec_CountWithoutCross.calls a0 a1 t101 t102 _ A3.out).mono ?_); rintro e w7 ⟨rfl, hb⟩; refine ⟨_, rfl, ?_⟩; have n0_ := Aside0.mk (below_step (by repeat (first | (with_reducible first | exact HB.out | apply below_alloc | apply pw_below_drewN | apply below_drew1) | exact HB.out)) hb); clear HB; have HB := n0_; clear n0_; (try clear hb); (try clear hb2); (try clear hk); (try clear hi)) | ((with_reducible refine gate_callee (f := 15) rfl ?_); refine goesL_ (some 18) rfl rfl Try.func15 (by kernel_rfl) rfl #[.int .i64 a0, .int .i64 a1] rfl (by (try simp only [List.map_toArray, List.map_cons, List.map_nil]); first | done | rfl | (simp only [List.length_drop, List.length_take]; rfl)) ?_; (with_reducible refine (impl_CountWithoutCross.calls a0 a1 t103 t104 _ A4.out).mono ?_); rintro e w8 ⟨rfl, hb⟩; refine ⟨_, rfl, ?_⟩; have n0_ := Aside0.mk (below_step (by repeat (first | (with_reducible first | exact HB.out | apply below_alloc | apply pw_below_drewN | apply below_drew1) | exact HB.out)) hb); clear HB; have HB := n0_; clear n0_; (try clear hb); (try clear hb2); (try clear hk); (try clear hi)))
      go_ret
      exact ⟨by first | rfl | (simp [errW_none, errW_some] <;> rfl) | (simp [*, errW_none, errW_some] <;> rfl), by repeat (first | (with_reducible first | exact HB.out | apply below_alloc | apply pw_below_drewN | apply below_drew1) | exact HB.out)⟩
    · rw [if_neg c6] at H
      have c6b0 : (t104 != t102) = false := by simpa using c6
      (try (have c6b1 : decide (t104 = t102) = true := by simpa using c6))
      (try (have c6b2 : (t104 == t102) = true := by simpa using c6))
      clear c6
      obtain rfl := Option.some.inj H
      go_enter Try.func4, Try.ntmps4
      go_wp2_with (first | ((with_reducible refine gate_callee (f := 14) rfl ?_); refine goesL_ (some 12) rfl rfl Try.func14 (by kernel_rfl) rfl #[.int .i64 a0, .int .i64 a1] rfl (by (try simp only [List.map_toArray, List.map_cons, List.map_nil]); first | done | rfl | (simp only [List.length_drop, List.length_take]; rfl)) ?_; (with_reducible refine (spec_CountWithoutCross.calls a0 a1 t101 t102 _ A3.out).mono ?_); rintro e w9 ⟨rfl, hb⟩; refine ⟨_, rfl, ?_⟩; have n0_ := Aside0.mk (below_step (by repeat (first | (with_reducible first | exact HB.out | apply below_alloc | apply pw_below_drewN | apply below_drew1) | exact HB.out)) hb); clear HB; have HB := n0_; clear n0_; (try clear hb); (try clear hb2); (try clear hk); (try clear hi)) | ((with_reducible refine gate_callee (f := 15) rfl ?_); refine goesL_ (some 18) rfl rfl Try.func15 (by kernel_rfl) rfl #[.int .i64 a0, .int .i64 a1] rfl (by (try simp only [List.map_toArray, List.map_cons, List.map_nil]); first | done | rfl | (simp only [List.length_drop, List.length_take]; rfl)) ?_; (with_reducible refine (impl_CountWithoutCross.calls a0 a1 t103 t104 _ A4.out).mono ?_); rintro e w10 ⟨rfl, hb⟩; refine ⟨_, rfl, ?_⟩; have n0_ := Aside0.mk (below_step (by repeat (first | (with_reducible first | exact HB.out | apply below_alloc | apply pw_below_drewN | apply below_drew1) | exact HB.out)) hb); clear HB; have HB := n0_; clear n0_; (try clear hb); (try clear hb2); (try clear hk); (try clear hi)))
      go_ret
      exact ⟨by first | rfl | (simp [errW_none, errW_some] <;> rfl) | (simp [*, errW_none, errW_some] <;> rfl), by repeat (first | (with_reducible first | exact HB.out | apply below_alloc | apply pw_below_drewN | apply below_drew1) | exact HB.out)⟩
  · rw [if_neg c5] at H
    have c5b0 : (t103 == t101) = false := beq_eq_false_iff_ne.mpr c5
    have c5b1 : (t103 != t101) = true := bne_iff_ne.mpr c5
    obtain rfl := Option.some.inj H
    go_enter Try.func4, Try.ntmps4
    go_wp2_with (first | ((with_reducible refine gate_callee (f := 14) rfl ?_); refine goesL_ (some 12) rfl rfl Try.func14 (by kernel_rfl) rfl #[.int .i64 a0, .int .i64 a1] rfl (by (try simp only [List.map_toArray, List.map_cons, List.map_nil]); first | done | rfl | (simp only [List.length_drop, List.length_take]; rfl)) ?_; (with_reducible refine (spec_CountWithoutCross.calls a0 a1 t101 t102 _ A3.out).mono ?_); rintro e w11 ⟨rfl, hb⟩; refine ⟨_, rfl, ?_⟩; have n0_ := Aside0.mk (below_step (by repeat (first | (with_reducible first | exact HB.out | apply below_alloc | apply pw_below_drewN | apply below_drew1) | exact HB.out)) hb); clear HB; have HB := n0_; clear n0_; (try clear hb); (try clear hb2); (try clear hk); (try clear hi)) | ((with_reducible refine gate_callee (f := 15) rfl ?_); refine goesL_ (some 18) rfl rfl Try.func15 (by kernel_rfl) rfl #[.int .i64 a0, .int .i64 a1] rfl (by (try simp only [List.map_toArray, List.map_cons, List.map_nil]); first | done | rfl | (simp only [List.length_drop, List.length_take]; rfl)) ?_; (with_reducible refine (impl_CountWithoutCross.calls a0 a1 t103 t104 _ A4.out).mono ?_); rintro e w12 ⟨rfl, hb⟩; refine ⟨_, rfl, ?_⟩; have n0_ := Aside0.mk (below_step (by repeat (first | (with_reducible first | exact HB.out | apply below_alloc | apply pw_below_drewN | apply below_drew1) | exact HB.out)) hb); clear HB; have HB := n0_; clear n0_; (try clear hb); (try clear hb2); (try clear hk); (try clear hi)))
    go_ret
    exact ⟨by first | rfl | (simp [errW_none, errW_some] <;> rfl) | (simp [*, errW_none, errW_some] <;> rfl), by repeat (first | (with_reducible first | exact HB.out | apply below_alloc | apply pw_below_drewN | apply below_drew1) | exact HB.out)⟩
def laws_FnExactCountWithoutCross.Pure : Prop := ∀ (a0 : Int) (a1 : Int), (Lit.int .i64 a0).wf = true → (Lit.int .i64 a1).wf = true → laws_FnExactCountWithoutCross.f a0 a1 = some true
theorem laws_FnExactCountWithoutCross.walk (P : laws_FnExactCountWithoutCross.Pure) (a0 : Int) (a1 : Int) (w : World) (w0 : (Lit.int .i64 a0).wf = true) (w1 : (Lit.int .i64 a1).wf = true) :
    Calls Try.prog 4 #[.int .i64 a0, .int .i64 a1] w fun e w' => e = .returned (.bool true) ∧ Below w.heap.size w w' := by
  have h := P a0 a1 w0 w1
  refine (laws_FnExactCountWithoutCross.calls a0 a1 true w h).mono ?_
  rintro e w' ⟨rfl, hd⟩
  exact ⟨rfl, hd⟩
end Go.Proofs.Ytdfcljfajiihdaa.P

namespace Go.Proofs.Ytdfcljfajiihdaa.P
open Go.RowKit Go.Proofs.YtdfcljfajiihdaaW.PrintWords Go.Proofs.YtdfcljfajiihdaaW.PrintLast Go.Proofs.YtdfcljfajiihdaaW.PrintMore
attribute [local go_sem] max2_int min2_int max_two min_two max_three min_three max_four min_four
set_option linter.unusedVariables false
set_option linter.unusedSimpArgs false
end Go.Proofs.Ytdfcljfajiihdaa.P

namespace Go.Proofs.Ytdfcljfajiihdaa.P
open Go.RowKit Go.Proofs.YtdfcljfajiihdaaW.PrintWords Go.Proofs.YtdfcljfajiihdaaW.PrintLast Go.Proofs.YtdfcljfajiihdaaW.PrintMore
attribute [local go_sem] max2_int min2_int max_two min_two max_three min_three max_four min_four
set_option linter.unusedVariables false
set_option linter.unusedSimpArgs false
end Go.Proofs.Ytdfcljfajiihdaa.P

namespace Go.Proofs.Ytdfcljfajiihdaa.P
open Go.RowKit Go.Proofs.YtdfcljfajiihdaaW.PrintWords Go.Proofs.YtdfcljfajiihdaaW.PrintLast Go.Proofs.YtdfcljfajiihdaaW.PrintMore
attribute [local go_sem] max2_int min2_int max_two min_two max_three min_three max_four min_four
set_option linter.unusedVariables false
set_option linter.unusedSimpArgs false
end Go.Proofs.Ytdfcljfajiihdaa.P

namespace Go.Proofs.Ytdfcljfajiihdaa.Pure
set_option linter.unusedVariables false
set_option linter.unusedSimpArgs false
open Go.RowKit Go.Proofs.Ytdfcljfajiihdaa.P Go.Proofs.YtdfcljfajiihdaaW.PrintWords Go.Proofs.YtdfcljfajiihdaaW.PrintLast Go.Proofs.Ytdfcljfajiihdaa.Aid
theorem l1In_f (n lo hi : Int) : spec_l1In.f n lo hi = some (inR n lo hi) := by
  unfold spec_l1In.f inR; by_cases c : lo ≤ n <;> simp [c]
theorem within_f (n lo hi : Int) : impl_within.f n lo hi = some (inR n lo hi) := by
  unfold impl_within.f inR; by_cases c : lo ≤ n <;> simp [c]
end Go.Proofs.Ytdfcljfajiihdaa.Pure

namespace Go.Proofs.Ytdfcljfajiihdaa.Pure
set_option linter.unusedVariables false
set_option linter.unusedSimpArgs false
open Go.RowKit Go.Proofs.Ytdfcljfajiihdaa.P Go.Proofs.YtdfcljfajiihdaaW.PrintWords Go.Proofs.YtdfcljfajiihdaaW.PrintLast Go.Proofs.YtdfcljfajiihdaaW.PrintMore Go.Proofs.Ytdfcljfajiihdaa.Aid Go.Proofs.Ytdfcljfajiihdaa.T
def listOk (a b : Int) : Bool := inR a 1 6 && (inR b 1 6 && decide (a * b ≤ 16))
theorem mul66 {a b : Int} (h1 : inR a 1 6 = true) (h2 : inR b 1 6 = true) : 0 ≤ a * b ∧ a * b ≤ 36 := by
  have h1 := inR_iff.1 h1
  have h2 := inR_iff.1 h2
  refine ⟨Int.mul_nonneg (by omega) (by omega), ?_⟩
  have e1 : a * b ≤ 6 * b := Int.mul_le_mul_of_nonneg_right h1.2 (by omega)
  omega
theorem listOk_rng {a b : Int} (h : listOk a b = true) : (1 ≤ a ∧ a ≤ 6) ∧ (1 ≤ b ∧ b ≤ 6) ∧ a * b ≤ 16 := by
  unfold listOk at h
  rw [Bool.and_eq_true, Bool.and_eq_true, inR_iff, inR_iff, decide_eq_true_eq] at h
  exact h
theorem listOk_w (a b : Int) : (if inR a 1 6 = true then (if inR b 1 6 = true then some (decide (wrap64 (a * b) ≤ 16)) else some false) else some false) = some (listOk a b) := by
  unfold listOk
  cases h1 : inR a 1 6 with
  | false => simp
  | true =>
    cases h2 : inR b 1 6 with
    | false => simp
    | true =>
      have := mul66 h1 h2
      rw [w64 (by omega) (by omega)]
      simp
theorem isListed_f (a b : Int) : impl_isListed.f a b = some (listOk a b) := by
  rw [← listOk_w]
  unfold impl_isListed.f impl_isCounted.f
  simp only [within_f, Option.bind_some]
  cases inR a 1 6 <;> simp
theorem ctFew_f (a b : Int) : spec_ctFew.f a b = some (listOk a b) := by
  rw [← listOk_w]
  unfold spec_ctFew.f spec_ctSize.f
  simp only [l1In_f, Option.bind_some]
  cases inR a 1 6 <;> simp
def allC (a b : Int) : List Ct := (tilings a.toNat b).map (fun t => (⟨a, b, t⟩ : Ct))
theorem allC_len {a b : Int} (h : listOk a b = true) : (allC a b).length ≤ 4294967296 := by
  obtain ⟨h1, h2, h3⟩ := listOk_rng h
  unfold allC
  rw [List.length_map]
  exact list_count a.toNat b (by omega) (by omega) (by rw [Int.toNat_of_nonneg (by omega)]; exact h3)
theorem allC_mem {a b : Int} (h : listOk a b = true) {c : Ct} (hc : c ∈ allC a b) : c.f0 = a ∧ c.f1 = b ∧ c.f2.length ≤ 16 ∧ c.f2 ∈ tilings a.toNat b := by
  obtain ⟨h1, h2, h3⟩ := listOk_rng h
  obtain ⟨t, ht, rfl⟩ := List.mem_map.1 hc
  have hl := (til_len a.toNat b (by omega) (by omega) t ht).2
  rw [Int.toNat_of_nonneg (by omega)] at hl
  exact ⟨rfl, rfl, by simp only; omega, ht⟩
theorem ctAll_f {a b : Int} (h : listOk a b = true) : spec_ctAll.f a b = some (allC a b) := by
  obtain ⟨h1, h2, h3⟩ := listOk_rng h
  unfold spec_ctAll.f allC
  rw [if_pos ⟨by omega, by omega, h3⟩]
theorem allCuts_f {a b : Int} (h : listOk a b = true) : impl_allCuts.f a b = some (allC a b) := by
  obtain ⟨h1, h2, h3⟩ := listOk_rng h
  unfold impl_allCuts.f allC
  rw [if_pos ⟨by omega, by omega, h3⟩]
def allV (a b : Int) : List Ct × Bool := if listOk a b = true then (allC a b, true) else ([], false)
theorem implAll_f (a b : Int) : impl_AllCuts.f a b = some (allV a b) := by
  unfold impl_AllCuts.f allV
  rw [isListed_f, Option.bind_some]
  by_cases h : listOk a b = true
  · rw [if_pos h, if_pos h, allCuts_f h]; rfl
  · rw [if_neg h, if_neg h]
end Go.Proofs.Ytdfcljfajiihdaa.Pure

namespace Go.Proofs.Ytdfcljfajiihdaa.Pure
set_option linter.unusedVariables false
set_option linter.unusedSimpArgs false
open Go.RowKit Go.Proofs.Ytdfcljfajiihdaa.P Go.Proofs.YtdfcljfajiihdaaW.PrintWords Go.Proofs.YtdfcljfajiihdaaW.PrintLast Go.Proofs.YtdfcljfajiihdaaW.PrintMore Go.Proofs.Ytdfcljfajiihdaa.Aid Go.Proofs.Ytdfcljfajiihdaa.T
theorem allC_small {a b : Int} (h : listOk a b = true) {c : Ct} (hc : c ∈ allC a b) : smallL c.f2 = true ∧ c.f2.Pairwise Apart ∧ ∀ q ∈ c.f2, smallQ q = true := by
  obtain ⟨h1, h2, h3⟩ := listOk_rng h
  obtain ⟨-, -, hl, ht⟩ := allC_mem h hc
  have hT := (tilL_iff a b (by omega) (by omega) c.f2).1 ht
  have hs : ∀ q ∈ c.f2, smallQ q = true := fun q hq => by
    have hb := hT.fill.box q hq
    unfold inBox at hb
    exact smallQ_iff.2 (by omega)
  refine ⟨?_, hT.fill.apart, hs⟩
  simp only [smallL, Bool.and_eq_true, decide_eq_true_eq, List.all_eq_true]
  exact ⟨by omega, hs⟩
theorem noCross_both (a b : Int) : ∃ r : Int × Bool, spec_CountWithoutCross.f a b = some r ∧ impl_CountWithoutCross.f a b = some r := by
  unfold spec_CountWithoutCross.f impl_CountWithoutCross.f
  rw [ctFew_f, implAll_f, Option.bind_some, Option.bind_some]
  unfold allV
  by_cases h : listOk a b = true
  · rw [if_pos h, if_pos h, ctAll_f h, Option.bind_some]
    have hc : (allC a b).all (fun c => smallL c.f2) = true ∧ (allC a b).length ≤ 4294967296 := ⟨List.all_eq_true.2 (fun c hc => (allC_small h hc).1), allC_len h⟩
    rw [if_pos hc, if_pos hc]
    refine ⟨_, rfl, ?_⟩
    have e : (allC a b).filter (fun c => noXI c.f2) = (allC a b).filter (fun c => noXS c.f2) := List.filter_congr (fun c hc => by
      obtain ⟨-, k1, k2⟩ := allC_small h hc
      exact noX_eq c.f2 k1 k2)
    unfold cntC cntX
    rw [e]
  · rw [if_neg h, if_neg h]
    exact ⟨(0, false), rfl, rfl⟩
theorem FnExactCountWithoutCross : laws_FnExactCountWithoutCross.Pure := by
  intro a b _ _
  obtain ⟨⟨r1, r2⟩, h1, h2⟩ := noCross_both a b
  unfold laws_FnExactCountWithoutCross.f
  rw [h1, Option.bind_some, h2, Option.bind_some, if_pos rfl, if_neg (by simp)]
end Go.Proofs.Ytdfcljfajiihdaa.Pure
