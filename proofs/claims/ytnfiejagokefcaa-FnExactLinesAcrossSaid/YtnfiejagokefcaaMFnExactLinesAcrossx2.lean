import Derived.Test.YtnfiejagokefcaaMFnExactLinesAcrossx0
import Derived.Test.YtnfiejagokefcaaMFnExactLinesAcrossx1
import Derived.Shelf.SlSortCmp.WholeK
import Derived.WalkKit
import Derived.Shelf.SlGeneric
import Derived.Ground.SlsfProg
import Derived.Test.YtnfiejagokefcaaProg
import Derived.Shelf.Abstract
import Derived.Deep.RegionLaw
namespace Go.Proofs.Ytnfiejagokefcaa.P
set_option linter.unusedVariables false
set_option linter.unusedSimpArgs false
open Go.RowKit Go.Proofs.YtnfiejagokefcaaW.PrintWords Go.Proofs.YtnfiejagokefcaaW.PrintLast Go.Proofs.Ytnfiejagokefcaa.Wm Go.Proofs.Ytnfiejagokefcaa.T Go.Proofs.Ytnfiejagokefcaa.Aid Go.Proofs.Ytnfiejagokefcaa.Sk Go.Sort
def okQ (q : Sq) : Bool := decide (-100000000000000000 ≤ q.f0) && decide (q.f0 ≤ 100000000000000000) && decide (-100000000000000000 ≤ q.f1) && decide (q.f1 ≤ 100000000000000000)
theorem okQ_iff {q : Sq} : okQ q = true ↔ ((-100000000000000000 ≤ q.f0 ∧ q.f0 ≤ 100000000000000000) ∧ -100000000000000000 ≤ q.f1) ∧ q.f1 ≤ 100000000000000000 := by
  simp [okQ, and_assoc]
abbrev BSq := { q : Sq // okQ q = true }
instance : Inhabited BSq := ⟨⟨⟨0, 0, 0⟩, by decide⟩⟩
def cfB (x y : BSq) : Int := cmpP x.1 y.1
theorem ltC_b (x y : BSq) : ltC cfB x y = ltb x.1 y.1 := by
  have hx := okQ_iff.1 x.2
  have hy := okQ_iff.1 y.2
  unfold ltC cfB cmpP ltb
  by_cases c : x.1.f1 = y.1.f1
  · rw [if_pos c, w64 (by omega) (by omega), decide_eq_false (show ¬ x.1.f1 < y.1.f1 by omega), decide_eq_true c, Bool.false_or, Bool.true_and]
    exact decide_eq_decide.2 (by omega)
  · rw [if_neg c, w64 (by omega) (by omega), decide_eq_false c, Bool.false_and, Bool.or_false]
    exact decide_eq_decide.2 (by omega)
theorem swo_b : SWO (ltC cfB) where
  irrefl := fun x => by rw [ltC_b, ltb_not]; unfold Lt; omega
  trans := fun x y z h k => by rw [ltC_b, ltb_iff] at *; unfold Lt at *; omega
  ntrans := fun x y z h k => by rw [ltC_b] at *; exact ltb_ntrans _ _ _ h k
theorem lift_b (l : List Sq) (h : ∀ q ∈ l, okQ q = true) : ∃ L : List BSq, L.map (·.1) = l := ⟨l.attach.map (fun x => ⟨x.1, h x.1 x.2⟩), by simp⟩
theorem sorted_list {d d' : Array BSq} (hp : PermIn 0 d.size d d') (hs : SortedIn (ltC cfB) 0 d.size d') : (d'.toList.map (·.1)).Perm (d.toList.map (·.1)) ∧ Up ltb (d'.toList.map (·.1)) := by
  refine ⟨List.Perm.map _ ?_, ?_⟩
  · have h := hp.2.2
    rw [← hp.1] at h
    rw [Array.extract_size] at h
    rw [hp.1, Array.extract_size] at h
    exact h
  · unfold Up
    rw [List.pairwise_map, List.pairwise_iff_getElem]
    intro i j hi hj hij
    have h := hs i j (Nat.zero_le _) hij (by rw [← hp.1]; simpa using hj)
    rw [ltC_b] at h
    have e1 : d'[i]! = d'.toList[i] := by simp at hi; simp [hi]
    have e2 : d'[j]! = d'.toList[j] := by simp at hj; simp [hj]
    rw [e1, e2] at h
    exact h
end Go.Proofs.Ytnfiejagokefcaa.P

namespace Go.Proofs.Ytnfiejagokefcaa.Sk
set_option linter.unusedVariables false
set_option linter.unusedSimpArgs false
set_option linter.unusedSectionVars false
open Go Go.RowKit Go.Sort Go.Proofs Go.Proofs.Ytnfiejagokefcaa.P Go.Proofs.Ytnfiejagokefcaa.T Go.Proofs.YtnfiejagokefcaaW.PrintWords Go.Proofs.YtnfiejagokefcaaW.PrintLast Go.Proofs.Ytnfiejagokefcaa.Wm
variable {α : Type} [Inhabited α] {val : α → Sq} {base g cap : Nat} {w0 W W1 : World} {d : Array α}
theorem SB.holds (h : SB val base w0 g cap d W) : HoldsK (fun x => encQ (val x)) 3 W g 0 d := by
  intro t ht
  rw [size_flatK] at ht
  rw [get_flatK _ _ _ _ ht]
  obtain ⟨⟨c0, c1, c2⟩, f0, f1, f2⟩ := h.cells (i := t / 3) (by omega)
  rcases (by omega : t % 3 = 0 ∨ t % 3 = 1 ∨ t % 3 = 2) with e | e | e
  · rw [show 0 + t = t / 3 * 3 from by omega, e]; exact ⟨c0, f0⟩
  · rw [show 0 + t = t / 3 * 3 + 1 from by omega, e]; exact ⟨c1, f1⟩
  · rw [show 0 + t = t / 3 * 3 + 2 from by omega, e]; exact ⟨c2, f2⟩
theorem sw_heap (W : World) (g n : Nat) (F : Array Value) (os : Array Obj) (cur : Array Value) (t : TypeId) (h : W.heap[g]? = some (.cells cur t (0, 0))) :
    (grow (putRow id (Sort.ahead W n) g 0 F) os).heap[g]? = some (.cells (putCells id 0 F cur) t (0, 0)) := by
  have hlt : g < W.heap.size := (Array.getElem?_eq_some_iff.1 h).1
  show ((W.heap.modify g (onCells (putCells id 0 F))) ++ os)[g]? = _
  rw [Array.getElem?_append_left (by simpa using hlt), Array.getElem?_modify, if_pos rfl, h]
  rfl
theorem sw_other (W : World) (g n : Nat) (F : Array Value) (os : Array Obj) (k : Nat) (hk : k < W.heap.size) (hne : k ≠ g) : (grow (putRow id (Sort.ahead W n) g 0 F) os).heap[k]? = W.heap[k]? := by
  show ((W.heap.modify g (onCells (putCells id 0 F))) ++ os)[k]? = _
  rw [Array.getElem?_append_left (by simpa using hk), Array.getElem?_modify, if_neg (Ne.symm hne)]
theorem sw_size (W : World) (g n : Nat) (F : Array Value) (os : Array Obj) : W.heap.size ≤ (grow (putRow id (Sort.ahead W n) g 0 F) os).heap.size := by
  show _ ≤ ((W.heap.modify g (onCells (putCells id 0 F))) ++ os).size
  simp
theorem SB.sorted (h : SB val base w0 g cap d W) {d' : Array α} (hs : d'.size = d.size) (n : Nat) (os : Array Obj) : SB val base w0 g cap d' (sortWorldK (fun x => encQ (val x)) 3 W g 0 n d' os) := by
  have hge := h.ge
  have hlt := h.lt
  have hH := holdsK_sortWorldK_c (fun x => encQ (val x)) 3 W g 0 d d' n os h.holds hlt hs
  obtain ⟨h0, inner, ⟨hn, hor⟩, hreps⟩ := h.row
  rcases hor with ⟨hv, _⟩ | ⟨g', cap', cur, hv, hb, hcur, hnc, hcm, hsz, htk⟩
  · cases hv
  · injection hv with e1 e2 e3
    injection e1 with e1
    injection e1 with e1
    subst e1 e3
    have hcur' := sw_heap W g n (flatK (fun x => encQ (val x)) 3 d') os cur _ hcur
    have hsz3 : cur.size = cap * 3 := hsz
    have hsz' : (putCells id 0 (flatK (fun x => encQ (val x)) 3 d') cur).size = cap * 3 := by rw [← hsz3]; simp [putCells]
    have hlen : ((putCells id 0 (flatK (fun x => encQ (val x)) 3 d') cur).toList.take ((List.map val d'.toList).length * 3)).length = (List.map val d'.toList).length * 3 := by
      have h1 : d.size ≤ cap := by simpa using hnc
      have h2 := Nat.mul_le_mul_right 3 (show d'.size ≤ cap by omega)
      have h3 : (List.map val d'.toList).length = d'.size := by rw [List.length_map, Array.length_toList]
      rw [h3, List.length_take, show (putCells id 0 (flatK (fun x => encQ (val x)) 3 d') cur).toList.length = cap * 3 from by rw [← hsz', Array.length_toList]]
      exact Nat.min_eq_left h2
    refine ⟨⟨h0, _, ⟨?_, .inr ⟨g, cap, _, by rw [List.length_map, Array.length_toList], hb, hcur', ?_, hcm, hsz', rfl⟩⟩, ?_, ?_⟩, ?_, ?_⟩
    · exact hlen
    · rw [List.length_map, Array.length_toList]; simpa [hs] using hnc
    · exact hlen
    · intro j p hj
      have hjl : j < d'.size := by have := (List.getElem?_eq_some_iff.1 hj).1; simpa using this
      have hp : p = val d'[j]! := by
        rw [List.getElem?_map] at hj
        obtain ⟨x, hx, rfl⟩ := Option.map_eq_some_iff.1 hj
        rw [Array.getElem?_toList] at hx
        rw [getElem!_pos d' j hjl, (Array.getElem?_eq_some_iff.1 hx).2]
      subst hp
      have hc : ∀ c, c < 3 → (putCells id 0 (flatK (fun x => encQ (val x)) 3 d') cur)[j * 3 + c]? = some (encQ (val d'[j]!))[c]! := fun c hc => by
        have := (hH.cell hjl hc).1
        rw [show 0 + j * 3 + c = j * 3 + c from by omega] at this
        rw [← this]
        exact (blk_cell hcur' _).symm
      have h3 : j * 3 + 3 ≤ d'.size * 3 := by have := Nat.mul_le_mul_right 3 (show j + 1 ≤ d'.size from hjl); rwa [Nat.add_mul, Nat.one_mul] at this
      have hl : ((List.drop (j * 3) ((putCells id 0 (flatK (fun x => encQ (val x)) 3 d') cur).toList.take (List.length (List.map val d'.toList) * 3))).take 3) = [.int .i64 (val d'[j]!).f0, .int .i64 (val d'[j]!).f1, .int .i64 (val d'[j]!).f2] := by
        refine List.ext_getElem? (fun i => ?_)
        by_cases hi : i < 3
        · rw [List.getElem?_take, if_pos hi, List.getElem?_drop, List.getElem?_take, if_pos (by simp; omega), Array.getElem?_toList, hc i hi]
          rcases (by omega : i = 0 ∨ i = 1 ∨ i = 2) with rfl | rfl | rfl <;> rfl
        · rw [List.getElem?_take, if_neg hi, List.getElem?_eq_none (by simp; omega)]
      exact hl ▸ k61_mkM _ _ _ _
    · exact ⟨Nat.le_trans h.kept.1 (sw_size _ _ _ _ _), fun i hi hne => (sw_other W g n _ os i (Nat.lt_of_lt_of_le hi h.kept.1) hne).trans (h.kept.2 i hi hne)⟩
    · exact h.be.trans ⟨rfl, rfl, rfl, sw_size _ _ _ _ _, fun k hk => sw_other W g n _ os k (by omega) (by omega)⟩
end Go.Proofs.Ytnfiejagokefcaa.Sk

namespace Go.Proofs
open Go.Shelf
def Try.sortSq_ren : Go.Shelf.Ren := ⟨fun | 6 => 75 | 15 => 81 | 14 => 80 | 28 => 91 | 29 => 92 | 20 => 83 | 21 => 84 | 22 => 85 | 23 => 86 | 24 => 87 | 25 => 88 | 26 => 89 | 27 => 90 | 46 => 94 | 47 => 95 | 48 => 96 | 49 => 97 | 50 => 98 | 57 => 100 | n => n, fun | 22 => 29 | 24 => 61 | 25 => 66 | 3 => 3 | 39 => 86 | 0 => 0 | 53 => 97 | 55 => 99 | 4 => 4 | 46 => 90 | 45 => 89 | 50 => 94 | 5 => 5 | 9 => 9 | 66 => 100 | 70 => 104 | 76 => 106 | 77 => 107 | n => n, fun | n => n⟩
theorem Try.sortSq : Go.Proofs.SlLaysF0.n6 Try.prog Try.sortSq_ren := {
  mixed := by kernel_rfl
  f6 := ⟨Try.f75.name, by decide, Try.func75.trans (congrArg some (by kernel_rfl))⟩
  f14 := ⟨Try.f80.name, by decide, Try.func80.trans (congrArg some (by kernel_rfl))⟩
  f15 := Try.func81.trans (congrArg some (by kernel_rfl))
  f20 := ⟨Try.f83.name, by decide, Try.func83.trans (congrArg some (by kernel_rfl))⟩
  f21 := ⟨Try.f84.name, by decide, Try.func84.trans (congrArg some (by kernel_rfl))⟩
  f22 := ⟨Try.f85.name, by decide, Try.func85.trans (congrArg some (by kernel_rfl))⟩
  f23 := ⟨Try.f86.name, by decide, Try.func86.trans (congrArg some (by kernel_rfl))⟩
  f24 := ⟨Try.f87.name, by decide, Try.func87.trans (congrArg some (by kernel_rfl))⟩
  f25 := ⟨Try.f88.name, by decide, Try.func88.trans (congrArg some (by kernel_rfl))⟩
  f26 := ⟨Try.f89.name, by decide, Try.func89.trans (congrArg some (by kernel_rfl))⟩
  f27 := ⟨Try.f90.name, by decide, Try.func90.trans (congrArg some (by kernel_rfl))⟩
  f28 := Try.func91.trans (congrArg some (by kernel_rfl))
  f29 := Try.func92.trans (congrArg some (by kernel_rfl))
  f46 := ⟨Try.f94.name, by decide, Try.func94.trans (congrArg some (by kernel_rfl))⟩
  f47 := Try.func95.trans (congrArg some (by kernel_rfl))
  f48 := Try.func96.trans (congrArg some (by kernel_rfl))
  f49 := ⟨Try.f97.name, by decide, Try.func97.trans (congrArg some (by kernel_rfl))⟩
  f50 := ⟨Try.f98.name, by decide, Try.func98.trans (congrArg some (by kernel_rfl))⟩
  f57 := ⟨Try.f100.name, by decide, Try.func100.trans (congrArg some (by kernel_rfl))⟩
  t0 := Try.underlying0
  a0 := Try.isAgg0
  z0 := Try.sizeOf0
  v0 := Try.zeroValue0
  t3 := Try.underlying3
  a3 := Try.isAgg3
  z3 := Try.sizeOf3
  v3 := Try.zeroValue3
  t4 := Try.underlying4
  a4 := Try.isAgg4
  z4 := Try.sizeOf4
  v4 := Try.zeroValue4
  t5 := Try.underlying5
  a5 := Try.isAgg5
  z5 := Try.sizeOf5
  v5 := Try.zeroValue5
  t9 := Try.underlying9
  a9 := Try.isAgg9
  z9 := Try.sizeOf9
  v9 := Try.zeroValue9
  t22 := Try.underlying29
  a22 := Try.isAgg29
  z22 := Try.sizeOf29
  v22 := Try.zeroValue29
  t25 := Try.underlying66
  a25 := Try.isAgg66
  z25 := Try.sizeOf66
  v25 := Try.zeroValue66
  t39 := Try.underlying86
  a39 := Try.isAgg86
  z39 := Try.sizeOf86
  v39 := Try.zeroValue86
  t45 := Try.underlying89
  a45 := Try.isAgg89
  z45 := Try.sizeOf89
  v45 := Try.zeroValue89
  t46 := Try.underlying90
  a46 := Try.isAgg90
  z46 := Try.sizeOf90
  v46 := Try.zeroValue90
  t50 := Try.underlying94
  a50 := Try.isAgg94
  z50 := Try.sizeOf94
  v50 := Try.zeroValue94
  t53 := Try.underlying97
  a53 := Try.isAgg97
  z53 := Try.sizeOf97
  v53 := Try.zeroValue97
  t55 := Try.underlying99
  a55 := Try.isAgg99
  z55 := Try.sizeOf99
  v55 := Try.zeroValue99
  t66 := Try.underlying100
  a66 := Try.isAgg100
  z66 := Try.sizeOf100
  v66 := Try.zeroValue100
  t70 := Try.underlying104
  a70 := Try.isAgg104
  z70 := Try.sizeOf104
  v70 := Try.zeroValue104
  t76 := Try.underlying106
  a76 := Try.isAgg106
  z76 := Try.sizeOf106
  v76 := Try.zeroValue106
  t77 := Try.underlying107
  a77 := Try.isAgg107
  z77 := Try.sizeOf107
  v77 := Try.zeroValue107 }
end Go.Proofs

namespace Go.Proofs.Ytnfiejagokefcaa.P
open Go.RowKit Go.Proofs.YtnfiejagokefcaaW.PrintWords Go.Proofs.YtnfiejagokefcaaW.PrintLast Go.Proofs.Ytnfiejagokefcaa.Wm
attribute [local go_sem] max2_int min2_int max_two min_two
set_option linter.unusedVariables false
set_option linter.unusedSimpArgs false
open Go.Proofs.Ytnfiejagokefcaa.T Go.Proofs.Ytnfiejagokefcaa.Aid Go.Proofs.Ytnfiejagokefcaa.Sk Go.Sort Go.Shelf Go.Lib
theorem cp_grow (x y : Sq) (W : World) : Calls Try.prog 53 #[.agg #[.int .i64 x.f0, .int .i64 x.f1, .int .i64 x.f2], .agg #[.int .i64 y.f0, .int .i64 y.f1, .int .i64 y.f2]] W fun e w' => e = .returned (.int .i64 (cmpP x y)) ∧ ∃ q os', w' = grow (W.drewN q) os' := by
  have hu := Try.underlying61
  by_cases c : x.f1 = y.f1
  · have hz : cmpP x y = wrap64 (x.f0 - y.f0) := by unfold cmpP; rw [if_pos c]
    rw [hz]
    have c1 : (x.f1 == y.f1) = true := beq_iff_eq.mpr c
    have c2 : (x.f1 != y.f1) = false := bne_eq_false_iff_eq.mpr c
    clear c hz
    go_enter Try.func53, Try.ntmps53
    go_wp2_with fail
    go_ret
    exact ⟨rfl, 0, _, by rw [alloc_eq_grow, alloc_eq_grow, grow_grow]; rfl⟩
  · have hz : cmpP x y = wrap64 (x.f1 - y.f1) := by unfold cmpP; rw [if_neg c]
    rw [hz]
    have c1 : (x.f1 == y.f1) = false := beq_eq_false_iff_ne.mpr c
    have c2 : (x.f1 != y.f1) = true := bne_iff_ne.mpr c
    clear c hz
    go_enter Try.func53, Try.ntmps53
    go_wp2_with fail
    go_ret
    exact ⟨rfl, 0, _, by rw [alloc_eq_grow, alloc_eq_grow, grow_grow]; rfl⟩
theorem cp_lays (blk off size : Nat) (w : World) : CmpLays Try.prog 53 #[] (fun x : BSq => encQ x.1) 3 cfB blk off size w := fun _ _ _ _ x y => cp_grow x.1 y.1 _
theorem sortSq {base g cap : Nat} {w0 W : World} {L : List BSq} {l : List Sq} (hL : L.map (·.1) = l) (hp : (srt l).Pairwise Lt) (h : SB (fun x : BSq => x.1) base w0 g cap L.toArray W) (hsz : L.length ≤ 1000000) :
    Calls Try.prog 75 #[.slice (some ⟨g, 0, none⟩) L.length cap, .func (.func 53) #[] #[]] W fun e w' =>
      e = .returned (.tuple #[]) ∧ ∃ d' : Array BSq, d'.size = L.length ∧ d'.toList.map (·.1) = srt l ∧ SB (fun x : BSq => x.1) base w0 g cap d' w' := by
  have hsz2 : L.toArray.size = L.length := by simp
  have hcon := AnyQ.slices_SortFunc Try.sortSq 3 Try.isAgg61 Try.sizeOf61 (fun x : BSq => encQ x.1) (fun _ => rfl) (fun x v hv => by simp [encQ] at hv; rcases hv with rfl | rfl | rfl <;> rfl) cfB swo_b 53 #[] g 0 cap L.toArray W (enters_of Try.func53 (by kernel_rfl) rfl) (cp_lays _ _ _ _) h.holds h.lt (by simp; omega)
  change Calls Try.prog 75 _ _ _ at hcon
  rw [hsz2] at hcon
  refine hcon.mono ?_
  rintro e w' ⟨he, d', n, os, hP, hS, rfl⟩
  rw [← hsz2] at hP hS
  have hso := sorted_list hP hS
  have hd : d'.size = L.length := by rw [hP.1, hsz2]
  refine ⟨he, d', hd, ?_, h.sorted (by rw [hd, hsz2]) n os⟩
  have h1 : (L.toArray).toList.map (fun x : BSq => x.1) = l := hL
  rw [h1] at hso
  exact (up_unique ((srt_perm l).trans hso.1.symm) (hp.imp (fun h => ltb_iff.2 h)) hso.2).symm
theorem ch_step (p : Sq → Sq) (l : List Sq) (i : Nat) (hi : i < l.length) (q : Sq) (hq : l[i]? = some q) : (l.take i).map p ++ [p q] = (l.take (i + 1)).map p := by
  rw [List.take_add_one, hq, List.map_append]; rfl
theorem ch_app {W w1 : World} {base B9 n cap : Nat} {A : Option Addr} {xs : List Sq} {ok : Nat → Prop} (h : Kd.R k61 61 W base ok (.slice A n cap) xs) {cs : Array Value} (hb : W.heap[B9]? = some (.cells cs 31 (0, 0))) (hg : W.grownBy w1 (Value.slice A n cap).ownBlock) : w1.heap[B9]? = some (.cells cs 31 (0, 0)) := blk_grown hb hg (Kd.R_ne h hb (by decide))
set_option maxHeartbeats 8000000 in
set_option maxRecDepth 100000 in
theorem changed_calls (a b W H : Int) (A : Option Addr) (c : Nat) (l : List Sq) (g : Nat) (lb : Array Value) (p : Sq → Sq) (w : World) (hr : Kd.C k61 w A l.length l) (hc : l.length ≤ c) (hl0 : 0 < l.length) (hl : l.length ≤ 1000000) (hok : ∀ q ∈ l, okQ (p q) = true) (hlt : (srt (l.map p)).Pairwise Lt)
    (eg : ∀ args w, (callFunc g args).run Try.prog w = .ok (.enter g args) w)
    (hp : ∀ (V : World) (x : Sq), Below w.heap.size w V → x ∈ l → Calls Try.prog g (#[.agg #[.int .i64 x.f0, .int .i64 x.f1, .int .i64 x.f2]] ++ lb) V fun e w' => e = .returned (.agg #[.int .i64 (p x).f0, .int .i64 (p x).f1, .int .i64 (p x).f2]) ∧ Below V.heap.size V w') :
    Calls Try.prog 66 #[.agg #[.int .i64 a, .int .i64 b, .slice A l.length c], .int .i64 W, .int .i64 H, .func (.func g) #[] lb] w fun e w' => ∃ v, e = .returned (.agg #[.int .i64 W, .int .i64 H, v]) ∧ Kd.R k61 61 w' w.heap.size (fun _ => True) v (srt (l.map p)) ∧ Below w.heap.size w w' := by
  have HR := Aside0.mk hr
  have HC := Aside0.mk hc
  have HOK := Aside0.mk hok
  have HLT := Aside0.mk hlt
  have HP := Aside0.mk hp
  have HL := Aside0.mk (And.intro hl0 hl)
  have hu := Try.underlying61
  have hu2 := Try.underlying31
  have HX0 := Aside0.mk (heap_alloc_new (w.alloc (.cells #[.int .i64 a, .int .i64 b, .slice A l.length c] 31)) (.cells #[.int .i64 0, .int .i64 0, .slice none 0 0] 31))
  rw [show (w.alloc (.cells #[.int .i64 a, .int .i64 b, .slice A l.length c] 31)).heap.size = w.heap.size + 1 from by simp] at HX0
  have HX1 := Aside0.mk (heap_alloc_new ((w.alloc (.cells #[.int .i64 a, .int .i64 b, .slice A l.length c] 31)).alloc (.cells #[.int .i64 0, .int .i64 0, .slice none 0 0] 31)) (.cells #[.int .i64 W, .int .i64 H, .slice none 0 0] 31))
  rw [show ((w.alloc (.cells #[.int .i64 a, .int .i64 b, .slice A l.length c] 31)).alloc (.cells #[.int .i64 0, .int .i64 0, .slice none 0 0] 31)).heap.size = w.heap.size + 1 + 1 from by simp] at HX1
  clear hr hc hok hlt hp hl0 hl
  go_enter Try.func66, Try.ntmps66
  go_wp2_with fail
  go_loopg [18] l.length (fun kq v18 wc => ∃ (i : Nat) (xi : Int) (A9 : Option Addr) (n9 c9 : Nat), i ≤ l.length ∧ l.length - i ≤ kq ∧ (i : Int) = xi ∧ v18 = .int .i64 xi ∧ Aside0 (wc.heap[w.heap.size + 1]? = some (.cells #[.int .i64 0, .int .i64 0, .slice none 0 0] 31 (0, 0))) ∧ Aside0 (wc.heap[w.heap.size + 1 + 1]? = some (.cells #[.int .i64 W, .int .i64 H, .slice A9 n9 c9] 31 (0, 0))) ∧ Aside0 (Kd.R k61 61 wc w.heap.size (fun _ => True) (.slice A9 n9 c9) ((l.take i).map p)) ∧ Aside0 (Below w.heap.size w wc))
  case atStart => exact ⟨0, 0, none, 0, 0, by omega, by omega, rfl, rfl, ⟨blk_alloc HX0.out _⟩, HX1, ⟨Kd.R_nil _ _ _ _ _⟩, ⟨below_alloc (below_alloc (below_alloc (Below.refl _ _) _) _) _⟩⟩
  case round =>
    clear HX0 HX1
    obtain ⟨i, xi, A9, n9, c9, hi, hk, hxi, rfl, HX0, HX1, HR9, HB⟩ := hrel
    by_cases hlt : i < l.length
    · have b1 : decide (xi < (l.length : Int)) = true := decide_eq_true (by omega)
      obtain ⟨ad, e1, x0, x1, x2⟩ := at_T61 (Kd.C_below HR.out HB.out) xi (by omega) (by omega)
      cases e1
      have hq : l[i]? = some (rd_T61 l xi) := by
        unfold rd_T61
        rw [← hxi, Int.toNat_natCast, List.getD_eq_getElem?_getD, List.getElem?_eq_getElem hlt]; rfl
      have hmem := List.mem_of_getElem? hq
      have hst := ch_step p l i hlt _ hq
      generalize rd_T61 l xi = q at x0 x1 x2 hmem hst
      have HST := Aside0.mk hst
      have HCALL : Aside0 (∀ V, Below w.heap.size w V → Calls Try.prog g (#[.agg #[.int .i64 q.f0, .int .i64 q.f1, .int .i64 q.f2]] ++ lb) V fun e w' => e = .returned (.agg #[.int .i64 (p q).f0, .int .i64 (p q).f1, .int .i64 (p q).f2]) ∧ Below V.heap.size V w') := ⟨fun V hV => HP.out V q hV hmem⟩
      generalize p q = r at HST HCALL
      have q1 := eq_true (show 0 ≤ xi by omega)
      have q2 := eq_true (show xi < (l.length : Int) by omega)
      have HI : Aside0 (i < l.length ∧ l.length - i ≤ gk ∧ (i : Int) = xi) := ⟨hlt, hk, hxi⟩
      have HNE : Aside0 (some wr.heap.size ≠ (Value.slice A9 n9 c9).ownBlock) := ⟨fun e => Nat.lt_irrefl _ (Kd.R_lt HR9.out _ e.symm)⟩
      have HX0b := Aside0.mk (blk_drew (blk_alloc HX0.out (.cells #[.int .i64 q.f0, .int .i64 q.f1, .int .i64 q.f2] 61)))
      have HX1b := Aside0.mk (blk_drew (blk_alloc HX1.out (.cells #[.int .i64 q.f0, .int .i64 q.f1, .int .i64 q.f2] 61)))
      have HX2b := Aside0.mk (blk_drew (heap_alloc_new wr (.cells #[.int .i64 q.f0, .int .i64 q.f1, .int .i64 q.f2] 61)))
      have HR9b := Aside0.mk (Kd.R_drew (Kd.R_alloc HR9.out (.cells #[.int .i64 q.f0, .int .i64 q.f1, .int .i64 q.f2] 61)))
      have HBb := Aside0.mk (below_drew (below_alloc HB.out (.cells #[.int .i64 q.f0, .int .i64 q.f1, .int .i64 q.f2] 61)))
      clear hi hk hxi hlt hq hmem hst HX0 HX1 HR9 HB
      go_wp2_with fail
      refine start_ (n := 9) (S := fun w' => w'.cell? ⟨w.heap.size + 1 + 1, 2, none⟩ = some (.slice A9 n9 c9) ∧ w'.cell? ⟨wr.heap.size, 0, none⟩ = some (.int .i64 q.f0) ∧ w'.cell? ⟨wr.heap.size, 1, none⟩ = some (.int .i64 q.f1) ∧ w'.cell? ⟨wr.heap.size, 2, none⟩ = some (.int .i64 q.f2)) (ds := [8]) #[false, false, false, false, false, false, false, false, false] (by kernel_rfl) rfl rfl ⟨(blk_cell HX1b.out 2).trans rfl, (blk_cell HX2b.out 0).trans rfl, (blk_cell HX2b.out 1).trans rfl, (blk_cell HX2b.out 2).trans rfl⟩ (fun hHeld => ?_)
      generalize (wr.alloc (.cells #[.int .i64 q.f0, .int .i64 q.f1, .int .i64 q.f2] 61)).drew = w5 at HX0b HX1b HX2b HR9b HBb hHeld ⊢
      clear x0 x1 x2
      refine pure_ (i := 0) (N := some 22) (v := ?_) (a' := ?_) #[true, false, false, false, false, false, false, false, false] rfl rfl (by kernel_rfl) (fun _ _ _ h => h) (Or.inl ⟨by rfl, ?_⟩) ?_ ?_
      rotate_left
      · intro w'
        go_simp
        with_reducible rfl
      rotate_left
      · simp only [Act.put, List.setIfInBounds_toArray, List.set_cons_zero, List.set_cons_succ, i64_w, i32_w]
        rfl
      refine take_ (i := 1) (N := some 23) (v := ?_) (a' := ?_) #[true, true, false, false, false, false, false, false, false] rfl rfl (by kernel_rfl) (fun _ _ _ h => h) (Or.inl ⟨by rfl, ?_⟩) hHeld ?_ ?_
      rotate_left
      · rintro w' ⟨s0, s1, s2, s3⟩
        go_simp
        with_reducible rfl
      rotate_left
      · simp only [Act.put, List.setIfInBounds_toArray, List.set_cons_zero, List.set_cons_succ, i64_w, i32_w]
        rfl
      refine pure_ (i := 2) (N := some 24) (v := ?_) (a' := ?_) #[true, true, true, false, false, false, false, false, false] rfl rfl (by kernel_rfl) (fun _ _ _ h => h) (Or.inl ⟨by rfl, ?_⟩) ?_ ?_
      rotate_left
      · intro w'
        go_simp
        with_reducible rfl
      rotate_left
      · simp only [Act.put, List.setIfInBounds_toArray, List.set_cons_zero, List.set_cons_succ, i64_w, i32_w]
        rfl
      refine take_ (i := 3) (N := some 25) (v := ?_) (a' := ?_) #[true, true, true, true, false, false, false, false, false] rfl rfl (by kernel_rfl) (fun _ _ _ h => h) (Or.inl ⟨by rfl, ?_⟩) hHeld ?_ ?_
      rotate_left
      · rintro w' ⟨s0, s1, s2, s3⟩
        go_simp
        with_reducible rfl
      rotate_left
      · simp only [Act.put, List.setIfInBounds_toArray, List.set_cons_zero, List.set_cons_succ, i64_w, i32_w]
        rfl
      refine one_ (i := 4) (N := some 26) #[true, true, true, true, true, false, false, false, false] rfl rfl (by kernel_rfl) (by decide) (fun K hK => ?_)
      go_simp
      go_at_fn g
      refine (HCALL.out _ HBb.out).mono ?_
      rintro e w6 ⟨rfl, hb⟩
      have HX0c := Aside0.mk (blk_below HX0b.out hb)
      have HX1c := Aside0.mk (blk_below HX1b.out hb)
      have HX2c := Aside0.mk (blk_below HX2b.out hb)
      have HR9c := Aside0.mk (Kd.R_below HR9b.out hb)
      have HBc := Aside0.mk (below_step HBb.out hb)
      clear HX0b HX1b HX2b HR9b HBb hb hHeld
      refine hK.out _ _ ⟨(blk_cell HX1c.out 2).trans rfl, (blk_cell HX2c.out 0).trans rfl, (blk_cell HX2c.out 1).trans rfl, (blk_cell HX2c.out 2).trans rfl⟩ (fun hHeld => ?_)
      clear hK K
      refine one_ (i := 5) (N := some 27) #[true, true, true, true, true, true, false, false, false] rfl rfl (by kernel_rfl) (by decide) (fun K hK => ?_)
      go_simp
      refine hK.out _ _ ⟨(blk_cell (blk_alloc HX1c.out _) 2).trans rfl, (blk_cell (blk_alloc HX2c.out _) 0).trans rfl, (blk_cell (blk_alloc HX2c.out _) 1).trans rfl, (blk_cell (blk_alloc HX2c.out _) 2).trans rfl⟩ (fun hHeld => ?_)
      clear hK K
      refine one_ (i := 6) (N := some 28) #[true, true, true, true, true, true, true, false, false] rfl rfl (by kernel_rfl) (by decide) (fun K hK => ?_)
      have hlen : ((l.take i).map p).length ≤ 1000000 := by rw [List.length_map]; exact Nat.le_trans (List.length_take_le' _ _) HL.out.2
      have HLN := Aside0.mk hlen
      clear hlen
      refine Kd.R_append_step k61 (w0 := w) w.heap.size (by simp [Region.wanted]) (.tmp 23) (.tmp 27) 29 61 (.agg #[.int .i64 0, .int .i64 0, .int .i64 0]) 24 rfl Try.underlying29 info61 rfl (by decide) (by omega) (.slice A9 n9 c9) ((l.take i).map p) r [.int .i64 r.f0, .int .i64 r.f1, .int .i64 r.f2] (fun _ => True) (fun _ => False) rfl rfl (k61_mkM _ _ _ _) (fun _ h => h.elim) (fun _ _ => trivial) HR9c.out HBc.out HBc.out.size (by have := HLN.out; omega) ?_
      intro v7 w7 ho hb hg hat
      obtain ⟨A7, c7, e7⟩ := Kd.R_slice ho
      subst e7
      have HX0d := Aside0.mk (ch_app HR9c.out HX0c.out hg)
      have HX1d := Aside0.mk (ch_app HR9c.out HX1c.out hg)
      have HX2d := Aside0.mk (blk_grown HX2c.out hg HNE.out)
      have HR9d := Aside0.mk ho
      have HBd := Aside0.mk hb
      obtain ⟨n7, hn7⟩ : ∃ n7, ((l.take i).map p ++ [r]).length = n7 := ⟨_, rfl⟩
      rw [hn7] at HR9d
      clear HX0c HX1c HX2c HR9c HBc ho hb hg hat hHeld HNE HLN
      refine hK.out _ _ ⟨(blk_cell HX1d.out 2).trans rfl, (blk_cell HX2d.out 0).trans rfl, (blk_cell HX2d.out 1).trans rfl, (blk_cell HX2d.out 2).trans rfl⟩ (fun hHeld => ?_)
      clear hK K
      refine norm_ (a' := ?_) ?_ ?_
      rotate_left
      · show Act.put _ (some 28) _ = _
        simp only [hn7, Act.put, List.setIfInBounds_toArray, List.set_cons_zero, List.set_cons_succ, i64_w, i32_w]
        rfl
      refine pure_ (i := 7) (N := some 29) (v := ?_) (a' := ?_) #[true, true, true, true, true, true, true, true, false] rfl rfl (by kernel_rfl) (fun _ _ _ h => h) (Or.inl ⟨by rfl, ?_⟩) ?_ ?_
      rotate_left
      · intro w'
        go_simp
        with_reducible rfl
      rotate_left
      · simp only [Act.put, List.setIfInBounds_toArray, List.set_cons_zero, List.set_cons_succ, i64_w, i32_w]
        rfl
      refine last_ (i := 8) (N := none) #[true, true, true, true, true, true, true, true, true] rfl rfl (by kernel_rfl) (by decide) (fun K hK => ?_)
      have k2 : w7.cell? ⟨w.heap.size + 1 + 1, 2, none⟩ = some (.slice A9 n9 c9) := (blk_cell HX1d.out 2).trans rfl
      have f2 := blk_frozen HX1d.out 2
      go_simp
      refine hK.out _ _ ?_
      clear hK K hHeld k2 f2
      refine done_ (by kernel_rfl) ?_
      have HX0e : Aside0 ((w7.setCell ⟨w.heap.size + 1 + 1, 2, none⟩ (.slice A7 n7 c7)).heap[w.heap.size + 1]? = some (.cells #[.int .i64 0, .int .i64 0, .slice none 0 0] 31 (0, 0))) := ⟨(Below.heap_setCell _ _ _ _ (by simp)).trans HX0d.out⟩
      have HX1e := Aside0.mk (blk_put HX1d.out 2 (.slice A7 n7 c7) (cs' := #[.int .i64 W, .int .i64 H, .slice A7 n7 c7]) rfl)
      have HR9e := Aside0.mk (Kd.R_set HR9d.out HX1d.out (by decide) 2 (.slice A7 n7 c7))
      have HBe := Aside0.mk (below_set (j := 2) (v := .slice A7 n7 c7) HBd.out (show w.heap.size ≤ w.heap.size + 1 + 1 by omega))
      clear HX0d HX1d HX2d HR9d HBd
      have EI : Aside0 (wrap64 (xi + 1) = ((i + 1 : Nat) : Int)) := ⟨by have h1 := HI.out; have h2 := HL.out; rw [w64 (by omega) (by omega)]; omega⟩
      rw [HST.out] at HR9e
      clear hn7
      go_wp2_with fail
      go_roundg (l.length - (i + 1))
      case measure => have h1 := HI.out; omega
      case rel => exact ⟨i + 1, _, A7, n7, c7, by have h1 := HI.out; omega, Nat.le_refl _, rfl, by first | rfl | rw [EI.out], HX0e, HX1e, HR9e, HBe⟩
    · have b1 : decide (xi < (l.length : Int)) = false := decide_eq_false (by omega)
      obtain rfl : i = l.length := by omega
      have hr9 := HR9.out
      rw [List.take_length] at hr9
      obtain ⟨L, hL⟩ := lift_b (l.map p) (fun q hq => by obtain ⟨s, hs, rfl⟩ := List.mem_map.1 hq; exact HOK.out s hs)
      have hLl : L.length = l.length := by have := congrArg List.length hL; rwa [List.length_map, List.length_map] at this
      obtain ⟨g9, cap9, e9, hge, hlt9, cells9, hcl⟩ := Kd.R_form hr9 (by rw [List.length_map]; exact HL.out.1)
      rw [List.length_map, ← hLl] at e9
      injection e9 with e1 e2 e3
      subst e1 e2 e3
      have HSB : Aside0 (SB (fun x : BSq => x.1) w.heap.size wr g9 c9 L.toArray wr) := ⟨⟨by
        have h1 := Kd.R_mono (ok' := fun k => k = g9) (Kd.R_tight rfl hr9) (fun k hk => by simpa [Value.ownBlock] using hk)
        rw [show L.toArray.size = L.length by simp]
        show Kd.R _ _ _ _ _ _ (L.map (·.1))
        rw [hL]
        exact h1, Kept.refl _ _, Below.refl _ _⟩⟩
      have HSORT := Aside0.mk (sortSq hL HLT.out HSB.out (by rw [hLl]; exact HL.out.2))
      have HN0 : Aside0 (¬ (w.heap.size + 1 = g9)) := ⟨blk_ne HX0.out hcl (by decide)⟩
      have HN1 : Aside0 (¬ (w.heap.size + 1 + 1 = g9)) := ⟨blk_ne HX1.out hcl (by decide)⟩
      have k2 : wr.cell? ⟨w.heap.size + 1 + 1, 2, none⟩ = some (.slice (some ⟨g9, 0, none⟩) L.length c9) := (blk_cell HX1.out 2).trans rfl
      clear hr9 hLl hge hlt9 hcl HSB HR9 hi hk hxi hlt hL
      go_wp2_with (go_at_call 75; refine HSORT.out.mono ?_; rintro e w8 ⟨rfl, d', hd, hm, hS⟩; have HD := Aside0.mk (And.intro hd hm); have HS := Aside0.mk hS; have HX0b := Aside0.mk (blk_kept HX0.out hS.kept HN0.out); have HX1b := Aside0.mk (blk_kept HX1.out hS.kept HN1.out); have m0 : w8.cell? ⟨w.heap.size + 1 + 1, 0, none⟩ = some (.int .i64 W) := (blk_cell HX1b.out 0).trans rfl; have m1 : w8.cell? ⟨w.heap.size + 1 + 1, 1, none⟩ = some (.int .i64 H) := (blk_cell HX1b.out 1).trans rfl; have m2 : w8.cell? ⟨w.heap.size + 1 + 1, 2, none⟩ = some (.slice (some ⟨g9, 0, none⟩) L.length c9) := (blk_cell HX1b.out 2).trans rfl; have n0 : w8.cell? ⟨w.heap.size + 1, 0, none⟩ = some (.int .i64 0) := (blk_cell HX0b.out 0).trans rfl; have n1 : w8.cell? ⟨w.heap.size + 1, 1, none⟩ = some (.int .i64 0) := (blk_cell HX0b.out 1).trans rfl; have n2 : w8.cell? ⟨w.heap.size + 1, 2, none⟩ = some (.slice none 0 0) := (blk_cell HX0b.out 2).trans rfl; have f0 := blk_frozen HX0b.out 0; have f1 := blk_frozen HX0b.out 1; have f2 := blk_frozen HX0b.out 2; clear hd hm hS k2 HSORT)
      have hrow := HS.out.row
      rw [HD.out.1] at hrow
      change Kd.R _ _ _ _ _ _ (d'.toList.map (fun x : BSq => x.1)) at hrow
      rw [show d'.toList.map (fun x : BSq => x.1) = srt (l.map p) from HD.out.2] at hrow
      refine bodyPost_ret (results_cell_row rfl _ _ (w.heap.size + 1) 31 #[.int .i64 W, .int .i64 H, .slice (some ⟨g9, 0, none⟩) L.length c9] (0, 0) _ rfl (blk_put (blk_put (blk_put HX0b.out 0 (.int .i64 W) rfl) 1 (.int .i64 H) rfl) 2 (.slice (some ⟨g9, 0, none⟩) L.length c9) rfl) Try.underlying31 rfl (by kernel_rfl)) rfl ?_
      have h1 := Kd.R_types hrow HX0b.out (by decide)
      refine ⟨_, rfl, ?_, below_set (below_set (below_set (HB.out.trans HS.out.be) (Nat.le_add_right _ _)) (Nat.le_add_right _ _)) (Nat.le_add_right _ _)⟩
      exact Kd.R_mono (Kd.R_far (p := ⟨w.heap.size + 1, 2, none⟩) (Kd.R_far (p := ⟨w.heap.size + 1, 1, none⟩) (Kd.R_far (p := ⟨w.heap.size + 1, 0, none⟩) h1 (fun _ hk => hk.2) _) (fun _ hk => hk.2) _) (fun _ hk => hk.2) _) (fun _ _ => trivial)
end Go.Proofs.Ytnfiejagokefcaa.P

namespace Go.Proofs.Ytnfiejagokefcaa.Pure
set_option linter.unusedVariables false
set_option linter.unusedSimpArgs false
open Go.RowKit Go.Proofs.Ytnfiejagokefcaa.P Go.Proofs.YtnfiejagokefcaaW.PrintWords Go.Proofs.YtnfiejagokefcaaW.PrintLast Go.Proofs.Ytnfiejagokefcaa.Aid
theorem l1In_f (n lo hi : Int) : spec_l1In.f n lo hi = some (inR n lo hi) := by
  unfold spec_l1In.f inR; by_cases c : lo ≤ n <;> simp [c]
end Go.Proofs.Ytnfiejagokefcaa.Pure

namespace Go.Proofs.Ytnfiejagokefcaa.Pure
set_option linter.unusedVariables false
set_option linter.unusedSimpArgs false
open Go.RowKit Go.Proofs.Ytnfiejagokefcaa.P Go.Proofs.YtnfiejagokefcaaW.PrintWords Go.Proofs.YtnfiejagokefcaaW.PrintLast Go.Proofs.Ytnfiejagokefcaa.Wm Go.Proofs.Ytnfiejagokefcaa.Aid Go.Proofs.Ytnfiejagokefcaa.T
theorem rdq (l : List Sq) (i : Nat) : rd_T61 l (i : Int) = nq l i := by unfold rd_T61 nq; rw [Int.toNat_natCast]; rfl
end Go.Proofs.Ytnfiejagokefcaa.Pure

namespace Go.Proofs.Ytnfiejagokefcaa.Pure
set_option linter.unusedVariables false
set_option linter.unusedSimpArgs false
open Go.RowKit Go.Proofs.Ytnfiejagokefcaa.P Go.Proofs.YtnfiejagokefcaaW.PrintWords Go.Proofs.YtnfiejagokefcaaW.PrintLast Go.Proofs.Ytnfiejagokefcaa.Wm Go.Proofs.Ytnfiejagokefcaa.Aid Go.Proofs.Ytnfiejagokefcaa.T
theorem apart_ovl (a b : Sq) (ha : inBox 500 500 a) (hb : inBox 500 500 b) : ovl a b = false ↔ Apart a b := by
  unfold inBox at ha hb
  unfold ovl Apart
  rw [w64 (by omega) (by omega), w64 (by omega) (by omega), w64 (by omega) (by omega), w64 (by omega) (by omega), Bool.eq_false_iff]
  simp only [ne_eq, Bool.and_eq_true, decide_eq_true_eq]
  constructor <;> intro h h' <;> exact h (by omega)
theorem inBox_mono {W H W' H' : Int} {q : Sq} (h : inBox W H q) (hw : W ≤ W') (hh : H ≤ H') : inBox W' H' q := by unfold inBox at *; omega
theorem lt_cmpP (a b : Sq) (ha : inBox 500 500 a) (hb : inBox 500 500 b) : cmpP a b < 0 ↔ Lt a b := by
  unfold inBox at ha hb
  unfold cmpP Lt
  split
  · rw [w64 (by omega) (by omega)]; omega
  · rw [w64 (by omega) (by omega)]; omega
theorem okAt_iff (W H : Int) (l : List Sq) (hW : 1 ≤ W ∧ W ≤ 500) (hH : 1 ≤ H ∧ H ≤ 500) (i : Nat) (hi : i < l.length) (hold : ∀ j, j < i → inBox W H (nq l j)) : okAt W H l i = true ↔ OkS W H l i := by
  unfold okAt OkS
  simp only [rdq, Bool.and_eq_true, Bool.not_eq_true']
  have hbox : (ok1 W H (nq l i) = true ∧ ok2 W (nq l i) = true ∧ ok3 H (nq l i) = true) ↔ inBox W H (nq l i) := by
    unfold ok1 ok2 ok3 inBox
    simp only [Bool.and_eq_true, decide_eq_true_eq, mn_min]
    constructor
    · rintro ⟨⟨h1, h2⟩, ⟨h3, h4⟩, h5, h6⟩
      rw [w64 (by omega) (by omega)] at h4 h6
      omega
    · intro h
      rw [w64 (by omega) (by omega), w64 (by omega) (by omega)]
      omega
  have big : ∀ {q : Sq}, inBox W H q → inBox 500 500 q := fun h => inBox_mono h hW.2 hH.2
  constructor
  · rintro ⟨⟨⟨⟨h1, h2⟩, h3⟩, h4⟩, h5⟩
    have hb := hbox.1 ⟨h1, h2, h3⟩
    refine ⟨hb, fun j hj => ⟨?_, fun e => ?_⟩⟩
    · rw [List.any_eq_false] at h5
      have := h5 (nq l j) (by rw [← nq_take l i j hj]; exact nq_mem _ _ (by simp; omega))
      exact (apart_ovl _ _ (big hb) (big (hold j hj))).1 (Bool.eq_false_iff.2 this)
    · unfold ok4 at h4
      subst e
      rw [Bool.or_eq_true, decide_eq_true_eq, decide_eq_true_eq] at h4
      rcases h4 with h4 | h4
      · cases h4
      · rw [show j + 1 - 1 = j by omega, rdq] at h4
        exact (lt_cmpP _ _ (big (hold j hj)) (big hb)).1 h4
  · rintro ⟨hb, hs⟩
    obtain ⟨h1, h2, h3⟩ := hbox.2 hb
    refine ⟨⟨⟨⟨h1, h2⟩, h3⟩, ?_⟩, ?_⟩
    · unfold ok4
      rw [Bool.or_eq_true, decide_eq_true_eq, decide_eq_true_eq]
      rcases Nat.eq_zero_or_pos i with h0 | h0
      · exact .inl h0
      · refine .inr ?_
        rw [rdq]
        exact (lt_cmpP _ _ (big (hold _ (by omega))) (big hb)).2 ((hs (i - 1) (by omega)).2 (by omega))
    · rw [List.any_eq_false]
      intro q hq
      obtain ⟨j, hj, rfl⟩ := List.getElem_of_mem hq
      rw [List.length_take] at hj
      rw [← nq_get, nq_take l i j (by omega)]
      rw [Bool.not_eq_true]
      exact (apart_ovl _ _ (big hb) (big (hold j (by omega)))).2 (hs j (by omega)).1
theorem okAt_all (W H : Int) (l : List Sq) (hW : 1 ≤ W ∧ W ≤ 500) (hH : 1 ≤ H ∧ H ≤ 500) : (∀ i, i < l.length → okAt W H l i = true) ↔ ∀ i, i < l.length → OkS W H l i := by
  constructor
  · intro h i
    induction i using Nat.strongRecOn with
    | _ i ih => exact fun hi => (okAt_iff W H l hW hH i hi (fun j hj => (ih j hj (by omega)).1)).1 (h i hi)
  · intro h i hi
    exact (okAt_iff W H l hW hH i hi (fun j hj => (h j (by omega)).1)).2 (h i hi)
theorem areaW_area (l : List Sq) : ∀ n, n ≤ l.length → l.length ≤ 30 → (∀ i, i < n → 0 ≤ (nq l i).f2 ∧ (nq l i).f2 ≤ 500) → areaW (l.take n) 0 = area (l.take n)
  | 0, _, _, _ => by simp [areaW, area]
  | n + 1, hn, hl, hb => by
    have ih := areaW_area l n (by omega) hl (fun i hi => hb i (by omega))
    have hq := sq_le (hb n (by omega)).1 (hb n (by omega)).2
    have ha := area_bd l 500 n (by omega) (fun i hi => hb i (by omega))
    rw [area_take l n (by omega), List.take_succ_eq_append_getElem (by omega), areaW_snoc, ih, ← nq_get l n (by omega), w64 (e := (nq l n).f2 * (nq l n).f2) (by omega) (by omega), w64 (by omega) (by omega)]
theorem isCutB_good (W H : Int) (l : List Sq) : isCutB W H l = goodB W H l := by
  rw [Bool.eq_iff_iff, goodB_iff, good_iff]
  unfold isCutB
  simp only [Bool.and_eq_true, decide_eq_true_eq, List.all_eq_true, List.mem_range, and_assoc]
  constructor
  · rintro ⟨h1, h2, h3, h4, h5, h6, h7⟩
    have hs := (okAt_all W H l ⟨h1, h2⟩ ⟨h3, h4⟩).1 h6
    refine ⟨h1, h2, h3, h4, h5, hs, ?_⟩
    have hb : ∀ i, i < l.length → 0 ≤ (nq l i).f2 ∧ (nq l i).f2 ≤ 500 := fun i hi => by have := (hs i hi).1; unfold inBox at this; omega
    have ha := areaW_area l l.length (Nat.le_refl _) h5 hb
    rw [List.take_length] at ha
    have hp : 0 ≤ W * H ∧ W * H ≤ 500 * 500 := ⟨Int.mul_nonneg (by omega) (by omega), Int.mul_le_mul h2 h4 (by omega) (by omega)⟩
    rw [ha, w64 (by omega) (by omega)] at h7
    exact h7
  · rintro ⟨h1, h2, h3, h4, h5, hs, h7⟩
    refine ⟨h1, h2, h3, h4, h5, (okAt_all W H l ⟨h1, h2⟩ ⟨h3, h4⟩).2 hs, ?_⟩
    have hb : ∀ i, i < l.length → 0 ≤ (nq l i).f2 ∧ (nq l i).f2 ≤ 500 := fun i hi => by have := (hs i hi).1; unfold inBox at this; omega
    have ha := areaW_area l l.length (Nat.le_refl _) h5 hb
    rw [List.take_length] at ha
    have hp : 0 ≤ W * H ∧ W * H ≤ 500 * 500 := ⟨Int.mul_nonneg (by omega) (by omega), Int.mul_le_mul h2 h4 (by omega) (by omega)⟩
    rw [ha, w64 (by omega) (by omega)]
    exact h7
theorem isCut_f (W H : Int) (l : List Sq) : impl_IsCut.f W H l = some (goodB W H l) := by unfold impl_IsCut.f; rw [isCutB_good]
def PairOk (l : List Sq) (i j : Nat) : Prop := Apart (nq l i) (nq l j) ∧ (j + 1 = i → Lt (nq l j) (nq l i))
theorem cuLess_f (a b : Sq) : spec_cuLess.f a.f0 a.f1 a.f2 b.f0 b.f1 b.f2 = some (decide (a.f1 < b.f1) || (decide (a.f1 = b.f1) && decide (a.f0 < b.f0))) := by
  unfold spec_cuLess.f
  by_cases c1 : a.f1 < b.f1
  · simp [c1]
  · by_cases c2 : a.f1 = b.f1 <;> simp [c1, c2]
theorem lt_less (a b : Sq) : (decide (a.f1 < b.f1) || (decide (a.f1 = b.f1) && decide (a.f0 < b.f0))) = true ↔ Lt a b := by
  unfold Lt; simp
section
variable (W H : Int) (l : List Sq)
theorem good_l1_step (a : Int) (i m : Nat) (hm : m < i) (hi : i < l.length) {r : Bool}
    (h : Ev (fun k => spec_cuGood.j4 k a i m l l.length i (l.take i) i m (ovl (nq l i) (nq l m)) W H l (nq l i).f0 (nq l i).f1 (nq l i).f2 (nq l m).f0 (nq l m).f1 (nq l m).f2) r) :
    Ev (fun k => spec_cuGood.l1 k a i l l.length i (l.take i) i m W H l (nq l i).f0 (nq l i).f1 (nq l i).f2) r := by
  have e : rd_T61 (l.take i) (m : Int) = nq l m := by rw [rdq, nq_take l i m hm]
  refine Ev.step (fun _ => spec_cuGood.l1.eq_2 ..) (ev_pos (by omega) (ev_pos (by omega) (ev_pos (by simp; omega) ?_)))
  simp only [e]
  unfold ovl at h
  by_cases c1 : (nq l i).f0 < wrap64 ((nq l m).f0 + (nq l m).f2)
  · refine ev_pos c1 ?_
    by_cases c2 : (nq l m).f0 < wrap64 ((nq l i).f0 + (nq l i).f2)
    · refine ev_pos c2 ?_
      by_cases c3 : (nq l i).f1 < wrap64 ((nq l m).f1 + (nq l m).f2)
      · refine ev_pos c3 ?_
        simpa [c1, c2, c3] using h
      · refine ev_neg c3 ?_
        simpa [c1, c2, c3] using h
    · refine ev_neg c2 ?_
      simpa [c1, c2] using h
  · refine ev_neg c1 ?_
    simpa [c1] using h
theorem good_pass (hl : l.length ≤ 30) (a : Int) (i : Nat) (hi : i < l.length) (hb : ∀ j, j ≤ i → inBox 500 500 (nq l j)) {r : Bool} (h : Ev (fun k => spec_cuGood.l0 k a l l.length (i + 1 : Nat) W H l) r) :
    ∀ (d m : Nat), m + d = i → (∀ j, m ≤ j → j < i → PairOk l i j) → Ev (fun k => spec_cuGood.l1 k a i l l.length i (l.take i) i m W H l (nq l i).f0 (nq l i).f1 (nq l i).f2) r
  | 0, m, hd, hp => by
    refine Ev.step (fun _ => spec_cuGood.l1.eq_2 ..) (ev_neg (by omega) ?_)
    rw [w64 (by omega) (by omega)]
    exact h
  | d + 1, m, hd, hp => by
    have ih := good_pass hl a i hi hb h d (m + 1) (by omega) (fun j h1 h2 => hp j (by omega) h2)
    obtain ⟨p1, p2⟩ := hp m (Nat.le_refl _) (by omega)
    refine good_l1_step W H l a i m (by omega) hi ?_
    rw [(apart_ovl _ _ (hb i (Nat.le_refl _)) (hb m (by omega))).2 p1]
    refine Ev.step (fun _ => spec_cuGood.j4.eq_2 ..) (ev_neg (by simp) ?_)
    rw [w64 (by omega) (by omega), w64 (by omega) (by omega)]
    by_cases c : m + 1 = i
    · refine ev_pos (by omega) (ev_call (cuLess_f (nq l m) (nq l i)) (ev_pos ((lt_less _ _).2 (p2 c)) ?_))
      exact ih
    · exact ev_neg (by omega) ih
theorem good_fail (hl : l.length ≤ 30) (a : Int) (i : Nat) (hi : i < l.length) (hb : ∀ j, j ≤ i → inBox 500 500 (nq l j)) :
    ∀ (d m : Nat), m + d = i → (∃ j, m ≤ j ∧ j < i ∧ ¬ PairOk l i j) → Ev (fun k => spec_cuGood.l1 k a i l l.length i (l.take i) i m W H l (nq l i).f0 (nq l i).f1 (nq l i).f2) false
  | 0, m, hd, hp => by obtain ⟨j, h1, h2, _⟩ := hp; omega
  | d + 1, m, hd, hp => by
    refine good_l1_step W H l a i m (by omega) hi ?_
    by_cases p1 : Apart (nq l i) (nq l m)
    · rw [(apart_ovl _ _ (hb i (Nat.le_refl _)) (hb m (by omega))).2 p1]
      refine Ev.step (fun _ => spec_cuGood.j4.eq_2 ..) (ev_neg (by simp) ?_)
      rw [w64 (by omega) (by omega), w64 (by omega) (by omega)]
      by_cases c : m + 1 = i
      · by_cases p2 : Lt (nq l m) (nq l i)
        · exfalso
          obtain ⟨j, h1, h2, h3⟩ := hp
          have : j = m := by omega
          subst this
          exact h3 ⟨p1, fun _ => p2⟩
        · refine ev_pos (by omega) (ev_call (cuLess_f (nq l m) (nq l i)) (ev_neg (fun h => p2 ((lt_less _ _).1 h)) (ev_some rfl)))
      · refine ev_neg (by omega) (good_fail hl a i hi hb d (m + 1) (by omega) ?_)
        obtain ⟨j, h1, h2, h3⟩ := hp
        refine ⟨j, ?_, h2, h3⟩
        rcases Nat.lt_or_ge m j with h | h
        · omega
        · have : j = m := by omega
          subst this
          exact absurd ⟨p1, fun h => absurd h c⟩ h3
    · have : ovl (nq l i) (nq l m) = true := by
        rw [← Bool.not_eq_false]
        intro h
        exact p1 ((apart_ovl _ _ (hb i (Nat.le_refl _)) (hb m (by omega))).1 h)
      rw [this]
      exact Ev.step (fun _ => spec_cuGood.j4.eq_2 ..) (ev_pos rfl (ev_some rfl))
theorem good_round (a : Int) (i : Nat) (hi : i < l.length) (hW : 1 ≤ W ∧ W ≤ 500) (hH : 1 ≤ H ∧ H ≤ 500) {r : Bool}
    (h : inBox W H (nq l i) → Ev (fun k => spec_cuGood.l1 k (wrap64 (a + wrap64 ((nq l i).f2 * (nq l i).f2))) i l l.length i (l.take i) i (0 : Nat) W H l (nq l i).f0 (nq l i).f1 (nq l i).f2) r) (hf : ¬ inBox W H (nq l i) → r = false) :
    Ev (fun k => spec_cuGood.l0 k a l l.length i W H l) r := by
  refine Ev.step (fun _ => spec_cuGood.l0.eq_2 ..) (ev_pos (by omega) (ev_pos (by omega) (ev_pos (by omega) ?_)))
  simp only [rdq]
  refine ev_call (l1In_f _ _ _) ?_
  by_cases c1 : inR (nq l i).f2 1 500 = true
  · refine ev_pos c1 (ev_call (l1In_f _ _ _) ?_)
    rw [inR_iff] at c1
    rw [w64 (by omega) (by omega)]
    by_cases c2 : inR (nq l i).f0 0 (W - (nq l i).f2) = true
    · refine ev_pos c2 ?_
      rw [w64 (by omega) (by omega)]
      refine ev_call (l1In_f _ _ _) ?_
      rw [inR_iff] at c2
      by_cases c3 : inR (nq l i).f1 0 (H - (nq l i).f2) = true
      · rw [c3]
        rw [inR_iff] at c3
        refine Ev.step (fun _ => spec_cuGood.j2.eq_2 ..) (ev_neg (by simp) (ev_pos (by omega) (ev_pos (by omega) ?_)))
        refine ev_call rfl ?_
        simp only [Int.toNat_natCast]
        have := h (by unfold inBox; omega)
        simpa [Nat.min_eq_left (Nat.le_of_lt hi)] using this
      · have : r = false := hf (fun hb => c3 (inR_iff.2 (by unfold inBox at hb; omega)))
        subst this
        rw [Bool.not_eq_true] at c3
        rw [c3]
        exact Ev.step (fun _ => spec_cuGood.j2.eq_2 ..) (ev_pos rfl (ev_some rfl))
    · have : r = false := hf (fun hb => c2 (inR_iff.2 (by unfold inBox at hb; omega)))
      subst this
      exact ev_neg c2 (Ev.step (fun _ => spec_cuGood.j2.eq_2 ..) (ev_pos rfl (ev_some rfl)))
  · have : r = false := hf (fun hb => c1 (inR_iff.2 (by unfold inBox at hb; omega)))
    subst this
    exact ev_neg c1 (Ev.step (fun _ => spec_cuGood.j2.eq_2 ..) (ev_pos rfl (ev_some rfl)))
theorem good_l0 (hl : l.length ≤ 30) (hW : 1 ≤ W ∧ W ≤ 500) (hH : 1 ≤ H ∧ H ≤ 500) : ∀ (d i : Nat), i + d = l.length → (∀ j, j < i → OkS W H l j) → Ev (fun k => spec_cuGood.l0 k (area (l.take i)) l l.length i W H l) (goodB W H l)
  | 0, i, hd, hs => by
    refine Ev.step (fun _ => spec_cuGood.l0.eq_2 ..) (ev_neg (by omega) (ev_some ?_))
    have hp : 0 ≤ W * H ∧ W * H ≤ 500 * 500 := ⟨Int.mul_nonneg (by omega) (by omega), Int.mul_le_mul hW.2 hH.2 (by omega) (by omega)⟩
    rw [w64 (by omega) (by omega), show i = l.length by omega, List.take_length, Bool.eq_iff_iff, goodB_iff, good_iff, beq_iff_eq]
    exact ⟨fun h => ⟨hW, hH, hl, fun j hj => hs j (by omega), h⟩, fun h => h.2.2.2.2⟩
  | d + 1, i, hd, hs => by
    have hnot : ¬ OkS W H l i → goodB W H l = false := fun h => by
      rw [Bool.eq_false_iff]
      intro hg
      rw [goodB_iff, good_iff] at hg
      exact h (hg.2.2.2.1 i (by omega))
    refine good_round W H l _ i (by omega) hW hH (fun hb => ?_) (fun hb => hnot (fun h => hb h.1))
    have hbb : ∀ j, j ≤ i → inBox 500 500 (nq l j) := fun j hj => by
      rcases Nat.lt_or_ge j i with h | h
      · exact inBox_mono (hs j h).1 hW.2 hH.2
      · rw [show j = i by omega]; exact inBox_mono hb hW.2 hH.2
    have ha := area_bd l 500 i (by omega) (fun j hj => by have := hbb j (by omega); unfold inBox at this; omega)
    have hq := hbb i (Nat.le_refl _)
    unfold inBox at hq
    have hsq := sq_le (a := (nq l i).f2) (m := 500) (by omega) (by omega)
    rw [w64 (e := (nq l i).f2 * (nq l i).f2) (by omega) (by omega), w64 (by omega) (by omega), ← area_take l i (by omega)]
    by_cases c : ∃ j, 0 ≤ j ∧ j < i ∧ ¬ PairOk l i j
    · rw [hnot (fun h => by obtain ⟨j, _, h2, h3⟩ := c; exact h3 (h.2 j h2))]
      exact good_fail W H l hl _ i (by omega) hbb i 0 (by omega) c
    · have hp : ∀ j, j < i → PairOk l i j := fun j hj => Classical.byContradiction fun h => c ⟨j, by omega, hj, h⟩
      refine good_pass W H l hl _ i (by omega) hbb ?_ i 0 (by omega) (fun j _ h => hp j h)
      exact good_l0 hl hW hH d (i + 1) (by omega) (fun j hj => by
        rcases Nat.lt_or_ge j i with h | h
        · exact hs j h
        · rw [show j = i by omega]; exact ⟨hb, hp⟩)
end
theorem cuGood_ev (W H : Int) (l : List Sq) (hlen : l.length ≤ 9223372036854775807) : Ev (fun k => spec_cuGood.f k W H l) (goodB W H l) := by
  have bad : ¬ ((1 ≤ W ∧ W ≤ 500) ∧ (1 ≤ H ∧ H ≤ 500) ∧ (1 ≤ l.length ∧ l.length ≤ 30)) → goodB W H l = false := fun h => by
    rw [Bool.eq_false_iff]
    intro hg
    rw [goodB_iff] at hg
    exact h ⟨hg.w, hg.h, hg.pos, hg.len⟩
  refine ev_call (l1In_f _ _ _) ?_
  by_cases c1 : inR W 1 500 = true
  · refine ev_pos c1 (ev_call (l1In_f _ _ _) ?_)
    by_cases c2 : inR H 1 500 = true
    · refine ev_pos c2 (ev_call (l1In_f _ _ _) ?_)
      rw [inR_iff] at c1 c2
      by_cases c3 : inR (l.length : Int) 1 30 = true
      · rw [c3]
        rw [inR_iff] at c3
        refine Ev.step (fun _ => spec_cuGood.j0.eq_2 ..) (ev_neg (by simp) ?_)
        have := good_l0 W H l (by omega) c1 c2 l.length 0 (by omega) (fun j hj => by omega)
        simpa [area] using this
      · have e := bad (fun h => c3 (inR_iff.2 (by omega)))
        rw [Bool.not_eq_true] at c3
        rw [c3, e]
        exact Ev.step (fun _ => spec_cuGood.j0.eq_2 ..) (ev_pos rfl (ev_some rfl))
    · rw [bad (fun h => c2 (inR_iff.2 h.2.1))]
      exact ev_neg c2 (Ev.step (fun _ => spec_cuGood.j0.eq_2 ..) (ev_pos rfl (ev_some rfl)))
  · rw [bad (fun h => c1 (inR_iff.2 h.1))]
    exact ev_neg c1 (Ev.step (fun _ => spec_cuGood.j0.eq_2 ..) (ev_pos rfl (ev_some rfl)))
end Go.Proofs.Ytnfiejagokefcaa.Pure

namespace Go.Proofs.Ytnfiejagokefcaa.LawAid
open Go.RowKit Go.Proofs.YtnfiejagokefcaaW.PrintWords Go.Proofs.YtnfiejagokefcaaW.PrintLast Go.Proofs.Ytnfiejagokefcaa.Wm
theorem blk3 {W : World} {g : Nat} {t : TypeId} {a b c : Value} (h : W.heap[g]? = some (.cells #[a, b, c] t (0, 0))) : W.cell? ⟨g, 0, none⟩ = some a ∧ W.cell? ⟨g, 1, none⟩ = some b ∧ W.cell? ⟨g, 2, none⟩ = some c :=
  ⟨(blk_cell h 0).trans rfl, (blk_cell h 1).trans rfl, (blk_cell h 2).trans rfl⟩
section
variable {P : World → Prop} {w W W2 : World} {α : Type} {d : Kd α} {e base : Nat} {ok : Nat → Prop} {v u : Value} {xs : List α}
theorem hs_step (hb : Below W.heap.size W W2) (h : ∀ V, Below W.heap.size W V → P V) : ∀ V, Below W2.heap.size W2 V → P V := fun V hV => h V (hb.trans (hV.mono hb.size))
theorem hs_drew (h : ∀ V, Below W.heap.size W V → P V) : ∀ V, Below W.drew.heap.size W.drew V → P V := hs_step (below_drew (Below.refl _ _)) h
theorem hs_row (ho : d.R e W base ok v xs) (h : ∀ V, Below W.heap.size W V → P V) : ∀ V, Below W.heap.size W V → d.R e V base ok v xs ∧ P V := fun V hV => ⟨Kd.R_below ho hV, h V hV⟩
theorem hs_box {cs : Array Value} {t : TypeId} (n : Nat) (hn : W.heap.size = n) (h : ∀ V, Below W.heap.size W V → P V) : ∀ V, Below (W.alloc (.cells cs t (0, 0))).heap.size (W.alloc (.cells cs t (0, 0))) V → V.heap[n]? = some (.cells cs t (0, 0)) ∧ P V :=
  fun V hV => ⟨blk_below (by rw [← hn]; exact heap_alloc_new W _) hV, hs_step (below_alloc (Below.refl _ _) _) h V hV⟩
theorem ne_new {α' : Type} {d' : Kd α'} {e' base' : Nat} {ok' : Nat → Prop} {ys : List α'} (hu : d'.R e' W base' ok' u ys) (ho : d.R e W2 W.heap.size ok v xs) : ∀ k, v.ownBlock = some k → u.ownBlock = some k → False :=
  fun k h1 h2 => Nat.lt_irrefl _ (Nat.lt_of_lt_of_le (Kd.R_lt hu k h2) (Kd.R_base ho k h1))
theorem row_tight (hE : d.E = []) (ho : d.R e W2 W.heap.size ok v xs) (hb : Below w.heap.size w W) : d.R e W2 w.heap.size (fun k => some k = v.ownBlock) v xs := Kd.R_tight hE (Kd.R_lower ho hb.size)
theorem row_away (h : d.R e W base (fun k => some k = v.ownBlock) v xs) (hk : Kept W W2 (fun k => some k = u.ownBlock)) (hn : ∀ k, v.ownBlock = some k → u.ownBlock = some k → False) : d.R e W2 base (fun k => some k = v.ownBlock) v xs :=
  Kd.R_step h (fun k ho hlt => hk.2 k hlt (fun hs => hn k ho.symm hs.symm))
theorem row_away' (h : d.R e W base (fun k => some k = v.ownBlock) v xs) (hk : Kept W W2 (fun k => some k = u.ownBlock)) (hn : ∀ k, u.ownBlock = some k → v.ownBlock = some k → False) : d.R e W2 base (fun k => some k = v.ownBlock) v xs :=
  Kd.R_step h (fun k ho hlt => hk.2 k hlt (fun hs => hn k hs.symm ho.symm))
theorem box_away {g t : Nat} {cs : Array Value} (h : W.heap[g]? = some (.cells cs t (0, 0))) (hr : d.R e W base ok u xs) (ht : e ≠ t) (hk : Kept W W2 (fun k => some k = u.ownBlock)) : W2.heap[g]? = some (.cells cs t (0, 0)) := blk_kept h hk (Kd.R_ne hr h ht)
theorem hs_blk {o : Obj} {g : Nat} (hb : W.heap[g]? = some o) (h : ∀ V, Below W.heap.size W V → P V) : ∀ V, Below W.heap.size W V → V.heap[g]? = some o ∧ P V := fun V hV => ⟨blk_below hb hV, h V hV⟩
theorem hs_start (hb : Below w.heap.size w W) : ∀ V, Below W.heap.size W V → Below w.heap.size w V := fun V hV => hb.trans (hV.mono hb.size)
theorem fin_blk {B t : Nat} {a b c : Value} (h : W.heap[B]? = some (.cells #[a, b, c] t (0, 0))) (x y z : Value) : (((W.setCell ⟨B, 0, none⟩ x).setCell ⟨B, 1, none⟩ y).setCell ⟨B, 2, none⟩ z).heap[B]? = some (.cells #[x, y, z] t (0, 0)) :=
  blk_put (blk_put (blk_put h 0 x rfl) 1 y rfl) 2 z rfl
theorem fin_below {B : Nat} (h : Below w.heap.size w W) (hB : w.heap.size ≤ B) (x y z : Value) : Below w.heap.size w (((W.setCell ⟨B, 0, none⟩ x).setCell ⟨B, 1, none⟩ y).setCell ⟨B, 2, none⟩ z) := below_set (below_set (below_set h hB) hB) hB
theorem fin_row {B t : Nat} {cs : Array Value} (hr : d.R e W base ok v xs) (h : W.heap[B]? = some (.cells cs t (0, 0))) (ht : ∀ q, q ∈ e :: d.E → q ≠ t) (x y z : Value) : d.R e (((W.setCell ⟨B, 0, none⟩ x).setCell ⟨B, 1, none⟩ y).setCell ⟨B, 2, none⟩ z) base ok v xs :=
  Kd.R_mono (Kd.R_far (p := ⟨B, 2, none⟩) (Kd.R_far (p := ⟨B, 1, none⟩) (Kd.R_far (p := ⟨B, 0, none⟩) (Kd.R_types hr h ht) (fun _ hk => hk.2) x) (fun _ hk => hk.2) y) (fun _ hk => hk.2) z) (fun _ hk => hk.1)
end
end Go.Proofs.Ytnfiejagokefcaa.LawAid

namespace Go.Proofs.Ytnfiejagokefcaa.P
open Go.RowKit Go.Proofs.YtnfiejagokefcaaW.PrintWords Go.Proofs.YtnfiejagokefcaaW.PrintLast Go.Proofs.Ytnfiejagokefcaa.Wm
attribute [local go_sem] max2_int min2_int max_two min_two
set_option linter.unusedVariables false
set_option linter.unusedSimpArgs false
open Go.Proofs.Ytnfiejagokefcaa.T Go.Proofs.Ytnfiejagokefcaa.Aid Go.Proofs.Ytnfiejagokefcaa.LawAid
set_option maxHeartbeats 1000000 in
theorem turned_clo (q : Sq) (B : Nat) (m : Int) (V : World) (h1 : V.cell? ⟨B, 1, none⟩ = some (.int .i64 m)) :
    Calls Try.prog 71 #[.agg #[.int .i64 q.f0, .int .i64 q.f1, .int .i64 q.f2], .pointer (some ⟨B, 0, none⟩)] V fun e w' => e = .returned (.agg #[.int .i64 (wrap64 (wrap64 (m - q.f1) - q.f2)), .int .i64 q.f0, .int .i64 q.f2]) ∧ Below V.heap.size V w' := by
  have hu := Try.underlying61
  have k1 := ((below_alloc (below_alloc (Below.refl V.heap.size V) (.cells #[.int .i64 q.f0, .int .i64 q.f1, .int .i64 q.f2] 61)) (.cells #[.int .i64 0, .int .i64 0, .int .i64 0] 61)).cell (World.block_lt_of_cell? V _ h1)).trans h1
  have HX := Aside0.mk (heap_alloc_new (V.alloc (.cells #[.int .i64 q.f0, .int .i64 q.f1, .int .i64 q.f2] 61)) (.cells #[.int .i64 (wrap64 (wrap64 (m - q.f1) - q.f2)), .int .i64 q.f0, .int .i64 q.f2] 61))
  rw [show (V.alloc (.cells #[.int .i64 q.f0, .int .i64 q.f1, .int .i64 q.f2] 61)).heap.size = V.heap.size + 1 from by simp] at HX
  clear h1
  go_enter Try.func71, Try.ntmps71
  go_wp2_with fail
  refine bodyPost_ret (results_cell_row rfl _ _ (V.heap.size + 1) 61 #[.int .i64 (wrap64 (wrap64 (m - q.f1) - q.f2)), .int .i64 q.f0, .int .i64 q.f2] (0, 0) _ rfl HX.out Try.underlying61 rfl (by kernel_rfl)) rfl ?_
  exact ⟨rfl, below_alloc (below_alloc (Below.refl _ _) _) _⟩
def impl_Cut_turned.f (a0_0 a0_1 : Int) (l0_2 : List Sq) : Option (Int × Int × List Sq) := if isCutB a0_0 a0_1 l0_2 = true then some (a0_1, a0_0, turnL a0_1 l0_2) else none
set_option maxHeartbeats 4000000 in
theorem impl_Cut_turned.calls (a0_0 a0_1 : Int) (A0_2 : Option Addr) (c0_2 : Nat) (l0_2 : List Sq) (r1 r2 : Int) (r3 : List Sq) (w : World) (hr0_2 : Kd.C k61 w A0_2 l0_2.length l0_2) (hc0_2 : l0_2.length ≤ c0_2) (h : impl_Cut_turned.f a0_0 a0_1 l0_2 = some (r1, r2, r3)) :
    Calls Try.prog 57 #[.agg #[.int .i64 a0_0, .int .i64 a0_1, .slice A0_2 l0_2.length c0_2]] w fun e w' => ∃ v2_ : Value, e = .returned (.agg #[.int .i64 r1, .int .i64 r2, v2_]) ∧ Kd.R k61 61 w' w.heap.size (fun _ => True) v2_ r3 ∧ Below w.heap.size w w' := by
  unfold impl_Cut_turned.f at h
  by_cases hg : isCutB a0_0 a0_1 l0_2 = true
  · rw [if_pos hg] at h
    have g : Go.Proofs.Ytnfiejagokefcaa.T.Good a0_0 a0_1 l0_2 := goodB_iff.1 (by rw [← Go.Proofs.Ytnfiejagokefcaa.Pure.isCutB_good]; exact hg)
    obtain ⟨rfl, rfl, h3⟩ : a0_1 = r1 ∧ a0_0 = r2 ∧ turnL a0_1 l0_2 = r3 := by simpa using h
    have H3 := Aside0.mk h3
    have hw := g.w
    have hh := g.h
    have hbox : ∀ q ∈ l0_2, inBox a0_0 a0_1 q := g.box
    have HX := Aside0.mk (heap_alloc_new (w.alloc (.cells #[.int .i64 a0_0, .int .i64 a0_1, .slice A0_2 l0_2.length c0_2] 31)) (.cells #[.int .i64 0, .int .i64 0, .slice none 0 0] 31))
    rw [show (w.alloc (.cells #[.int .i64 a0_0, .int .i64 a0_1, .slice A0_2 l0_2.length c0_2] 31)).heap.size = w.heap.size + 1 from by simp] at HX
    have HY := Aside0.mk (blk_alloc (heap_alloc_new w (.cells #[.int .i64 a0_0, .int .i64 a0_1, .slice A0_2 l0_2.length c0_2] 31)) (.cells #[.int .i64 0, .int .i64 0, .slice none 0 0] 31))
    have HB := Aside0.mk (below_alloc (below_alloc (Below.refl w.heap.size w) (.cells #[.int .i64 a0_0, .int .i64 a0_1, .slice A0_2 l0_2.length c0_2] 31)) (.cells #[.int .i64 0, .int .i64 0, .slice none 0 0] 31))
    have HCALL := Aside0.mk (changed_calls a0_0 a0_1 a0_1 a0_0 A0_2 c0_2 l0_2 71 #[.pointer (some ⟨w.heap.size, 0, none⟩)] (turnS a0_1) _ (Kd.C_below hr0_2 HB.out) hc0_2 g.pos (Nat.le_trans g.len (by omega)) (fun q hq => by
      have hb := hbox q hq
      unfold inBox at hb
      refine okQ_iff.2 ?_
      unfold turnS
      simp only
      omega) g.turn.lt (enters_of Try.func71 (by kernel_rfl) rfl) (fun V q hV hq => by
      have hb := hbox q hq
      unfold inBox at hb
      have hc := turned_clo q w.heap.size a0_1 V ((blk_cell (blk_below HY.out hV) 1).trans rfl)
      have e : wrap64 (wrap64 (a0_1 - q.f1) - q.f2) = a0_1 - q.f1 - q.f2 := by rw [w64 (e := a0_1 - q.f1) (by omega) (by omega), w64 (e := a0_1 - q.f1 - q.f2) (by omega) (by omega)]
      rw [e] at hc
      exact hc))
    have hu2 := Try.underlying31
    clear h h3 g hw hh hbox hr0_2 hc0_2 hg
    go_enter Try.func57, Try.ntmps57
    go_wp2_with (go_at_call 66; refine HCALL.out.mono ?_; rintro e w1 ⟨v, rfl, ho, hb⟩; obtain ⟨A1, c1, e1⟩ := Kd.R_slice ho; subst e1; have HR := Aside0.mk (Kd.R_lower ho HB.out.size); have HB1 := Aside0.mk (below_step HB.out hb); have HX1 := Aside0.mk (blk_below HX.out hb); have n0 : w1.cell? ⟨w.heap.size + 1, 0, none⟩ = some (.int .i64 0) := (blk_cell HX1.out 0).trans rfl; have n1 : w1.cell? ⟨w.heap.size + 1, 1, none⟩ = some (.int .i64 0) := (blk_cell HX1.out 1).trans rfl; have n2 : w1.cell? ⟨w.heap.size + 1, 2, none⟩ = some (.slice none 0 0) := (blk_cell HX1.out 2).trans rfl; have f0 := blk_frozen HX1.out 0; have f1 := blk_frozen HX1.out 1; have f2 := blk_frozen HX1.out 2; clear ho hb)
    refine bodyPost_ret (results_cell_row rfl _ _ (w.heap.size + 1) 31 _ (0, 0) _ rfl (fin_blk HX1.out _ _ _) Try.underlying31 rfl (by kernel_rfl)) rfl ?_
    exact ⟨_, rfl, by rw [← H3.out]; exact fin_row HR.out HX1.out (by decide) _ _ _, fin_below HB1.out (Nat.le_succ _) _ _ _⟩
  · rw [if_neg hg] at h; cases h
end Go.Proofs.Ytnfiejagokefcaa.P

namespace Go.Proofs.Ytnfiejagokefcaa.P
open Go.RowKit Go.Proofs.YtnfiejagokefcaaW.PrintWords Go.Proofs.YtnfiejagokefcaaW.PrintLast Go.Proofs.Ytnfiejagokefcaa.Wm
attribute [local go_sem] max2_int min2_int max_two min_two
set_option linter.unusedVariables false
set_option linter.unusedSimpArgs false
def impl_Cut_back.f (a0_0 : Int) (a0_1 : Int) (l0_2 : List (S61)) : Option (Int × Int × (List (S61))) := (impl_Cut_turned.f a0_0 a0_1 l0_2).bind fun bt103 => ((impl_Cut_turned.f bt103.1 bt103.2.1 bt103.2.2).bind fun bt108 => ((impl_Cut_turned.f bt108.1 bt108.2.1 bt108.2.2).bind fun bt113 => (some (bt113.1, bt113.2.1, bt113.2.2))))
set_option maxHeartbeats 8000000 in
set_option maxRecDepth 100000 in
theorem impl_Cut_back.calls (a0_0 : Int) (a0_1 : Int) (A0_2 : Option Addr) (c0_2 : Nat) (l0_2 : List (S61)) (r1 : Int) (r2 : Int) (r3 : List (S61)) (w : World) (hr0_2 : Kd.C k61 w A0_2 l0_2.length l0_2) (hc0_2 : l0_2.length ≤ c0_2) (h : impl_Cut_back.f a0_0 a0_1 l0_2 = some (r1, r2, r3)) :
    Calls Try.prog 34 #[.agg #[.int .i64 a0_0, .int .i64 a0_1, .slice A0_2 l0_2.length c0_2]] w fun e w' => ∃ v2_ : Value, e = .returned (.agg #[.int .i64 r1, .int .i64 r2, v2_]) ∧ Kd.R k61 61 w' w.heap.size (fun _ => True) v2_ r3 ∧ Below w.heap.size w w' := by
  have hu31 := Try.underlying31
  have HR0_2 := Aside0.mk hr0_2
  have HC0_2 := Aside0.mk hc0_2
  clear hr0_2 hc0_2
  have HB := Aside0.mk (Below.refl w.heap.size w)
  have H : ((impl_Cut_turned.f a0_0 a0_1 l0_2).bind fun bt103 => ((impl_Cut_turned.f bt103.1 bt103.2.1 bt103.2.2).bind fun bt108 => ((impl_Cut_turned.f bt108.1 bt108.2.1 bt108.2.2).bind fun bt113 => (some (bt113.1, bt113.2.1, bt113.2.2))))) = some (r1, r2, r3) := h
  clear h
  replace H := Option.bind_eq_some_iff.mp H
  obtain ⟨⟨t103, t104, t105⟩, A20, H⟩ := H
  replace H : ((impl_Cut_turned.f t103 t104 t105).bind fun bt108 => ((impl_Cut_turned.f bt108.1 bt108.2.1 bt108.2.2).bind fun bt113 => (some (bt113.1, bt113.2.1, bt113.2.2)))) = some (r1, r2, r3) := H
  have A2 := Aside0.mk A20
  clear A20
  replace H := Option.bind_eq_some_iff.mp H
  obtain ⟨⟨t108, t109, t110⟩, A30, H⟩ := H
  replace H : ((impl_Cut_turned.f t108 t109 t110).bind fun bt113 => (some (bt113.1, bt113.2.1, bt113.2.2))) = some (r1, r2, r3) := H
  have A3 := Aside0.mk A30
  clear A30
  replace H := Option.bind_eq_some_iff.mp H
  obtain ⟨⟨t113, t114, t115⟩, A40, H⟩ := H
  replace H : (some (t113, t114, t115)) = some (r1, r2, r3) := H
  have A4 := Aside0.mk A40
  clear A40
  simp only [Option.some.injEq, Prod.mk.injEq] at H
  obtain ⟨rfl, rfl, rfl⟩ := H
  go_enter Try.func34, Try.ntmps34
  go_wp2_with (first | ((with_reducible refine gate_dst (N := 1) rfl ?_); refine box_event ?hg (N := 1) ?hd (cs := #[.int .i64 a0_0, .int .i64 a0_1, .slice A0_2 l0_2.length c0_2]) (t := 31) ?hr ?_; (case hd => rfl); (case hg => rfl); (case hr => first | (go_simp; done) | (go_simp; rfl)); intro gb101 hg w5 hbox hb; have n0_ := Aside0.mk (below_step (by repeat (first | (with_reducible first | exact HB.out | apply below_alloc | apply pw_below_drewN | apply below_drew1) | exact HB.out)) hb); have n1_ := Aside0.mk (hbox); have n2_ := Aside0.mk ((by rw [hg]; exact (below_size (by repeat (first | (with_reducible first | exact HB.out | apply below_alloc | apply pw_below_drewN | apply below_drew1) | exact HB.out))) : w.heap.size ≤ gb101)); have n3_ := Aside0.mk ((by rw [hg]; exact (below_size (by repeat (first | (with_reducible first | exact HB.out | apply below_alloc | apply pw_below_drewN | apply below_drew1) | exact HB.out))) : w.heap.size ≤ gb101)); clear HB; have HB := n0_; have BK101 := n1_; have GW101 := n2_; have GE101 := n3_; clear n0_ n1_ n2_ n3_; clear hb hbox hg) | ((with_reducible refine gate_dst (N := 2) rfl ?_); refine box_event ?hg (N := 2) ?hd (cs := #[.int .i64 0, .int .i64 0, .slice none 0 0]) (t := 31) ?hr ?_; (case hd => rfl); (case hg => rfl); (case hr => first | (go_simp; done) | (go_simp; rfl)); intro gb102 hg w6 hbox hb; have n0_ := Aside0.mk (blk_below (g := gb101) (o := .cells #[.int .i64 a0_0, .int .i64 a0_1, .slice A0_2 l0_2.length c0_2] 31 (0, 0)) (by (with_reducible repeat (first | refine blk_drewN ?_ _ | refine blk_drew ?_ | refine blk_alloc ?_ _)); exact BK101.out) hb); have n1_ := Aside0.mk (below_step (by repeat (first | (with_reducible first | exact HB.out | apply below_alloc | apply pw_below_drewN | apply below_drew1 | refine below_set ?_ GE101.out) | exact HB.out)) hb); have n2_ := Aside0.mk (hbox); have n3_ := Aside0.mk ((by rw [hg]; exact (below_size (by repeat (first | (with_reducible first | exact HB.out | apply below_alloc | apply pw_below_drewN | apply below_drew1 | refine below_set ?_ GE101.out) | exact HB.out))) : w.heap.size ≤ gb102)); have n4_ := Aside0.mk ((by rw [hg]; exact (below_size (by repeat (first | (with_reducible first | exact HB.out | apply below_alloc | apply pw_below_drewN | apply below_drew1 | refine below_set ?_ GE101.out) | exact HB.out))) : w.heap.size ≤ gb102)); have n5_ := Aside0.mk ((by rw [hg]; exact Nat.ne_of_lt (blk_lt (g := gb101) (o := .cells #[.int .i64 a0_0, .int .i64 a0_1, .slice A0_2 l0_2.length c0_2] 31 (0, 0)) (by (with_reducible repeat (first | refine blk_drewN ?_ _ | refine blk_drew ?_ | refine blk_alloc ?_ _)); exact BK101.out)) : gb101 ≠ gb102)); have n6_ := Aside0.mk ((by rw [hg]; exact Nat.ne_of_gt (blk_lt (g := gb101) (o := .cells #[.int .i64 a0_0, .int .i64 a0_1, .slice A0_2 l0_2.length c0_2] 31 (0, 0)) (by (with_reducible repeat (first | refine blk_drewN ?_ _ | refine blk_drew ?_ | refine blk_alloc ?_ _)); exact BK101.out)) : gb102 ≠ gb101)); clear BK101; clear HB; have BK101 := n0_; have HB := n1_; have BK102 := n2_; have GW102 := n3_; have GE102 := n4_; have NB101_102 := n5_; have NB102_101 := n6_; clear n0_ n1_ n2_ n3_ n4_ n5_ n6_; clear hb hbox hg; have hnb7 := NB101_102.out; have hnc7 := NB102_101.out; have hcz8_0 : w6.cell? ⟨gb101, 0, none⟩ = some (.int .i64 a0_0) := (blk_cell BK101.out 0).trans rfl; have hcz8_1 : w6.cell? ⟨gb101, 1, none⟩ = some (.int .i64 a0_1) := (blk_cell BK101.out 1).trans rfl; have hcz8_2 : w6.cell? ⟨gb101, 2, none⟩ = some (.slice A0_2 l0_2.length c0_2) := (blk_cell BK101.out 2).trans rfl; have hfz8_0 := blk_frozen BK101.out 0; have hfz8_1 := blk_frozen BK101.out 1; have hfz8_2 := blk_frozen BK101.out 2) | ((with_reducible refine gate_callee (f := 57) rfl ?_); refine goesL_ (some 4) rfl rfl Try.func57 (by kernel_rfl) rfl #[.agg #[.int .i64 a0_0, .int .i64 a0_1, .slice A0_2 l0_2.length c0_2]] rfl (by (try simp only [List.map_toArray, List.map_cons, List.map_nil]); first | done | rfl | (simp only [List.length_drop, List.length_take]; rfl)) ?_; (with_reducible refine (impl_Cut_turned.calls a0_0 a0_1 _ _ l0_2 t103 t104 t105 _ ?side1 ?side2 A2.out).mono ?_); (case side1 => repeat (first | exact (Kd.C_below HR0_2.out HB.out) | (with_reducible refine Kd.C_alloc ?_ _) | (with_reducible refine Kd.C_drewN ?_ _) | (with_reducible refine Kd.C_drew ?_))); (case side2 => exact HC0_2.out); rintro e w9 ⟨v106, rfl, ho0, hb⟩; refine ⟨_, rfl, ?_⟩; have n0_ := Aside0.mk (Kd.R_lower ho0 (below_size (by repeat (first | (with_reducible first | exact HB.out | apply below_alloc | apply pw_below_drewN | apply below_drew1 | refine below_set ?_ GE101.out | refine below_set ?_ GE102.out) | exact HB.out)))); have n1_ := Aside0.mk (blk_below (g := gb101) (o := .cells #[.int .i64 a0_0, .int .i64 a0_1, .slice A0_2 l0_2.length c0_2] 31 (0, 0)) (by (with_reducible repeat (first | refine blk_drewN ?_ _ | refine blk_drew ?_ | refine blk_alloc ?_ _)); exact BK101.out) hb); have n2_ := Aside0.mk (blk_below (g := gb102) (o := .cells #[.int .i64 0, .int .i64 0, .slice none 0 0] 31 (0, 0)) (by (with_reducible repeat (first | refine blk_drewN ?_ _ | refine blk_drew ?_ | refine blk_alloc ?_ _)); exact BK102.out) hb); have n3_ := Aside0.mk (below_step (by repeat (first | (with_reducible first | exact HB.out | apply below_alloc | apply pw_below_drewN | apply below_drew1 | refine below_set ?_ GE101.out | refine below_set ?_ GE102.out) | exact HB.out)) hb); clear BK101; clear BK102; clear HB; have HO107 := n0_; have BK101 := n1_; have BK102 := n2_; have HB := n3_; clear n0_ n1_ n2_ n3_; (try clear hb); (try clear hb2); (try clear hk); (try clear hi); (try clear ho0); obtain ⟨Ao10, co10, eo10⟩ := Kd.R_slice HO107.out; subst eo10) | ((with_reducible refine gate_callee (f := 57) rfl ?_); refine goesL_ (some 5) rfl rfl Try.func57 (by kernel_rfl) rfl #[.agg #[.int .i64 t103, .int .i64 t104, .slice Ao10 t105.length co10]] rfl (by (try simp only [List.map_toArray, List.map_cons, List.map_nil]); first | done | rfl | (simp only [List.length_drop, List.length_take]; rfl)) ?_; (with_reducible refine (impl_Cut_turned.calls t103 t104 _ _ t105 t108 t109 t110 _ ?side1 ?side2 A3.out).mono ?_); (case side1 => repeat (first | exact (Kd.R_reads' HO107.out).2.2 | (with_reducible refine Kd.C_alloc ?_ _) | (with_reducible refine Kd.C_drewN ?_ _) | (with_reducible refine Kd.C_drew ?_))); (case side2 => exact (Kd.R_reads' HO107.out).2.1); rintro e w11 ⟨v111, rfl, ho0, hb⟩; refine ⟨_, rfl, ?_⟩; have n0_ := Aside0.mk (Kd.R_elder' (by (with_reducible repeat (first | apply Kd.R_alloc | apply Kd.R_drewN | apply Kd.R_drew)); exact HO107.out) (Kd.R_base ho0) hb); have n1_ := Aside0.mk (Kd.R_lower (Kd.R_new' ho0 (Kd.R_lt (by (with_reducible repeat (first | apply Kd.R_alloc | apply Kd.R_drewN | apply Kd.R_drew)); exact HO107.out))) (below_size (by repeat (first | (with_reducible first | exact HB.out | apply below_alloc | apply pw_below_drewN | apply below_drew1 | refine below_set ?_ GE101.out | refine below_set ?_ GE102.out) | exact HB.out)))); have n2_ := Aside0.mk (blk_below (g := gb101) (o := .cells #[.int .i64 a0_0, .int .i64 a0_1, .slice A0_2 l0_2.length c0_2] 31 (0, 0)) (by (with_reducible repeat (first | refine blk_drewN ?_ _ | refine blk_drew ?_ | refine blk_alloc ?_ _)); exact BK101.out) hb); have n3_ := Aside0.mk (blk_below (g := gb102) (o := .cells #[.int .i64 0, .int .i64 0, .slice none 0 0] 31 (0, 0)) (by (with_reducible repeat (first | refine blk_drewN ?_ _ | refine blk_drew ?_ | refine blk_alloc ?_ _)); exact BK102.out) hb); have n4_ := Aside0.mk (below_step (by repeat (first | (with_reducible first | exact HB.out | apply below_alloc | apply pw_below_drewN | apply below_drew1 | refine below_set ?_ GE101.out | refine below_set ?_ GE102.out) | exact HB.out)) hb); clear HO107; clear BK101; clear BK102; clear HB; have HO107 := n0_; have HO112 := n1_; have BK101 := n2_; have BK102 := n3_; have HB := n4_; clear n0_ n1_ n2_ n3_ n4_; (try clear hb); (try clear hb2); (try clear hk); (try clear hi); (try clear ho0); obtain ⟨Ao12, co12, eo12⟩ := Kd.R_slice HO112.out; subst eo12) | ((with_reducible refine gate_callee (f := 57) rfl ?_); refine goesL_ (some 6) rfl rfl Try.func57 (by kernel_rfl) rfl #[.agg #[.int .i64 t108, .int .i64 t109, .slice Ao12 t110.length co12]] rfl (by (try simp only [List.map_toArray, List.map_cons, List.map_nil]); first | done | rfl | (simp only [List.length_drop, List.length_take]; rfl)) ?_; (with_reducible refine (impl_Cut_turned.calls t108 t109 _ _ t110 t113 t114 t115 _ ?side1 ?side2 A4.out).mono ?_); (case side1 => repeat (first | exact (Kd.R_reads' HO112.out).2.2 | (with_reducible refine Kd.C_alloc ?_ _) | (with_reducible refine Kd.C_drewN ?_ _) | (with_reducible refine Kd.C_drew ?_))); (case side2 => exact (Kd.R_reads' HO112.out).2.1); rintro e w13 ⟨v116, rfl, ho0, hb⟩; refine ⟨_, rfl, ?_⟩; have n0_ := Aside0.mk (Kd.R_elder' (by (with_reducible repeat (first | apply Kd.R_alloc | apply Kd.R_drewN | apply Kd.R_drew)); exact HO107.out) (Kd.R_base ho0) hb); have n1_ := Aside0.mk (Kd.R_elder' (by (with_reducible repeat (first | apply Kd.R_alloc | apply Kd.R_drewN | apply Kd.R_drew)); exact HO112.out) (Kd.R_base ho0) hb); have n2_ := Aside0.mk (Kd.R_lower (Kd.R_new' (Kd.R_new' ho0 (Kd.R_lt (by (with_reducible repeat (first | apply Kd.R_alloc | apply Kd.R_drewN | apply Kd.R_drew)); exact HO107.out))) (Kd.R_lt (by (with_reducible repeat (first | apply Kd.R_alloc | apply Kd.R_drewN | apply Kd.R_drew)); exact HO112.out))) (below_size (by repeat (first | (with_reducible first | exact HB.out | apply below_alloc | apply pw_below_drewN | apply below_drew1 | refine below_set ?_ GE101.out | refine below_set ?_ GE102.out) | exact HB.out)))); have n3_ := Aside0.mk (blk_below (g := gb101) (o := .cells #[.int .i64 a0_0, .int .i64 a0_1, .slice A0_2 l0_2.length c0_2] 31 (0, 0)) (by (with_reducible repeat (first | refine blk_drewN ?_ _ | refine blk_drew ?_ | refine blk_alloc ?_ _)); exact BK101.out) hb); have n4_ := Aside0.mk (blk_below (g := gb102) (o := .cells #[.int .i64 0, .int .i64 0, .slice none 0 0] 31 (0, 0)) (by (with_reducible repeat (first | refine blk_drewN ?_ _ | refine blk_drew ?_ | refine blk_alloc ?_ _)); exact BK102.out) hb); have n5_ := Aside0.mk (below_step (by repeat (first | (with_reducible first | exact HB.out | apply below_alloc | apply pw_below_drewN | apply below_drew1 | refine below_set ?_ GE101.out | refine below_set ?_ GE102.out) | exact HB.out)) hb); clear HO107; clear HO112; clear BK101; clear BK102; clear HB; have HO107 := n0_; have HO112 := n1_; have HO117 := n2_; have BK101 := n3_; have BK102 := n4_; have HB := n5_; clear n0_ n1_ n2_ n3_ n4_ n5_; (try clear hb); (try clear hb2); (try clear hk); (try clear hi); (try clear ho0); have hcz14_0 : w13.cell? ⟨gb102, 0, none⟩ = some (.int .i64 0) := (blk_cell BK102.out 0).trans rfl; have hcz14_1 : w13.cell? ⟨gb102, 1, none⟩ = some (.int .i64 0) := (blk_cell BK102.out 1).trans rfl; have hcz14_2 : w13.cell? ⟨gb102, 2, none⟩ = some (.slice none 0 0) := (blk_cell BK102.out 2).trans rfl; have hfz14_0 := blk_frozen BK102.out 0; have hfz14_1 := blk_frozen BK102.out 1; have hfz14_2 := blk_frozen BK102.out 2; obtain ⟨Ao15, co15, eo15⟩ := Kd.R_slice HO117.out; subst eo15))
  refine bodyPost_ret (results_cell_row rfl _ _ gb102 31 #[.int .i64 t113, .int .i64 t114, .slice Ao15 t115.length co15] (0, 0) _ rfl (by (with_reducible repeat (first | refine blk_drewN ?_ _ | refine blk_drew ?_ | refine blk_alloc ?_ _)); refine blk_put (cs := #[.int .i64 t113, .int .i64 t114, .slice none 0 0]) ?_ 2 _ rfl; (with_reducible repeat (first | refine blk_drewN ?_ _ | refine blk_drew ?_ | refine blk_alloc ?_ _)); refine blk_put (cs := #[.int .i64 t113, .int .i64 0, .slice none 0 0]) ?_ 1 _ rfl; (with_reducible repeat (first | refine blk_drewN ?_ _ | refine blk_drew ?_ | refine blk_alloc ?_ _)); refine blk_put (cs := #[.int .i64 0, .int .i64 0, .slice none 0 0]) ?_ 0 _ rfl; (with_reducible repeat (first | refine blk_drewN ?_ _ | refine blk_drew ?_ | refine blk_alloc ?_ _)); exact BK102.out) Try.underlying31 rfl (by kernel_rfl)) rfl ?_
  exact ⟨_, by first | rfl | (simp [errW_none, errW_some] <;> rfl) | (simp [*, errW_none, errW_some] <;> rfl), by (with_reducible repeat (first | apply Kd.R_alloc | apply Kd.R_drewN | apply Kd.R_drew)); exact Kd.R_mono (Kd.R_far (p := ⟨gb102, 2, none⟩) (Kd.R_far (p := ⟨gb102, 1, none⟩) (Kd.R_far (p := ⟨gb102, 0, none⟩) (Kd.R_types HO117.out BK102.out (by decide)) (fun _ hk => hk.2) (.int .i64 t113)) (fun _ hk => hk.2) (.int .i64 t114)) (fun _ hk => hk.2) (.slice Ao15 t115.length co15)) (fun _ hk => trivial), by repeat (first | (with_reducible first | exact HB.out | apply below_alloc | apply pw_below_drewN | apply below_drew1 | refine below_set ?_ GE101.out | refine below_set ?_ GE102.out) | exact HB.out)⟩
end Go.Proofs.Ytnfiejagokefcaa.P

namespace Go.Proofs.Ytnfiejagokefcaa.P
open Go.RowKit Go.Proofs.YtnfiejagokefcaaW.PrintWords Go.Proofs.YtnfiejagokefcaaW.PrintLast Go.Proofs.Ytnfiejagokefcaa.Wm
attribute [local go_sem] max2_int min2_int max_two min_two
set_option linter.unusedVariables false
set_option linter.unusedSimpArgs false
open Go.Proofs.Ytnfiejagokefcaa.T Go.Proofs.Ytnfiejagokefcaa.Aid
def lineOk (l : List Sq) (x : Int) : Bool := !(l.any fun q => decide (q.f0 < x) && decide (x < wrap64 (q.f0 + q.f2)))
def linesTo (l : List Sq) : Nat → List Int
  | 0 => []
  | n + 1 => linesTo l n ++ if lineOk l (n + 1 : Nat) = true then [((n + 1 : Nat) : Int)] else []
theorem linesTo_len (l : List Sq) : ∀ n, (linesTo l n).length ≤ n
  | 0 => Nat.le_refl _
  | n + 1 => by
    have := linesTo_len l n
    simp only [linesTo, List.length_append]
    split <;> simp <;> omega
theorem lines_clo (q : Sq) (x : Int) (B : Nat) (w : World) (hc : w.cell? ⟨B, 0, none⟩ = some (.int .i64 x)) (hB : B < w.heap.size) :
    Calls Try.prog 58 #[.agg #[.int .i64 q.f0, .int .i64 q.f1, .int .i64 q.f2], .pointer (some ⟨B, 0, none⟩)] w fun e w' => e = .returned (.bool (decide (q.f0 < x) && decide (x < wrap64 (q.f0 + q.f2)))) ∧ Below w.heap.size w w' := by
  have hne : B ≠ w.heap.size := by omega
  have hu := Try.underlying61
  by_cases c1 : q.f0 < x
  · have c1z : decide (q.f0 < x) = true := decide_eq_true c1
    have HE : Aside0 ((decide (q.f0 < x) && decide (x < wrap64 (q.f0 + q.f2))) = decide (x < wrap64 (q.f0 + q.f2))) := ⟨by rw [c1z]; rfl⟩
    rw [HE.out]
    clear HE
    go_enter Try.func58, Try.ntmps58
    go_wp2_with fail
    go_ret
    exact ⟨rfl, (Below.refl _ _).alloc (Nat.le_refl _) _⟩
  · have c1z : decide (q.f0 < x) = false := decide_eq_false c1
    have HE : Aside0 ((decide (q.f0 < x) && decide (x < wrap64 (q.f0 + q.f2))) = false) := ⟨by rw [c1z]; rfl⟩
    rw [HE.out]
    clear HE
    go_enter Try.func58, Try.ntmps58
    go_wp2_with fail
    go_ret
    exact ⟨rfl, (Below.refl _ _).alloc (Nat.le_refl _) _⟩
theorem lines_next {w V : World} {B : Nat} {v : Value} {ls : List Int} {y : Int} {cut : Obj} (hbe : Below w.heap.size w V) (ht : V.heap[w.heap.size]? = some cut) (hr : Kd.R (Kd.int .i64) 3 V w.heap.size (fun k => k ≠ B) v ls) :
    (V.alloc (.cells #[.int .i64 y] 3)).heap[V.heap.size]? = some (.cells #[.int .i64 y] 3 (0, 0)) ∧ (V.alloc (.cells #[.int .i64 y] 3)).heap[w.heap.size]? = some cut ∧
    Kd.R (Kd.int .i64) 3 (V.alloc (.cells #[.int .i64 y] 3)) w.heap.size (fun k => k ≠ V.heap.size) v ls ∧ Below w.heap.size w (V.alloc (.cells #[.int .i64 y] 3)) := by
  have h1 : Kd.R (Kd.int .i64) 3 V w.heap.size (fun k => k ≠ V.heap.size) v ls := Kd.R_mono (Kd.R_bound hr) (fun k hk => Nat.ne_of_lt hk.2.2.1)
  exact ⟨heap_alloc_new V _, blk_alloc ht _, Kd.R_alloc h1 _, hbe.alloc hbe.size _⟩
def impl_Cut_linesDown.f (a0_0 : Int) (a0_1 : Int) (l0_2 : List Sq) : Option (List Int) := if 1 ≤ a0_0 ∧ a0_0 ≤ 1000 then some (linesTo l0_2 (a0_0.toNat - 1)) else none
set_option maxHeartbeats 4000000 in
set_option maxRecDepth 100000 in
theorem impl_Cut_linesDown.calls (a0_0 : Int) (a0_1 : Int) (A0_2 : Option Addr) (c0_2 : Nat) (l0_2 : List Sq) (r : List Int) (w : World) (hr0_2 : Kd.C k61 w A0_2 l0_2.length l0_2) (hc0_2 : l0_2.length ≤ c0_2) (h : impl_Cut_linesDown.f a0_0 a0_1 l0_2 = some r) :
    Calls Try.prog 35 #[.agg #[.int .i64 a0_0, .int .i64 a0_1, .slice A0_2 l0_2.length c0_2]] w fun e w' => ∃ v0_ : Value, e = .returned v0_ ∧ Kd.R (Kd.int .i64) 3 w' w.heap.size (fun _ => True) v0_ r ∧ Below w.heap.size w w' := by
  unfold impl_Cut_linesDown.f at h
  by_cases hr : 1 ≤ a0_0 ∧ a0_0 ≤ 1000
  · rw [if_pos hr] at h
    obtain ⟨W, rfl⟩ : ∃ W : Nat, a0_0 = W := ⟨a0_0.toNat, by omega⟩
    rw [Int.toNat_natCast] at h
    have HRES := Aside0.mk (Option.some.inj h)
    have HC := Aside0.mk hr0_2
    have eg : ∀ args w, (callFunc 58 args).run Try.prog w = .ok (.enter 58 args) w := enters_of Try.func58 (by kernel_rfl) rfl
    have HCF : Aside0 (∀ (V : World) (B : Nat) (x : Int), Below w.heap.size w V → V.heap[B]? = some (.cells #[.int .i64 x] 3 (0, 0)) → Calls Try.prog 54 #[.slice A0_2 l0_2.length c0_2, .func (.func 58) #[] #[.pointer (some ⟨B, 0, none⟩)]] V fun e w' => e = .returned (.bool (!lineOk l0_2 x)) ∧ Below V.heap.size V w') := ⟨fun V B x hV hB => by
      have hBV := blk_lt hB
      have he : (!lineOk l0_2 x) = l0_2.any fun q => decide (q.f0 < x) && decide (x < wrap64 (q.f0 + q.f2)) := by unfold lineOk; rw [Bool.not_not]
      rw [he]
      refine slices_ContainsFunc_sq l0_2 A0_2 c0_2 58 _ (fun q => decide (q.f0 < x) && decide (x < wrap64 (q.f0 + q.f2))) V (Kd.C_below hr0_2 hV) hc0_2 eg (fun V' q hV' => ?_)
      refine (lines_clo q x B V' ((hV'.cell (p := ⟨B, 0, none⟩) hBV).trans ((blk_cell hB 0).trans rfl)) (Nat.lt_of_lt_of_le hBV hV'.size)).mono ?_
      rintro e w' ⟨rfl, hb'⟩
      exact ⟨rfl, hV'.trans (hb'.mono hV'.size)⟩⟩
    clear h hr0_2
    have hu2 := Try.underlying31
    go_enter Try.func35, Try.ntmps35
    go_wp2_with fail
    go_loopg [3, 4] W (fun kq v3 v4 wc => ∃ (n B : Nat), n + 1 ≤ W ∧ W - (n + 1) ≤ kq ∧ v4 = .pointer (some ⟨B, 0, none⟩) ∧ Aside0 (wc.heap[B]? = some (.cells #[.int .i64 ((n + 1 : Nat) : Int)] 3 (0, 0))) ∧ Aside0 (wc.heap[w.heap.size]? = some (.cells #[.int .i64 (W : Int), .int .i64 a0_1, .slice A0_2 l0_2.length c0_2] 31 (0, 0))) ∧ Aside0 (w.heap.size ≤ B) ∧ Aside0 (Kd.R (Kd.int .i64) 3 wc w.heap.size (fun k => k ≠ B) v3 (linesTo l0_2 n)) ∧ Aside0 (Below w.heap.size w wc))
    case atStart =>
      have HS1 : (w.alloc (.cells #[.int .i64 (W : Int), .int .i64 a0_1, .slice A0_2 l0_2.length c0_2] 31)).heap.size = w.heap.size + 1 := by simp
      refine ⟨0, w.heap.size + 1 + 1, by omega, by omega, rfl, ⟨?_⟩, ⟨blk_alloc (blk_alloc (heap_alloc_new w _) _) _⟩, ⟨by omega⟩, ⟨?_⟩, ⟨by repeat (first | exact Below.refl _ _ | apply below_alloc)⟩⟩
      · have := heap_alloc_new ((w.alloc (.cells #[.int .i64 (W : Int), .int .i64 a0_1, .slice A0_2 l0_2.length c0_2] 31)).alloc (.cells #[] 3)) (.cells #[.int .i64 1] 3)
        simpa using this
      · refine Kd.R_alloc ?_ _
        rw [← HS1]
        exact ⟨fun k hk => by simp [Value.ownBlock] at hk; omega, [], World.ownsRow_lit (base := w.heap.size) (e := 3) (size := 1) (w.alloc (.cells #[.int .i64 (W : Int), .int .i64 a0_1, .slice A0_2 l0_2.length c0_2] 31)) #[] 0 (by rw [HS1]; omega) (by simp [maxLen]) (by simp), Reps.none _ _⟩
    case round =>
      obtain ⟨n, B, hn1, hkq, rfl, HB, HT, HBB, HR, HBE⟩ := hrel
      have HLN := Aside0.mk (linesTo_len l0_2 n)
      obtain ⟨ls, hls⟩ : ∃ ls, linesTo l0_2 n = ls := ⟨_, rfl⟩
      rw [hls] at HLN HR
      have HLS := Aside0.mk hls
      clear hls
      obtain ⟨A3, k3, e3⟩ := Kd.R_slice HR.out
      subst e3
      obtain ⟨x, hx⟩ : ∃ x : Int, ((n + 1 : Nat) : Int) = x := ⟨_, rfl⟩
      rw [hx] at HB
      have HX := Aside0.mk hx
      have hxW : (n + 1 < W → decide (x < (W : Int)) = true) ∧ (¬ n + 1 < W → decide (x < (W : Int)) = false) := ⟨fun h => decide_eq_true (by omega), fun h => decide_eq_false (by omega)⟩
      have HXW := Aside0.mk hxW
      clear hx hxW
      have c1 : wr.cell? ⟨B, 0, none⟩ = some (.int .i64 x) := (blk_cell HB.out 0).trans rfl
      have t0 : wr.cell? ⟨w.heap.size, 0, none⟩ = some (.int .i64 (W : Int)) := (blk_cell HT.out 0).trans rfl
      have t2 : wr.cell? ⟨w.heap.size, 2, none⟩ = some (.slice A0_2 l0_2.length c0_2) := (blk_cell HT.out 2).trans rfl
      by_cases hlt : n + 1 < W
      · have hlz := HXW.out.1 hlt
        have HCX := Aside0.mk (HCF.out wr B x HBE.out HB.out)
        cases hok : lineOk l0_2 x with
        | true =>
          rw [hok] at HCX
          have HOK := Aside0.mk hok
          clear hok
          go_wp2_with fail
          refine HCX.out.mono ?_
          rintro e w' ⟨rfl, hb⟩
          have HB1 := Aside0.mk (blk_below HB.out hb)
          have HT1 := Aside0.mk (blk_below HT.out hb)
          have HR1 := Aside0.mk (Kd.R_below HR.out hb)
          have HBE1 := Aside0.mk (HBE.out.trans (hb.mono HBE.out.size))
          have d1 : w'.cell? ⟨B, 0, none⟩ = some (.int .i64 x) := (blk_cell HB1.out 0).trans rfl
          clear c1 t0 t2 HB HT HR HBE hb HCX
          go_wp2_with (first | ((with_reducible refine gate_builtin (b := .append) (xs := #[.tmp 17, .tmp 19]) rfl ?_); at_builtin; refine Kd.R_append (Kd.int .i64) (w0 := w) w.heap.size rfl (.tmp 17) (.tmp 19) 26 3 (.int .i64 0) 8 rfl Try.underlying26 info3 rfl (by decide) (by omega) (.slice A3 ls.length k3) ls x [.int .i64 x] (fun k => k ≠ B) (fun _ => False) rfl rfl ?aP (fun _ hk => hk.elim) ?aF ?aO ?aB ?aS ?aL ?_; (case aP => exact rfl); (case aF => exact (fun k hk e => by have := blk_lt HB1.out; omega)); (case aB => exact (by repeat (first | (with_reducible first | exact HBE1.out | apply below_alloc | apply pw_below_drewN | apply below_drew1) | exact HBE1.out))); (case aO => exact (by (with_reducible repeat (first | apply Kd.R_alloc | apply Kd.R_drewN | apply Kd.R_drew)); exact HR1.out)); (case aS => exact HBE1.out.size); (case aL => have := HLN.out; simp; omega); intro v71 w12 ho hb hg hat; have HB2 := Aside0.mk (blk_grown HB1.out hg (Kd.R_away HR1.out (fun k hk => hk))); have HT2 := Aside0.mk (blk_grown HT1.out hg (Kd.R_ne HR1.out HT1.out (by decide))); have HR2 := Aside0.mk ho; have HBE2 := Aside0.mk hb; clear ho hb hg hat d1; have d1 : w12.cell? ⟨B, 0, none⟩ = some (.int .i64 x) := (blk_cell HB2.out 0).trans rfl))
          have HL1 : Aside0 (linesTo l0_2 (n + 1) = ls ++ [x]) := ⟨by simp only [linesTo]; rw [HX.out, HOK.out, HLS.out]; simp⟩
          have HY : Aside0 (wrap64 (x + 1) = ((n + 1 + 1 : Nat) : Int)) := ⟨by have := HX.out; rw [w64 (by omega) (by omega)]; omega⟩
          rw [HY.out]
          have HNX := Aside0.mk (lines_next (y := ((n + 1 + 1 : Nat) : Int)) HBE2.out HT2.out HR2.out)
          go_roundg (W - (n + 1 + 1))
          case measure => omega
          case rel => exact ⟨n + 1, _, by omega, Nat.le_refl _, rfl, ⟨HNX.out.1⟩, ⟨HNX.out.2.1⟩, ⟨HBE2.out.size⟩, ⟨by rw [HL1.out]; exact HNX.out.2.2.1⟩, ⟨HNX.out.2.2.2⟩⟩
        | false =>
          rw [hok] at HCX
          have HOK := Aside0.mk hok
          clear hok
          go_wp2_with fail
          refine HCX.out.mono ?_
          rintro e w' ⟨rfl, hb⟩
          have HB1 := Aside0.mk (blk_below HB.out hb)
          have HT1 := Aside0.mk (blk_below HT.out hb)
          have HR1 := Aside0.mk (Kd.R_below HR.out hb)
          have HBE1 := Aside0.mk (HBE.out.trans (hb.mono HBE.out.size))
          have d1 : w'.cell? ⟨B, 0, none⟩ = some (.int .i64 x) := (blk_cell HB1.out 0).trans rfl
          have HL1 : Aside0 (linesTo l0_2 (n + 1) = ls) := ⟨by simp only [linesTo]; rw [HX.out, HOK.out, HLS.out]; simp⟩
          clear c1 t0 t2 HB HT HR HBE hb HCX
          go_wp2_with fail
          have HY : Aside0 (wrap64 (x + 1) = ((n + 1 + 1 : Nat) : Int)) := ⟨by have := HX.out; rw [w64 (by omega) (by omega)]; omega⟩
          rw [HY.out]
          have HNX := Aside0.mk (lines_next (y := ((n + 1 + 1 : Nat) : Int)) HBE1.out HT1.out HR1.out)
          go_roundg (W - (n + 1 + 1))
          case measure => omega
          case rel => exact ⟨n + 1, _, by omega, Nat.le_refl _, rfl, ⟨HNX.out.1⟩, ⟨HNX.out.2.1⟩, ⟨HBE1.out.size⟩, ⟨by rw [HL1.out]; exact HNX.out.2.2.1⟩, ⟨HNX.out.2.2.2⟩⟩
      · have hlz := HXW.out.2 hlt
        have HFIN : Aside0 (ls = r) := ⟨by rw [← HRES.out, ← HLS.out]; congr 1; omega⟩
        go_wp2_with fail
        go_ret
        exact ⟨_, rfl, (by rw [← HFIN.out]; exact Kd.R_mono HR.out (fun _ _ => trivial)), HBE.out⟩
  · rw [if_neg hr] at h; cases h
end Go.Proofs.Ytnfiejagokefcaa.P

namespace Go.Proofs.Ytnfiejagokefcaa.P
open Go.RowKit Go.Proofs.YtnfiejagokefcaaW.PrintWords Go.Proofs.YtnfiejagokefcaaW.PrintLast Go.Proofs.Ytnfiejagokefcaa.Wm
attribute [local go_sem] max2_int min2_int max_two min_two
set_option linter.unusedVariables false
set_option linter.unusedSimpArgs false
def impl_LinesAcross.f (a0_0 : Int) (a0_1 : Int) (l0_2 : List (S61)) : Option (List Int × Bool) := (impl_IsCut.f a0_0 a0_1 l0_2).bind fun t102 => (if t102 = true then ((impl_Cut_back.f a0_0 a0_1 l0_2).bind fun bt103 => ((impl_Cut_linesDown.f bt103.1 bt103.2.1 bt103.2.2).bind fun t108 => (some (t108, true)))) else (some (([] : List Int), false)))
set_option maxHeartbeats 8000000 in
set_option maxRecDepth 100000 in
theorem impl_LinesAcross.calls (a0_0 : Int) (a0_1 : Int) (A0_2 : Option Addr) (c0_2 : Nat) (l0_2 : List (S61)) (r1 : List Int) (r2 : Bool) (w : World) (hr0_2 : Kd.C k61 w A0_2 l0_2.length l0_2) (hc0_2 : l0_2.length ≤ c0_2) (h : impl_LinesAcross.f a0_0 a0_1 l0_2 = some (r1, r2)) :
    Calls Try.prog 12 #[.agg #[.int .i64 a0_0, .int .i64 a0_1, .slice A0_2 l0_2.length c0_2]] w fun e w' => ∃ v0_ : Value, e = .returned (.tuple #[v0_, .bool r2]) ∧ Kd.R (Kd.int .i64) 3 w' w.heap.size (fun _ => True) v0_ r1 ∧ Below w.heap.size w w' := by
  have hu31 := Try.underlying31
  have HR0_2 := Aside0.mk hr0_2
  have HC0_2 := Aside0.mk hc0_2
  clear hr0_2 hc0_2
  have HB := Aside0.mk (Below.refl w.heap.size w)
  have H : ((impl_IsCut.f a0_0 a0_1 l0_2).bind fun t102 => (if t102 = true then ((impl_Cut_back.f a0_0 a0_1 l0_2).bind fun bt103 => ((impl_Cut_linesDown.f bt103.1 bt103.2.1 bt103.2.2).bind fun t108 => (some (t108, true)))) else (some (([] : List Int), false)))) = some (r1, r2) := h
  clear h
  replace H := Option.bind_eq_some_iff.mp H
  obtain ⟨t102, A20, H⟩ := H
  replace H : (if t102 = true then ((impl_Cut_back.f a0_0 a0_1 l0_2).bind fun bt103 => ((impl_Cut_linesDown.f bt103.1 bt103.2.1 bt103.2.2).bind fun t108 => (some (t108, true)))) else (some (([] : List Int), false))) = some (r1, r2) := H
  have A2 := Aside0.mk A20
  clear A20
  by_cases c3 : t102 = true
  · subst c3
    have H1 : ((impl_Cut_back.f a0_0 a0_1 l0_2).bind fun bt103 => ((impl_Cut_linesDown.f bt103.1 bt103.2.1 bt103.2.2).bind fun t108 => (some (t108, true)))) = some (r1, r2) := by rw [if_pos rfl] at H; exact H
    clear H
    have H := H1
    clear H1
    replace H := Option.bind_eq_some_iff.mp H
    obtain ⟨⟨t103, t104, t105⟩, A40, H⟩ := H
    replace H : ((impl_Cut_linesDown.f t103 t104 t105).bind fun t108 => (some (t108, true))) = some (r1, r2) := H
    have A4 := Aside0.mk A40
    clear A40
    replace H := Option.bind_eq_some_iff.mp H
    obtain ⟨t108, A50, H⟩ := H
    replace H : (some (t108, true)) = some (r1, r2) := H
    have A5 := Aside0.mk A50
    clear A50
    simp only [Option.some.injEq, Prod.mk.injEq] at H
    obtain ⟨rfl, rfl⟩ := H
    go_enter Try.func12, Try.ntmps12
    go_wp2_with (first | ((with_reducible refine gate_dst (N := 1) rfl ?_); refine box_event ?hg (N := 1) ?hd (cs := #[.int .i64 a0_0, .int .i64 a0_1, .slice A0_2 l0_2.length c0_2]) (t := 31) ?hr ?_; (case hd => rfl); (case hg => rfl); (case hr => first | (go_simp; done) | (go_simp; rfl)); intro gb101 hg w6 hbox hb; have n0_ := Aside0.mk (below_step (by repeat (first | (with_reducible first | exact HB.out | apply below_alloc | apply pw_below_drewN | apply below_drew1) | exact HB.out)) hb); have n1_ := Aside0.mk (hbox); have n2_ := Aside0.mk ((by rw [hg]; exact (below_size (by repeat (first | (with_reducible first | exact HB.out | apply below_alloc | apply pw_below_drewN | apply below_drew1) | exact HB.out))) : w.heap.size ≤ gb101)); have n3_ := Aside0.mk ((by rw [hg]; exact (below_size (by repeat (first | (with_reducible first | exact HB.out | apply below_alloc | apply pw_below_drewN | apply below_drew1) | exact HB.out))) : w.heap.size ≤ gb101)); clear HB; have HB := n0_; have BK101 := n1_; have GW101 := n2_; have GE101 := n3_; clear n0_ n1_ n2_ n3_; clear hb hbox hg; have hcz7_0 : w6.cell? ⟨gb101, 0, none⟩ = some (.int .i64 a0_0) := (blk_cell BK101.out 0).trans rfl; have hcz7_1 : w6.cell? ⟨gb101, 1, none⟩ = some (.int .i64 a0_1) := (blk_cell BK101.out 1).trans rfl; have hcz7_2 : w6.cell? ⟨gb101, 2, none⟩ = some (.slice A0_2 l0_2.length c0_2) := (blk_cell BK101.out 2).trans rfl; have hfz7_0 := blk_frozen BK101.out 0; have hfz7_1 := blk_frozen BK101.out 1; have hfz7_2 := blk_frozen BK101.out 2) | ((with_reducible refine gate_callee (f := 33) rfl ?_); refine goesL_ (some 5) rfl rfl Try.func33 (by kernel_rfl) rfl #[.agg #[.int .i64 a0_0, .int .i64 a0_1, .slice A0_2 l0_2.length c0_2]] rfl (by (try simp only [List.map_toArray, List.map_cons, List.map_nil]); first | done | rfl | (simp only [List.length_drop, List.length_take]; rfl)) ?_; (with_reducible refine (impl_IsCut.calls a0_0 a0_1 _ _ l0_2 true _ ?side1 ?side2 A2.out).mono ?_); (case side1 => repeat (first | exact (Kd.C_below HR0_2.out HB.out) | (with_reducible refine Kd.C_alloc ?_ _) | (with_reducible refine Kd.C_drewN ?_ _) | (with_reducible refine Kd.C_drew ?_))); (case side2 => exact HC0_2.out); rintro e w8 ⟨rfl, hb⟩; refine ⟨_, rfl, ?_⟩; have n0_ := Aside0.mk (blk_below (g := gb101) (o := .cells #[.int .i64 a0_0, .int .i64 a0_1, .slice A0_2 l0_2.length c0_2] 31 (0, 0)) (by (with_reducible repeat (first | refine blk_drewN ?_ _ | refine blk_drew ?_ | refine blk_alloc ?_ _)); exact BK101.out) hb); have n1_ := Aside0.mk (below_step (by repeat (first | (with_reducible first | exact HB.out | apply below_alloc | apply pw_below_drewN | apply below_drew1 | refine below_set ?_ GE101.out) | exact HB.out)) hb); clear BK101; clear HB; have BK101 := n0_; have HB := n1_; clear n0_ n1_; (try clear hb); (try clear hb2); (try clear hk); (try clear hi); have hcz9_0 : w8.cell? ⟨gb101, 0, none⟩ = some (.int .i64 a0_0) := (blk_cell BK101.out 0).trans rfl; have hcz9_1 : w8.cell? ⟨gb101, 1, none⟩ = some (.int .i64 a0_1) := (blk_cell BK101.out 1).trans rfl; have hcz9_2 : w8.cell? ⟨gb101, 2, none⟩ = some (.slice A0_2 l0_2.length c0_2) := (blk_cell BK101.out 2).trans rfl; have hfz9_0 := blk_frozen BK101.out 0; have hfz9_1 := blk_frozen BK101.out 1; have hfz9_2 := blk_frozen BK101.out 2) | ((with_reducible refine gate_callee (f := 34) rfl ?_); refine goesL_ (some 8) rfl rfl Try.func34 (by kernel_rfl) rfl #[.agg #[.int .i64 a0_0, .int .i64 a0_1, .slice A0_2 l0_2.length c0_2]] rfl (by (try simp only [List.map_toArray, List.map_cons, List.map_nil]); first | done | rfl | (simp only [List.length_drop, List.length_take]; rfl)) ?_; (with_reducible refine (impl_Cut_back.calls a0_0 a0_1 _ _ l0_2 t103 t104 t105 _ ?side1 ?side2 A4.out).mono ?_); (case side1 => repeat (first | exact (Kd.C_below HR0_2.out HB.out) | (with_reducible refine Kd.C_alloc ?_ _) | (with_reducible refine Kd.C_drewN ?_ _) | (with_reducible refine Kd.C_drew ?_))); (case side2 => exact HC0_2.out); rintro e w10 ⟨v106, rfl, ho0, hb⟩; refine ⟨_, rfl, ?_⟩; have n0_ := Aside0.mk (Kd.R_lower ho0 (below_size (by repeat (first | (with_reducible first | exact HB.out | apply below_alloc | apply pw_below_drewN | apply below_drew1 | refine below_set ?_ GE101.out) | exact HB.out)))); have n1_ := Aside0.mk (blk_below (g := gb101) (o := .cells #[.int .i64 a0_0, .int .i64 a0_1, .slice A0_2 l0_2.length c0_2] 31 (0, 0)) (by (with_reducible repeat (first | refine blk_drewN ?_ _ | refine blk_drew ?_ | refine blk_alloc ?_ _)); exact BK101.out) hb); have n2_ := Aside0.mk (below_step (by repeat (first | (with_reducible first | exact HB.out | apply below_alloc | apply pw_below_drewN | apply below_drew1 | refine below_set ?_ GE101.out) | exact HB.out)) hb); clear BK101; clear HB; have HO107 := n0_; have BK101 := n1_; have HB := n2_; clear n0_ n1_ n2_; (try clear hb); (try clear hb2); (try clear hk); (try clear hi); (try clear ho0); obtain ⟨Ao11, co11, eo11⟩ := Kd.R_slice HO107.out; subst eo11) | ((with_reducible refine gate_callee (f := 35) rfl ?_); refine goesL_ (some 9) rfl rfl Try.func35 (by kernel_rfl) rfl #[.agg #[.int .i64 t103, .int .i64 t104, .slice Ao11 t105.length co11]] rfl (by (try simp only [List.map_toArray, List.map_cons, List.map_nil]); first | done | rfl | (simp only [List.length_drop, List.length_take]; rfl)) ?_; (with_reducible refine (impl_Cut_linesDown.calls t103 t104 _ _ t105 t108 _ ?side1 ?side2 A5.out).mono ?_); (case side1 => repeat (first | exact (Kd.R_reads' HO107.out).2.2 | (with_reducible refine Kd.C_alloc ?_ _) | (with_reducible refine Kd.C_drewN ?_ _) | (with_reducible refine Kd.C_drew ?_))); (case side2 => exact (Kd.R_reads' HO107.out).2.1); rintro e w12 ⟨v109, rfl, ho0, hb⟩; refine ⟨_, rfl, ?_⟩; have n0_ := Aside0.mk (Kd.R_below (by (with_reducible repeat (first | apply Kd.R_alloc | apply Kd.R_drewN | apply Kd.R_drew)); exact HO107.out) hb); have n1_ := Aside0.mk (Kd.R_lower ho0 (below_size (by repeat (first | (with_reducible first | exact HB.out | apply below_alloc | apply pw_below_drewN | apply below_drew1 | refine below_set ?_ GE101.out) | exact HB.out)))); have n2_ := Aside0.mk (blk_below (g := gb101) (o := .cells #[.int .i64 a0_0, .int .i64 a0_1, .slice A0_2 l0_2.length c0_2] 31 (0, 0)) (by (with_reducible repeat (first | refine blk_drewN ?_ _ | refine blk_drew ?_ | refine blk_alloc ?_ _)); exact BK101.out) hb); have n3_ := Aside0.mk (below_step (by repeat (first | (with_reducible first | exact HB.out | apply below_alloc | apply pw_below_drewN | apply below_drew1 | refine below_set ?_ GE101.out) | exact HB.out)) hb); clear HO107; clear BK101; clear HB; have HO107 := n0_; have HO110 := n1_; have BK101 := n2_; have HB := n3_; clear n0_ n1_ n2_ n3_; (try clear hb); (try clear hb2); (try clear hk); (try clear hi); (try clear ho0)))
    go_ret2
    exact ⟨_, by first | rfl | (simp [errW_none, errW_some] <;> rfl) | (simp [*, errW_none, errW_some] <;> rfl), by (with_reducible repeat (first | apply Kd.R_alloc | apply Kd.R_drewN | apply Kd.R_drew)); exact HO110.out, by repeat (first | (with_reducible first | exact HB.out | apply below_alloc | apply pw_below_drewN | apply below_drew1 | refine below_set ?_ GE101.out) | exact HB.out)⟩
  · replace c3 := Bool.eq_false_iff.mpr c3
    subst c3
    have H1 : (some (([] : List Int), false)) = some (r1, r2) := by rw [if_neg (show ¬ (false = true) by decide)] at H; exact H
    clear H
    have H := H1
    clear H1
    simp only [Option.some.injEq, Prod.mk.injEq] at H
    obtain ⟨rfl, rfl⟩ := H
    go_enter Try.func12, Try.ntmps12
    go_wp2_with (first | ((with_reducible refine gate_dst (N := 1) rfl ?_); refine box_event ?hg (N := 1) ?hd (cs := #[.int .i64 a0_0, .int .i64 a0_1, .slice A0_2 l0_2.length c0_2]) (t := 31) ?hr ?_; (case hd => rfl); (case hg => rfl); (case hr => first | (go_simp; done) | (go_simp; rfl)); intro gb101 hg w13 hbox hb; have n0_ := Aside0.mk (below_step (by repeat (first | (with_reducible first | exact HB.out | apply below_alloc | apply pw_below_drewN | apply below_drew1) | exact HB.out)) hb); have n1_ := Aside0.mk (hbox); have n2_ := Aside0.mk ((by rw [hg]; exact (below_size (by repeat (first | (with_reducible first | exact HB.out | apply below_alloc | apply pw_below_drewN | apply below_drew1) | exact HB.out))) : w.heap.size ≤ gb101)); have n3_ := Aside0.mk ((by rw [hg]; exact (below_size (by repeat (first | (with_reducible first | exact HB.out | apply below_alloc | apply pw_below_drewN | apply below_drew1) | exact HB.out))) : w.heap.size ≤ gb101)); clear HB; have HB := n0_; have BK101 := n1_; have GW101 := n2_; have GE101 := n3_; clear n0_ n1_ n2_ n3_; clear hb hbox hg; have hcz14_0 : w13.cell? ⟨gb101, 0, none⟩ = some (.int .i64 a0_0) := (blk_cell BK101.out 0).trans rfl; have hcz14_1 : w13.cell? ⟨gb101, 1, none⟩ = some (.int .i64 a0_1) := (blk_cell BK101.out 1).trans rfl; have hcz14_2 : w13.cell? ⟨gb101, 2, none⟩ = some (.slice A0_2 l0_2.length c0_2) := (blk_cell BK101.out 2).trans rfl; have hfz14_0 := blk_frozen BK101.out 0; have hfz14_1 := blk_frozen BK101.out 1; have hfz14_2 := blk_frozen BK101.out 2) | ((with_reducible refine gate_callee (f := 33) rfl ?_); refine goesL_ (some 5) rfl rfl Try.func33 (by kernel_rfl) rfl #[.agg #[.int .i64 a0_0, .int .i64 a0_1, .slice A0_2 l0_2.length c0_2]] rfl (by (try simp only [List.map_toArray, List.map_cons, List.map_nil]); first | done | rfl | (simp only [List.length_drop, List.length_take]; rfl)) ?_; (with_reducible refine (impl_IsCut.calls a0_0 a0_1 _ _ l0_2 false _ ?side1 ?side2 A2.out).mono ?_); (case side1 => repeat (first | exact (Kd.C_below HR0_2.out HB.out) | (with_reducible refine Kd.C_alloc ?_ _) | (with_reducible refine Kd.C_drewN ?_ _) | (with_reducible refine Kd.C_drew ?_))); (case side2 => exact HC0_2.out); rintro e w15 ⟨rfl, hb⟩; refine ⟨_, rfl, ?_⟩; have n0_ := Aside0.mk (blk_below (g := gb101) (o := .cells #[.int .i64 a0_0, .int .i64 a0_1, .slice A0_2 l0_2.length c0_2] 31 (0, 0)) (by (with_reducible repeat (first | refine blk_drewN ?_ _ | refine blk_drew ?_ | refine blk_alloc ?_ _)); exact BK101.out) hb); have n1_ := Aside0.mk (below_step (by repeat (first | (with_reducible first | exact HB.out | apply below_alloc | apply pw_below_drewN | apply below_drew1 | refine below_set ?_ GE101.out) | exact HB.out)) hb); clear BK101; clear HB; have BK101 := n0_; have HB := n1_; clear n0_ n1_; (try clear hb); (try clear hb2); (try clear hk); (try clear hi)))
    go_ret2
    exact ⟨_, by first | rfl | (simp [errW_none, errW_some] <;> rfl) | (simp [*, errW_none, errW_some] <;> rfl), by first | exact Kd.R_nil _ _ _ _ _ | exact Kd.N_nil _ _ _ _ _ | exact Kd.V_nil _ _ _ _ _ | exact Kd.Q_nil _ _ _ _ _ | exact Kd.S_nil _ _ _ _ _, by repeat (first | (with_reducible first | exact HB.out | apply below_alloc | apply pw_below_drewN | apply below_drew1 | refine below_set ?_ GE101.out) | exact HB.out)⟩
end Go.Proofs.Ytnfiejagokefcaa.P

namespace Go.Proofs.Ytnfiejagokefcaa.P
open Go.RowKit Go.Proofs.YtnfiejagokefcaaW.PrintWords Go.Proofs.YtnfiejagokefcaaW.PrintLast Go.Proofs.Ytnfiejagokefcaa.Wm
attribute [local go_sem] max2_int min2_int max_two min_two
set_option linter.unusedVariables false
set_option linter.unusedSimpArgs false
def laws_eqIntS.l0 : Nat → List Int → List Int → Int → Option (Bool)
  | 0, _, _, _ => none
  | k + 1, x0, x1, x5 => if x5 < (x0.length : Int) then (if 0 ≤ x5 then (if x5 < (x1.length : Int) then (if (rd x0 x5) = (rd x1 x5) then (laws_eqIntS.l0 k x0 x1 (wrap64 (x5 + 1))) else (some false)) else (none)) else (none)) else (some true)
def laws_eqIntS.f (k : Nat) (l0 : List Int) (l1 : List Int) : Option (Bool) := if (l0.length : Int) = (l1.length : Int) then (laws_eqIntS.l0 k l0 l1 0) else (some false)
set_option maxHeartbeats 8000000 in
set_option maxRecDepth 100000 in
theorem laws_eqIntS.calls (k : Nat) (A0 : Option Addr) (c0 : Nat) (l0 : List Int) (A1 : Option Addr) (c1 : Nat) (l1 : List Int) (r : Bool) (w : World) (hr0 : Kd.C (Kd.int .i64) w A0 l0.length l0) (hc0 : l0.length ≤ c0) (hr1 : Kd.C (Kd.int .i64) w A1 l1.length l1) (hc1 : l1.length ≤ c1) (h : laws_eqIntS.f k l0 l1 = some r) :
    Calls Try.prog 13 #[.slice A0 l0.length c0, .slice A1 l1.length c1] w fun e w' => e = .returned (.bool r) ∧ Drawn0 w w' := by
  have HR0 := Aside0.mk hr0
  have HC0 := Aside0.mk hc0
  clear hr0 hc0
  have HR1 := Aside0.mk hr1
  have HC1 := Aside0.mk hc1
  clear hr1 hc1
  have H : (if (l0.length : Int) = (l1.length : Int) then (laws_eqIntS.l0 k l0 l1 0) else (some false)) = some r := h
  clear h
  by_cases c3 : (l0.length : Int) = (l1.length : Int)
  · rw [if_pos c3] at H
    have c3b0 : ((l0.length : Int) == (l1.length : Int)) = true := beq_iff_eq.mpr c3
    have c3b1 : ((l0.length : Int) != (l1.length : Int)) = false := bne_eq_false_iff_eq.mpr c3
    have c3b2 : (l0.length == l1.length) = true := by first | simpa using c3 | (simp at c3 ⊢; omega)
    clear c3
    have H' := Aside0.mk H
    clear H
    go_enter Try.func13, Try.ntmps13
    go_wp2
    repeat (go_quiet (fail); try go_wp2)
    go_loopg [5] k (fun kq v5 w' => ∃ (x5_1 : Int), v5 = .int .i64 x5_1 ∧ Aside0 (laws_eqIntS.l0 kq l0 l1 x5_1 = some r) ∧ Aside0 (kq ≤ k) ∧ Drawn0 w w')
    case atStart => exact ⟨(0), (by first | rfl | (simp; done) | (simp [*]; done)), H', ⟨Nat.le_refl _⟩, by repeat (first | exact Drawn0.refl _ | apply Drawn0.step)⟩
    case round =>
      clear H'
      try clear c1
      try clear p2
      try clear c3
      try clear c3b0
      try clear c3b1
      try clear c3b2
      obtain ⟨x5_1, rfl, HA, HK1, ⟨m1, rfl⟩⟩ := hrel
      cases gk with
      | zero => exact absurd HA.out (by simp [laws_eqIntS.l0])
      | succ k1 =>
        have H := HA.out
        clear HA
        simp only [laws_eqIntS.l0] at H
        by_cases c4 : x5_1 < (l0.length : Int)
        · rw [if_pos c4] at H
          have c4b0 : decide (x5_1 < (l0.length : Int)) = true := decide_eq_true c4
          clear c4
          by_cases c5 : 0 ≤ x5_1
          · rw [if_pos c5] at H
            have c5b0 : decide (0 ≤ x5_1) = true := decide_eq_true c5
            clear c5
            by_cases c6 : x5_1 < (l1.length : Int)
            · rw [if_pos c6] at H
              have c6b0 : decide (x5_1 < (l1.length : Int)) = true := decide_eq_true c6
              clear c6
              by_cases c7 : (rd l0 x5_1) = (rd l1 x5_1)
              · rw [if_pos c7] at H
                have c7b0 : ((rd l0 x5_1) == (rd l1 x5_1)) = true := beq_iff_eq.mpr c7
                have c7b1 : ((rd l0 x5_1) != (rd l1 x5_1)) = false := bne_eq_false_iff_eq.mpr c7
                clear c7
                have H' := Aside0.mk H
                clear H
                have p101 : 0 ≤ (x5_1 : Int) := of_decide_eq_true (by first | (with_reducible assumption) | assumption)
                have q101 : x5_1 < (l0.length : Int) := of_decide_eq_true (by first | (with_reducible assumption) | assumption)
                obtain ⟨ad101, e101, hx101_0⟩ := Kd.at_int HR0.out x5_1 p101 q101
                cases e101
                replace p101 := eq_true p101
                replace q101 := eq_true q101
                have p102 : 0 ≤ (x5_1 : Int) := of_decide_eq_true (by first | (with_reducible assumption) | assumption)
                have q102 : x5_1 < (l1.length : Int) := of_decide_eq_true (by first | (with_reducible assumption) | assumption)
                obtain ⟨ad102, e102, hx102_0⟩ := Kd.at_int HR1.out x5_1 p102 q102
                cases e102
                replace p102 := eq_true p102
                replace q102 := eq_true q102
                go_wp2
                repeat (go_quiet (fail); try go_wp2)
                go_roundg k1
                case measure => have := HK1.out; omega
                case rel => exact ⟨(wrap64 (x5_1 + 1)), (by first | rfl | (simp; done) | (simp [*]; done)), H', ⟨by have := HK1.out; omega⟩, by repeat (first | exact Drawn0.refl _ | apply Drawn0.step)⟩
              · rw [if_neg c7] at H
                have c7b0 : ((rd l0 x5_1) == (rd l1 x5_1)) = false := beq_eq_false_iff_ne.mpr c7
                have c7b1 : ((rd l0 x5_1) != (rd l1 x5_1)) = true := bne_iff_ne.mpr c7
                obtain rfl := Option.some.inj H
                have p101 : 0 ≤ (x5_1 : Int) := of_decide_eq_true (by first | (with_reducible assumption) | assumption)
                have q101 : x5_1 < (l0.length : Int) := of_decide_eq_true (by first | (with_reducible assumption) | assumption)
                obtain ⟨ad101, e101, hx101_0⟩ := Kd.at_int HR0.out x5_1 p101 q101
                cases e101
                replace p101 := eq_true p101
                replace q101 := eq_true q101
                have p102 : 0 ≤ (x5_1 : Int) := of_decide_eq_true (by first | (with_reducible assumption) | assumption)
                have q102 : x5_1 < (l1.length : Int) := of_decide_eq_true (by first | (with_reducible assumption) | assumption)
                obtain ⟨ad102, e102, hx102_0⟩ := Kd.at_int HR1.out x5_1 p102 q102
                cases e102
                replace p102 := eq_true p102
                replace q102 := eq_true q102
                go_wp2
                repeat (go_quiet (fail); try go_wp2)
                go_ret
                exact ⟨by first | rfl | (simp; done) | (simp [*]; done), by repeat (first | exact Drawn0.refl _ | apply Drawn0.step)⟩
            · rw [if_neg c6] at H
              exact absurd H (by simp)
          · rw [if_neg c5] at H
            exact absurd H (by simp)
        · rw [if_neg c4] at H
          have c4b0 : decide (x5_1 < (l0.length : Int)) = false := decide_eq_false c4
          clear c4
          obtain rfl := Option.some.inj H
          go_wp2
          repeat (go_quiet (fail); try go_wp2)
          go_ret
          exact ⟨by first | rfl | (simp; done) | (simp [*]; done), by repeat (first | exact Drawn0.refl _ | apply Drawn0.step)⟩
  · rw [if_neg c3] at H
    have c3b0 : ((l0.length : Int) == (l1.length : Int)) = false := beq_eq_false_iff_ne.mpr c3
    have c3b1 : ((l0.length : Int) != (l1.length : Int)) = true := bne_iff_ne.mpr c3
    have c3b2 : (l0.length == l1.length) = false := by first | simpa using c3 | (simp at c3 ⊢; omega)
    obtain rfl := Option.some.inj H
    go_enter Try.func13, Try.ntmps13
    go_wp2
    repeat (go_quiet (fail); try go_wp2)
    go_ret
    exact ⟨by first | rfl | (simp; done) | (simp [*]; done), by repeat (first | exact Drawn0.refl _ | apply Drawn0.step)⟩
end Go.Proofs.Ytnfiejagokefcaa.P

namespace Go.Proofs.Ytnfiejagokefcaa.P
open Go.RowKit Go.Proofs.YtnfiejagokefcaaW.PrintWords Go.Proofs.YtnfiejagokefcaaW.PrintLast Go.Proofs.Ytnfiejagokefcaa.Wm
attribute [local go_sem] max2_int min2_int max_two min_two
set_option linter.unusedVariables false
set_option linter.unusedSimpArgs false
def laws_eqSquare.f (a0_0 : Int) (a0_1 : Int) (a0_2 : Int) (a1_0 : Int) (a1_1 : Int) (a1_2 : Int) : Option (Bool) := if a0_0 = a1_0 then (if a0_1 = a1_1 then (if a0_2 = a1_2 then (some true) else (some false)) else (some false)) else (some false)
set_option maxHeartbeats 8000000 in
set_option maxRecDepth 100000 in
theorem laws_eqSquare.calls (a0_0 : Int) (a0_1 : Int) (a0_2 : Int) (a1_0 : Int) (a1_1 : Int) (a1_2 : Int) (r : Bool) (w : World) (h : laws_eqSquare.f a0_0 a0_1 a0_2 a1_0 a1_1 a1_2 = some r) :
    Calls Try.prog 59 #[.agg #[.int .i64 a0_0, .int .i64 a0_1, .int .i64 a0_2], .agg #[.int .i64 a1_0, .int .i64 a1_1, .int .i64 a1_2]] w fun e w' => e = .returned (.bool r) ∧ Below w.heap.size w w' := by
  have hu61 := Try.underlying61
  have HB := Aside0.mk (Below.refl w.heap.size w)
  have H : (if a0_0 = a1_0 then (if a0_1 = a1_1 then (if a0_2 = a1_2 then (some true) else (some false)) else (some false)) else (some false)) = some r := h
  clear h
  by_cases c3 : a0_0 = a1_0
  · rw [if_pos c3] at H
    have c3b0 : (a0_0 == a1_0) = true := beq_iff_eq.mpr c3
    have c3b1 : (a0_0 != a1_0) = false := bne_eq_false_iff_eq.mpr c3
    clear c3
    by_cases c4 : a0_1 = a1_1
    · rw [if_pos c4] at H
      have c4b0 : (a0_1 == a1_1) = true := beq_iff_eq.mpr c4
      have c4b1 : (a0_1 != a1_1) = false := bne_eq_false_iff_eq.mpr c4
      clear c4
      by_cases c5 : a0_2 = a1_2
      · rw [if_pos c5] at H
        have c5b0 : (a0_2 == a1_2) = true := beq_iff_eq.mpr c5
        have c5b1 : (a0_2 != a1_2) = false := bne_eq_false_iff_eq.mpr c5
        clear c5
        obtain rfl := Option.some.inj H
        go_enter Try.func59, Try.ntmps59
        go_wp2_with (first | ((with_reducible refine gate_dst (N := 2) rfl ?_); refine box_event ?hg (N := 2) ?hd (cs := #[.int .i64 a0_0, .int .i64 a0_1, .int .i64 a0_2]) (t := 61) ?hr ?_; (case hd => rfl); (case hg => rfl); (case hr => first | (go_simp; done) | (go_simp; rfl)); intro gb101 hg w6 hbox hb; have n0_ := Aside0.mk (below_step (by repeat (first | (with_reducible first | exact HB.out | apply below_alloc | apply pw_below_drewN | apply below_drew1) | exact HB.out)) hb); have n1_ := Aside0.mk (hbox); have n2_ := Aside0.mk ((by rw [hg]; exact (below_size (by repeat (first | (with_reducible first | exact HB.out | apply below_alloc | apply pw_below_drewN | apply below_drew1) | exact HB.out))) : w.heap.size ≤ gb101)); have n3_ := Aside0.mk ((by rw [hg]; exact (below_size (by repeat (first | (with_reducible first | exact HB.out | apply below_alloc | apply pw_below_drewN | apply below_drew1) | exact HB.out))) : w.heap.size ≤ gb101)); clear HB; have HB := n0_; have BK101 := n1_; have GW101 := n2_; have GE101 := n3_; clear n0_ n1_ n2_ n3_; clear hb hbox hg) | ((with_reducible refine gate_dst (N := 3) rfl ?_); refine box_event ?hg (N := 3) ?hd (cs := #[.int .i64 a1_0, .int .i64 a1_1, .int .i64 a1_2]) (t := 61) ?hr ?_; (case hd => rfl); (case hg => rfl); (case hr => first | (go_simp; done) | (go_simp; rfl)); intro gb102 hg w7 hbox hb; have n0_ := Aside0.mk (blk_below (g := gb101) (o := .cells #[.int .i64 a0_0, .int .i64 a0_1, .int .i64 a0_2] 61 (0, 0)) (by (with_reducible repeat (first | refine blk_drewN ?_ _ | refine blk_drew ?_ | refine blk_alloc ?_ _)); exact BK101.out) hb); have n1_ := Aside0.mk (below_step (by repeat (first | (with_reducible first | exact HB.out | apply below_alloc | apply pw_below_drewN | apply below_drew1 | refine below_set ?_ GE101.out) | exact HB.out)) hb); have n2_ := Aside0.mk (hbox); have n3_ := Aside0.mk ((by rw [hg]; exact (below_size (by repeat (first | (with_reducible first | exact HB.out | apply below_alloc | apply pw_below_drewN | apply below_drew1 | refine below_set ?_ GE101.out) | exact HB.out))) : w.heap.size ≤ gb102)); have n4_ := Aside0.mk ((by rw [hg]; exact (below_size (by repeat (first | (with_reducible first | exact HB.out | apply below_alloc | apply pw_below_drewN | apply below_drew1 | refine below_set ?_ GE101.out) | exact HB.out))) : w.heap.size ≤ gb102)); have n5_ := Aside0.mk ((by rw [hg]; exact Nat.ne_of_lt (blk_lt (g := gb101) (o := .cells #[.int .i64 a0_0, .int .i64 a0_1, .int .i64 a0_2] 61 (0, 0)) (by (with_reducible repeat (first | refine blk_drewN ?_ _ | refine blk_drew ?_ | refine blk_alloc ?_ _)); exact BK101.out)) : gb101 ≠ gb102)); have n6_ := Aside0.mk ((by rw [hg]; exact Nat.ne_of_gt (blk_lt (g := gb101) (o := .cells #[.int .i64 a0_0, .int .i64 a0_1, .int .i64 a0_2] 61 (0, 0)) (by (with_reducible repeat (first | refine blk_drewN ?_ _ | refine blk_drew ?_ | refine blk_alloc ?_ _)); exact BK101.out)) : gb102 ≠ gb101)); clear BK101; clear HB; have BK101 := n0_; have HB := n1_; have BK102 := n2_; have GW102 := n3_; have GE102 := n4_; have NB101_102 := n5_; have NB102_101 := n6_; clear n0_ n1_ n2_ n3_ n4_ n5_ n6_; clear hb hbox hg; have hnb8 := NB101_102.out; have hnc8 := NB102_101.out; have hcz9_0 : w7.cell? ⟨gb101, 0, none⟩ = some (.int .i64 a0_0) := (blk_cell BK101.out 0).trans rfl; have hcz9_1 : w7.cell? ⟨gb101, 1, none⟩ = some (.int .i64 a0_1) := (blk_cell BK101.out 1).trans rfl; have hcz9_2 : w7.cell? ⟨gb101, 2, none⟩ = some (.int .i64 a0_2) := (blk_cell BK101.out 2).trans rfl; have hfz9_0 := blk_frozen BK101.out 0; have hfz9_1 := blk_frozen BK101.out 1; have hfz9_2 := blk_frozen BK101.out 2; have hcz10_0 : w7.cell? ⟨gb102, 0, none⟩ = some (.int .i64 a1_0) := (blk_cell BK102.out 0).trans rfl; have hcz10_1 : w7.cell? ⟨gb102, 1, none⟩ = some (.int .i64 a1_1) := (blk_cell BK102.out 1).trans rfl; have hcz10_2 : w7.cell? ⟨gb102, 2, none⟩ = some (.int .i64 a1_2) := (blk_cell BK102.out 2).trans rfl; have hfz10_0 := blk_frozen BK102.out 0; have hfz10_1 := blk_frozen BK102.out 1; have hfz10_2 := blk_frozen BK102.out 2))
        go_ret
        exact ⟨by first | rfl | (simp [errW_none, errW_some] <;> rfl) | (simp [*, errW_none, errW_some] <;> rfl), by repeat (first | (with_reducible first | exact HB.out | apply below_alloc | apply pw_below_drewN | apply below_drew1 | refine below_set ?_ GE101.out | refine below_set ?_ GE102.out) | exact HB.out)⟩
      · rw [if_neg c5] at H
        have c5b0 : (a0_2 == a1_2) = false := beq_eq_false_iff_ne.mpr c5
        have c5b1 : (a0_2 != a1_2) = true := bne_iff_ne.mpr c5
        obtain rfl := Option.some.inj H
        go_enter Try.func59, Try.ntmps59
        go_wp2_with (first | ((with_reducible refine gate_dst (N := 2) rfl ?_); refine box_event ?hg (N := 2) ?hd (cs := #[.int .i64 a0_0, .int .i64 a0_1, .int .i64 a0_2]) (t := 61) ?hr ?_; (case hd => rfl); (case hg => rfl); (case hr => first | (go_simp; done) | (go_simp; rfl)); intro gb101 hg w11 hbox hb; have n0_ := Aside0.mk (below_step (by repeat (first | (with_reducible first | exact HB.out | apply below_alloc | apply pw_below_drewN | apply below_drew1) | exact HB.out)) hb); have n1_ := Aside0.mk (hbox); have n2_ := Aside0.mk ((by rw [hg]; exact (below_size (by repeat (first | (with_reducible first | exact HB.out | apply below_alloc | apply pw_below_drewN | apply below_drew1) | exact HB.out))) : w.heap.size ≤ gb101)); have n3_ := Aside0.mk ((by rw [hg]; exact (below_size (by repeat (first | (with_reducible first | exact HB.out | apply below_alloc | apply pw_below_drewN | apply below_drew1) | exact HB.out))) : w.heap.size ≤ gb101)); clear HB; have HB := n0_; have BK101 := n1_; have GW101 := n2_; have GE101 := n3_; clear n0_ n1_ n2_ n3_; clear hb hbox hg) | ((with_reducible refine gate_dst (N := 3) rfl ?_); refine box_event ?hg (N := 3) ?hd (cs := #[.int .i64 a1_0, .int .i64 a1_1, .int .i64 a1_2]) (t := 61) ?hr ?_; (case hd => rfl); (case hg => rfl); (case hr => first | (go_simp; done) | (go_simp; rfl)); intro gb102 hg w12 hbox hb; have n0_ := Aside0.mk (blk_below (g := gb101) (o := .cells #[.int .i64 a0_0, .int .i64 a0_1, .int .i64 a0_2] 61 (0, 0)) (by (with_reducible repeat (first | refine blk_drewN ?_ _ | refine blk_drew ?_ | refine blk_alloc ?_ _)); exact BK101.out) hb); have n1_ := Aside0.mk (below_step (by repeat (first | (with_reducible first | exact HB.out | apply below_alloc | apply pw_below_drewN | apply below_drew1 | refine below_set ?_ GE101.out) | exact HB.out)) hb); have n2_ := Aside0.mk (hbox); have n3_ := Aside0.mk ((by rw [hg]; exact (below_size (by repeat (first | (with_reducible first | exact HB.out | apply below_alloc | apply pw_below_drewN | apply below_drew1 | refine below_set ?_ GE101.out) | exact HB.out))) : w.heap.size ≤ gb102)); have n4_ := Aside0.mk ((by rw [hg]; exact (below_size (by repeat (first | (with_reducible first | exact HB.out | apply below_alloc | apply pw_below_drewN | apply below_drew1 | refine below_set ?_ GE101.out) | exact HB.out))) : w.heap.size ≤ gb102)); have n5_ := Aside0.mk ((by rw [hg]; exact Nat.ne_of_lt (blk_lt (g := gb101) (o := .cells #[.int .i64 a0_0, .int .i64 a0_1, .int .i64 a0_2] 61 (0, 0)) (by (with_reducible repeat (first | refine blk_drewN ?_ _ | refine blk_drew ?_ | refine blk_alloc ?_ _)); exact BK101.out)) : gb101 ≠ gb102)); have n6_ := Aside0.mk ((by rw [hg]; exact Nat.ne_of_gt (blk_lt (g := gb101) (o := .cells #[.int .i64 a0_0, .int .i64 a0_1, .int .i64 a0_2] 61 (0, 0)) (by (with_reducible repeat (first | refine blk_drewN ?_ _ | refine blk_drew ?_ | refine blk_alloc ?_ _)); exact BK101.out)) : gb102 ≠ gb101)); clear BK101; clear HB; have BK101 := n0_; have HB := n1_; have BK102 := n2_; have GW102 := n3_; have GE102 := n4_; have NB101_102 := n5_; have NB102_101 := n6_; clear n0_ n1_ n2_ n3_ n4_ n5_ n6_; clear hb hbox hg; have hnb13 := NB101_102.out; have hnc13 := NB102_101.out; have hcz14_0 : w12.cell? ⟨gb101, 0, none⟩ = some (.int .i64 a0_0) := (blk_cell BK101.out 0).trans rfl; have hcz14_1 : w12.cell? ⟨gb101, 1, none⟩ = some (.int .i64 a0_1) := (blk_cell BK101.out 1).trans rfl; have hcz14_2 : w12.cell? ⟨gb101, 2, none⟩ = some (.int .i64 a0_2) := (blk_cell BK101.out 2).trans rfl; have hfz14_0 := blk_frozen BK101.out 0; have hfz14_1 := blk_frozen BK101.out 1; have hfz14_2 := blk_frozen BK101.out 2; have hcz15_0 : w12.cell? ⟨gb102, 0, none⟩ = some (.int .i64 a1_0) := (blk_cell BK102.out 0).trans rfl; have hcz15_1 : w12.cell? ⟨gb102, 1, none⟩ = some (.int .i64 a1_1) := (blk_cell BK102.out 1).trans rfl; have hcz15_2 : w12.cell? ⟨gb102, 2, none⟩ = some (.int .i64 a1_2) := (blk_cell BK102.out 2).trans rfl; have hfz15_0 := blk_frozen BK102.out 0; have hfz15_1 := blk_frozen BK102.out 1; have hfz15_2 := blk_frozen BK102.out 2))
        go_ret
        exact ⟨by first | rfl | (simp [errW_none, errW_some] <;> rfl) | (simp [*, errW_none, errW_some] <;> rfl), by repeat (first | (with_reducible first | exact HB.out | apply below_alloc | apply pw_below_drewN | apply below_drew1 | refine below_set ?_ GE101.out | refine below_set ?_ GE102.out) | exact HB.out)⟩
    · rw [if_neg c4] at H
      have c4b0 : (a0_1 == a1_1) = false := beq_eq_false_iff_ne.mpr c4
      have c4b1 : (a0_1 != a1_1) = true := bne_iff_ne.mpr c4
      obtain rfl := Option.some.inj H
      go_enter Try.func59, Try.ntmps59
      go_wp2_with (first | ((with_reducible refine gate_dst (N := 2) rfl ?_); refine box_event ?hg (N := 2) ?hd (cs := #[.int .i64 a0_0, .int .i64 a0_1, .int .i64 a0_2]) (t := 61) ?hr ?_; (case hd => rfl); (case hg => rfl); (case hr => first | (go_simp; done) | (go_simp; rfl)); intro gb101 hg w16 hbox hb; have n0_ := Aside0.mk (below_step (by repeat (first | (with_reducible first | exact HB.out | apply below_alloc | apply pw_below_drewN | apply below_drew1) | exact HB.out)) hb); have n1_ := Aside0.mk (hbox); have n2_ := Aside0.mk ((by rw [hg]; exact (below_size (by repeat (first | (with_reducible first | exact HB.out | apply below_alloc | apply pw_below_drewN | apply below_drew1) | exact HB.out))) : w.heap.size ≤ gb101)); have n3_ := Aside0.mk ((by rw [hg]; exact (below_size (by repeat (first | (with_reducible first | exact HB.out | apply below_alloc | apply pw_below_drewN | apply below_drew1) | exact HB.out))) : w.heap.size ≤ gb101)); clear HB; have HB := n0_; have BK101 := n1_; have GW101 := n2_; have GE101 := n3_; clear n0_ n1_ n2_ n3_; clear hb hbox hg) | ((with_reducible refine gate_dst (N := 3) rfl ?_); refine box_event ?hg (N := 3) ?hd (cs := #[.int .i64 a1_0, .int .i64 a1_1, .int .i64 a1_2]) (t := 61) ?hr ?_; (case hd => rfl); (case hg => rfl); (case hr => first | (go_simp; done) | (go_simp; rfl)); intro gb102 hg w17 hbox hb; have n0_ := Aside0.mk (blk_below (g := gb101) (o := .cells #[.int .i64 a0_0, .int .i64 a0_1, .int .i64 a0_2] 61 (0, 0)) (by (with_reducible repeat (first | refine blk_drewN ?_ _ | refine blk_drew ?_ | refine blk_alloc ?_ _)); exact BK101.out) hb); have n1_ := Aside0.mk (below_step (by repeat (first | (with_reducible first | exact HB.out | apply below_alloc | apply pw_below_drewN | apply below_drew1 | refine below_set ?_ GE101.out) | exact HB.out)) hb); have n2_ := Aside0.mk (hbox); have n3_ := Aside0.mk ((by rw [hg]; exact (below_size (by repeat (first | (with_reducible first | exact HB.out | apply below_alloc | apply pw_below_drewN | apply below_drew1 | refine below_set ?_ GE101.out) | exact HB.out))) : w.heap.size ≤ gb102)); have n4_ := Aside0.mk ((by rw [hg]; exact (below_size (by repeat (first | (with_reducible first | exact HB.out | apply below_alloc | apply pw_below_drewN | apply below_drew1 | refine below_set ?_ GE101.out) | exact HB.out))) : w.heap.size ≤ gb102)); have n5_ := Aside0.mk ((by rw [hg]; exact Nat.ne_of_lt (blk_lt (g := gb101) (o := .cells #[.int .i64 a0_0, .int .i64 a0_1, .int .i64 a0_2] 61 (0, 0)) (by (with_reducible repeat (first | refine blk_drewN ?_ _ | refine blk_drew ?_ | refine blk_alloc ?_ _)); exact BK101.out)) : gb101 ≠ gb102)); have n6_ := Aside0.mk ((by rw [hg]; exact Nat.ne_of_gt (blk_lt (g := gb101) (o := .cells #[.int .i64 a0_0, .int .i64 a0_1, .int .i64 a0_2] 61 (0, 0)) (by (with_reducible repeat (first | refine blk_drewN ?_ _ | refine blk_drew ?_ | refine blk_alloc ?_ _)); exact BK101.out)) : gb102 ≠ gb101)); clear BK101; clear HB; have BK101 := n0_; have HB := n1_; have BK102 := n2_; have GW102 := n3_; have GE102 := n4_; have NB101_102 := n5_; have NB102_101 := n6_; clear n0_ n1_ n2_ n3_ n4_ n5_ n6_; clear hb hbox hg; have hnb18 := NB101_102.out; have hnc18 := NB102_101.out; have hcz19_0 : w17.cell? ⟨gb101, 0, none⟩ = some (.int .i64 a0_0) := (blk_cell BK101.out 0).trans rfl; have hcz19_1 : w17.cell? ⟨gb101, 1, none⟩ = some (.int .i64 a0_1) := (blk_cell BK101.out 1).trans rfl; have hcz19_2 : w17.cell? ⟨gb101, 2, none⟩ = some (.int .i64 a0_2) := (blk_cell BK101.out 2).trans rfl; have hfz19_0 := blk_frozen BK101.out 0; have hfz19_1 := blk_frozen BK101.out 1; have hfz19_2 := blk_frozen BK101.out 2; have hcz20_0 : w17.cell? ⟨gb102, 0, none⟩ = some (.int .i64 a1_0) := (blk_cell BK102.out 0).trans rfl; have hcz20_1 : w17.cell? ⟨gb102, 1, none⟩ = some (.int .i64 a1_1) := (blk_cell BK102.out 1).trans rfl; have hcz20_2 : w17.cell? ⟨gb102, 2, none⟩ = some (.int .i64 a1_2) := (blk_cell BK102.out 2).trans rfl; have hfz20_0 := blk_frozen BK102.out 0; have hfz20_1 := blk_frozen BK102.out 1; have hfz20_2 := blk_frozen BK102.out 2))
      go_ret
      exact ⟨by first | rfl | (simp [errW_none, errW_some] <;> rfl) | (simp [*, errW_none, errW_some] <;> rfl), by repeat (first | (with_reducible first | exact HB.out | apply below_alloc | apply pw_below_drewN | apply below_drew1 | refine below_set ?_ GE101.out | refine below_set ?_ GE102.out) | exact HB.out)⟩
  · rw [if_neg c3] at H
    have c3b0 : (a0_0 == a1_0) = false := beq_eq_false_iff_ne.mpr c3
    have c3b1 : (a0_0 != a1_0) = true := bne_iff_ne.mpr c3
    obtain rfl := Option.some.inj H
    go_enter Try.func59, Try.ntmps59
    go_wp2_with (first | ((with_reducible refine gate_dst (N := 2) rfl ?_); refine box_event ?hg (N := 2) ?hd (cs := #[.int .i64 a0_0, .int .i64 a0_1, .int .i64 a0_2]) (t := 61) ?hr ?_; (case hd => rfl); (case hg => rfl); (case hr => first | (go_simp; done) | (go_simp; rfl)); intro gb101 hg w21 hbox hb; have n0_ := Aside0.mk (below_step (by repeat (first | (with_reducible first | exact HB.out | apply below_alloc | apply pw_below_drewN | apply below_drew1) | exact HB.out)) hb); have n1_ := Aside0.mk (hbox); have n2_ := Aside0.mk ((by rw [hg]; exact (below_size (by repeat (first | (with_reducible first | exact HB.out | apply below_alloc | apply pw_below_drewN | apply below_drew1) | exact HB.out))) : w.heap.size ≤ gb101)); have n3_ := Aside0.mk ((by rw [hg]; exact (below_size (by repeat (first | (with_reducible first | exact HB.out | apply below_alloc | apply pw_below_drewN | apply below_drew1) | exact HB.out))) : w.heap.size ≤ gb101)); clear HB; have HB := n0_; have BK101 := n1_; have GW101 := n2_; have GE101 := n3_; clear n0_ n1_ n2_ n3_; clear hb hbox hg) | ((with_reducible refine gate_dst (N := 3) rfl ?_); refine box_event ?hg (N := 3) ?hd (cs := #[.int .i64 a1_0, .int .i64 a1_1, .int .i64 a1_2]) (t := 61) ?hr ?_; (case hd => rfl); (case hg => rfl); (case hr => first | (go_simp; done) | (go_simp; rfl)); intro gb102 hg w22 hbox hb; have n0_ := Aside0.mk (blk_below (g := gb101) (o := .cells #[.int .i64 a0_0, .int .i64 a0_1, .int .i64 a0_2] 61 (0, 0)) (by (with_reducible repeat (first | refine blk_drewN ?_ _ | refine blk_drew ?_ | refine blk_alloc ?_ _)); exact BK101.out) hb); have n1_ := Aside0.mk (below_step (by repeat (first | (with_reducible first | exact HB.out | apply below_alloc | apply pw_below_drewN | apply below_drew1 | refine below_set ?_ GE101.out) | exact HB.out)) hb); have n2_ := Aside0.mk (hbox); have n3_ := Aside0.mk ((by rw [hg]; exact (below_size (by repeat (first | (with_reducible first | exact HB.out | apply below_alloc | apply pw_below_drewN | apply below_drew1 | refine below_set ?_ GE101.out) | exact HB.out))) : w.heap.size ≤ gb102)); have n4_ := Aside0.mk ((by rw [hg]; exact (below_size (by repeat (first | (with_reducible first | exact HB.out | apply below_alloc | apply pw_below_drewN | apply below_drew1 | refine below_set ?_ GE101.out) | exact HB.out))) : w.heap.size ≤ gb102)); have n5_ := Aside0.mk ((by rw [hg]; exact Nat.ne_of_lt (blk_lt (g := gb101) (o := .cells #[.int .i64 a0_0, .int .i64 a0_1, .int .i64 a0_2] 61 (0, 0)) (by (with_reducible repeat (first | refine blk_drewN ?_ _ | refine blk_drew ?_ | refine blk_alloc ?_ _)); exact BK101.out)) : gb101 ≠ gb102)); have n6_ := Aside0.mk ((by rw [hg]; exact Nat.ne_of_gt (blk_lt (g := gb101) (o := .cells #[.int .i64 a0_0, .int .i64 a0_1, .int .i64 a0_2] 61 (0, 0)) (by (with_reducible repeat (first | refine blk_drewN ?_ _ | refine blk_drew ?_ | refine blk_alloc ?_ _)); exact BK101.out)) : gb102 ≠ gb101)); clear BK101; clear HB; have BK101 := n0_; have HB := n1_; have BK102 := n2_; have GW102 := n3_; have GE102 := n4_; have NB101_102 := n5_; have NB102_101 := n6_; clear n0_ n1_ n2_ n3_ n4_ n5_ n6_; clear hb hbox hg; have hnb23 := NB101_102.out; have hnc23 := NB102_101.out; have hcz24_0 : w22.cell? ⟨gb101, 0, none⟩ = some (.int .i64 a0_0) := (blk_cell BK101.out 0).trans rfl; have hcz24_1 : w22.cell? ⟨gb101, 1, none⟩ = some (.int .i64 a0_1) := (blk_cell BK101.out 1).trans rfl; have hcz24_2 : w22.cell? ⟨gb101, 2, none⟩ = some (.int .i64 a0_2) := (blk_cell BK101.out 2).trans rfl; have hfz24_0 := blk_frozen BK101.out 0; have hfz24_1 := blk_frozen BK101.out 1; have hfz24_2 := blk_frozen BK101.out 2; have hcz25_0 : w22.cell? ⟨gb102, 0, none⟩ = some (.int .i64 a1_0) := (blk_cell BK102.out 0).trans rfl; have hcz25_1 : w22.cell? ⟨gb102, 1, none⟩ = some (.int .i64 a1_1) := (blk_cell BK102.out 1).trans rfl; have hcz25_2 : w22.cell? ⟨gb102, 2, none⟩ = some (.int .i64 a1_2) := (blk_cell BK102.out 2).trans rfl; have hfz25_0 := blk_frozen BK102.out 0; have hfz25_1 := blk_frozen BK102.out 1; have hfz25_2 := blk_frozen BK102.out 2))
    go_ret
    exact ⟨by first | rfl | (simp [errW_none, errW_some] <;> rfl) | (simp [*, errW_none, errW_some] <;> rfl), by repeat (first | (with_reducible first | exact HB.out | apply below_alloc | apply pw_below_drewN | apply below_drew1 | refine below_set ?_ GE101.out | refine below_set ?_ GE102.out) | exact HB.out)⟩
end Go.Proofs.Ytnfiejagokefcaa.P

namespace Go.Proofs.Ytnfiejagokefcaa.P
open Go.RowKit Go.Proofs.YtnfiejagokefcaaW.PrintWords Go.Proofs.YtnfiejagokefcaaW.PrintLast Go.Proofs.Ytnfiejagokefcaa.Wm
attribute [local go_sem] max2_int min2_int max_two min_two
set_option linter.unusedVariables false
set_option linter.unusedSimpArgs false
def laws_eqSquareS.l0 : Nat → List (S61) → List (S61) → Int → Option (Bool)
  | 0, _, _, _ => none
  | k + 1, x0, x1, x5 => if x5 < (x0.length : Int) then (if 0 ≤ x5 then (if x5 < (x1.length : Int) then ((laws_eqSquare.f ((rd_T61 x0 x5).f0) ((rd_T61 x0 x5).f1) ((rd_T61 x0 x5).f2) ((rd_T61 x1 x5).f0) ((rd_T61 x1 x5).f1) ((rd_T61 x1 x5).f2)).bind fun t103 => (if t103 = true then (laws_eqSquareS.l0 k x0 x1 (wrap64 (x5 + 1))) else (some false))) else (none)) else (none)) else (some true)
def laws_eqSquareS.f (k : Nat) (l0 : List (S61)) (l1 : List (S61)) : Option (Bool) := if (l0.length : Int) = (l1.length : Int) then (laws_eqSquareS.l0 k l0 l1 0) else (some false)
def laws_eqSquareS.T6 : Bool × List (List Nat × List Nat) := (true, [([], []), ([], []), ([0, 1], [0, 1]), ([2], [2]), ([], []), ([], []), ([4, 5], [4, 5]), ([6], [6]), ([3, 7], [3, 7]), ([8], [8])])
def laws_eqSquareS.B6 : List Nat := [0, 0, 3, 7, 0, 0, 48, 112, 255, 511]
theorem laws_eqSquareS.tab6 : rtab .any (opsOf Try.f36 6) = laws_eqSquareS.T6 := by kernel_rfl
theorem laws_eqSquareS.bits6 : waitsOk laws_eqSquareS.T6.2 laws_eqSquareS.B6 = true := by kernel_rfl
set_option maxHeartbeats 8000000 in
set_option maxRecDepth 100000 in
theorem laws_eqSquareS.calls (k : Nat) (A0 : Option Addr) (c0 : Nat) (l0 : List (S61)) (A1 : Option Addr) (c1 : Nat) (l1 : List (S61)) (r : Bool) (w : World) (hr0 : Kd.C k61 w A0 l0.length l0) (hc0 : l0.length ≤ c0) (hr1 : Kd.C k61 w A1 l1.length l1) (hc1 : l1.length ≤ c1) (h : laws_eqSquareS.f k l0 l1 = some r) :
    Calls Try.prog 36 #[.slice A0 l0.length c0, .slice A1 l1.length c1] w fun e w' => e = .returned (.bool r) ∧ Below w.heap.size w w' := by
  have hu61 := Try.underlying61
  have HR0 := Aside0.mk hr0
  have HC0 := Aside0.mk hc0
  clear hr0 hc0
  have HR1 := Aside0.mk hr1
  have HC1 := Aside0.mk hc1
  clear hr1 hc1
  have HB := Aside0.mk (Below.refl w.heap.size w)
  have H : (if (l0.length : Int) = (l1.length : Int) then (laws_eqSquareS.l0 k l0 l1 0) else (some false)) = some r := h
  clear h
  by_cases c3 : (l0.length : Int) = (l1.length : Int)
  · rw [if_pos c3] at H
    have c3b0 : ((l0.length : Int) == (l1.length : Int)) = true := beq_iff_eq.mpr c3
    have c3b1 : ((l0.length : Int) != (l1.length : Int)) = false := bne_eq_false_iff_eq.mpr c3
    have c3b2 : (l0.length == l1.length) = true := by first | simpa using c3 | (simp at c3 ⊢; omega)
    clear c3
    have H' := Aside0.mk H
    clear H
    go_enter Try.func36, Try.ntmps36
    go_wp2
    go_loopg [5] k (fun kq v5 w' => ∃ (x5_1 : Int), v5 = .int .i64 x5_1 ∧ Aside0 (laws_eqSquareS.l0 kq l0 l1 x5_1 = some r) ∧ Aside0 (kq ≤ k) ∧ Aside0 (Below w.heap.size w w'))
    case atStart => exact ⟨(0), (by first | rfl | (simp; done) | (simp [*]; done)), H', ⟨Nat.le_refl _⟩, ⟨by repeat (first | (with_reducible first | exact HB.out | apply below_alloc | apply pw_below_drewN | apply below_drew1) | exact HB.out)⟩⟩
    case round =>
      clear H'
      try clear c1
      try clear p2
      try clear c3
      try clear c3b0
      try clear c3b1
      try clear c3b2
      obtain ⟨x5_1, rfl, HA, HK1, HB⟩ := hrel
      cases gk with
      | zero => exact absurd HA.out (by simp [laws_eqSquareS.l0])
      | succ k1 =>
        have H := HA.out
        clear HA
        simp only [laws_eqSquareS.l0] at H
        by_cases c4 : x5_1 < (l0.length : Int)
        · rw [if_pos c4] at H
          have c4b0 : decide (x5_1 < (l0.length : Int)) = true := decide_eq_true c4
          clear c4
          by_cases c5 : 0 ≤ x5_1
          · rw [if_pos c5] at H
            have c5b0 : decide (0 ≤ x5_1) = true := decide_eq_true c5
            clear c5
            by_cases c6 : x5_1 < (l1.length : Int)
            · rw [if_pos c6] at H
              have c6b0 : decide (x5_1 < (l1.length : Int)) = true := decide_eq_true c6
              clear c6
              replace H := Option.bind_eq_some_iff.mp H
              obtain ⟨t103, A70, H⟩ := H
              replace H : (if t103 = true then (laws_eqSquareS.l0 k1 l0 l1 (wrap64 (x5_1 + 1))) else (some false)) = some r := H
              have A7 := Aside0.mk A70
              clear A70
              by_cases c8 : t103 = true
              · subst c8
                have H1 : (laws_eqSquareS.l0 k1 l0 l1 (wrap64 (x5_1 + 1))) = some r := by rw [if_pos rfl] at H; exact H
                clear H
                have H := H1
                clear H1
                have H' := Aside0.mk H
                clear H
                try go_wp2
                have n0_ := Aside0.mk (below_drew1 HB.out)
                clear HB
                have HB := n0_
                clear n0_
                have p101 : 0 ≤ (x5_1 : Int) := of_decide_eq_true (by first | (with_reducible assumption) | assumption)
                have q101 : x5_1 < (l0.length : Int) := of_decide_eq_true (by first | (with_reducible assumption) | assumption)
                obtain ⟨ad101, e101, hx101_0, hx101_1, hx101_2⟩ := at_T61 HR0.out x5_1 p101 q101
                have hw101_2 := hx101_2
                have hw101_1 := hx101_1
                have hw101_0 := hx101_0
                cases e101
                replace hx101_0 := (HB.out.cell (World.block_lt_of_cell? w _ hx101_0)).trans hx101_0
                replace hx101_1 := (HB.out.cell (World.block_lt_of_cell? w _ hx101_1)).trans hx101_1
                replace hx101_2 := (HB.out.cell (World.block_lt_of_cell? w _ hx101_2)).trans hx101_2
                replace p101 := eq_true p101
                replace q101 := eq_true q101
                have p102 : 0 ≤ (x5_1 : Int) := of_decide_eq_true (by first | (with_reducible assumption) | assumption)
                have q102 : x5_1 < (l1.length : Int) := of_decide_eq_true (by first | (with_reducible assumption) | assumption)
                obtain ⟨ad102, e102, hx102_0, hx102_1, hx102_2⟩ := at_T61 HR1.out x5_1 p102 q102
                have hw102_2 := hx102_2
                have hw102_1 := hx102_1
                have hw102_0 := hx102_0
                cases e102
                replace hx102_0 := (HB.out.cell (World.block_lt_of_cell? w _ hx102_0)).trans hx102_0
                replace hx102_1 := (HB.out.cell (World.block_lt_of_cell? w _ hx102_1)).trans hx102_1
                replace hx102_2 := (HB.out.cell (World.block_lt_of_cell? w _ hx102_2)).trans hx102_2
                replace p102 := eq_true p102
                replace q102 := eq_true q102
                refine start_ (n := 10) (S := fun w' => w'.cell? (ad101.add ((x5_1).toNat * 3)) = some (.int .i64 ((rd_T61 l0 x5_1).f0)) ∧ w'.cell? ⟨(ad101.add ((x5_1).toNat * 3)).block, (ad101.add ((x5_1).toNat * 3)).off + 1, none⟩ = some (.int .i64 ((rd_T61 l0 x5_1).f1)) ∧ w'.cell? ⟨(ad101.add ((x5_1).toNat * 3)).block, (ad101.add ((x5_1).toNat * 3)).off + 2, none⟩ = some (.int .i64 ((rd_T61 l0 x5_1).f2)) ∧ w'.cell? (ad102.add ((x5_1).toNat * 3)) = some (.int .i64 ((rd_T61 l1 x5_1).f0)) ∧ w'.cell? ⟨(ad102.add ((x5_1).toNat * 3)).block, (ad102.add ((x5_1).toNat * 3)).off + 1, none⟩ = some (.int .i64 ((rd_T61 l1 x5_1).f1)) ∧ w'.cell? ⟨(ad102.add ((x5_1).toNat * 3)).block, (ad102.add ((x5_1).toNat * 3)).off + 2, none⟩ = some (.int .i64 ((rd_T61 l1 x5_1).f2))) (ds := []) #[false, false, false, false, false, false, false, false, false, false] (by kernel_rfl) rfl rfl ⟨((HB.out.cell (World.block_lt_of_cell? w _ hw101_0)).trans hw101_0), ((HB.out.cell (World.block_lt_of_cell? w _ hw101_1)).trans hw101_1), ((HB.out.cell (World.block_lt_of_cell? w _ hw101_2)).trans hw101_2), ((HB.out.cell (World.block_lt_of_cell? w _ hw102_0)).trans hw102_0), ((HB.out.cell (World.block_lt_of_cell? w _ hw102_1)).trans hw102_1), ((HB.out.cell (World.block_lt_of_cell? w _ hw102_2)).trans hw102_2)⟩ (fun hHeld => ?_); refine with_tabW laws_eqSquareS.tab6 laws_eqSquareS.bits6 (fun HT_ HW_ => ?_)
                generalize wr.drew = w9 at HB hx101_0 hx101_1 hx101_2 hx102_0 hx102_1 hx102_2 hHeld ⊢
                refine pure_ (i := 0) (N := some 17) (v := ?_) (a' := ?_) #[true, false, false, false, false, false, false, false, false, false] rfl rfl (any_of HT_.out (by kernel_rfl)) (fun _ _ _ h => h) (Or.inl ⟨by rfl, ?_⟩) ?_ ?_
                rotate_left
                · intro w'
                  go_simp
                  with_reducible rfl
                rotate_left
                · simp only [Act.put, List.setIfInBounds_toArray, List.set_cons_zero, List.set_cons_succ, i64_w, i32_w]
                  rfl
                refine pure_ (i := 1) (N := some 18) (v := ?_) (a' := ?_) #[true, true, false, false, false, false, false, false, false, false] rfl rfl (any_of HT_.out (by kernel_rfl)) (fun _ _ _ h => h) (Or.inl ⟨by rfl, ?_⟩) ?_ ?_
                rotate_left
                · intro w'
                  go_simp
                  with_reducible rfl
                rotate_left
                · simp only [Act.put, List.setIfInBounds_toArray, List.set_cons_zero, List.set_cons_succ, i64_w, i32_w]
                  rfl
                refine pure_ (i := 2) (N := some 19) (v := ?_) (a' := ?_) #[true, true, true, false, false, false, false, false, false, false] rfl rfl (any_of HT_.out (by kernel_rfl)) (fun _ _ _ h => h) (Or.inl ⟨by rfl, ?_⟩) ?_ ?_
                rotate_left
                · intro w'
                  go_simp
                  with_reducible rfl
                rotate_left
                · simp only [Act.put, List.setIfInBounds_toArray, List.set_cons_zero, List.set_cons_succ, i64_w, i32_w]
                  rfl
                refine pure_ (i := 4) (N := some 21) (v := ?_) (a' := ?_) #[true, true, true, false, true, false, false, false, false, false] rfl rfl (any_of HT_.out (by kernel_rfl)) (fun _ _ _ h => h) (Or.inl ⟨by rfl, ?_⟩) ?_ ?_
                rotate_left
                · intro w'
                  go_simp
                  with_reducible rfl
                rotate_left
                · simp only [Act.put, List.setIfInBounds_toArray, List.set_cons_zero, List.set_cons_succ, i64_w, i32_w]
                  rfl
                refine pure_ (i := 5) (N := some 22) (v := ?_) (a' := ?_) #[true, true, true, false, true, true, false, false, false, false] rfl rfl (any_of HT_.out (by kernel_rfl)) (fun _ _ _ h => h) (Or.inl ⟨by rfl, ?_⟩) ?_ ?_
                rotate_left
                · intro w'
                  go_simp
                  with_reducible rfl
                rotate_left
                · simp only [Act.put, List.setIfInBounds_toArray, List.set_cons_zero, List.set_cons_succ, i64_w, i32_w]
                  rfl
                refine pure_ (i := 6) (N := some 23) (v := ?_) (a' := ?_) #[true, true, true, false, true, true, true, false, false, false] rfl rfl (any_of HT_.out (by kernel_rfl)) (fun _ _ _ h => h) (Or.inl ⟨by rfl, ?_⟩) ?_ ?_
                rotate_left
                · intro w'
                  go_simp
                  with_reducible rfl
                rotate_left
                · simp only [Act.put, List.setIfInBounds_toArray, List.set_cons_zero, List.set_cons_succ, i64_w, i32_w]
                  rfl
                refine take_ (i := 3) (N := some 20) (v := ?_) (a' := ?_) #[true, true, true, true, true, true, true, false, false, false] rfl rfl (take_ofW HT_.out HW_.out (by kernel_rfl)) (fun _ _ _ h => h) (Or.inl ⟨by rfl, ?_⟩) hHeld ?_ ?_
                rotate_left
                · rintro w' ⟨s0, s1, s2, s3, s4, s5⟩
                  go_simp
                  with_reducible rfl
                rotate_left
                · simp only [Act.put, List.setIfInBounds_toArray, List.set_cons_zero, List.set_cons_succ, i64_w, i32_w]
                  rfl
                refine take_ (i := 7) (N := some 24) (v := ?_) (a' := ?_) #[true, true, true, true, true, true, true, true, false, false] rfl rfl (take_ofW HT_.out HW_.out (by kernel_rfl)) (fun _ _ _ h => h) (Or.inl ⟨by rfl, ?_⟩) hHeld ?_ ?_
                rotate_left
                · rintro w' ⟨s0, s1, s2, s3, s4, s5⟩
                  go_simp
                  with_reducible rfl
                rotate_left
                · simp only [Act.put, List.setIfInBounds_toArray, List.set_cons_zero, List.set_cons_succ, i64_w, i32_w]
                  rfl
                refine one_ (i := 8) (N := some 25) #[true, true, true, true, true, true, true, true, true, false] rfl rfl (one_of HT_.out (by kernel_rfl)) (by decide) (fun K hK => ?_)
                refine goes_ Try.func59 (by kernel_rfl) rfl #[.agg #[.int .i64 ((rd_T61 l0 x5_1).f0), .int .i64 ((rd_T61 l0 x5_1).f1), .int .i64 ((rd_T61 l0 x5_1).f2)], .agg #[.int .i64 ((rd_T61 l1 x5_1).f0), .int .i64 ((rd_T61 l1 x5_1).f1), .int .i64 ((rd_T61 l1 x5_1).f2)]] (by rfl) rfl rfl (by (try simp only [List.map_toArray, List.map_cons, List.map_nil]); first | done | rfl | (simp only [List.length_drop, List.length_take]; rfl)) ?_
                with_reducible refine (laws_eqSquare.calls ((rd_T61 l0 x5_1).f0) ((rd_T61 l0 x5_1).f1) ((rd_T61 l0 x5_1).f2) ((rd_T61 l1 x5_1).f0) ((rd_T61 l1 x5_1).f1) ((rd_T61 l1 x5_1).f2) true _ A7.out).mono ?_
                rintro e w10 ⟨rfl, hb⟩
                refine ⟨_, rfl, ?_⟩
                have n0_ := Aside0.mk (below_step (by repeat (first | (with_reducible first | exact HB.out | apply below_alloc | apply pw_below_drewN | apply below_drew1) | exact HB.out)) hb)
                clear HB
                have HB := n0_
                clear n0_
                (try clear hb)
                (try clear hb2)
                (try clear hk)
                (try clear hi)
                refine hK.out _ _ ⟨((HB.out.cell (World.block_lt_of_cell? w _ hw101_0)).trans hw101_0), ((HB.out.cell (World.block_lt_of_cell? w _ hw101_1)).trans hw101_1), ((HB.out.cell (World.block_lt_of_cell? w _ hw101_2)).trans hw101_2), ((HB.out.cell (World.block_lt_of_cell? w _ hw102_0)).trans hw102_0), ((HB.out.cell (World.block_lt_of_cell? w _ hw102_1)).trans hw102_1), ((HB.out.cell (World.block_lt_of_cell? w _ hw102_2)).trans hw102_2)⟩ (fun hHeld => ?_)
                clear hK K
                refine norm_ (a' := ?_) ?_ ?_
                rotate_left
                · show Act.put _ (some 25) _ = _
                  simp only [Act.put, List.setIfInBounds_toArray, List.set_cons_zero, List.set_cons_succ, i64_w, i32_w]
                  rfl
                refine pure_ (i := 9) (N := some 26) (v := ?_) (a' := ?_) #[true, true, true, true, true, true, true, true, true, true] rfl rfl (any_of HT_.out (by kernel_rfl)) (fun _ _ _ h => h) (Or.inl ⟨by rfl, ?_⟩) ?_ ?_
                rotate_left
                · intro w'
                  go_simp
                  with_reducible rfl
                rotate_left
                · simp only [Act.put, List.setIfInBounds_toArray, List.set_cons_zero, List.set_cons_succ, i64_w, i32_w]
                  rfl
                refine done_ (done_of HT_.out (by kernel_rfl)) ?_
                try go_wp2
                go_roundg k1
                case measure => have := HK1.out; omega
                case rel => exact ⟨(wrap64 (x5_1 + 1)), (by first | rfl | (simp; done) | (simp [*]; done)), H', ⟨by have := HK1.out; omega⟩, ⟨by repeat (first | (with_reducible first | exact HB.out | apply below_alloc | apply pw_below_drewN | apply below_drew1) | exact HB.out)⟩⟩
              · replace c8 := Bool.eq_false_iff.mpr c8
                subst c8
                have H1 : (some false) = some r := by rw [if_neg (show ¬ (false = true) by decide)] at H; exact H
                clear H
                have H := H1
                clear H1
                obtain rfl := Option.some.inj H
                try go_wp2
                have n0_ := Aside0.mk (below_drew1 HB.out)
                clear HB
                have HB := n0_
                clear n0_
                have p101 : 0 ≤ (x5_1 : Int) := of_decide_eq_true (by first | (with_reducible assumption) | assumption)
                have q101 : x5_1 < (l0.length : Int) := of_decide_eq_true (by first | (with_reducible assumption) | assumption)
                obtain ⟨ad101, e101, hx101_0, hx101_1, hx101_2⟩ := at_T61 HR0.out x5_1 p101 q101
                have hw101_2 := hx101_2
                have hw101_1 := hx101_1
                have hw101_0 := hx101_0
                cases e101
                replace hx101_0 := (HB.out.cell (World.block_lt_of_cell? w _ hx101_0)).trans hx101_0
                replace hx101_1 := (HB.out.cell (World.block_lt_of_cell? w _ hx101_1)).trans hx101_1
                replace hx101_2 := (HB.out.cell (World.block_lt_of_cell? w _ hx101_2)).trans hx101_2
                replace p101 := eq_true p101
                replace q101 := eq_true q101
                have p102 : 0 ≤ (x5_1 : Int) := of_decide_eq_true (by first | (with_reducible assumption) | assumption)
                have q102 : x5_1 < (l1.length : Int) := of_decide_eq_true (by first | (with_reducible assumption) | assumption)
                obtain ⟨ad102, e102, hx102_0, hx102_1, hx102_2⟩ := at_T61 HR1.out x5_1 p102 q102
                have hw102_2 := hx102_2
                have hw102_1 := hx102_1
                have hw102_0 := hx102_0
                cases e102
                replace hx102_0 := (HB.out.cell (World.block_lt_of_cell? w _ hx102_0)).trans hx102_0
                replace hx102_1 := (HB.out.cell (World.block_lt_of_cell? w _ hx102_1)).trans hx102_1
                replace hx102_2 := (HB.out.cell (World.block_lt_of_cell? w _ hx102_2)).trans hx102_2
                replace p102 := eq_true p102
                replace q102 := eq_true q102
                refine start_ (n := 10) (S := fun w' => w'.cell? (ad101.add ((x5_1).toNat * 3)) = some (.int .i64 ((rd_T61 l0 x5_1).f0)) ∧ w'.cell? ⟨(ad101.add ((x5_1).toNat * 3)).block, (ad101.add ((x5_1).toNat * 3)).off + 1, none⟩ = some (.int .i64 ((rd_T61 l0 x5_1).f1)) ∧ w'.cell? ⟨(ad101.add ((x5_1).toNat * 3)).block, (ad101.add ((x5_1).toNat * 3)).off + 2, none⟩ = some (.int .i64 ((rd_T61 l0 x5_1).f2)) ∧ w'.cell? (ad102.add ((x5_1).toNat * 3)) = some (.int .i64 ((rd_T61 l1 x5_1).f0)) ∧ w'.cell? ⟨(ad102.add ((x5_1).toNat * 3)).block, (ad102.add ((x5_1).toNat * 3)).off + 1, none⟩ = some (.int .i64 ((rd_T61 l1 x5_1).f1)) ∧ w'.cell? ⟨(ad102.add ((x5_1).toNat * 3)).block, (ad102.add ((x5_1).toNat * 3)).off + 2, none⟩ = some (.int .i64 ((rd_T61 l1 x5_1).f2))) (ds := []) #[false, false, false, false, false, false, false, false, false, false] (by kernel_rfl) rfl rfl ⟨((HB.out.cell (World.block_lt_of_cell? w _ hw101_0)).trans hw101_0), ((HB.out.cell (World.block_lt_of_cell? w _ hw101_1)).trans hw101_1), ((HB.out.cell (World.block_lt_of_cell? w _ hw101_2)).trans hw101_2), ((HB.out.cell (World.block_lt_of_cell? w _ hw102_0)).trans hw102_0), ((HB.out.cell (World.block_lt_of_cell? w _ hw102_1)).trans hw102_1), ((HB.out.cell (World.block_lt_of_cell? w _ hw102_2)).trans hw102_2)⟩ (fun hHeld => ?_); refine with_tabW laws_eqSquareS.tab6 laws_eqSquareS.bits6 (fun HT_ HW_ => ?_)
                generalize wr.drew = w11 at HB hx101_0 hx101_1 hx101_2 hx102_0 hx102_1 hx102_2 hHeld ⊢
                refine pure_ (i := 0) (N := some 17) (v := ?_) (a' := ?_) #[true, false, false, false, false, false, false, false, false, false] rfl rfl (any_of HT_.out (by kernel_rfl)) (fun _ _ _ h => h) (Or.inl ⟨by rfl, ?_⟩) ?_ ?_
                rotate_left
                · intro w'
                  go_simp
                  with_reducible rfl
                rotate_left
                · simp only [Act.put, List.setIfInBounds_toArray, List.set_cons_zero, List.set_cons_succ, i64_w, i32_w]
                  rfl
                refine pure_ (i := 1) (N := some 18) (v := ?_) (a' := ?_) #[true, true, false, false, false, false, false, false, false, false] rfl rfl (any_of HT_.out (by kernel_rfl)) (fun _ _ _ h => h) (Or.inl ⟨by rfl, ?_⟩) ?_ ?_
                rotate_left
                · intro w'
                  go_simp
                  with_reducible rfl
                rotate_left
                · simp only [Act.put, List.setIfInBounds_toArray, List.set_cons_zero, List.set_cons_succ, i64_w, i32_w]
                  rfl
                refine pure_ (i := 2) (N := some 19) (v := ?_) (a' := ?_) #[true, true, true, false, false, false, false, false, false, false] rfl rfl (any_of HT_.out (by kernel_rfl)) (fun _ _ _ h => h) (Or.inl ⟨by rfl, ?_⟩) ?_ ?_
                rotate_left
                · intro w'
                  go_simp
                  with_reducible rfl
                rotate_left
                · simp only [Act.put, List.setIfInBounds_toArray, List.set_cons_zero, List.set_cons_succ, i64_w, i32_w]
                  rfl
                refine pure_ (i := 4) (N := some 21) (v := ?_) (a' := ?_) #[true, true, true, false, true, false, false, false, false, false] rfl rfl (any_of HT_.out (by kernel_rfl)) (fun _ _ _ h => h) (Or.inl ⟨by rfl, ?_⟩) ?_ ?_
                rotate_left
                · intro w'
                  go_simp
                  with_reducible rfl
                rotate_left
                · simp only [Act.put, List.setIfInBounds_toArray, List.set_cons_zero, List.set_cons_succ, i64_w, i32_w]
                  rfl
                refine pure_ (i := 5) (N := some 22) (v := ?_) (a' := ?_) #[true, true, true, false, true, true, false, false, false, false] rfl rfl (any_of HT_.out (by kernel_rfl)) (fun _ _ _ h => h) (Or.inl ⟨by rfl, ?_⟩) ?_ ?_
                rotate_left
                · intro w'
                  go_simp
                  with_reducible rfl
                rotate_left
                · simp only [Act.put, List.setIfInBounds_toArray, List.set_cons_zero, List.set_cons_succ, i64_w, i32_w]
                  rfl
                refine pure_ (i := 6) (N := some 23) (v := ?_) (a' := ?_) #[true, true, true, false, true, true, true, false, false, false] rfl rfl (any_of HT_.out (by kernel_rfl)) (fun _ _ _ h => h) (Or.inl ⟨by rfl, ?_⟩) ?_ ?_
                rotate_left
                · intro w'
                  go_simp
                  with_reducible rfl
                rotate_left
                · simp only [Act.put, List.setIfInBounds_toArray, List.set_cons_zero, List.set_cons_succ, i64_w, i32_w]
                  rfl
                refine take_ (i := 3) (N := some 20) (v := ?_) (a' := ?_) #[true, true, true, true, true, true, true, false, false, false] rfl rfl (take_ofW HT_.out HW_.out (by kernel_rfl)) (fun _ _ _ h => h) (Or.inl ⟨by rfl, ?_⟩) hHeld ?_ ?_
                rotate_left
                · rintro w' ⟨s0, s1, s2, s3, s4, s5⟩
                  go_simp
                  with_reducible rfl
                rotate_left
                · simp only [Act.put, List.setIfInBounds_toArray, List.set_cons_zero, List.set_cons_succ, i64_w, i32_w]
                  rfl
                refine take_ (i := 7) (N := some 24) (v := ?_) (a' := ?_) #[true, true, true, true, true, true, true, true, false, false] rfl rfl (take_ofW HT_.out HW_.out (by kernel_rfl)) (fun _ _ _ h => h) (Or.inl ⟨by rfl, ?_⟩) hHeld ?_ ?_
                rotate_left
                · rintro w' ⟨s0, s1, s2, s3, s4, s5⟩
                  go_simp
                  with_reducible rfl
                rotate_left
                · simp only [Act.put, List.setIfInBounds_toArray, List.set_cons_zero, List.set_cons_succ, i64_w, i32_w]
                  rfl
                refine one_ (i := 8) (N := some 25) #[true, true, true, true, true, true, true, true, true, false] rfl rfl (one_of HT_.out (by kernel_rfl)) (by decide) (fun K hK => ?_)
                refine goes_ Try.func59 (by kernel_rfl) rfl #[.agg #[.int .i64 ((rd_T61 l0 x5_1).f0), .int .i64 ((rd_T61 l0 x5_1).f1), .int .i64 ((rd_T61 l0 x5_1).f2)], .agg #[.int .i64 ((rd_T61 l1 x5_1).f0), .int .i64 ((rd_T61 l1 x5_1).f1), .int .i64 ((rd_T61 l1 x5_1).f2)]] (by rfl) rfl rfl (by (try simp only [List.map_toArray, List.map_cons, List.map_nil]); first | done | rfl | (simp only [List.length_drop, List.length_take]; rfl)) ?_
                with_reducible refine (laws_eqSquare.calls ((rd_T61 l0 x5_1).f0) ((rd_T61 l0 x5_1).f1) ((rd_T61 l0 x5_1).f2) ((rd_T61 l1 x5_1).f0) ((rd_T61 l1 x5_1).f1) ((rd_T61 l1 x5_1).f2) false _ A7.out).mono ?_
                rintro e w12 ⟨rfl, hb⟩
                refine ⟨_, rfl, ?_⟩
                have n0_ := Aside0.mk (below_step (by repeat (first | (with_reducible first | exact HB.out | apply below_alloc | apply pw_below_drewN | apply below_drew1) | exact HB.out)) hb)
                clear HB
                have HB := n0_
                clear n0_
                (try clear hb)
                (try clear hb2)
                (try clear hk)
                (try clear hi)
                refine hK.out _ _ ⟨((HB.out.cell (World.block_lt_of_cell? w _ hw101_0)).trans hw101_0), ((HB.out.cell (World.block_lt_of_cell? w _ hw101_1)).trans hw101_1), ((HB.out.cell (World.block_lt_of_cell? w _ hw101_2)).trans hw101_2), ((HB.out.cell (World.block_lt_of_cell? w _ hw102_0)).trans hw102_0), ((HB.out.cell (World.block_lt_of_cell? w _ hw102_1)).trans hw102_1), ((HB.out.cell (World.block_lt_of_cell? w _ hw102_2)).trans hw102_2)⟩ (fun hHeld => ?_)
                clear hK K
                refine norm_ (a' := ?_) ?_ ?_
                rotate_left
                · show Act.put _ (some 25) _ = _
                  simp only [Act.put, List.setIfInBounds_toArray, List.set_cons_zero, List.set_cons_succ, i64_w, i32_w]
                  rfl
                refine pure_ (i := 9) (N := some 26) (v := ?_) (a' := ?_) #[true, true, true, true, true, true, true, true, true, true] rfl rfl (any_of HT_.out (by kernel_rfl)) (fun _ _ _ h => h) (Or.inl ⟨by rfl, ?_⟩) ?_ ?_
                rotate_left
                · intro w'
                  go_simp
                  with_reducible rfl
                rotate_left
                · simp only [Act.put, List.setIfInBounds_toArray, List.set_cons_zero, List.set_cons_succ, i64_w, i32_w]
                  rfl
                refine done_ (done_of HT_.out (by kernel_rfl)) ?_
                try go_wp2
                go_ret
                exact ⟨by first | rfl | (simp [errW_none, errW_some] <;> rfl) | (simp [*, errW_none, errW_some] <;> rfl), by repeat (first | (with_reducible first | exact HB.out | apply below_alloc | apply pw_below_drewN | apply below_drew1) | exact HB.out)⟩
            · rw [if_neg c6] at H
              exact absurd H (by simp)
          · rw [if_neg c5] at H
            exact absurd H (by simp)
        · rw [if_neg c4] at H
          have c4b0 : decide (x5_1 < (l0.length : Int)) = false := decide_eq_false c4
          clear c4
          obtain rfl := Option.some.inj H
          go_wp2
          go_ret
          exact ⟨by first | rfl | (simp [errW_none, errW_some] <;> rfl) | (simp [*, errW_none, errW_some] <;> rfl), by repeat (first | (with_reducible first | exact HB.out | apply below_alloc | apply pw_below_drewN | apply below_drew1) | exact HB.out)⟩
  · rw [if_neg c3] at H
    have c3b0 : ((l0.length : Int) == (l1.length : Int)) = false := beq_eq_false_iff_ne.mpr c3
    have c3b1 : ((l0.length : Int) != (l1.length : Int)) = true := bne_iff_ne.mpr c3
    have c3b2 : (l0.length == l1.length) = false := by first | simpa using c3 | (simp at c3 ⊢; omega)
    obtain rfl := Option.some.inj H
    go_enter Try.func36, Try.ntmps36
    go_wp2
    go_ret
    exact ⟨by first | rfl | (simp [errW_none, errW_some] <;> rfl) | (simp [*, errW_none, errW_some] <;> rfl), by repeat (first | (with_reducible first | exact HB.out | apply below_alloc | apply pw_below_drewN | apply below_drew1) | exact HB.out)⟩
end Go.Proofs.Ytnfiejagokefcaa.P

namespace Go.Proofs.Ytnfiejagokefcaa.P
open Go.RowKit Go.Proofs.YtnfiejagokefcaaW.PrintWords Go.Proofs.YtnfiejagokefcaaW.PrintLast Go.Proofs.Ytnfiejagokefcaa.Wm
attribute [local go_sem] max2_int min2_int max_two min_two
set_option linter.unusedVariables false
set_option linter.unusedSimpArgs false
def laws_eqCut.f (k : Nat) (a0_0 : Int) (a0_1 : Int) (l0_2 : List (S61)) (a1_0 : Int) (a1_1 : Int) (l1_2 : List (S61)) : Option (Bool) := if a0_0 = a1_0 then (if a0_1 = a1_1 then ((laws_eqSquareS.f k l0_2 l1_2).bind fun t103 => (if t103 = true then (some true) else (some false))) else (some false)) else (some false)
set_option maxHeartbeats 8000000 in
set_option maxRecDepth 100000 in
theorem laws_eqCut.calls (k : Nat) (a0_0 : Int) (a0_1 : Int) (A0_2 : Option Addr) (c0_2 : Nat) (l0_2 : List (S61)) (a1_0 : Int) (a1_1 : Int) (A1_2 : Option Addr) (c1_2 : Nat) (l1_2 : List (S61)) (r : Bool) (w : World) (hr0_2 : Kd.C k61 w A0_2 l0_2.length l0_2) (hc0_2 : l0_2.length ≤ c0_2) (hr1_2 : Kd.C k61 w A1_2 l1_2.length l1_2) (hc1_2 : l1_2.length ≤ c1_2) (h : laws_eqCut.f k a0_0 a0_1 l0_2 a1_0 a1_1 l1_2 = some r) :
    Calls Try.prog 14 #[.agg #[.int .i64 a0_0, .int .i64 a0_1, .slice A0_2 l0_2.length c0_2], .agg #[.int .i64 a1_0, .int .i64 a1_1, .slice A1_2 l1_2.length c1_2]] w fun e w' => e = .returned (.bool r) ∧ Below w.heap.size w w' := by
  have hu31 := Try.underlying31
  have HR0_2 := Aside0.mk hr0_2
  have HC0_2 := Aside0.mk hc0_2
  clear hr0_2 hc0_2
  have HR1_2 := Aside0.mk hr1_2
  have HC1_2 := Aside0.mk hc1_2
  clear hr1_2 hc1_2
  have HB := Aside0.mk (Below.refl w.heap.size w)
  have H : (if a0_0 = a1_0 then (if a0_1 = a1_1 then ((laws_eqSquareS.f k l0_2 l1_2).bind fun t103 => (if t103 = true then (some true) else (some false))) else (some false)) else (some false)) = some r := h
  clear h
  by_cases c3 : a0_0 = a1_0
  · rw [if_pos c3] at H
    have c3b0 : (a0_0 == a1_0) = true := beq_iff_eq.mpr c3
    have c3b1 : (a0_0 != a1_0) = false := bne_eq_false_iff_eq.mpr c3
    clear c3
    by_cases c4 : a0_1 = a1_1
    · rw [if_pos c4] at H
      have c4b0 : (a0_1 == a1_1) = true := beq_iff_eq.mpr c4
      have c4b1 : (a0_1 != a1_1) = false := bne_eq_false_iff_eq.mpr c4
      clear c4
      replace H := Option.bind_eq_some_iff.mp H
      obtain ⟨t103, A50, H⟩ := H
      replace H : (if t103 = true then (some true) else (some false)) = some r := H
      have A5 := Aside0.mk A50
      clear A50
      by_cases c6 : t103 = true
      · subst c6
        have H1 : (some true) = some r := by rw [if_pos rfl] at H; exact H
        clear H
        have H := H1
        clear H1
        obtain rfl := Option.some.inj H
        go_enter Try.func14, Try.ntmps14
        go_wp2_with (first | ((with_reducible refine gate_dst (N := 2) rfl ?_); refine box_event ?hg (N := 2) ?hd (cs := #[.int .i64 a0_0, .int .i64 a0_1, .slice A0_2 l0_2.length c0_2]) (t := 31) ?hr ?_; (case hd => rfl); (case hg => rfl); (case hr => first | (go_simp; done) | (go_simp; rfl)); intro gb101 hg w7 hbox hb; have n0_ := Aside0.mk (below_step (by repeat (first | (with_reducible first | exact HB.out | apply below_alloc | apply pw_below_drewN | apply below_drew1) | exact HB.out)) hb); have n1_ := Aside0.mk (hbox); have n2_ := Aside0.mk ((by rw [hg]; exact (below_size (by repeat (first | (with_reducible first | exact HB.out | apply below_alloc | apply pw_below_drewN | apply below_drew1) | exact HB.out))) : w.heap.size ≤ gb101)); have n3_ := Aside0.mk ((by rw [hg]; exact (below_size (by repeat (first | (with_reducible first | exact HB.out | apply below_alloc | apply pw_below_drewN | apply below_drew1) | exact HB.out))) : w.heap.size ≤ gb101)); clear HB; have HB := n0_; have BK101 := n1_; have GW101 := n2_; have GE101 := n3_; clear n0_ n1_ n2_ n3_; clear hb hbox hg) | ((with_reducible refine gate_dst (N := 3) rfl ?_); refine box_event ?hg (N := 3) ?hd (cs := #[.int .i64 a1_0, .int .i64 a1_1, .slice A1_2 l1_2.length c1_2]) (t := 31) ?hr ?_; (case hd => rfl); (case hg => rfl); (case hr => first | (go_simp; done) | (go_simp; rfl)); intro gb102 hg w8 hbox hb; have n0_ := Aside0.mk (blk_below (g := gb101) (o := .cells #[.int .i64 a0_0, .int .i64 a0_1, .slice A0_2 l0_2.length c0_2] 31 (0, 0)) (by (with_reducible repeat (first | refine blk_drewN ?_ _ | refine blk_drew ?_ | refine blk_alloc ?_ _)); exact BK101.out) hb); have n1_ := Aside0.mk (below_step (by repeat (first | (with_reducible first | exact HB.out | apply below_alloc | apply pw_below_drewN | apply below_drew1 | refine below_set ?_ GE101.out) | exact HB.out)) hb); have n2_ := Aside0.mk (hbox); have n3_ := Aside0.mk ((by rw [hg]; exact (below_size (by repeat (first | (with_reducible first | exact HB.out | apply below_alloc | apply pw_below_drewN | apply below_drew1 | refine below_set ?_ GE101.out) | exact HB.out))) : w.heap.size ≤ gb102)); have n4_ := Aside0.mk ((by rw [hg]; exact (below_size (by repeat (first | (with_reducible first | exact HB.out | apply below_alloc | apply pw_below_drewN | apply below_drew1 | refine below_set ?_ GE101.out) | exact HB.out))) : w.heap.size ≤ gb102)); have n5_ := Aside0.mk ((by rw [hg]; exact Nat.ne_of_lt (blk_lt (g := gb101) (o := .cells #[.int .i64 a0_0, .int .i64 a0_1, .slice A0_2 l0_2.length c0_2] 31 (0, 0)) (by (with_reducible repeat (first | refine blk_drewN ?_ _ | refine blk_drew ?_ | refine blk_alloc ?_ _)); exact BK101.out)) : gb101 ≠ gb102)); have n6_ := Aside0.mk ((by rw [hg]; exact Nat.ne_of_gt (blk_lt (g := gb101) (o := .cells #[.int .i64 a0_0, .int .i64 a0_1, .slice A0_2 l0_2.length c0_2] 31 (0, 0)) (by (with_reducible repeat (first | refine blk_drewN ?_ _ | refine blk_drew ?_ | refine blk_alloc ?_ _)); exact BK101.out)) : gb102 ≠ gb101)); clear BK101; clear HB; have BK101 := n0_; have HB := n1_; have BK102 := n2_; have GW102 := n3_; have GE102 := n4_; have NB101_102 := n5_; have NB102_101 := n6_; clear n0_ n1_ n2_ n3_ n4_ n5_ n6_; clear hb hbox hg; have hnb9 := NB101_102.out; have hnc9 := NB102_101.out; have hcz10_0 : w8.cell? ⟨gb101, 0, none⟩ = some (.int .i64 a0_0) := (blk_cell BK101.out 0).trans rfl; have hcz10_1 : w8.cell? ⟨gb101, 1, none⟩ = some (.int .i64 a0_1) := (blk_cell BK101.out 1).trans rfl; have hcz10_2 : w8.cell? ⟨gb101, 2, none⟩ = some (.slice A0_2 l0_2.length c0_2) := (blk_cell BK101.out 2).trans rfl; have hfz10_0 := blk_frozen BK101.out 0; have hfz10_1 := blk_frozen BK101.out 1; have hfz10_2 := blk_frozen BK101.out 2; have hcz11_0 : w8.cell? ⟨gb102, 0, none⟩ = some (.int .i64 a1_0) := (blk_cell BK102.out 0).trans rfl; have hcz11_1 : w8.cell? ⟨gb102, 1, none⟩ = some (.int .i64 a1_1) := (blk_cell BK102.out 1).trans rfl; have hcz11_2 : w8.cell? ⟨gb102, 2, none⟩ = some (.slice A1_2 l1_2.length c1_2) := (blk_cell BK102.out 2).trans rfl; have hfz11_0 := blk_frozen BK102.out 0; have hfz11_1 := blk_frozen BK102.out 1; have hfz11_2 := blk_frozen BK102.out 2) | ((with_reducible refine gate_callee (f := 36) rfl ?_); refine goesL_ (some 19) rfl rfl Try.func36 (by kernel_rfl) rfl #[.slice A0_2 l0_2.length c0_2, .slice A1_2 l1_2.length c1_2] rfl (by (try simp only [List.map_toArray, List.map_cons, List.map_nil]); first | done | rfl | (simp only [List.length_drop, List.length_take]; rfl)) ?_; (with_reducible refine (laws_eqSquareS.calls k _ _ l0_2 _ _ l1_2 true _ ?side1 ?side2 ?side3 ?side4 A5.out).mono ?_); (case side1 => repeat (first | exact (Kd.C_below HR0_2.out HB.out) | (with_reducible refine Kd.C_alloc ?_ _) | (with_reducible refine Kd.C_drewN ?_ _) | (with_reducible refine Kd.C_drew ?_))); (case side2 => exact HC0_2.out); (case side3 => repeat (first | exact (Kd.C_below HR1_2.out HB.out) | (with_reducible refine Kd.C_alloc ?_ _) | (with_reducible refine Kd.C_drewN ?_ _) | (with_reducible refine Kd.C_drew ?_))); (case side4 => exact HC1_2.out); rintro e w12 ⟨rfl, hb⟩; refine ⟨_, rfl, ?_⟩; have n0_ := Aside0.mk (blk_below (g := gb101) (o := .cells #[.int .i64 a0_0, .int .i64 a0_1, .slice A0_2 l0_2.length c0_2] 31 (0, 0)) (by (with_reducible repeat (first | refine blk_drewN ?_ _ | refine blk_drew ?_ | refine blk_alloc ?_ _)); exact BK101.out) hb); have n1_ := Aside0.mk (blk_below (g := gb102) (o := .cells #[.int .i64 a1_0, .int .i64 a1_1, .slice A1_2 l1_2.length c1_2] 31 (0, 0)) (by (with_reducible repeat (first | refine blk_drewN ?_ _ | refine blk_drew ?_ | refine blk_alloc ?_ _)); exact BK102.out) hb); have n2_ := Aside0.mk (below_step (by repeat (first | (with_reducible first | exact HB.out | apply below_alloc | apply pw_below_drewN | apply below_drew1 | refine below_set ?_ GE101.out | refine below_set ?_ GE102.out) | exact HB.out)) hb); clear BK101; clear BK102; clear HB; have BK101 := n0_; have BK102 := n1_; have HB := n2_; clear n0_ n1_ n2_; (try clear hb); (try clear hb2); (try clear hk); (try clear hi)))
        go_ret
        exact ⟨by first | rfl | (simp [errW_none, errW_some] <;> rfl) | (simp [*, errW_none, errW_some] <;> rfl), by repeat (first | (with_reducible first | exact HB.out | apply below_alloc | apply pw_below_drewN | apply below_drew1 | refine below_set ?_ GE101.out | refine below_set ?_ GE102.out) | exact HB.out)⟩
      · replace c6 := Bool.eq_false_iff.mpr c6
        subst c6
        have H1 : (some false) = some r := by rw [if_neg (show ¬ (false = true) by decide)] at H; exact H
        clear H
        have H := H1
        clear H1
        obtain rfl := Option.some.inj H
        go_enter Try.func14, Try.ntmps14
        go_wp2_with (first | ((with_reducible refine gate_dst (N := 2) rfl ?_); refine box_event ?hg (N := 2) ?hd (cs := #[.int .i64 a0_0, .int .i64 a0_1, .slice A0_2 l0_2.length c0_2]) (t := 31) ?hr ?_; (case hd => rfl); (case hg => rfl); (case hr => first | (go_simp; done) | (go_simp; rfl)); intro gb101 hg w13 hbox hb; have n0_ := Aside0.mk (below_step (by repeat (first | (with_reducible first | exact HB.out | apply below_alloc | apply pw_below_drewN | apply below_drew1) | exact HB.out)) hb); have n1_ := Aside0.mk (hbox); have n2_ := Aside0.mk ((by rw [hg]; exact (below_size (by repeat (first | (with_reducible first | exact HB.out | apply below_alloc | apply pw_below_drewN | apply below_drew1) | exact HB.out))) : w.heap.size ≤ gb101)); have n3_ := Aside0.mk ((by rw [hg]; exact (below_size (by repeat (first | (with_reducible first | exact HB.out | apply below_alloc | apply pw_below_drewN | apply below_drew1) | exact HB.out))) : w.heap.size ≤ gb101)); clear HB; have HB := n0_; have BK101 := n1_; have GW101 := n2_; have GE101 := n3_; clear n0_ n1_ n2_ n3_; clear hb hbox hg) | ((with_reducible refine gate_dst (N := 3) rfl ?_); refine box_event ?hg (N := 3) ?hd (cs := #[.int .i64 a1_0, .int .i64 a1_1, .slice A1_2 l1_2.length c1_2]) (t := 31) ?hr ?_; (case hd => rfl); (case hg => rfl); (case hr => first | (go_simp; done) | (go_simp; rfl)); intro gb102 hg w14 hbox hb; have n0_ := Aside0.mk (blk_below (g := gb101) (o := .cells #[.int .i64 a0_0, .int .i64 a0_1, .slice A0_2 l0_2.length c0_2] 31 (0, 0)) (by (with_reducible repeat (first | refine blk_drewN ?_ _ | refine blk_drew ?_ | refine blk_alloc ?_ _)); exact BK101.out) hb); have n1_ := Aside0.mk (below_step (by repeat (first | (with_reducible first | exact HB.out | apply below_alloc | apply pw_below_drewN | apply below_drew1 | refine below_set ?_ GE101.out) | exact HB.out)) hb); have n2_ := Aside0.mk (hbox); have n3_ := Aside0.mk ((by rw [hg]; exact (below_size (by repeat (first | (with_reducible first | exact HB.out | apply below_alloc | apply pw_below_drewN | apply below_drew1 | refine below_set ?_ GE101.out) | exact HB.out))) : w.heap.size ≤ gb102)); have n4_ := Aside0.mk ((by rw [hg]; exact (below_size (by repeat (first | (with_reducible first | exact HB.out | apply below_alloc | apply pw_below_drewN | apply below_drew1 | refine below_set ?_ GE101.out) | exact HB.out))) : w.heap.size ≤ gb102)); have n5_ := Aside0.mk ((by rw [hg]; exact Nat.ne_of_lt (blk_lt (g := gb101) (o := .cells #[.int .i64 a0_0, .int .i64 a0_1, .slice A0_2 l0_2.length c0_2] 31 (0, 0)) (by (with_reducible repeat (first | refine blk_drewN ?_ _ | refine blk_drew ?_ | refine blk_alloc ?_ _)); exact BK101.out)) : gb101 ≠ gb102)); have n6_ := Aside0.mk ((by rw [hg]; exact Nat.ne_of_gt (blk_lt (g := gb101) (o := .cells #[.int .i64 a0_0, .int .i64 a0_1, .slice A0_2 l0_2.length c0_2] 31 (0, 0)) (by (with_reducible repeat (first | refine blk_drewN ?_ _ | refine blk_drew ?_ | refine blk_alloc ?_ _)); exact BK101.out)) : gb102 ≠ gb101)); clear BK101; clear HB; have BK101 := n0_; have HB := n1_; have BK102 := n2_; have GW102 := n3_; have GE102 := n4_; have NB101_102 := n5_; have NB102_101 := n6_; clear n0_ n1_ n2_ n3_ n4_ n5_ n6_; clear hb hbox hg; have hnb15 := NB101_102.out; have hnc15 := NB102_101.out; have hcz16_0 : w14.cell? ⟨gb101, 0, none⟩ = some (.int .i64 a0_0) := (blk_cell BK101.out 0).trans rfl; have hcz16_1 : w14.cell? ⟨gb101, 1, none⟩ = some (.int .i64 a0_1) := (blk_cell BK101.out 1).trans rfl; have hcz16_2 : w14.cell? ⟨gb101, 2, none⟩ = some (.slice A0_2 l0_2.length c0_2) := (blk_cell BK101.out 2).trans rfl; have hfz16_0 := blk_frozen BK101.out 0; have hfz16_1 := blk_frozen BK101.out 1; have hfz16_2 := blk_frozen BK101.out 2; have hcz17_0 : w14.cell? ⟨gb102, 0, none⟩ = some (.int .i64 a1_0) := (blk_cell BK102.out 0).trans rfl; have hcz17_1 : w14.cell? ⟨gb102, 1, none⟩ = some (.int .i64 a1_1) := (blk_cell BK102.out 1).trans rfl; have hcz17_2 : w14.cell? ⟨gb102, 2, none⟩ = some (.slice A1_2 l1_2.length c1_2) := (blk_cell BK102.out 2).trans rfl; have hfz17_0 := blk_frozen BK102.out 0; have hfz17_1 := blk_frozen BK102.out 1; have hfz17_2 := blk_frozen BK102.out 2) | ((with_reducible refine gate_callee (f := 36) rfl ?_); refine goesL_ (some 19) rfl rfl Try.func36 (by kernel_rfl) rfl #[.slice A0_2 l0_2.length c0_2, .slice A1_2 l1_2.length c1_2] rfl (by (try simp only [List.map_toArray, List.map_cons, List.map_nil]); first | done | rfl | (simp only [List.length_drop, List.length_take]; rfl)) ?_; (with_reducible refine (laws_eqSquareS.calls k _ _ l0_2 _ _ l1_2 false _ ?side1 ?side2 ?side3 ?side4 A5.out).mono ?_); (case side1 => repeat (first | exact (Kd.C_below HR0_2.out HB.out) | (with_reducible refine Kd.C_alloc ?_ _) | (with_reducible refine Kd.C_drewN ?_ _) | (with_reducible refine Kd.C_drew ?_))); (case side2 => exact HC0_2.out); (case side3 => repeat (first | exact (Kd.C_below HR1_2.out HB.out) | (with_reducible refine Kd.C_alloc ?_ _) | (with_reducible refine Kd.C_drewN ?_ _) | (with_reducible refine Kd.C_drew ?_))); (case side4 => exact HC1_2.out); rintro e w18 ⟨rfl, hb⟩; refine ⟨_, rfl, ?_⟩; have n0_ := Aside0.mk (blk_below (g := gb101) (o := .cells #[.int .i64 a0_0, .int .i64 a0_1, .slice A0_2 l0_2.length c0_2] 31 (0, 0)) (by (with_reducible repeat (first | refine blk_drewN ?_ _ | refine blk_drew ?_ | refine blk_alloc ?_ _)); exact BK101.out) hb); have n1_ := Aside0.mk (blk_below (g := gb102) (o := .cells #[.int .i64 a1_0, .int .i64 a1_1, .slice A1_2 l1_2.length c1_2] 31 (0, 0)) (by (with_reducible repeat (first | refine blk_drewN ?_ _ | refine blk_drew ?_ | refine blk_alloc ?_ _)); exact BK102.out) hb); have n2_ := Aside0.mk (below_step (by repeat (first | (with_reducible first | exact HB.out | apply below_alloc | apply pw_below_drewN | apply below_drew1 | refine below_set ?_ GE101.out | refine below_set ?_ GE102.out) | exact HB.out)) hb); clear BK101; clear BK102; clear HB; have BK101 := n0_; have BK102 := n1_; have HB := n2_; clear n0_ n1_ n2_; (try clear hb); (try clear hb2); (try clear hk); (try clear hi)))
        go_ret
        exact ⟨by first | rfl | (simp [errW_none, errW_some] <;> rfl) | (simp [*, errW_none, errW_some] <;> rfl), by repeat (first | (with_reducible first | exact HB.out | apply below_alloc | apply pw_below_drewN | apply below_drew1 | refine below_set ?_ GE101.out | refine below_set ?_ GE102.out) | exact HB.out)⟩
    · rw [if_neg c4] at H
      have c4b0 : (a0_1 == a1_1) = false := beq_eq_false_iff_ne.mpr c4
      have c4b1 : (a0_1 != a1_1) = true := bne_iff_ne.mpr c4
      obtain rfl := Option.some.inj H
      go_enter Try.func14, Try.ntmps14
      go_wp2_with (first | ((with_reducible refine gate_dst (N := 2) rfl ?_); refine box_event ?hg (N := 2) ?hd (cs := #[.int .i64 a0_0, .int .i64 a0_1, .slice A0_2 l0_2.length c0_2]) (t := 31) ?hr ?_; (case hd => rfl); (case hg => rfl); (case hr => first | (go_simp; done) | (go_simp; rfl)); intro gb101 hg w19 hbox hb; have n0_ := Aside0.mk (below_step (by repeat (first | (with_reducible first | exact HB.out | apply below_alloc | apply pw_below_drewN | apply below_drew1) | exact HB.out)) hb); have n1_ := Aside0.mk (hbox); have n2_ := Aside0.mk ((by rw [hg]; exact (below_size (by repeat (first | (with_reducible first | exact HB.out | apply below_alloc | apply pw_below_drewN | apply below_drew1) | exact HB.out))) : w.heap.size ≤ gb101)); have n3_ := Aside0.mk ((by rw [hg]; exact (below_size (by repeat (first | (with_reducible first | exact HB.out | apply below_alloc | apply pw_below_drewN | apply below_drew1) | exact HB.out))) : w.heap.size ≤ gb101)); clear HB; have HB := n0_; have BK101 := n1_; have GW101 := n2_; have GE101 := n3_; clear n0_ n1_ n2_ n3_; clear hb hbox hg) | ((with_reducible refine gate_dst (N := 3) rfl ?_); refine box_event ?hg (N := 3) ?hd (cs := #[.int .i64 a1_0, .int .i64 a1_1, .slice A1_2 l1_2.length c1_2]) (t := 31) ?hr ?_; (case hd => rfl); (case hg => rfl); (case hr => first | (go_simp; done) | (go_simp; rfl)); intro gb102 hg w20 hbox hb; have n0_ := Aside0.mk (blk_below (g := gb101) (o := .cells #[.int .i64 a0_0, .int .i64 a0_1, .slice A0_2 l0_2.length c0_2] 31 (0, 0)) (by (with_reducible repeat (first | refine blk_drewN ?_ _ | refine blk_drew ?_ | refine blk_alloc ?_ _)); exact BK101.out) hb); have n1_ := Aside0.mk (below_step (by repeat (first | (with_reducible first | exact HB.out | apply below_alloc | apply pw_below_drewN | apply below_drew1 | refine below_set ?_ GE101.out) | exact HB.out)) hb); have n2_ := Aside0.mk (hbox); have n3_ := Aside0.mk ((by rw [hg]; exact (below_size (by repeat (first | (with_reducible first | exact HB.out | apply below_alloc | apply pw_below_drewN | apply below_drew1 | refine below_set ?_ GE101.out) | exact HB.out))) : w.heap.size ≤ gb102)); have n4_ := Aside0.mk ((by rw [hg]; exact (below_size (by repeat (first | (with_reducible first | exact HB.out | apply below_alloc | apply pw_below_drewN | apply below_drew1 | refine below_set ?_ GE101.out) | exact HB.out))) : w.heap.size ≤ gb102)); have n5_ := Aside0.mk ((by rw [hg]; exact Nat.ne_of_lt (blk_lt (g := gb101) (o := .cells #[.int .i64 a0_0, .int .i64 a0_1, .slice A0_2 l0_2.length c0_2] 31 (0, 0)) (by (with_reducible repeat (first | refine blk_drewN ?_ _ | refine blk_drew ?_ | refine blk_alloc ?_ _)); exact BK101.out)) : gb101 ≠ gb102)); have n6_ := Aside0.mk ((by rw [hg]; exact Nat.ne_of_gt (blk_lt (g := gb101) (o := .cells #[.int .i64 a0_0, .int .i64 a0_1, .slice A0_2 l0_2.length c0_2] 31 (0, 0)) (by (with_reducible repeat (first | refine blk_drewN ?_ _ | refine blk_drew ?_ | refine blk_alloc ?_ _)); exact BK101.out)) : gb102 ≠ gb101)); clear BK101; clear HB; have BK101 := n0_; have HB := n1_; have BK102 := n2_; have GW102 := n3_; have GE102 := n4_; have NB101_102 := n5_; have NB102_101 := n6_; clear n0_ n1_ n2_ n3_ n4_ n5_ n6_; clear hb hbox hg; have hnb21 := NB101_102.out; have hnc21 := NB102_101.out; have hcz22_0 : w20.cell? ⟨gb101, 0, none⟩ = some (.int .i64 a0_0) := (blk_cell BK101.out 0).trans rfl; have hcz22_1 : w20.cell? ⟨gb101, 1, none⟩ = some (.int .i64 a0_1) := (blk_cell BK101.out 1).trans rfl; have hcz22_2 : w20.cell? ⟨gb101, 2, none⟩ = some (.slice A0_2 l0_2.length c0_2) := (blk_cell BK101.out 2).trans rfl; have hfz22_0 := blk_frozen BK101.out 0; have hfz22_1 := blk_frozen BK101.out 1; have hfz22_2 := blk_frozen BK101.out 2; have hcz23_0 : w20.cell? ⟨gb102, 0, none⟩ = some (.int .i64 a1_0) := (blk_cell BK102.out 0).trans rfl; have hcz23_1 : w20.cell? ⟨gb102, 1, none⟩ = some (.int .i64 a1_1) := (blk_cell BK102.out 1).trans rfl; have hcz23_2 : w20.cell? ⟨gb102, 2, none⟩ = some (.slice A1_2 l1_2.length c1_2) := (blk_cell BK102.out 2).trans rfl; have hfz23_0 := blk_frozen BK102.out 0; have hfz23_1 := blk_frozen BK102.out 1; have hfz23_2 := blk_frozen BK102.out 2))
      go_ret
      exact ⟨by first | rfl | (simp [errW_none, errW_some] <;> rfl) | (simp [*, errW_none, errW_some] <;> rfl), by repeat (first | (with_reducible first | exact HB.out | apply below_alloc | apply pw_below_drewN | apply below_drew1 | refine below_set ?_ GE101.out | refine below_set ?_ GE102.out) | exact HB.out)⟩
  · rw [if_neg c3] at H
    have c3b0 : (a0_0 == a1_0) = false := beq_eq_false_iff_ne.mpr c3
    have c3b1 : (a0_0 != a1_0) = true := bne_iff_ne.mpr c3
    obtain rfl := Option.some.inj H
    go_enter Try.func14, Try.ntmps14
    go_wp2_with (first | ((with_reducible refine gate_dst (N := 2) rfl ?_); refine box_event ?hg (N := 2) ?hd (cs := #[.int .i64 a0_0, .int .i64 a0_1, .slice A0_2 l0_2.length c0_2]) (t := 31) ?hr ?_; (case hd => rfl); (case hg => rfl); (case hr => first | (go_simp; done) | (go_simp; rfl)); intro gb101 hg w24 hbox hb; have n0_ := Aside0.mk (below_step (by repeat (first | (with_reducible first | exact HB.out | apply below_alloc | apply pw_below_drewN | apply below_drew1) | exact HB.out)) hb); have n1_ := Aside0.mk (hbox); have n2_ := Aside0.mk ((by rw [hg]; exact (below_size (by repeat (first | (with_reducible first | exact HB.out | apply below_alloc | apply pw_below_drewN | apply below_drew1) | exact HB.out))) : w.heap.size ≤ gb101)); have n3_ := Aside0.mk ((by rw [hg]; exact (below_size (by repeat (first | (with_reducible first | exact HB.out | apply below_alloc | apply pw_below_drewN | apply below_drew1) | exact HB.out))) : w.heap.size ≤ gb101)); clear HB; have HB := n0_; have BK101 := n1_; have GW101 := n2_; have GE101 := n3_; clear n0_ n1_ n2_ n3_; clear hb hbox hg) | ((with_reducible refine gate_dst (N := 3) rfl ?_); refine box_event ?hg (N := 3) ?hd (cs := #[.int .i64 a1_0, .int .i64 a1_1, .slice A1_2 l1_2.length c1_2]) (t := 31) ?hr ?_; (case hd => rfl); (case hg => rfl); (case hr => first | (go_simp; done) | (go_simp; rfl)); intro gb102 hg w25 hbox hb; have n0_ := Aside0.mk (blk_below (g := gb101) (o := .cells #[.int .i64 a0_0, .int .i64 a0_1, .slice A0_2 l0_2.length c0_2] 31 (0, 0)) (by (with_reducible repeat (first | refine blk_drewN ?_ _ | refine blk_drew ?_ | refine blk_alloc ?_ _)); exact BK101.out) hb); have n1_ := Aside0.mk (below_step (by repeat (first | (with_reducible first | exact HB.out | apply below_alloc | apply pw_below_drewN | apply below_drew1 | refine below_set ?_ GE101.out) | exact HB.out)) hb); have n2_ := Aside0.mk (hbox); have n3_ := Aside0.mk ((by rw [hg]; exact (below_size (by repeat (first | (with_reducible first | exact HB.out | apply below_alloc | apply pw_below_drewN | apply below_drew1 | refine below_set ?_ GE101.out) | exact HB.out))) : w.heap.size ≤ gb102)); have n4_ := Aside0.mk ((by rw [hg]; exact (below_size (by repeat (first | (with_reducible first | exact HB.out | apply below_alloc | apply pw_below_drewN | apply below_drew1 | refine below_set ?_ GE101.out) | exact HB.out))) : w.heap.size ≤ gb102)); have n5_ := Aside0.mk ((by rw [hg]; exact Nat.ne_of_lt (blk_lt (g := gb101) (o := .cells #[.int .i64 a0_0, .int .i64 a0_1, .slice A0_2 l0_2.length c0_2] 31 (0, 0)) (by (with_reducible repeat (first | refine blk_drewN ?_ _ | refine blk_drew ?_ | refine blk_alloc ?_ _)); exact BK101.out)) : gb101 ≠ gb102)); have n6_ := Aside0.mk ((by rw [hg]; exact Nat.ne_of_gt (blk_lt (g := gb101) (o := .cells #[.int .i64 a0_0, .int .i64 a0_1, .slice A0_2 l0_2.length c0_2] 31 (0, 0)) (by (with_reducible repeat (first | refine blk_drewN ?_ _ | refine blk_drew ?_ | refine blk_alloc ?_ _)); exact BK101.out)) : gb102 ≠ gb101)); clear BK101; clear HB; have BK101 := n0_; have HB := n1_; have BK102 := n2_; have GW102 := n3_; have GE102 := n4_; have NB101_102 := n5_; have NB102_101 := n6_; clear n0_ n1_ n2_ n3_ n4_ n5_ n6_; clear hb hbox hg; have hnb26 := NB101_102.out; have hnc26 := NB102_101.out; have hcz27_0 : w25.cell? ⟨gb101, 0, none⟩ = some (.int .i64 a0_0) := (blk_cell BK101.out 0).trans rfl; have hcz27_1 : w25.cell? ⟨gb101, 1, none⟩ = some (.int .i64 a0_1) := (blk_cell BK101.out 1).trans rfl; have hcz27_2 : w25.cell? ⟨gb101, 2, none⟩ = some (.slice A0_2 l0_2.length c0_2) := (blk_cell BK101.out 2).trans rfl; have hfz27_0 := blk_frozen BK101.out 0; have hfz27_1 := blk_frozen BK101.out 1; have hfz27_2 := blk_frozen BK101.out 2; have hcz28_0 : w25.cell? ⟨gb102, 0, none⟩ = some (.int .i64 a1_0) := (blk_cell BK102.out 0).trans rfl; have hcz28_1 : w25.cell? ⟨gb102, 1, none⟩ = some (.int .i64 a1_1) := (blk_cell BK102.out 1).trans rfl; have hcz28_2 : w25.cell? ⟨gb102, 2, none⟩ = some (.slice A1_2 l1_2.length c1_2) := (blk_cell BK102.out 2).trans rfl; have hfz28_0 := blk_frozen BK102.out 0; have hfz28_1 := blk_frozen BK102.out 1; have hfz28_2 := blk_frozen BK102.out 2))
    go_ret
    exact ⟨by first | rfl | (simp [errW_none, errW_some] <;> rfl) | (simp [*, errW_none, errW_some] <;> rfl), by repeat (first | (with_reducible first | exact HB.out | apply below_alloc | apply pw_below_drewN | apply below_drew1 | refine below_set ?_ GE101.out | refine below_set ?_ GE102.out) | exact HB.out)⟩
end Go.Proofs.Ytnfiejagokefcaa.P
