import Derived.Test.YtomfebfjkcdjpabDoorMFnExactCutOfWordx0
import Derived.Test.YtomfebfjkcdjpabDoorMFnExactCutOfWordx1
import Derived.Sort.Lot0
import Derived.Test.YtomfebfjkcdjpabDoorWKept
import Derived.Laws.IdiomCopy
import Derived.Sort.LotA
import Derived.Sort.WalkA
import Derived.Shelf.SlicesQ.Load
import Derived.Shelf.Abstract
import Derived.BigRegion
import Derived.Deep.DeepCutAuto
import Derived.Deep.RegionLaw
import Derived.Deep.CutRange
namespace Go.Proofs.YtomfebfjkcdjpabDoor.T
open Go.Sort
variable {α : Type} [Inhabited α]
theorem swpGet (d : Array α) {i j : Nat} (hi : i < d.size) (hj : j < d.size) (k : Nat) :
    (swp d i j)[k]! = if k = j then d[i]! else if k = i then d[j]! else d[k]! := by
  unfold swp
  simp only [getElem!_def, Array.getElem?_setIfInBounds, Array.size_setIfInBounds]
  by_cases h1 : k = j
  · subst h1; simp [hj]
  · by_cases h2 : k = i
    · subst h2; simp [hi, Ne.symm h1, h1]
    · simp [Ne.symm h1, Ne.symm h2, h1, h2]
theorem swpSize (d : Array α) (i j : Nat) : (swp d i j).size = d.size := by simp [swp]
/-- n places from a on change with those from b on -/
def swpN (d : Array α) (a b : Nat) : Nat → Array α
  | 0 => d
  | n + 1 => swp (swpN d a b n) (a + n) (b + n)
theorem swpN_size (d : Array α) (a b : Nat) : ∀ n, (swpN d a b n).size = d.size
  | 0 => rfl
  | n + 1 => by rw [swpN, swpSize, swpN_size d a b n]
theorem swpN_get (d : Array α) (a b : Nat) : ∀ n, a + n ≤ b → b + n ≤ d.size → ∀ k, (swpN d a b n)[k]! = if a ≤ k ∧ k < a + n then d[b + (k - a)]! else if b ≤ k ∧ k < b + n then d[a + (k - b)]! else d[k]!
  | 0, _, _, k => by simp only [swpN]; rw [if_neg (by omega), if_neg (by omega)]
  | n + 1, h1, h2, k => by
    have ih := swpN_get d a b n (by omega) (by omega)
    rw [swpN, swpGet _ (by rw [swpN_size]; omega) (by rw [swpN_size]; omega), ih (a + n), ih (b + n), ih k]
    by_cases c1 : k = b + n
    · subst c1
      rw [if_pos rfl, if_neg (by omega), if_neg (by omega), if_neg (by omega), if_pos (by omega)]
      congr 1; omega
    · rw [if_neg c1]
      by_cases c2 : k = a + n
      · subst c2
        rw [if_pos rfl, if_neg (by omega), if_neg (by omega), if_pos (by omega)]
        congr 1; omega
      · rw [if_neg c2]
        by_cases c3 : a ≤ k ∧ k < a + n
        · rw [if_pos c3, if_pos (by omega)]
        · have e3 : ¬ (a ≤ k ∧ k < a + (n + 1)) := by omega
          rw [if_neg c3, if_neg e3]
          by_cases c4 : b ≤ k ∧ k < b + n
          · rw [if_pos c4, if_pos (by omega)]
          · rw [if_neg c4, if_neg (by omega)]
theorem swpN_perm (d : Array α) (lo hi a b : Nat) : ∀ n, lo ≤ a → a + n ≤ hi → lo ≤ b → b + n ≤ hi → hi ≤ d.size → PermIn lo hi d (swpN d a b n)
  | 0, _, _, _, _, _ => permIn_refl _ _ _
  | n + 1, h1, h2, h3, h4, h5 => permIn_trans _ _ _ _ _ (swpN_perm d lo hi a b n h1 (by omega) h3 (by omega) h5) (swp_permIn _ _ _ _ _ (by omega) (by omega) (by omega) (by omega) (by rw [swpN_size]; omega))
/-- what lies in [m, b) comes before what lies in [a, m) -/
structure Rot (d : Array α) (a m b : Nat) (d' : Array α) : Prop where
  size : d'.size = d.size
  out : ∀ k, k < a ∨ b ≤ k → d'[k]! = d[k]!
  lo : ∀ k, k < b - m → d'[a + k]! = d[m + k]!
  hi : ∀ k, k < m - a → d'[a + (b - m) + k]! = d[a + k]!
theorem Rot.last (d : Array α) (m i : Nat) (h1 : i ≤ m) (h2 : m + i ≤ d.size) : Rot d (m - i) m (m + i) (swpN d (m - i) m i) := by
  have g := swpN_get d (m - i) m i (by omega) h2
  refine ⟨swpN_size _ _ _ _, fun k hk => ?_, fun k hk => ?_, fun k hk => ?_⟩
  · rw [g, if_neg (by omega), if_neg (by omega)]
  · rw [g, if_pos (by omega)]; congr 1; omega
  · rw [g, if_neg (by omega), if_pos (by omega)]; congr 1; omega
/-- the left part is the longer one -/
theorem Rot.left {d d' : Array α} {m i j : Nat} (h1 : i ≤ m) (hj : j < i) (h2 : m + j ≤ d.size) (h : Rot (swpN d (m - i) m j) (m - (i - j)) m (m + j) d') : Rot d (m - i) m (m + j) d' := by
  have g := swpN_get d (m - i) m j (by omega) h2
  refine ⟨h.size.trans (swpN_size _ _ _ _), fun k hk => ?_, fun k hk => ?_, fun k hk => ?_⟩
  · rw [h.out k (by omega), g, if_neg (by omega), if_neg (by omega)]
  · rw [h.out _ (by omega), g, if_pos (by omega)]; congr 1; omega
  · by_cases c : k < j
    · have := h.lo k (by omega)
      rw [show m - (i - j) + k = m - i + (m + j - m) + k by omega] at this
      rw [this, g, if_neg (by omega), if_pos (by omega)]; congr 1; omega
    · have := h.hi (k - j) (by omega)
      rw [show m - (i - j) + (m + j - m) + (k - j) = m - i + (m + j - m) + k by omega] at this
      rw [this, g, if_neg (by omega), if_neg (by omega)]; congr 1; omega
/-- the right part is the longer one -/
theorem Rot.right {d d' : Array α} {m i j : Nat} (h1 : i ≤ m) (hj : i < j) (h2 : m + j ≤ d.size) (h : Rot (swpN d (m - i) (m + j - i) i) (m - i) m (m + (j - i)) d') : Rot d (m - i) m (m + j) d' := by
  have g := swpN_get d (m - i) (m + j - i) i (by omega) (by omega)
  refine ⟨h.size.trans (swpN_size _ _ _ _), fun k hk => ?_, fun k hk => ?_, fun k hk => ?_⟩
  · rw [h.out k (by omega), g, if_neg (by omega), if_neg (by omega)]
  · by_cases c : k < j - i
    · rw [h.lo k (by omega), g, if_neg (by omega), if_neg (by omega)]
    · have := h.hi (k - (j - i)) (by omega)
      rw [show m - i + (m + (j - i) - m) + (k - (j - i)) = m - i + k by omega] at this
      rw [this, g, if_pos (by omega)]; congr 1; omega
  · rw [h.out _ (by omega), g, if_neg (by omega), if_pos (by omega)]; congr 1; omega
theorem Rot.nil_left {d : Array α} {m b : Nat} : Rot d m m b d := ⟨rfl, fun _ _ => rfl, fun _ _ => rfl, fun k hk => by omega⟩
theorem Rot.nil_right {d : Array α} {a m : Nat} : Rot d a m m d := ⟨rfl, fun _ _ => rfl, fun k hk => by omega, fun k hk => by simp⟩
variable {lt : α → α → Bool}
theorem SortedIn.le (O : SWO lt) {a b : Nat} {d : Array α} (h : SortedIn lt a b d) {i j : Nat} (hi : a ≤ i) (hij : i ≤ j) (hj : j < b) : lt d[j]! d[i]! = false := by
  rcases Nat.lt_or_eq_of_le hij with h1 | h1
  · exact h i j hi h1 hj
  · subst h1; exact O.irrefl _
/-- behind the rotation: four sorted parts, and the left half is not above the right one -/
structure Parts (lt : α → α → Bool) (a s m e b : Nat) (d : Array α) : Prop where
  p1 : SortedIn lt a s d
  p2 : SortedIn lt s m d
  p3 : SortedIn lt m e d
  p4 : SortedIn lt e b d
  cross : ∀ i j, a ≤ i → i < m → m ≤ j → j < b → lt d[j]! d[i]! = false
theorem sym_parts (O : SWO lt) {d d1 : Array α} {a m b mid n s e lo hi : Nat} (ham : a < m) (hmb : m < b) (hmid : mid = (a + b) / 2) (hn : n = mid + m)
    (hlo : lo = if mid < m then n - b else a) (hhi : hi = if mid < m then mid else m) (h1 : lo ≤ s) (h2 : s ≤ hi) (he : e = n - s)
    (hs : s = lo ∨ lt d[n - s]! d[s - 1]! = false) (ht : s = hi ∨ lt d[n - 1 - s]! d[s]! = true)
    (hS1 : SortedIn lt a m d) (hS2 : SortedIn lt m b d) (hR : Rot d s m e d1) : Parts lt a s mid e b d1 := by
  have hb0 : a ≤ lo ∧ lo ≤ hi ∧ hi ≤ m ∧ hi ≤ mid ∧ n - b ≤ lo := by
    rw [hlo, hhi]
    by_cases c : mid < m
    · rw [if_pos c, if_pos c]; omega
    · rw [if_neg c, if_neg c]; omega
  have hlo' : a < s → s = lo → e = b := fun h4 h5 => by
    subst h5
    by_cases c : mid < m
    · rw [if_pos c] at hlo; omega
    · rw [if_neg c] at hlo; omega
  have hhi' : s = hi → s = m ∨ e = m := fun h5 => by
    subst h5
    by_cases c : mid < m
    · rw [if_pos c] at hhi; omega
    · rw [if_neg c] at hhi; omega
  have g1 : ∀ i, a ≤ i → i < s → d1[i]! = d[i]! := fun i _ h => hR.out i (.inl h)
  have g2 : ∀ i, s ≤ i → i < mid → d1[i]! = d[m + (i - s)]! := fun i h h' => by
    have := hR.lo (i - s) (by omega)
    rwa [show s + (i - s) = i by omega] at this
  have g3 : ∀ i, mid ≤ i → i < e → d1[i]! = d[s + (i - mid)]! := fun i h h' => by
    have := hR.hi (i - mid) (by omega)
    rwa [show s + (e - m) + (i - mid) = i by omega] at this
  have g4 : ∀ i, e ≤ i → d1[i]! = d[i]! := fun i h => hR.out i (.inr h)
  refine ⟨fun i j hi hij hj => ?_, fun i j hi hij hj => ?_, fun i j hi hij hj => ?_, fun i j hi hij hj => ?_, fun i j hi hi2 hj hj2 => ?_⟩
  · rw [g1 i hi (by omega), g1 j (by omega) hj]; exact hS1 i j hi hij (by omega)
  · rw [g2 i hi (by omega), g2 j (by omega) hj]; exact hS2 _ _ (by omega) (by omega) (by omega)
  · rw [g3 i hi (by omega), g3 j (by omega) hj]; exact hS1 _ _ (by omega) (by omega) (by omega)
  · rw [g4 i hi, g4 j (by omega)]; exact hS2 i j (by omega) hij hj
  · by_cases c1 : i < s
    · rw [g1 i hi c1]
      by_cases c2 : j < e
      · rw [g3 j hj c2]; exact SortedIn.le O hS1 hi (by omega) (by omega)
      · rw [g4 j (by omega)]
        -- d[i] ≤ d[s-1] ≤ d[e] ≤ d[j]
        rcases hs with hs | hs
        · have := hlo' (by omega) hs; omega
        · have h3 : lt d[s - 1]! d[i]! = false := SortedIn.le O hS1 hi (by omega) (by omega)
          have h4 : lt d[j]! d[n - s]! = false := SortedIn.le O hS2 (by omega) (by omega) hj2
          exact O.ntrans _ _ _ h4 (O.ntrans _ _ _ hs h3)
    · rw [g2 i (by omega) hi2]
      by_cases c2 : j < e
      · rw [g3 j hj c2]
        rcases ht with ht | ht
        · rcases hhi' ht with h5 | h5 <;> omega
        · have h0 : lt d[s]! d[n - 1 - s]! = false := by
            cases hc : lt d[s]! d[n - 1 - s]! with
            | false => rfl
            | true => have := O.trans _ _ _ hc ht; rw [O.irrefl] at this; cases this
          have h3 : lt d[s + (j - mid)]! d[s]! = false := SortedIn.le O hS1 (by omega) (by omega) (by omega)
          have h4 : lt d[n - 1 - s]! d[m + (i - s)]! = false := SortedIn.le O hS2 (by omega) (by omega) (by omega)
          exact O.ntrans _ _ _ h3 (O.ntrans _ _ _ h0 h4)
      · rw [g4 j (by omega)]; exact SortedIn.le O hS2 (by omega) (by omega) hj2
theorem sym_done {a mid b : Nat} {d1 d2 d3 : Array α} (hb : b ≤ d1.size) (ham : a ≤ mid) (hmb : mid ≤ b) (hc : ∀ i j, a ≤ i → i < mid → mid ≤ j → j < b → lt d1[j]! d1[i]! = false)
    (hp2 : PermIn a mid d1 d2) (hs2 : SortedIn lt a mid d2) (hp3 : PermIn mid b d2 d3) (hs3 : SortedIn lt mid b d3) : PermIn a b d1 d3 ∧ SortedIn lt a b d3 := by
  refine ⟨permIn_trans _ _ _ _ _ (permIn_mono _ _ _ _ _ _ (Nat.le_refl _) hmb hb hp2) (permIn_mono _ _ _ _ _ _ ham (Nat.le_refl _) (by rw [hp2.1]; exact hb) hp3), fun i j hi hij hj => ?_⟩
  by_cases c1 : j < mid
  · rw [hp3.2.1 i (.inl (by omega)), hp3.2.1 j (.inl c1)]; exact hs2 i j hi hij c1
  · by_cases c2 : i < mid
    · have hx : ∀ j, mid ≤ j → j < b → lt d2[j]! d2[i]! = false := by
        intro j h1 h2
        rw [hp2.2.1 j (.inr h1)]
        exact permIn_all d1 d2 a mid (fun x => lt d1[j]! x = false) (by omega) hp2 (fun i hi hi2 => hc i j hi hi2 h1 h2) i hi c2
      rw [hp3.2.1 i (.inl c2)]
      exact permIn_all d2 d3 mid b (fun x => lt x d2[i]! = false) (by rw [hp2.1]; exact hb) hp3 hx j (by omega) hj
    · exact hs3 i j (by omega) hij hj
end Go.Proofs.YtomfebfjkcdjpabDoor.T

namespace Go.Proofs.YtomfebfjkcdjpabDoor.Sk
set_option linter.unusedVariables false
set_option linter.unusedSimpArgs false
set_option linter.unusedSectionVars false
open Go Go.RowKit Go.Sort Go.Proofs Go.Proofs.YtomfebfjkcdjpabDoor.P Go.Proofs.YtomfebfjkcdjpabDoor.T Go.Proofs.YtomfebfjkcdjpabDoorW.PrintWords Go.Proofs.YtomfebfjkcdjpabDoorW.PrintLast Go.Proofs.YtomfebfjkcdjpabDoorW.PrintMore
theorem sk_put {B : Nat} {w w1 : World} (h : Below B w w1) {p : Addr} (hp : B ≤ p.block) (u : Value) : Below B w (w1.setCell p u) :=
  ⟨h.os, h.tape, h.output, by simpa [World.setCell] using h.size, fun k hk => (Below.heap_setCell w1 p u k (by omega)).trans (h.block k hk)⟩
def encQ (q : Sq) : List Value := [.int .i64 q.f0, .int .i64 q.f1, .int .i64 q.f2]
variable {α : Type} [Inhabited α] {val : α → Sq} {base g cap : Nat} {w0 W W1 : World} {d : Array α}
/-- the row d lies in block g; all else of w0 is as it was -/
structure SB (val : α → Sq) (base : Nat) (w0 : World) (g cap : Nat) (d : Array α) (W : World) : Prop where
  row : Kd.R k41 41 W base (fun k => k = g) (.slice (some ⟨g, 0, none⟩) d.size cap) (d.toList.map val)
  kept : Kept w0 W (fun k => k = g)
  be : Below base w0 W
theorem SB.ge (h : SB val base w0 g cap d W) : base ≤ g := Kd.R_base h.row g rfl
theorem SB.lt (h : SB val base w0 g cap d W) : g < W.heap.size := Kd.R_lt h.row g rfl
theorem SB.below (h : SB val base w0 g cap d W) (hb : Below W.heap.size W W1) : SB val base w0 g cap d W1 :=
  ⟨Kd.R_below h.row hb, h.kept.below hb, h.be.trans (hb.mono (Nat.le_of_lt (Nat.lt_of_le_of_lt h.ge h.lt)))⟩
theorem SB.drew (h : SB val base w0 g cap d W) : SB val base w0 g cap d W.drew := h.below (below_drew (Below.refl _ _))
theorem getD_val (d : Array α) (i : Nat) (hi : i < d.size) (z : Sq) : (d.toList.map val).getD i z = val d[i]! := by
  rw [List.getD_eq_getElem?_getD, List.getElem?_map, List.getElem?_eq_getElem (by simpa using hi)]
  simp [hi]
theorem SB.cells (h : SB val base w0 g cap d W) {i : Nat} (hi : i < d.size) :
    (W.cell? ⟨g, i * 3, none⟩ = some (.int .i64 (val d[i]!).f0) ∧ W.cell? ⟨g, i * 3 + 1, none⟩ = some (.int .i64 (val d[i]!).f1) ∧ W.cell? ⟨g, i * 3 + 2, none⟩ = some (.int .i64 (val d[i]!).f2)) ∧
    (W.frozen? ⟨g, i * 3, none⟩ = false ∧ W.frozen? ⟨g, i * 3 + 1, none⟩ = false ∧ W.frozen? ⟨g, i * 3 + 2, none⟩ = false) := by
  obtain ⟨c, hcl, hM, hcc, hfr⟩ := Kd.R_elem h.row (⟨0, 0, 0⟩ : Sq) (i : Int) (by omega) (by omega)
  obtain rfl := k41_openM hM
  simp only [Int.toNat_natCast, getD_val d i hi] at hcc hfr
  exact ⟨⟨hcc 0 _ rfl, hcc 1 _ rfl, hcc 2 _ rfl⟩, hfr 0, hfr 1, hfr 2⟩
theorem map_set (d : Array α) (i : Nat) (x : α) : (d.setIfInBounds i x).toList.map val = (d.toList.map val).set i (val x) := by
  rw [Array.toList_setIfInBounds, List.map_set]
theorem SB.set (h : SB val base w0 g cap d W) {i : Nat} (hi : i < d.size) (x : α) : SB val base w0 g cap (d.setIfInBounds i x) (W.setCells g (i * 3) (encQ (val x))) := by
  obtain ⟨c, hcl, hM, hcc, hfr⟩ := Kd.R_elem h.row (⟨0, 0, 0⟩ : Sq) (i : Int) (by omega) (by omega)
  have hc3 : c.length = 3 := hcl
  have hs := Kd.R_seg h.row (i : Int) (by omega) (by omega) (c := c) (seg := encQ (val x)) (j := 0) hcl hcc (show 3 ≤ 3 by omega) (x' := val x) (okp := fun _ => False) (by
    have e : c.take 0 ++ encQ (val x) ++ c.drop (0 + (encQ (val x)).length) = encQ (val x) := by
      rw [List.take_zero, List.nil_append, List.drop_of_length_le (by rw [hc3]; show 3 ≤ 0 + 3; omega), List.append_nil]
    rw [e]
    exact k41_mkM _ _ _ _) (fun _ h => h.elim)
  have hw : W.setCells g ((i : Int).toNat * (k41).sz + 0) (encQ (val x)) = W.setCells g (i * 3) (encQ (val x)) := by rw [Int.toNat_natCast]; rfl
  rw [hw, Int.toNat_natCast] at hs
  refine ⟨?_, Kept.of_grown hs.2 h.kept (fun k e => .inl (by injection e with e; exact e.symm)), ?_⟩
  · rw [map_set, Array.size_setIfInBounds]; exact hs.1
  · have hge := h.ge
    exact sk_put (sk_put (sk_put h.be hge _) hge _) hge _
theorem SB.swap (h : SB val base w0 g cap d W) {i j : Nat} (hi : i < d.size) (hj : j < d.size) :
    SB val base w0 g cap (swp d i j) ((W.setCells g (i * 3) (encQ (val d[j]!))).setCells g (j * 3) (encQ (val d[i]!))) :=
  (h.set hi d[j]!).set (by rw [Array.size_setIfInBounds]; exact hj) d[i]!
theorem SB.st (h : SB val base w0 g cap d W) {i : Nat} (hi : i < d.size) (q : Sq) (P : Program) : Sem.run P (storeCells ⟨g, i * 3, none⟩ (encQ q) 0) W = .ok () (W.setCells g (i * 3) (encQ q)) := by
  obtain ⟨⟨l0, l1, l2⟩, f0, f1, f2⟩ := h.cells hi
  have := run_storeCells_cells (P := P) g (i * 3) (encQ q) 0 W (fun c hc => by
    have hc : c < 3 := hc
    rcases (by omega : c = 0 ∨ c = 1 ∨ c = 2) with rfl | rfl | rfl
    · rw [show i * 3 + 0 + 0 = i * 3 from rfl, l0]; rfl
    · rw [show i * 3 + 0 + 1 = i * 3 + 1 from rfl, l1]; rfl
    · rw [show i * 3 + 0 + 2 = i * 3 + 2 from rfl, l2]; rfl) (fun c hc => by
    have hc : c < 3 := hc
    rcases (by omega : c = 0 ∨ c = 1 ∨ c = 2) with rfl | rfl | rfl
    · exact f0
    · exact f1
    · exact f2) (fun v hv => by
    unfold encQ at hv
    rcases List.mem_cons.1 hv with rfl | hv
    · rfl
    · rcases List.mem_cons.1 hv with rfl | hv
      · rfl
      · rw [List.mem_singleton.1 hv]; rfl)
  exact this
theorem SB.ld (h : SB val base w0 g cap d W) {i : Nat} (hi : i < d.size) (P : Program) : Sem.run P (loadCellsFrom ⟨g, i * 3, none⟩ 0 3 #[]) W = .ok (encQ (val d[i]!)).toArray W := by
  obtain ⟨⟨l0, l1, l2⟩, _⟩ := h.cells hi
  refine run_loadCellsFrom_list P _ _ _ 3 rfl (fun j u hu => ?_)
  have hadd : (⟨g, i * 3, none⟩ : Addr).add j = ⟨g, i * 3 + j, none⟩ := by unfold Addr.add; split <;> simp_all
  rw [hadd]
  unfold encQ at hu
  match j, hu with
  | 0, hu => injection hu with hu; subst hu; exact l0
  | 1, hu => injection hu with hu; subst hu; exact l1
  | 2, hu => injection hu with hu; subst hu; exact l2
theorem ex_cell {W : World} {a b : Addr} {x : Value} (h : ∃ v, W.cell? b = some v) : ∃ v, (W.setCell a x).cell? b = some v := by
  obtain ⟨v, h⟩ := h
  by_cases e : a = b
  · subst e; exact ⟨x, World.cell?_setCell_same W a x h⟩
  · exact ⟨v, (World.cell?_setCell_other W a b x e).trans h⟩
/-- what two runs of three stores each want to see -/
theorem SB.six (h : SB val base w0 g cap d W) {p q : Nat} (hp : p < d.size) (hq : q < d.size) (a0 a1 a2 b0 : Value) (b1 : Value) :
    ∃ x1 x2 y0 y1 y2, (W.setCell ⟨g, p * 3, none⟩ a0).cell? ⟨g, p * 3 + 1, none⟩ = some x1 ∧ ((W.setCell ⟨g, p * 3, none⟩ a0).setCell ⟨g, p * 3 + 1, none⟩ a1).cell? ⟨g, p * 3 + 2, none⟩ = some x2 ∧
      (((W.setCell ⟨g, p * 3, none⟩ a0).setCell ⟨g, p * 3 + 1, none⟩ a1).setCell ⟨g, p * 3 + 2, none⟩ a2).cell? ⟨g, q * 3, none⟩ = some y0 ∧
      ((((W.setCell ⟨g, p * 3, none⟩ a0).setCell ⟨g, p * 3 + 1, none⟩ a1).setCell ⟨g, p * 3 + 2, none⟩ a2).setCell ⟨g, q * 3, none⟩ b0).cell? ⟨g, q * 3 + 1, none⟩ = some y1 ∧
      (((((W.setCell ⟨g, p * 3, none⟩ a0).setCell ⟨g, p * 3 + 1, none⟩ a1).setCell ⟨g, p * 3 + 2, none⟩ a2).setCell ⟨g, q * 3, none⟩ b0).setCell ⟨g, q * 3 + 1, none⟩ b1).cell? ⟨g, q * 3 + 2, none⟩ = some y2 := by
  obtain ⟨⟨l0, l1, l2⟩, _⟩ := h.cells hp
  obtain ⟨⟨m0, m1, m2⟩, _⟩ := h.cells hq
  obtain ⟨x1, h1⟩ := ex_cell (a := ⟨g, p * 3, none⟩) (x := a0) ⟨_, l1⟩
  obtain ⟨x2, h2⟩ := ex_cell (a := ⟨g, p * 3 + 1, none⟩) (x := a1) (ex_cell (a := ⟨g, p * 3, none⟩) (x := a0) ⟨_, l2⟩)
  have e3 : ∀ {b : Addr}, (∃ v, W.cell? b = some v) → ∃ v, (((W.setCell ⟨g, p * 3, none⟩ a0).setCell ⟨g, p * 3 + 1, none⟩ a1).setCell ⟨g, p * 3 + 2, none⟩ a2).cell? b = some v := fun h => ex_cell (ex_cell (ex_cell h))
  obtain ⟨y0, h3⟩ := e3 ⟨_, m0⟩
  obtain ⟨y1, h4⟩ := ex_cell (a := ⟨g, q * 3, none⟩) (x := b0) (e3 ⟨_, m1⟩)
  obtain ⟨y2, h5⟩ := ex_cell (a := ⟨g, q * 3 + 1, none⟩) (x := b1) (ex_cell (a := ⟨g, q * 3, none⟩) (x := b0) (e3 ⟨_, m2⟩))
  exact ⟨x1, x2, y0, y1, y2, h1, h2, h3, h4, h5⟩
theorem SB.swap6 (h : SB val base w0 g cap d W) {i j : Nat} (hi : i < d.size) (hj : j < d.size) {P Q : Sq} (hP : val d[i]! = P) (hQ : val d[j]! = Q) :
    SB val base w0 g cap (swp d i j) ((((((W.setCell ⟨g, i * 3, none⟩ (.int .i64 Q.f0)).setCell ⟨g, i * 3 + 1, none⟩ (.int .i64 Q.f1)).setCell ⟨g, i * 3 + 2, none⟩ (.int .i64 Q.f2)).setCell ⟨g, j * 3, none⟩ (.int .i64 P.f0)).setCell ⟨g, j * 3 + 1, none⟩ (.int .i64 P.f1)).setCell ⟨g, j * 3 + 2, none⟩ (.int .i64 P.f2)) := by
  subst hP hQ
  exact h.swap hi hj
/-- less, by what the called function says -/
def ltC (cf : α → α → Int) (x y : α) : Bool := decide (cf x y < 0)
/-- the function that is called with two squares -/
structure CmpSq (P : Program) (val : α → Sq) (cf : α → α → Int) (f : Nat) : Prop where
  eg : ∀ args w, (callFunc f args).run P w = .ok (.enter f args) w
  call : ∀ (W : World) (x y : α), Calls P f #[.agg #[.int .i64 (val x).f0, .int .i64 (val x).f1, .int .i64 (val x).f2], .agg #[.int .i64 (val y).f0, .int .i64 (val y).f1, .int .i64 (val y).f2]] W fun e w' => e = .returned (.int .i64 (cf x y)) ∧ Below W.heap.size W w'
theorem encQ_len (q : Sq) : (encQ q).length = 3 := rfl
end Go.Proofs.YtomfebfjkcdjpabDoor.Sk

namespace Go.Proofs.YtomfebfjkcdjpabDoor.P
open Go.RowKit Go.Proofs.YtomfebfjkcdjpabDoorW.PrintWords Go.Proofs.YtomfebfjkcdjpabDoorW.PrintLast Go.Proofs.YtomfebfjkcdjpabDoorW.PrintMore
attribute [local go_sem] max2_int min2_int max_two min_two max_three min_three max_four min_four
set_option linter.unusedVariables false
set_option linter.unusedSimpArgs false

/-! ### impl_Square_46: function 46 -/
open Go.Proofs.YtomfebfjkcdjpabDoor.T Go.Proofs.YtomfebfjkcdjpabDoor.Aid Go.Proofs.YtomfebfjkcdjpabDoor.Sk Go.Proofs.YtomfebfjkcdjpabDoor.Gr Go.Sort
set_option maxHeartbeats 4000000 in
theorem insertion_sq {α : Type} [Inhabited α] {val : α → Sq} {cf : α → α → Int} {f : Nat} {base g cap : Nat} {w0 w : World} (hF : CmpSq Tryd.prog val cf f) (d : Array α) (a b : Nat) (h : SB val base w0 g cap d w) (hab : a ≤ b) (hb : b ≤ d.size) (hsz : d.size ≤ 1000000000000) :
    Calls Tryd.prog 46 #[.slice (some ⟨g, 0, none⟩) d.size cap, .int .i64 (a : Int), .int .i64 (b : Int), .func (.func f) #[] #[]] w fun e w' => e = .returned (.tuple #[]) ∧ SB val base w0 g cap (insertionSort (ltC cf) d a b) w' := by
  have H0 := Aside0.mk h
  have HH := Aside0.mk (And.intro hab (And.intro hb hsz))
  have eg := hF.eg
  have HCALL := Aside0.mk hF.call
  have E1 : Aside0 (wrap64 ((a : Int) + 1) = ((a + 1 : Nat) : Int)) := ⟨by rw [w64 (by omega) (by omega)]; omega⟩
  have mixed : Tryd.prog.follows .mixedOrders = true := by kernel_rfl
  clear h hab hb hsz hF
  go_enter Tryd.func46, Tryd.ntmps46
  go_wp2
  go_loopg [8] (b - a) (fun kq v8 wc => ∃ (i : Nat) (D : Array α), v8 = .int .i64 (i : Int) ∧ Aside0 (a < i ∧ i ≤ b + 1 ∧ b - i ≤ kq ∧ D.size = d.size) ∧ Aside0 (insOuter (ltC cf) a b i D = insOuter (ltC cf) a b (a + 1) d) ∧ Aside0 (SB val base w0 g cap D wc))
  case atStart => exact ⟨a + 1, d, by first | rfl | rw [E1.out], ⟨by have := HH.out; omega, by have := HH.out; omega, by have := HH.out; omega, rfl⟩, ⟨rfl⟩, H0⟩
  case round =>
    clear H0
    obtain ⟨i, D, rfl, HI, HO, HS⟩ := hrel
    by_cases hlt : i < b
    · have c1 : decide (i < b) = true := decide_eq_true hlt
      have HLT := Aside0.mk hlt
      clear hlt
      go_wp2_with fail
      go_loopg [9] i (fun kq v9 wc => ∃ (j : Nat) (D' : Array α), v9 = .int .i64 (j : Int) ∧ Aside0 (a ≤ j ∧ j ≤ i ∧ j ≤ kq ∧ D'.size = d.size) ∧ Aside0 (insInner (ltC cf) a j D' = insInner (ltC cf) a i D) ∧ Aside0 (SB val base w0 g cap D' wc))
      case atStart => exact ⟨i, D, rfl, ⟨by have := HI.out; omega, Nat.le_refl _, Nat.le_refl _, HI.out.2.2.2⟩, ⟨rfl⟩, HS⟩
      case round =>
        clear HS
        obtain ⟨j, D', rfl, HJ, HIN, HS⟩ := hrel
        have HOUT : Aside0 ((j ≤ a ∨ ltC cf D'[j]! D'[j - 1]! = false) → insOuter (ltC cf) a b (i + 1) D' = insOuter (ltC cf) a b (a + 1) d) := ⟨fun hs => by
          rw [← HO.out, insOuter_go _ _ _ _ _ HLT.out, ← HIN.out, insInner_stop _ _ _ _ hs]⟩
        have EI : Aside0 (wrap64 ((i : Int) + 1) = ((i + 1 : Nat) : Int)) := ⟨by have h1 := HI.out; have h2 := HH.out; rw [w64 (by omega) (by omega)]; omega⟩
        have hjj := HJ.out
        by_cases hja : a < j
        · obtain ⟨jp, hjp⟩ : ∃ jp, j - 1 = jp := ⟨_, rfl⟩
          have g1 : decide (a < j) = true := decide_eq_true hja
          have g2 : decide ((j : Int) > (a : Int)) = true := decide_eq_true (by omega)
          have hii := HI.out
          have hhh := HH.out
          have hlt' := HLT.out
          obtain ⟨⟨l0, l1, l2⟩, f0, f1, f2⟩ := HS.out.cells (i := j) (by omega)
          obtain ⟨⟨m0, m1, m2⟩, g0, g1', g2'⟩ := HS.out.cells (i := jp) (by omega)
          have HCL0 := HCALL.out
          obtain ⟨x, hx⟩ : ∃ x, D'[j]! = x := ⟨_, rfl⟩
          obtain ⟨y, hy⟩ : ∃ y, D'[jp]! = y := ⟨_, rfl⟩
          obtain ⟨X, hX⟩ : ∃ X, val x = X := ⟨_, rfl⟩
          obtain ⟨Y, hY⟩ : ∃ Y, val y = Y := ⟨_, rfl⟩
          rw [hx, hX] at l0 l1 l2
          rw [hy, hY] at m0 m1 m2
          have hcl := fun W => HCALL.out W x y
          rw [hX, hY] at hcl
          have HCL := Aside0.mk hcl
          have hpw : IntKind.i64.wrap ((j : Int) - 1) = (jp : Int) := by rw [IntKind.wrap_i64]; omega
          have HPW := Aside0.mk hpw
          have EJ : Aside0 (wrap64 ((j : Int) - 1) = (jp : Int)) := ⟨by rw [w64 (by omega) (by omega)]; omega⟩
          have p1 := eq_true (show (0 : Int) ≤ (j : Int) by omega)
          have p2 := eq_true (show (j : Int) < (d.size : Int) by omega)
          have q1 := eq_true (show (0 : Int) ≤ (jp : Int) by omega)
          have q2 := eq_true (show (jp : Int) < (d.size : Int) by omega)
          have x0 := fun p => cell_gr (p := p) (World.block_lt_of_cell? wr _ l0) l0
          have x1 := fun p => cell_gr (p := p) (World.block_lt_of_cell? wr _ l1) l1
          have x2 := fun p => cell_gr (p := p) (World.block_lt_of_cell? wr _ l2) l2
          have x3 := fun p => cell_gr (p := p) (World.block_lt_of_cell? wr _ m0) m0
          have x4 := fun p => cell_gr (p := p) (World.block_lt_of_cell? wr _ m1) m1
          have x5 := fun p => cell_gr (p := p) (World.block_lt_of_cell? wr _ m2) m2
          have HJP : Aside0 (j - 1 = jp ∧ a < j ∧ D'[j]! = x ∧ D'[jp]! = y ∧ val x = X ∧ val y = Y) := ⟨hjp, hja, hx, hy, hX, hY⟩
          clear hjj hii hhh hlt' hjp hja l0 l1 l2 f0 f1 f2 m0 m1 m2 g0 g1' g2' hcl HCL0 hx hy hX hY
          by_cases hlv : cf x y < 0
          · have HLV := Aside0.mk hlv
            have b1 := decide_eq_true hlv
            go_wp2_with fail
            refine wp_region_gr (by kernel_rfl) (by kernel_rfl) ?_
            repeat (go_big_quiet_step (first | (go_at_fn f; refine Calls.gr_of (HCL.out _))))
            refine wpQuiet_nil ?_
            intro W2 hw'
            obtain ⟨⟨V2, hB2⟩, hw''⟩ := hw'
            replace hw'' : W2 = V2 := hw''
            subst hw''
            clear x0 x1 x2 x3 x4 x5 hpw
            have HS2 := Aside0.mk (HS.out.below hB2)
            clear hB2 HS
            go_wp2_with fail
            have hj2 := HJP.out
            have hjj := HJ.out
            have hii := HI.out
            have hhh := HH.out
            have hlt' := HLT.out
            obtain ⟨⟨l0, l1, l2⟩, f0, f1, f2⟩ := HS2.out.cells (i := j) (by omega)
            obtain ⟨⟨m0, m1, m2⟩, g0, g1', g2'⟩ := HS2.out.cells (i := jp) (by omega)
            rw [hj2.2.2.1, hj2.2.2.2.2.1] at l0 l1 l2
            rw [hj2.2.2.2.1, hj2.2.2.2.2.2] at m0 m1 m2
            have SW := Aside0.mk (HS2.out.swap6 (i := j) (j := jp) (P := X) (Q := Y) (by omega) (by omega) (by rw [hj2.2.2.1, hj2.2.2.2.2.1]) (by rw [hj2.2.2.2.1, hj2.2.2.2.2.2])).drew
            obtain ⟨y1, y2, y3, y4, y5, s1, s2, s3, s4, s5⟩ := HS2.out.six (p := j) (q := jp) (by omega) (by omega) (.int .i64 Y.f0) (.int .i64 Y.f1) (.int .i64 Y.f2) (.int .i64 X.f0) (.int .i64 X.f1)
            have HN : Aside0 (a ≤ jp ∧ jp ≤ i ∧ jp < gk ∧ (swp D' j jp).size = d.size ∧ insInner (ltC cf) a jp (swp D' j jp) = insInner (ltC cf) a i D) := ⟨by omega, by omega, by omega, by rw [swpSize]; exact hjj.2.2.2, by
              rw [← HIN.out, insInner_go (ltC cf) a j D' hj2.2.1 (by rw [hj2.1, hj2.2.2.1, hj2.2.2.2.1]; exact decide_eq_true HLV.out), hj2.1]⟩
            have hpw := HPW.out
            clear hj2 hjj hii hhh hlt' g1 g2 hlv b1
            go_region_law (fail)
            all_goals
              generalize ((((((W2.setCell ⟨g, j * 3, none⟩ (.int .i64 Y.f0)).setCell ⟨g, j * 3 + 1, none⟩ (.int .i64 Y.f1)).setCell ⟨g, j * 3 + 2, none⟩ (.int .i64 Y.f2)).setCell ⟨g, jp * 3, none⟩ (.int .i64 X.f0)).setCell ⟨g, jp * 3 + 1, none⟩ (.int .i64 X.f1)).setCell ⟨g, jp * 3 + 2, none⟩ (.int .i64 X.f2)).drew = W3 at SW ⊢
              clear l0 l1 l2 f0 f1 f2 m0 m1 m2 g0 g1' g2' s1 s2 s3 s4 s5 p1 p2 q1 q2 hpw HS2
              have ej := EJ.out
              go_wp2_with fail
              clear ej
              go_roundg jp
              case measure => have := HN.out; omega
              case rel => exact ⟨jp, _, by first | rfl | rw [EJ.out], ⟨HN.out.1, HN.out.2.1, Nat.le_refl _, HN.out.2.2.2.1⟩, ⟨HN.out.2.2.2.2⟩, SW⟩
          · have HLV := Aside0.mk hlv
            have b1 := decide_eq_false hlv
            go_wp2_with fail
            refine wp_region_gr (by kernel_rfl) (by kernel_rfl) ?_
            repeat (go_big_quiet_step (first | (go_at_fn f; refine Calls.gr_of (HCL.out _))))
            refine wpQuiet_nil ?_
            intro W2 hw'
            obtain ⟨⟨V2, hB2⟩, hw''⟩ := hw'
            replace hw'' : W2 = V2 := hw''
            subst hw''
            clear x0 x1 x2 x3 x4 x5 hpw p1 p2 q1 q2
            have HS2 := Aside0.mk (HS.out.below hB2)
            clear hB2 HS
            have ei := EI.out
            go_wp2_with fail
            clear ei
            go_roundg (b - (i + 1))
            case measure => have h1 := HI.out; have h2 := HLT.out; omega
            case rel => exact ⟨i + 1, D', by first | rfl | rw [EI.out], ⟨by have := HI.out; omega, by have := HLT.out; omega, Nat.le_refl _, HJ.out.2.2.2⟩, ⟨HOUT.out (.inr (by rw [HJP.out.1, HJP.out.2.2.1, HJP.out.2.2.2.1]; exact decide_eq_false (by have := HLV.out; omega)))⟩, HS2⟩
        · have g1 : decide (a < j) = false := decide_eq_false hja
          have g2 : decide ((j : Int) > (a : Int)) = false := decide_eq_false (by omega)
          have HJA := Aside0.mk hja
          clear hja hjj
          go_wp2_with fail
          refine wp_region_gr (by kernel_rfl) (by kernel_rfl) ?_
          repeat (go_big_quiet_step (fail))
          refine wpQuiet_nil ?_
          intro W2 hw'
          obtain ⟨⟨V2, hB2⟩, hw''⟩ := hw'
          replace hw'' : W2 = V2 := hw''
          subst hw''
          have HS2 := Aside0.mk (HS.out.below hB2)
          clear hB2 HS
          have ei := EI.out
          go_wp2_with fail
          clear ei
          go_roundg (b - (i + 1))
          case measure => have h1 := HI.out; have h2 := HLT.out; omega
          case rel => exact ⟨i + 1, D', by first | rfl | rw [EI.out], ⟨by have := HI.out; omega, by have := HLT.out; omega, Nat.le_refl _, HJ.out.2.2.2⟩, ⟨HOUT.out (.inl (by have := HJA.out; omega))⟩, HS2⟩
    · have c1 : decide (i < b) = false := decide_eq_false hlt
      have HE : Aside0 (insertionSort (ltC cf) d a b = D) := ⟨by unfold insertionSort; rw [← HO.out, insOuter_stop _ _ _ _ _ hlt]⟩
      go_wp2_with fail
      (first | go_end0 | skip)
      exact ⟨rfl, by rw [HE.out]; exact HS.out⟩

end Go.Proofs.YtomfebfjkcdjpabDoor.P

namespace Go.Proofs.YtomfebfjkcdjpabDoor.P
open Go.RowKit Go.Proofs.YtomfebfjkcdjpabDoorW.PrintWords Go.Proofs.YtomfebfjkcdjpabDoorW.PrintLast Go.Proofs.YtomfebfjkcdjpabDoorW.PrintMore
attribute [local go_sem] max2_int min2_int max_two min_two max_three min_three max_four min_four
set_option linter.unusedVariables false
set_option linter.unusedSimpArgs false

/-! ### impl_Square_57: function 57 -/
open Go.Proofs.YtomfebfjkcdjpabDoor.T Go.Proofs.YtomfebfjkcdjpabDoor.Aid Go.Proofs.YtomfebfjkcdjpabDoor.Sk Go.Sort
set_option maxHeartbeats 2000000 in
theorem swapRange_sq {α : Type} [Inhabited α] {val : α → Sq} {base g cap : Nat} {w0 w : World} (d : Array α) (a b n : Nat) (cv : Value) (h : SB val base w0 g cap d w) (ha : a + n ≤ d.size) (hb : b + n ≤ d.size) (hsz : d.size ≤ 1000000000000) :
    Calls Tryd.prog 57 #[.slice (some ⟨g, 0, none⟩) d.size cap, .int .i64 (a : Int), .int .i64 (b : Int), .int .i64 (n : Int), cv] w fun e w' => e = .returned (.tuple #[]) ∧ SB val base w0 g cap (swpN d a b n) w' := by
  have H0 := Aside0.mk h
  have mixed : Tryd.prog.follows .mixedOrders = true := by kernel_rfl
  clear h
  go_enter Tryd.func57, Tryd.ntmps57
  go_wp2
  go_loopg [10] n (fun kq v10 wc => ∃ i : Nat, i ≤ n ∧ n - i ≤ kq ∧ v10 = .int .i64 (i : Int) ∧ Aside0 (SB val base w0 g cap (swpN d a b i) wc))
  case atStart => exact ⟨0, Nat.zero_le _, Nat.le_refl _, rfl, H0⟩
  case round =>
    clear H0
    obtain ⟨i, hi, hk, rfl, HS⟩ := hrel
    by_cases hlt : i < n
    · have c1 : decide (i < n) = true := decide_eq_true hlt
      have hs := swpN_size d a b i
      obtain ⟨p, hp⟩ : ∃ p, a + i = p := ⟨_, rfl⟩
      obtain ⟨q, hq⟩ : ∃ q, b + i = q := ⟨_, rfl⟩
      obtain ⟨D, hD⟩ : ∃ D, swpN d a b i = D := ⟨_, rfl⟩
      have HNX : Aside0 (swpN d a b (i + 1) = swp D p q) := ⟨by rw [swpN, hD, hp, hq]⟩
      rw [hD] at HS hs
      obtain ⟨⟨l0, l1, l2⟩, f0, f1, f2⟩ := HS.out.cells (i := p) (by omega)
      obtain ⟨⟨m0, m1, m2⟩, g0, g1, g2⟩ := HS.out.cells (i := q) (by omega)
      obtain ⟨P, hP⟩ : ∃ P, val D[p]! = P := ⟨_, rfl⟩
      obtain ⟨Q, hQ⟩ : ∃ Q, val D[q]! = Q := ⟨_, rfl⟩
      rw [hP] at l0 l1 l2
      rw [hQ] at m0 m1 m2
      have SW := Aside0.mk (HS.out.swap6 (i := p) (j := q) (by omega) (by omega) hP hQ).drew
      clear hP hQ
      obtain ⟨x1, x2, y0, y1, y2, s1, s2, s3, s4, s5⟩ := HS.out.six (p := p) (q := q) (by omega) (by omega) (.int .i64 Q.f0) (.int .i64 Q.f1) (.int .i64 Q.f2) (.int .i64 P.f0) (.int .i64 P.f1)
      have e1 : IntKind.i64.wrap ((a : Int) + (i : Int)) = (p : Int) := by rw [IntKind.wrap_i64]; omega
      have e2 : IntKind.i64.wrap ((b : Int) + (i : Int)) = (q : Int) := by rw [IntKind.wrap_i64]; omega
      have p1 := eq_true (show (0 : Int) ≤ (p : Int) by omega)
      have p2 := eq_true (show (p : Int) < (d.size : Int) by omega)
      have q1 := eq_true (show (0 : Int) ≤ (q : Int) by omega)
      have q2 := eq_true (show (q : Int) < (d.size : Int) by omega)
      have HI := Aside0.mk (And.intro hi (And.intro hk (And.intro hlt ha)))
      clear hi hk hlt hp hq hD hs HS ha hb
      have HSZ := Aside0.mk hsz
      clear hsz
      go_wp2_with fail
      go_region_law (fail)
      all_goals
        generalize ((((((wr.setCell ⟨g, p * 3, none⟩ (.int .i64 Q.f0)).setCell ⟨g, p * 3 + 1, none⟩ (.int .i64 Q.f1)).setCell ⟨g, p * 3 + 2, none⟩ (.int .i64 Q.f2)).setCell ⟨g, q * 3, none⟩ (.int .i64 P.f0)).setCell ⟨g, q * 3 + 1, none⟩ (.int .i64 P.f1)).setCell ⟨g, q * 3 + 2, none⟩ (.int .i64 P.f2)).drew = W2 at SW ⊢
        clear l0 l1 l2 f0 f1 f2 m0 m1 m2 g0 g1 g2 s1 s2 s3 s4 s5 e1 e2 p1 p2 q1 q2 c1
        have hw : wrap64 ((i : Int) + 1) = ((i + 1 : Nat) : Int) := by have h1 := HI.out; have h2 := HSZ.out; rw [w64 (by omega) (by omega)]; omega
        go_wp2_with fail
        go_roundg (n - (i + 1))
        case measure => have := HI.out; omega
        case rel => exact ⟨i + 1, by have := HI.out; omega, Nat.le_refl _, by first | rfl | rw [hw], ⟨by rw [HNX.out]; exact SW.out⟩⟩
    · have c1 : decide (i < n) = false := decide_eq_false hlt
      obtain rfl : i = n := by omega
      go_wp2_with fail
      (first | go_end0 | skip)
      exact ⟨rfl, HS.out⟩

end Go.Proofs.YtomfebfjkcdjpabDoor.P

namespace Go.Proofs.YtomfebfjkcdjpabDoor.P
open Go.RowKit Go.Proofs.YtomfebfjkcdjpabDoorW.PrintWords Go.Proofs.YtomfebfjkcdjpabDoorW.PrintLast Go.Proofs.YtomfebfjkcdjpabDoorW.PrintMore
attribute [local go_sem] max2_int min2_int max_two min_two max_three min_three max_four min_four
set_option linter.unusedVariables false
set_option linter.unusedSimpArgs false

/-! ### impl_Square_52: function 52 -/
open Go.Proofs.YtomfebfjkcdjpabDoor.T Go.Proofs.YtomfebfjkcdjpabDoor.Aid Go.Proofs.YtomfebfjkcdjpabDoor.Sk Go.Sort
set_option maxHeartbeats 2000000 in
theorem rotate_sq {α : Type} [Inhabited α] {val : α → Sq} {base g cap : Nat} {w0 w : World} (d : Array α) (a m b : Nat) (cv : Value) (h : SB val base w0 g cap d w) (ham : a < m) (hmb : m < b) (hb : b ≤ d.size) (hsz : d.size ≤ 1000000000000) :
    Calls Tryd.prog 52 #[.slice (some ⟨g, 0, none⟩) d.size cap, .int .i64 (a : Int), .int .i64 (m : Int), .int .i64 (b : Int), cv] w fun e w' => e = .returned (.tuple #[]) ∧ ∃ d', Rot d a m b d' ∧ PermIn a b d d' ∧ SB val base w0 g cap d' w' := by
  have H0 := Aside0.mk h
  have HH := Aside0.mk (And.intro ham (And.intro hmb (And.intro hb hsz)))
  have e1 : wrap64 ((m : Int) - (a : Int)) = ((m - a : Nat) : Int) := by rw [w64 (by omega) (by omega)]; omega
  have e2 : wrap64 ((b : Int) - (m : Int)) = ((b - m : Nat) : Int) := by rw [w64 (by omega) (by omega)]; omega
  clear h ham hmb hb hsz
  go_enter Tryd.func52, Tryd.ntmps52
  go_wp2
  have E1 := Aside0.mk e1
  have E2 := Aside0.mk e2
  clear e1 e2
  go_loopg [10, 11] (b - a) (fun kq v10 v11 wc => ∃ (i j : Nat) (D : Array α), v10 = .int .i64 (i : Int) ∧ v11 = .int .i64 (j : Int) ∧ Aside0 (0 < i ∧ 0 < j ∧ i ≤ m - a ∧ j ≤ b - m ∧ i + j ≤ kq ∧ D.size = d.size) ∧ Aside0 (PermIn a b d D) ∧ Aside0 (∀ d', Rot D (m - i) m (m + j) d' → Rot d a m b d') ∧ Aside0 (SB val base w0 g cap D wc))
  case atStart =>
    have hh := HH.out
    refine ⟨m - a, b - m, d, by first | rfl | rw [E1.out], by first | rfl | rw [E2.out], ⟨by omega, by omega, by omega, by omega, by omega, rfl⟩, ⟨permIn_refl _ _ _⟩, ⟨fun d' h => ?_⟩, H0⟩
    rwa [show m - (m - a) = a by omega, show m + (b - m) = b by omega] at h
  case round =>
    clear H0
    obtain ⟨i, j, D, rfl, rfl, HI, HP, HR, HS⟩ := hrel
    have hi := HI.out
    have hh := HH.out
    rcases Nat.lt_trichotomy i j with hc | hc | hc
    · -- the right part is the longer one
      have c1 : ((i : Int) == (j : Int)) = false := by simp; omega
      have c1' : ((i : Int) != (j : Int)) = true := by simp; omega
      have c2 : decide (j < i) = false := decide_eq_false (by omega)
      have c2' : decide ((i : Int) > (j : Int)) = false := decide_eq_false (by omega)
      obtain ⟨r, hr⟩ : ∃ r, m - i = r := ⟨_, rfl⟩
      obtain ⟨s, hs⟩ : ∃ s, m + j = s := ⟨_, rfl⟩
      obtain ⟨t, ht⟩ : ∃ t, m + j - i = t := ⟨_, rfl⟩
      obtain ⟨u, hu⟩ : ∃ u, j - i = u := ⟨_, rfl⟩
      have E1 : Aside0 (wrap64 ((m : Int) - (i : Int)) = (r : Int)) := ⟨by rw [w64 (by omega) (by omega)]; omega⟩
      have E2 : Aside0 (wrap64 ((m : Int) + (j : Int)) = (s : Int)) := ⟨by rw [w64 (by omega) (by omega)]; omega⟩
      have E3 : Aside0 (wrap64 ((s : Int) - (i : Int)) = (t : Int)) := ⟨by rw [w64 (by omega) (by omega)]; omega⟩
      have E4 : Aside0 (wrap64 ((j : Int) - (i : Int)) = (u : Int)) := ⟨by rw [w64 (by omega) (by omega)]; omega⟩
      have hsz : D.size = d.size := hi.2.2.2.2.2
      have HC := Aside0.mk (swapRange_sq D (m - i) (m + j - i) i cv HS.out (by omega) (by omega) (by omega))
      rw [hsz] at HC
      have HN : Aside0 (0 < i ∧ 0 < j - i ∧ i ≤ m - a ∧ j - i ≤ b - m ∧ i + (j - i) < gk ∧ (swpN D (m - i) (m + j - i) i).size = d.size) := ⟨by omega, by omega, by omega, by omega, by omega, by rw [swpN_size]; exact hsz⟩
      have HPN : Aside0 (PermIn a b d (swpN D (m - i) (m + j - i) i)) := ⟨permIn_trans _ _ _ _ _ HP.out (swpN_perm D a b (m - i) (m + j - i) i (by omega) (by omega) (by omega) (by omega) (by omega))⟩
      have HRN : Aside0 (∀ d', Rot (swpN D (m - i) (m + j - i) i) (m - i) m (m + (j - i)) d' → Rot d a m b d') := ⟨fun d' h => HR.out d' (Rot.right (by omega) hc (by omega) h)⟩
      rw [hr, ht] at HC
      rw [hu] at HN
      have HU := Aside0.mk hu
      have HT := Aside0.mk ht
      have HR1 := Aside0.mk hr
      clear hi hh hc hsz HS HP HR HI hr hs ht hu
      have e1 := E1.out
      have e2 := E2.out
      have e3 := E3.out
      have e4 := E4.out
      go_wp2_with (go_at_call 57; refine HC.out.mono ?_; rintro e w' ⟨rfl, hS⟩; have HS2 := Aside0.mk hS; clear hS)
      clear e1 e2 e3 e4
      go_roundg (i + u)
      case measure => have := HN.out; omega
      case rel => exact ⟨i, u, _, rfl, by first | rfl | rw [E4.out], ⟨by have := HN.out; omega, by have := HN.out; omega, by have := HN.out; omega, by have := HN.out; omega, by have := HN.out; omega, by rw [← HT.out, ← HR1.out]; exact HN.out.2.2.2.2.2⟩, ⟨by rw [← HT.out, ← HR1.out]; exact HPN.out⟩, ⟨by rw [← HU.out, ← HT.out, ← HR1.out]; exact HRN.out⟩, HS2⟩
    · subst hc
      have c1 : ((i : Int) == (i : Int)) = true := by simp
      have c1' : ((i : Int) != (i : Int)) = false := by simp
      have E1 : Aside0 (wrap64 ((m : Int) - (i : Int)) = ((m - i : Nat) : Int)) := ⟨by rw [w64 (by omega) (by omega)]; omega⟩
      have hsz : D.size = d.size := hi.2.2.2.2.2
      have HC := Aside0.mk (swapRange_sq D (m - i) m i cv HS.out (by omega) (by omega) (by omega))
      rw [hsz] at HC
      have HPN : Aside0 (PermIn a b d (swpN D (m - i) m i)) := ⟨permIn_trans _ _ _ _ _ HP.out (swpN_perm D a b (m - i) m i (by omega) (by omega) (by omega) (by omega) (by omega))⟩
      have HRN : Aside0 (Rot d a m b (swpN D (m - i) m i)) := ⟨HR.out _ (Rot.last D m i (by omega) (by omega))⟩
      clear hi hh hsz HS HP HR HI
      have e1 := E1.out
      go_wp2_with (go_at_call 57; refine HC.out.mono ?_; rintro e w' ⟨rfl, hS⟩; have HS2 := Aside0.mk hS; clear hS)
      (first | go_end0 | skip)
      exact ⟨rfl, _, HRN.out, HPN.out, HS2.out⟩
    · have c1 : ((i : Int) == (j : Int)) = false := by simp; omega
      have c1' : ((i : Int) != (j : Int)) = true := by simp; omega
      have c2 : decide (j < i) = true := decide_eq_true (by omega)
      have c2' : decide ((i : Int) > (j : Int)) = true := decide_eq_true (by omega)
      have E1 : Aside0 (wrap64 ((m : Int) - (i : Int)) = ((m - i : Nat) : Int)) := ⟨by rw [w64 (by omega) (by omega)]; omega⟩
      have E4 : Aside0 (wrap64 ((i : Int) - (j : Int)) = ((i - j : Nat) : Int)) := ⟨by rw [w64 (by omega) (by omega)]; omega⟩
      have hsz : D.size = d.size := hi.2.2.2.2.2
      have HC := Aside0.mk (swapRange_sq D (m - i) m j cv HS.out (by omega) (by omega) (by omega))
      rw [hsz] at HC
      have HN : Aside0 (0 < i - j ∧ 0 < j ∧ i - j ≤ m - a ∧ j ≤ b - m ∧ i - j + j < gk ∧ (swpN D (m - i) m j).size = d.size) := ⟨by omega, by omega, by omega, by omega, by omega, by rw [swpN_size]; exact hsz⟩
      have HPN : Aside0 (PermIn a b d (swpN D (m - i) m j)) := ⟨permIn_trans _ _ _ _ _ HP.out (swpN_perm D a b (m - i) m j (by omega) (by omega) (by omega) (by omega) (by omega))⟩
      have HRN : Aside0 (∀ d', Rot (swpN D (m - i) m j) (m - (i - j)) m (m + j) d' → Rot d a m b d') := ⟨fun d' h => HR.out d' (Rot.left (by omega) hc (by omega) h)⟩
      clear hi hh hc hsz HS HP HR HI
      have e1 := E1.out
      have e4 := E4.out
      go_wp2_with (go_at_call 57; refine HC.out.mono ?_; rintro e w' ⟨rfl, hS⟩; have HS2 := Aside0.mk hS; clear hS)
      clear e1 e4
      go_roundg (i - j + j)
      case measure => have := HN.out; omega
      case rel => exact ⟨i - j, j, _, by first | rfl | rw [E4.out], rfl, ⟨by have := HN.out; omega, by have := HN.out; omega, by have := HN.out; omega, by have := HN.out; omega, by have := HN.out; omega, HN.out.2.2.2.2.2⟩, HPN, HRN, HS2⟩

end Go.Proofs.YtomfebfjkcdjpabDoor.P

namespace Go.Proofs.YtomfebfjkcdjpabDoor.T
open Go.Sort
set_option linter.unusedSectionVars false
variable {α : Type} [Inhabited α] {lt : α → α → Bool}
theorem rot_up {d D : Array α} {a k : Nat} (hak : a ≤ k) (hk : k + 1 < D.size) (h : Rot d a (a + 1) (k + 1) D) : Rot d a (a + 1) (k + 2) (swp D k (k + 1)) := by
  have g := swpGet D (i := k) (j := k + 1) (by omega) hk
  refine ⟨(swpSize _ _ _).trans h.size, fun x hx => ?_, fun x hx => ?_, fun x hx => ?_⟩
  · rw [g, if_neg (by omega), if_neg (by omega)]; exact h.out x (by omega)
  · rw [g]
    by_cases c : a + x = k
    · rw [if_neg (by omega), if_pos c, h.out (k + 1) (.inr (Nat.le_refl _))]; congr 1; omega
    · rw [if_neg (by omega), if_neg c]; exact h.lo x (by omega)
  · obtain rfl : x = 0 := by omega
    rw [g, if_pos (by omega)]
    have := h.hi 0 (by omega)
    rw [← this]; congr 1; omega
theorem rot_down {d D : Array α} {m k : Nat} (hk : k < m) (hm : m < D.size) (h : Rot d (k + 1) m (m + 1) D) : Rot d k m (m + 1) (swp D (k + 1) k) := by
  have g := swpGet D (i := k + 1) (j := k) (by omega) (by omega)
  refine ⟨(swpSize _ _ _).trans h.size, fun x hx => ?_, fun x hx => ?_, fun x hx => ?_⟩
  · rw [g, if_neg (by omega), if_neg (by omega)]; exact h.out x (by omega)
  · obtain rfl : x = 0 := by omega
    rw [g, if_pos (by omega)]
    have := h.lo 0 (by omega)
    rw [← this]
  · rw [g]
    rcases Nat.eq_zero_or_pos x with c | c
    · subst c
      rw [if_neg (by omega), if_pos (by omega), h.out k (.inl (by omega))]; rfl
    · obtain ⟨x, rfl⟩ : ∃ y, x = y + 1 := ⟨x - 1, by omega⟩
      rw [if_neg (by omega), if_neg (by omega)]
      have := h.hi x (by omega)
      rw [show k + (m + 1 - m) + (x + 1) = k + 1 + (m + 1 - m) + x by omega, this]; congr 1; omega
theorem swo_asymm (O : SWO lt) {x y : α} (h : lt x y = true) : lt y x = false := by
  cases hc : lt y x with
  | false => rfl
  | true => have := O.trans _ _ _ hc h; rw [O.irrefl] at this; cases this
theorem ins_left (O : SWO lt) {d D : Array α} {a i b : Nat} (hai : a + 1 ≤ i) (hib : i ≤ b) (hS : SortedIn lt (a + 1) b d)
    (h1 : ∀ k, a + 1 ≤ k → k < i → lt d[k]! d[a]! = true) (h2 : ∀ k, i ≤ k → k < b → lt d[k]! d[a]! = false) (hR : Rot d a (a + 1) i D) : SortedIn lt a b D := by
  have g1 : ∀ x, a ≤ x → x + 1 < i → D[x]! = d[x + 1]! := fun x hx h => by
    have := hR.lo (x - a) (by omega)
    rw [show a + (x - a) = x by omega] at this
    rw [this]; congr 1; omega
  have g2 : D[i - 1]! = d[a]! := by
    have := hR.hi 0 (by omega)
    rw [show a + (i - (a + 1)) + 0 = i - 1 by omega] at this
    rw [this]; rfl
  have g3 : ∀ x, i ≤ x → D[x]! = d[x]! := fun x hx => hR.out x (.inr hx)
  intro x y hx hxy hy
  by_cases c1 : x + 1 < i
  · rw [g1 x hx c1]
    by_cases c2 : y + 1 < i
    · rw [g1 y (by omega) c2]; exact hS _ _ (by omega) (by omega) (by omega)
    · by_cases c3 : y = i - 1
      · rw [c3, g2]; exact swo_asymm O (h1 _ (by omega) c1)
      · rw [g3 y (by omega)]; exact hS _ _ (by omega) (by omega) hy
  · by_cases c3 : x = i - 1
    · rw [c3, g2, g3 y (by omega)]; exact h2 y (by omega) hy
    · rw [g3 x (by omega), g3 y (by omega)]; exact hS _ _ (by omega) hxy hy
theorem ins_right (O : SWO lt) {d D : Array α} {a i m : Nat} (hai : a ≤ i) (him : i ≤ m) (hS : SortedIn lt a m d)
    (h1 : ∀ k, a ≤ k → k < i → lt d[m]! d[k]! = false) (h2 : ∀ k, i ≤ k → k < m → lt d[m]! d[k]! = true) (hR : Rot d i m (m + 1) D) : SortedIn lt a (m + 1) D := by
  have g1 : ∀ x, x < i → D[x]! = d[x]! := fun x hx => hR.out x (.inl hx)
  have g2 : D[i]! = d[m]! := by have := hR.lo 0 (by omega); exact this
  have g3 : ∀ x, i < x → x ≤ m → D[x]! = d[x - 1]! := fun x hx h => by
    have := hR.hi (x - 1 - i) (by omega)
    rw [show i + (m + 1 - m) + (x - 1 - i) = x by omega] at this
    rw [this]; congr 1; omega
  intro x y hx hxy hy
  by_cases c1 : x < i
  · rw [g1 x c1]
    by_cases c2 : y < i
    · rw [g1 y c2]; exact hS _ _ hx hxy (by omega)
    · by_cases c3 : y = i
      · rw [c3, g2]; exact h1 x hx c1
      · rw [g3 y (by omega) (by omega)]; exact hS _ _ hx (by omega) (by omega)
  · by_cases c3 : x = i
    · rw [c3, g2, g3 y (by omega) (by omega)]; exact swo_asymm O (h2 _ (by omega) (by omega))
    · rw [g3 x (by omega) (by omega), g3 y (by omega) (by omega)]; exact hS _ _ (by omega) (by omega) (by omega)
end Go.Proofs.YtomfebfjkcdjpabDoor.T

namespace Go.Proofs.YtomfebfjkcdjpabDoor.P
open Go.RowKit Go.Proofs.YtomfebfjkcdjpabDoorW.PrintWords Go.Proofs.YtomfebfjkcdjpabDoorW.PrintLast Go.Proofs.YtomfebfjkcdjpabDoorW.PrintMore
attribute [local go_sem] max2_int min2_int max_two min_two max_three min_three max_four min_four
set_option linter.unusedVariables false
set_option linter.unusedSimpArgs false

/-! ### impl_Square_47: function 47 -/
open Go.Proofs.YtomfebfjkcdjpabDoor.T Go.Proofs.YtomfebfjkcdjpabDoor.Aid Go.Proofs.YtomfebfjkcdjpabDoor.Sk Go.Proofs.YtomfebfjkcdjpabDoor.Gr Go.Sort
theorem half_w (i j : Nat) (h : i < j) (hj : j ≤ 1000000000000) : ∃ s q : Nat, s = i + j ∧ q = (i + j) / 2 ∧ i ≤ q ∧ q < j ∧ wrap64 ((i : Int) + (j : Int)) = (s : Int) ∧ IntKind.u64.wrap (s : Int) = (s : Int) ∧ wrap64 ((s : Int) / 2) = (q : Int) := by
  refine ⟨i + j, (i + j) / 2, rfl, rfl, by omega, by omega, ?_, ?_, ?_⟩
  · rw [w64 (by omega) (by omega)]; omega
  · simp only [IntKind.wrap, IntKind.bits, IntKind.signed]; simp; omega
  · rw [w64 (by omega) (by omega)]; omega
set_option maxHeartbeats 8000000 in
set_option maxRecDepth 100000 in
theorem sym_left {α : Type} [Inhabited α] {val : α → Sq} {cf : α → α → Int} {f : Nat} {base g cap : Nat} {w0 w : World} (hO : SWO (ltC cf)) (hF : CmpSq Tryd.prog val cf f) (d : Array α) (a m b : Nat) (hm : a + 1 = m) (h : SB val base w0 g cap d w) (hab : m < b) (hb : b ≤ d.size) (hS : SortedIn (ltC cf) m b d) (hsz : d.size ≤ 1000000000000) :
    Calls Tryd.prog 47 #[.slice (some ⟨g, 0, none⟩) d.size cap, .int .i64 (a : Int), .int .i64 (m : Int), .int .i64 (b : Int), .func (.func f) #[] #[]] w fun e w' => e = .returned (.tuple #[]) ∧ ∃ d', PermIn a b d d' ∧ SortedIn (ltC cf) a b d' ∧ SB val base w0 g cap d' w' := by
  have H0 := Aside0.mk h
  have HH : Aside0 (a + 1 = m ∧ m < b ∧ b ≤ d.size ∧ d.size ≤ 1000000000000) := ⟨hm, hab, hb, hsz⟩
  have HSO := Aside0.mk hS
  have HO := Aside0.mk hO
  have eg := hF.eg
  have HCALL := Aside0.mk hF.call
  have e1 : wrap64 ((m : Int) - (a : Int)) = 1 := by rw [w64 (by omega) (by omega)]; omega
  have mixed : Tryd.prog.follows .mixedOrders = true := by kernel_rfl
  clear h hab hb hsz hF hO hS hm
  go_enter Tryd.func47, Tryd.ntmps47
  go_wp2
  clear e1
  go_loopg [10, 11] (b - m) (fun kq v10 v11 wc => ∃ (i j : Nat), v10 = .int .i64 (i : Int) ∧ v11 = .int .i64 (j : Int) ∧ Aside0 (m ≤ i ∧ i ≤ j ∧ j ≤ b ∧ j - i ≤ kq ∧ (∀ k, m ≤ k → k < i → ltC cf d[k]! d[a]! = true) ∧ (∀ k, j ≤ k → k < b → ltC cf d[k]! d[a]! = false)) ∧ Aside0 (SB val base w0 g cap d wc))
  case atStart => exact ⟨m, b, rfl, rfl, ⟨Nat.le_refl _, by have := HH.out; omega, Nat.le_refl _, Nat.le_refl _, fun k h1 h2 => by omega, fun k h1 h2 => by omega⟩, H0⟩
  case round =>
    clear H0
    obtain ⟨i, j, rfl, rfl, HI, HS⟩ := hrel
    by_cases hlt : i < j
    · have c1 : decide (i < j) = true := decide_eq_true hlt
      have hi := HI.out
      have hh := HH.out
      obtain ⟨s, q, hs, hq, hq1, hq2, e2, e3, e4⟩ := half_w i j hlt (by omega)
      have E2 := Aside0.mk e2
      have E3 := Aside0.mk e3
      have E4 := Aside0.mk e4
      clear e2 e3 e4
      have EQ : Aside0 (wrap64 ((q : Int) + 1) = ((q + 1 : Nat) : Int)) := ⟨by rw [w64 (by omega) (by omega)]; omega⟩
      have HQ : Aside0 (i ≤ q ∧ q < j) := ⟨hq1, hq2⟩
      have p1 := eq_true (show (0 : Int) ≤ (q : Int) by omega)
      have p2 := eq_true (show (q : Int) < (d.size : Int) by omega)
      have q1 := eq_true (show (0 : Int) ≤ (a : Int) by omega)
      have q2 := eq_true (show (a : Int) < (d.size : Int) by omega)
      obtain ⟨⟨l0, l1, l2⟩, _⟩ := HS.out.cells (i := q) (by omega)
      obtain ⟨⟨m0, m1, m2⟩, _⟩ := HS.out.cells (i := a) (by omega)
      obtain ⟨x, hx⟩ : ∃ x, d[q]! = x := ⟨_, rfl⟩
      obtain ⟨y, hy⟩ : ∃ y, d[a]! = y := ⟨_, rfl⟩
      obtain ⟨X, hX⟩ : ∃ X, val x = X := ⟨_, rfl⟩
      obtain ⟨Y, hY⟩ : ∃ Y, val y = Y := ⟨_, rfl⟩
      rw [hx, hX] at l0 l1 l2
      rw [hy, hY] at m0 m1 m2
      have hcl := fun W => HCALL.out W x y
      rw [hX, hY] at hcl
      have HCL := Aside0.mk hcl
      have HXY : Aside0 (d[q]! = x ∧ d[a]! = y) := ⟨hx, hy⟩
      have x0 := fun p => cell_gr (p := p) (World.block_lt_of_cell? wr _ l0) l0
      have x1 := fun p => cell_gr (p := p) (World.block_lt_of_cell? wr _ l1) l1
      have x2 := fun p => cell_gr (p := p) (World.block_lt_of_cell? wr _ l2) l2
      have x3 := fun p => cell_gr (p := p) (World.block_lt_of_cell? wr _ m0) m0
      have x4 := fun p => cell_gr (p := p) (World.block_lt_of_cell? wr _ m1) m1
      have x5 := fun p => cell_gr (p := p) (World.block_lt_of_cell? wr _ m2) m2
      clear l0 l1 l2 m0 m1 m2 hx hy hX hY hcl
      have HLT := Aside0.mk hlt
      clear hs hq hq1 hq2 hlt hi hh
      have e2 := E2.out
      have e3 := E3.out
      have e4 := E4.out
      by_cases hlv : cf x y < 0
      · have HLV := Aside0.mk hlv
        have b1 := decide_eq_true hlv
        clear hlv
        go_wp2_with fail
        refine wp_region_gr (by kernel_rfl) (by kernel_rfl) ?_
        repeat (go_big_quiet_step (first | (go_at_fn f; refine Calls.gr_of (HCL.out _))))
        refine wpQuiet_nil ?_
        intro W2 hw'
        obtain ⟨⟨V2, hB2⟩, hw''⟩ := hw'
        replace hw'' : W2 = V2 := hw''
        subst hw''
        clear x0 x1 x2 x3 x4 x5
        have HS2 := Aside0.mk (HS.out.below hB2)
        clear hB2 HS
        have eq := EQ.out
        go_wp2_with fail
        clear eq e2 e3 e4
        go_roundg (j - (q + 1))
        case measure => have h1 := HI.out; have h2 := HQ.out; omega
        case rel => exact ⟨q + 1, j, by first | rfl | rw [EQ.out], rfl, ⟨by have h1 := HI.out; have h2 := HQ.out; omega, by have h2 := HQ.out; omega, HI.out.2.2.1, Nat.le_refl _, (fun k h1 h2 => by
          by_cases hk : k < i
          · exact HI.out.2.2.2.2.1 k h1 hk
          · have hq : ltC cf d[q]! d[a]! = true := by rw [HXY.out.1, HXY.out.2]; exact decide_eq_true HLV.out
            by_cases hkq : k = q
            · rw [hkq]; exact hq
            · have hs := HSO.out k q (by have := HI.out; omega) (by omega) (by have h3 := HI.out; have h4 := HQ.out; omega)
              cases hc : ltC cf d[k]! d[a]! with
              | true => rfl
              | false => have := HO.out.ntrans _ _ _ hs hc; rw [hq] at this; cases this), HI.out.2.2.2.2.2⟩, HS2⟩
      · have HLV := Aside0.mk hlv
        have b1 := decide_eq_false hlv
        clear hlv
        go_wp2_with fail
        refine wp_region_gr (by kernel_rfl) (by kernel_rfl) ?_
        repeat (go_big_quiet_step (first | (go_at_fn f; refine Calls.gr_of (HCL.out _))))
        refine wpQuiet_nil ?_
        intro W2 hw'
        obtain ⟨⟨V2, hB2⟩, hw''⟩ := hw'
        replace hw'' : W2 = V2 := hw''
        subst hw''
        clear x0 x1 x2 x3 x4 x5
        have HS2 := Aside0.mk (HS.out.below hB2)
        clear hB2 HS
        go_wp2_with fail
        clear e2 e3 e4
        go_roundg (q - i)
        case measure => have h1 := HI.out; have h2 := HQ.out; omega
        case rel => exact ⟨i, q, rfl, by first | rfl | rw [E4.out], ⟨HI.out.1, HQ.out.1, by have h1 := HI.out; have h2 := HQ.out; omega, Nat.le_refl _, HI.out.2.2.2.2.1, fun k h1 h2 => by
          have hq : ltC cf d[q]! d[a]! = false := by rw [HXY.out.1, HXY.out.2]; exact decide_eq_false (by have := HLV.out; omega)
          by_cases hkq : k = q
          · rw [hkq]; exact hq
          · exact HO.out.ntrans _ _ _ (HSO.out q k (by have h3 := HI.out; have h4 := HQ.out; omega) (by omega) h2) hq⟩, HS2⟩
    · have c1 : decide (i < j) = false := decide_eq_false hlt
      have hi := HI.out
      have hh := HH.out
      obtain rfl : i = j := by omega
      have EI : Aside0 (wrap64 ((i : Int) - 1) = ((i - 1 : Nat) : Int)) := ⟨by rw [w64 (by omega) (by omega)]; omega⟩
      obtain ⟨ip, hip⟩ : ∃ ip, i - 1 = ip := ⟨_, rfl⟩
      rw [hip] at EI
      have HIP : Aside0 (i - 1 = ip ∧ m ≤ i ∧ i ≤ b) := ⟨hip, by omega, by omega⟩
      have HU : Aside0 ((∀ k, m ≤ k → k < i → ltC cf d[k]! d[a]! = true) ∧ (∀ k, i ≤ k → k < b → ltC cf d[k]! d[a]! = false)) := ⟨hi.2.2.2.2.1, hi.2.2.2.2.2⟩
      clear hi hh hip hlt HI
      go_wp2_with fail
      go_loopg [13] (ip - a) (fun kq v13 wc => ∃ (k : Nat) (D : Array α), v13 = .int .i64 (k : Int) ∧ Aside0 (a ≤ k ∧ k ≤ ip ∧ ip - k ≤ kq ∧ D.size = d.size) ∧ Aside0 (Rot d a (a + 1) (k + 1) D) ∧ Aside0 (PermIn a b d D) ∧ Aside0 (SB val base w0 g cap D wc))
      case atStart => exact ⟨a, d, rfl, ⟨Nat.le_refl _, by have h1 := HH.out; have h2 := HIP.out; omega, Nat.le_refl _, rfl⟩, ⟨Rot.nil_right⟩, ⟨permIn_refl _ _ _⟩, HS⟩
      case round =>
        clear HS
        obtain ⟨k, D, rfl, HK, HR, HP, HS⟩ := hrel
        have ei := EI.out
        by_cases hk : k < ip
        · have c2 : decide (k < ip) = true := decide_eq_true hk
          have c3 : decide ((k : Int) < (ip : Int)) = true := decide_eq_true (by omega)
          have hkk := HK.out
          have hh := HH.out
          have hii := HIP.out
          clear ei
          obtain ⟨k1, hk1⟩ : ∃ k1, k + 1 = k1 := ⟨_, rfl⟩
          have ek0 : IntKind.i64.wrap ((k : Int) + 1) = (k1 : Int) := by rw [IntKind.wrap_i64]; omega
          have EK0 := Aside0.mk ek0
          clear ek0
          have EK : Aside0 (wrap64 ((k : Int) + 1) = (k1 : Int)) := ⟨by rw [w64 (by omega) (by omega)]; omega⟩
          obtain ⟨⟨l0, l1, l2⟩, f0, f1, f2⟩ := HS.out.cells (i := k) (by omega)
          obtain ⟨⟨m0, m1, m2⟩, g0, g1, g2⟩ := HS.out.cells (i := k1) (by omega)
          obtain ⟨X, hX⟩ : ∃ X, val D[k]! = X := ⟨_, rfl⟩
          obtain ⟨Y, hY⟩ : ∃ Y, val D[k1]! = Y := ⟨_, rfl⟩
          rw [hX] at l0 l1 l2
          rw [hY] at m0 m1 m2
          have SW := Aside0.mk (HS.out.swap6 (i := k) (j := k1) (by omega) (by omega) hX hY).drew
          obtain ⟨y1, y2, y3, y4, y5, s1, s2, s3, s4, s5⟩ := HS.out.six (p := k) (q := k1) (by omega) (by omega) (.int .i64 Y.f0) (.int .i64 Y.f1) (.int .i64 Y.f2) (.int .i64 X.f0) (.int .i64 X.f1)
          clear hX hY
          have HN : Aside0 (a ≤ k1 ∧ k1 ≤ ip ∧ ip - k1 < gk ∧ (swp D k k1).size = d.size) := ⟨by omega, by omega, by omega, by rw [swpSize]; exact hkk.2.2.2⟩
          have HRN : Aside0 (Rot d a (a + 1) (k1 + 1) (swp D k k1)) := ⟨by rw [← hk1]; exact rot_up hkk.1 (by omega) HR.out⟩
          have HPN : Aside0 (PermIn a b d (swp D k k1)) := ⟨permIn_trans _ _ _ _ _ HP.out (swp_permIn _ _ _ _ _ (by omega) (by omega) (by omega) (by omega) (by omega))⟩
          have p1 := eq_true (show (0 : Int) ≤ (k : Int) by omega)
          have p2 := eq_true (show (k : Int) < (d.size : Int) by omega)
          have q1 := eq_true (show (0 : Int) ≤ (k1 : Int) by omega)
          have q2 := eq_true (show (k1 : Int) < (d.size : Int) by omega)
          clear hkk hh hii hk1 hk
          have ei := EI.out
          have ek0 := EK0.out
          have ek := EK.out
          go_wp2_with fail
          go_region_law (fail)
          all_goals
            generalize ((((((wr.setCell ⟨g, k * 3, none⟩ (.int .i64 Y.f0)).setCell ⟨g, k * 3 + 1, none⟩ (.int .i64 Y.f1)).setCell ⟨g, k * 3 + 2, none⟩ (.int .i64 Y.f2)).setCell ⟨g, k1 * 3, none⟩ (.int .i64 X.f0)).setCell ⟨g, k1 * 3 + 1, none⟩ (.int .i64 X.f1)).setCell ⟨g, k1 * 3 + 2, none⟩ (.int .i64 X.f2)).drew = W3 at SW ⊢
            clear l0 l1 l2 f0 f1 f2 m0 m1 m2 g0 g1 g2 s1 s2 s3 s4 s5 HS
            go_wp2_with fail
            clear ei ek ek0
            go_roundg (ip - k1)
            case measure => exact HN.out.2.2.1
            case rel => exact ⟨k1, _, by first | rfl | rw [EK.out], ⟨HN.out.1, HN.out.2.1, Nat.le_refl _, HN.out.2.2.2⟩, HRN, HPN, SW⟩
        · have c2 : decide (k < ip) = false := decide_eq_false hk
          have c3 : decide ((k : Int) < (ip : Int)) = false := decide_eq_false (by omega)
          have HE : Aside0 (SortedIn (ltC cf) a b D) := ⟨by
            have hkk := HK.out
            have hh := HH.out
            have hii := HIP.out
            have hr := HR.out
            rw [show k + 1 = i by omega] at hr
            refine ins_left HO.out (i := i) (by omega) (by omega) (by rw [hh.1]; exact HSO.out) (fun k h1 h2 => HU.out.1 k (by omega) h2) HU.out.2 hr⟩
          go_wp2_with fail
          (try simp only [Exit.inBlock, Exit.then]); refine bodyPost_ret (results_none rfl _ _ _) rfl ?_
          exact ⟨rfl, D, HP.out, HE.out, HS.out⟩
set_option maxHeartbeats 8000000 in
set_option maxRecDepth 100000 in
theorem sym_right {α : Type} [Inhabited α] {val : α → Sq} {cf : α → α → Int} {f : Nat} {base g cap : Nat} {w0 w : World} (hO : SWO (ltC cf)) (hF : CmpSq Tryd.prog val cf f) (d : Array α) (a m b : Nat) (hm : m + 1 = b) (h : SB val base w0 g cap d w) (ham : a + 1 < m) (hb : b ≤ d.size) (hS : SortedIn (ltC cf) a m d) (hsz : d.size ≤ 1000000000000) :
    Calls Tryd.prog 47 #[.slice (some ⟨g, 0, none⟩) d.size cap, .int .i64 (a : Int), .int .i64 (m : Int), .int .i64 (b : Int), .func (.func f) #[] #[]] w fun e w' => e = .returned (.tuple #[]) ∧ ∃ d', PermIn a b d d' ∧ SortedIn (ltC cf) a b d' ∧ SB val base w0 g cap d' w' := by
  have H0 := Aside0.mk h
  have HH : Aside0 (m + 1 = b ∧ a + 1 < m ∧ b ≤ d.size ∧ d.size ≤ 1000000000000) := ⟨hm, ham, hb, hsz⟩
  have HSO := Aside0.mk hS
  have HO := Aside0.mk hO
  have eg := hF.eg
  have HCALL := Aside0.mk hF.call
  obtain ⟨z, hz⟩ : ∃ z : Int, (m : Int) - (a : Int) = z := ⟨_, rfl⟩
  have e1 : wrap64 ((m : Int) - (a : Int)) = z := by rw [w64 (by omega) (by omega)]; exact hz
  have e1b : (z == 1) = false := by simp; omega
  have e2 : wrap64 ((b : Int) - (m : Int)) = 1 := by rw [w64 (by omega) (by omega)]; omega
  have mixed : Tryd.prog.follows .mixedOrders = true := by kernel_rfl
  clear h ham hb hsz hF hO hS hm hz
  go_enter Tryd.func47, Tryd.ntmps47
  go_wp2
  clear e1 e1b e2
  go_loopg [14, 15] (m - a) (fun kq v10 v11 wc => ∃ (i j : Nat), v10 = .int .i64 (i : Int) ∧ v11 = .int .i64 (j : Int) ∧ Aside0 (a ≤ i ∧ i ≤ j ∧ j ≤ m ∧ j - i ≤ kq ∧ (∀ k, a ≤ k → k < i → ltC cf d[m]! d[k]! = false) ∧ (∀ k, j ≤ k → k < m → ltC cf d[m]! d[k]! = true)) ∧ Aside0 (SB val base w0 g cap d wc))
  case atStart => exact ⟨a, m, rfl, rfl, ⟨Nat.le_refl _, by have := HH.out; omega, Nat.le_refl _, Nat.le_refl _, fun k h1 h2 => by omega, fun k h1 h2 => by omega⟩, H0⟩
  case round =>
    clear H0
    obtain ⟨i, j, rfl, rfl, HI, HS⟩ := hrel
    by_cases hlt : i < j
    · have c1 : decide (i < j) = true := decide_eq_true hlt
      have hi := HI.out
      have hh := HH.out
      obtain ⟨s, q, hs, hq, hq1, hq2, e2, e3, e4⟩ := half_w i j hlt (by omega)
      have E2 := Aside0.mk e2
      have E3 := Aside0.mk e3
      have E4 := Aside0.mk e4
      clear e2 e3 e4
      have EQ : Aside0 (wrap64 ((q : Int) + 1) = ((q + 1 : Nat) : Int)) := ⟨by rw [w64 (by omega) (by omega)]; omega⟩
      have HQ : Aside0 (i ≤ q ∧ q < j) := ⟨hq1, hq2⟩
      have p1 := eq_true (show (0 : Int) ≤ (q : Int) by omega)
      have p2 := eq_true (show (q : Int) < (d.size : Int) by omega)
      have q1 := eq_true (show (0 : Int) ≤ (m : Int) by omega)
      have q2 := eq_true (show (m : Int) < (d.size : Int) by omega)
      obtain ⟨⟨l0, l1, l2⟩, _⟩ := HS.out.cells (i := m) (by omega)
      obtain ⟨⟨m0, m1, m2⟩, _⟩ := HS.out.cells (i := q) (by omega)
      obtain ⟨x, hx⟩ : ∃ x, d[m]! = x := ⟨_, rfl⟩
      obtain ⟨y, hy⟩ : ∃ y, d[q]! = y := ⟨_, rfl⟩
      obtain ⟨X, hX⟩ : ∃ X, val x = X := ⟨_, rfl⟩
      obtain ⟨Y, hY⟩ : ∃ Y, val y = Y := ⟨_, rfl⟩
      rw [hx, hX] at l0 l1 l2
      rw [hy, hY] at m0 m1 m2
      have hcl := fun W => HCALL.out W x y
      rw [hX, hY] at hcl
      have HCL := Aside0.mk hcl
      have HXY : Aside0 (d[m]! = x ∧ d[q]! = y) := ⟨hx, hy⟩
      have x0 := fun p => cell_gr (p := p) (World.block_lt_of_cell? wr _ l0) l0
      have x1 := fun p => cell_gr (p := p) (World.block_lt_of_cell? wr _ l1) l1
      have x2 := fun p => cell_gr (p := p) (World.block_lt_of_cell? wr _ l2) l2
      have x3 := fun p => cell_gr (p := p) (World.block_lt_of_cell? wr _ m0) m0
      have x4 := fun p => cell_gr (p := p) (World.block_lt_of_cell? wr _ m1) m1
      have x5 := fun p => cell_gr (p := p) (World.block_lt_of_cell? wr _ m2) m2
      clear l0 l1 l2 m0 m1 m2 hx hy hX hY hcl
      have HLT := Aside0.mk hlt
      clear hs hq hq1 hq2 hlt hi hh
      have e2 := E2.out
      have e3 := E3.out
      have e4 := E4.out
      by_cases hlv : cf x y < 0
      · have HLV := Aside0.mk hlv
        have b1 := decide_eq_true hlv
        clear hlv
        go_wp2_with fail
        refine wp_region_gr (by kernel_rfl) (by kernel_rfl) ?_
        repeat (go_big_quiet_step (first | (go_at_fn f; refine Calls.gr_of (HCL.out _))))
        refine wpQuiet_nil ?_
        intro W2 hw'
        obtain ⟨⟨V2, hB2⟩, hw''⟩ := hw'
        replace hw'' : W2 = V2 := hw''
        subst hw''
        clear x0 x1 x2 x3 x4 x5
        have HS2 := Aside0.mk (HS.out.below hB2)
        clear hB2 HS
        go_wp2_with fail
        clear e2 e3 e4
        go_roundg (q - i)
        case measure => have h1 := HI.out; have h2 := HQ.out; omega
        case rel => exact ⟨i, q, rfl, by first | rfl | rw [E4.out], ⟨HI.out.1, HQ.out.1, by have h1 := HI.out; have h2 := HQ.out; omega, Nat.le_refl _, HI.out.2.2.2.2.1, (fun k h1 h2 => by
          have hq : ltC cf d[m]! d[q]! = true := by rw [HXY.out.1, HXY.out.2]; exact decide_eq_true HLV.out
          by_cases hkq : k = q
          · rw [hkq]; exact hq
          · have hs := HSO.out q k (by have h3 := HI.out; have h4 := HQ.out; omega) (by omega) h2
            cases hc : ltC cf d[m]! d[k]! with
            | true => rfl
            | false => have := HO.out.ntrans _ _ _ hc hs; rw [hq] at this; cases this)⟩, HS2⟩
      · have HLV := Aside0.mk hlv
        have b1 := decide_eq_false hlv
        clear hlv
        go_wp2_with fail
        refine wp_region_gr (by kernel_rfl) (by kernel_rfl) ?_
        repeat (go_big_quiet_step (first | (go_at_fn f; refine Calls.gr_of (HCL.out _))))
        refine wpQuiet_nil ?_
        intro W2 hw'
        obtain ⟨⟨V2, hB2⟩, hw''⟩ := hw'
        replace hw'' : W2 = V2 := hw''
        subst hw''
        clear x0 x1 x2 x3 x4 x5
        have HS2 := Aside0.mk (HS.out.below hB2)
        clear hB2 HS
        have eq := EQ.out
        go_wp2_with fail
        clear eq e2 e3 e4
        go_roundg (j - (q + 1))
        case measure => have h1 := HI.out; have h2 := HQ.out; omega
        case rel => exact ⟨q + 1, j, by first | rfl | rw [EQ.out], rfl, ⟨by have h1 := HI.out; have h2 := HQ.out; omega, by have h2 := HQ.out; omega, HI.out.2.2.1, Nat.le_refl _, (fun k h1 h2 => by
          have hq : ltC cf d[m]! d[q]! = false := by rw [HXY.out.1, HXY.out.2]; exact decide_eq_false (by have := HLV.out; omega)
          by_cases hkq : k = q
          · rw [hkq]; exact hq
          · exact HO.out.ntrans _ _ _ hq (HSO.out k q h1 (by omega) (by have h3 := HI.out; have h4 := HQ.out; omega))), HI.out.2.2.2.2.2⟩, HS2⟩
    · have c1 : decide (i < j) = false := decide_eq_false hlt
      have hi := HI.out
      have hh := HH.out
      obtain rfl : i = j := by omega
      have HIP : Aside0 (a ≤ i ∧ i ≤ m) := ⟨by omega, by omega⟩
      have HU : Aside0 ((∀ k, a ≤ k → k < i → ltC cf d[m]! d[k]! = false) ∧ (∀ k, i ≤ k → k < m → ltC cf d[m]! d[k]! = true)) := ⟨hi.2.2.2.2.1, hi.2.2.2.2.2⟩
      clear hi hh hlt HI
      go_wp2_with fail
      go_loopg [17] (m - i) (fun kq v13 wc => ∃ (k : Nat) (D : Array α), v13 = .int .i64 (k : Int) ∧ Aside0 (i ≤ k ∧ k ≤ m ∧ k - i ≤ kq ∧ D.size = d.size) ∧ Aside0 (Rot d k m (m + 1) D) ∧ Aside0 (PermIn a b d D) ∧ Aside0 (SB val base w0 g cap D wc))
      case atStart => exact ⟨m, d, rfl, ⟨by have h2 := HIP.out; omega, Nat.le_refl _, Nat.le_refl _, rfl⟩, ⟨Rot.nil_left⟩, ⟨permIn_refl _ _ _⟩, HS⟩
      case round =>
        clear HS
        obtain ⟨k, D, rfl, HK, HR, HP, HS⟩ := hrel
        by_cases hk : i < k
        · have c2 : decide (i < k) = true := decide_eq_true hk
          have c3 : decide ((k : Int) > (i : Int)) = true := decide_eq_true (by omega)
          have hkk := HK.out
          have hh := HH.out
          have hii := HIP.out
          obtain ⟨k1, hk1⟩ : ∃ k1, k - 1 = k1 := ⟨_, rfl⟩
          have ek0 : IntKind.i64.wrap ((k : Int) - 1) = (k1 : Int) := by rw [IntKind.wrap_i64]; omega
          have EK0 := Aside0.mk ek0
          clear ek0
          have EK : Aside0 (wrap64 ((k : Int) - 1) = (k1 : Int)) := ⟨by rw [w64 (by omega) (by omega)]; omega⟩
          obtain ⟨⟨l0, l1, l2⟩, f0, f1, f2⟩ := HS.out.cells (i := k) (by omega)
          obtain ⟨⟨m0, m1, m2⟩, g0, g1, g2⟩ := HS.out.cells (i := k1) (by omega)
          obtain ⟨X, hX⟩ : ∃ X, val D[k]! = X := ⟨_, rfl⟩
          obtain ⟨Y, hY⟩ : ∃ Y, val D[k1]! = Y := ⟨_, rfl⟩
          rw [hX] at l0 l1 l2
          rw [hY] at m0 m1 m2
          have SW := Aside0.mk (HS.out.swap6 (i := k) (j := k1) (by omega) (by omega) hX hY).drew
          obtain ⟨y1, y2, y3, y4, y5, s1, s2, s3, s4, s5⟩ := HS.out.six (p := k) (q := k1) (by omega) (by omega) (.int .i64 Y.f0) (.int .i64 Y.f1) (.int .i64 Y.f2) (.int .i64 X.f0) (.int .i64 X.f1)
          clear hX hY
          have HN : Aside0 (i ≤ k1 ∧ k1 ≤ m ∧ k1 - i < gk ∧ (swp D k k1).size = d.size) := ⟨by omega, by omega, by omega, by rw [swpSize]; exact hkk.2.2.2⟩
          have HRN : Aside0 (Rot d k1 m (m + 1) (swp D k k1)) := ⟨by
            obtain rfl : k = k1 + 1 := by omega
            exact rot_down (by omega) (by omega) HR.out⟩
          have HPN : Aside0 (PermIn a b d (swp D k k1)) := ⟨permIn_trans _ _ _ _ _ HP.out (swp_permIn _ _ _ _ _ (by omega) (by omega) (by omega) (by omega) (by omega))⟩
          have p1 := eq_true (show (0 : Int) ≤ (k : Int) by omega)
          have p2 := eq_true (show (k : Int) < (d.size : Int) by omega)
          have q1 := eq_true (show (0 : Int) ≤ (k1 : Int) by omega)
          have q2 := eq_true (show (k1 : Int) < (d.size : Int) by omega)
          clear hkk hh hii hk1 hk
          have ek0 := EK0.out
          have ek := EK.out
          go_wp2_with fail
          go_region_law (fail)
          all_goals
            generalize ((((((wr.setCell ⟨g, k * 3, none⟩ (.int .i64 Y.f0)).setCell ⟨g, k * 3 + 1, none⟩ (.int .i64 Y.f1)).setCell ⟨g, k * 3 + 2, none⟩ (.int .i64 Y.f2)).setCell ⟨g, k1 * 3, none⟩ (.int .i64 X.f0)).setCell ⟨g, k1 * 3 + 1, none⟩ (.int .i64 X.f1)).setCell ⟨g, k1 * 3 + 2, none⟩ (.int .i64 X.f2)).drew = W3 at SW ⊢
            clear l0 l1 l2 f0 f1 f2 m0 m1 m2 g0 g1 g2 s1 s2 s3 s4 s5 HS
            go_wp2_with fail
            clear ek ek0
            go_roundg (k1 - i)
            case measure => exact HN.out.2.2.1
            case rel => exact ⟨k1, _, by first | rfl | rw [EK.out], ⟨HN.out.1, HN.out.2.1, Nat.le_refl _, HN.out.2.2.2⟩, HRN, HPN, SW⟩
        · have c2 : decide (i < k) = false := decide_eq_false hk
          have c3 : decide ((k : Int) > (i : Int)) = false := decide_eq_false (by omega)
          have HE : Aside0 (SortedIn (ltC cf) a b D) := ⟨by
            have hkk := HK.out
            have hh := HH.out
            have hii := HIP.out
            have hr := HR.out
            obtain rfl : k = i := by omega
            rw [← hh.1]
            exact ins_right HO.out hii.1 hii.2 HSO.out HU.out.1 HU.out.2 hr⟩
          go_wp2_with fail
          (try simp only [Exit.inBlock, Exit.then]); refine bodyPost_ret (results_none rfl _ _ _) rfl ?_
          exact ⟨rfl, D, HP.out, HE.out, HS.out⟩
theorem sorted_keep {α : Type} [Inhabited α] {lt : α → α → Bool} {x y : Nat} {d1 d2 : Array α} (h : SortedIn lt x y d1) (he : ∀ i, x ≤ i → i < y → d2[i]! = d1[i]!) : SortedIn lt x y d2 := fun i j h1 h2 h3 => by
  rw [he i h1 (by omega), he j (by omega) h3]; exact h i j h1 h2 h3
set_option maxHeartbeats 8000000 in
set_option maxRecDepth 100000 in
theorem symMerge_sq {α : Type} [Inhabited α] {val : α → Sq} {cf : α → α → Int} {f : Nat} {base g cap : Nat} {w0 : World} (hO : SWO (ltC cf)) (hF : CmpSq Tryd.prog val cf f) : ∀ (N : Nat) (d : Array α) (a m b : Nat) (w : World), SB val base w0 g cap d w → a < m → m < b → b ≤ d.size → d.size ≤ 1000000000000 → SortedIn (ltC cf) a m d → SortedIn (ltC cf) m b d → b - a ≤ N →
    Calls Tryd.prog 47 #[.slice (some ⟨g, 0, none⟩) d.size cap, .int .i64 (a : Int), .int .i64 (m : Int), .int .i64 (b : Int), .func (.func f) #[] #[]] w fun e w' => e = .returned (.tuple #[]) ∧ ∃ d', PermIn a b d d' ∧ SortedIn (ltC cf) a b d' ∧ SB val base w0 g cap d' w'
  | 0, d, a, m, b, w, h, ham, hmb, hb, hsz, hS1, hS2, hN => by omega
  | N + 1, d, a, m, b, w, h, ham, hmb, hb, hsz, hS1, hS2, hN => by
    by_cases c1 : a + 1 = m
    · exact sym_left hO hF d a m b c1 h hmb hb hS2 hsz
    · by_cases c2 : m + 1 = b
      · exact sym_right hO hF d a m b c2 h (by omega) hb hS1 hsz
      · have IH := Aside0.mk (symMerge_sq (base := base) (g := g) (cap := cap) (w0 := w0) hO hF N)
        have H0 := Aside0.mk h
        have HS12 := Aside0.mk (And.intro hS1 hS2)
        have HO := Aside0.mk hO
        have eg := hF.eg
        have HCALL := Aside0.mk hF.call
        obtain ⟨z1, hz1⟩ : ∃ z : Int, (m : Int) - (a : Int) = z := ⟨_, rfl⟩
        obtain ⟨z2, hz2⟩ : ∃ z : Int, (b : Int) - (m : Int) = z := ⟨_, rfl⟩
        obtain ⟨s0, mid, hs0, hmid, hm1, hm2, e3, e4, e5⟩ := half_w a b (by omega) (by omega)
        have E345 := Aside0.mk (And.intro e3 (And.intro e4 e5))
        clear e3 e4 e5
        obtain ⟨n, hn⟩ : ∃ n, mid + m = n := ⟨_, rfl⟩
        obtain ⟨lo, hlo⟩ : ∃ lo, (if mid < m then n - b else a) = lo := ⟨_, rfl⟩
        obtain ⟨hi, hhi⟩ : ∃ hi, (if mid < m then mid else m) = hi := ⟨_, rfl⟩
        obtain ⟨p, hp⟩ : ∃ p, n - 1 = p := ⟨_, rfl⟩
        have e1 : wrap64 ((m : Int) - (a : Int)) = z1 := by rw [w64 (by omega) (by omega)]; exact hz1
        have E1 := Aside0.mk e1
        clear e1
        have e2 : wrap64 ((b : Int) - (m : Int)) = z2 := by rw [w64 (by omega) (by omega)]; exact hz2
        have E2 := Aside0.mk e2
        clear e2
        have E6 : Aside0 (wrap64 ((mid : Int) + (m : Int)) = (n : Int)) := ⟨by rw [w64 (by omega) (by omega)]; omega⟩
        have E7 : Aside0 (mid < m → wrap64 ((n : Int) - (b : Int)) = (lo : Int)) := ⟨fun h => by rw [w64 (by omega) (by omega)]; rw [if_pos h] at hlo; omega⟩
        have E8 : Aside0 (wrap64 ((n : Int) - 1) = (p : Int)) := ⟨by rw [w64 (by omega) (by omega)]; omega⟩
        have hb0 : a ≤ lo ∧ lo ≤ hi ∧ hi ≤ m ∧ hi ≤ mid ∧ n - b ≤ lo := by
          rw [← hlo, ← hhi]
          by_cases c : mid < m
          · rw [if_pos c, if_pos c]; omega
          · rw [if_neg c, if_neg c]; omega
        have HH : Aside0 ((a + 1 < m ∧ m + 1 < b ∧ b ≤ d.size ∧ d.size ≤ 1000000000000 ∧ b - a ≤ N + 1) ∧ (a ≤ lo ∧ lo ≤ hi ∧ hi ≤ m ∧ hi ≤ mid ∧ n - b ≤ lo) ∧ (a ≤ mid ∧ mid < b) ∧ mid + m = n ∧ mid = (a + b) / 2 ∧ n - 1 = p) := ⟨⟨by omega, by omega, hb, hsz, hN⟩, hb0, ⟨hm1, hm2⟩, hn, hmid, hp⟩
        have HLO := Aside0.mk (And.intro hlo hhi)
        have e1b : (z1 == 1) = false := by simp; omega
        have e2b : (z2 == 1) = false := by simp; omega
        have mixed : Tryd.prog.follows .mixedOrders = true := by kernel_rfl
        clear h ham hmb hb hsz hS1 hS2 hN c1 c2 hz1 hz2 hs0 hmid hm1 hm2 hn hlo hhi hp hb0 hF hO
        have e1 := E1.out
        have e2 := E2.out
        have e3 := E345.out.1
        have e4 := E345.out.2.1
        have e5 := E345.out.2.2
        have e6 := E6.out
        go_enter Tryd.func47, Tryd.ntmps47
        go_upto_if 140 with (fail)
        clear e1 e2 e3 e4 e1b e2b
        go_cut [18, 19, 20, 21] from 141 to 146 (fun v18 v19 v20 v21 wc => v18 = .int .i64 (mid : Int) ∧ v19 = .int .i64 (n : Int) ∧ v20 = .int .i64 (lo : Int) ∧ v21 = .int .i64 (hi : Int) ∧ Aside0 (SB val base w0 g cap d wc))
        case first => as_aux_lemma =>
          clear e5 e6
          by_cases hmm : mid < m
          · have c1 : decide (mid < m) = true := decide_eq_true hmm
            have e7 := E7.out hmm
            have hl := HLO.out
            rw [if_pos hmm, if_pos hmm] at hl
            have HL := Aside0.mk hl
            clear hl
            have e5 := E345.out.2.2
            have e6 := E6.out
            go_wp2_with fail
            clear e7
            go_meet
            case rel => exact ⟨by first | rfl | simp only [E345.out.2.2], by first | rfl | simp only [E345.out.2.2, E6.out], by first | rfl | simp only [E345.out.2.2, E6.out, E7.out (of_decide_eq_true c1)], by first | rfl | (rw [← HL.out.2, E345.out.2.2]; done) | (rw [← HL.out.2]; done), H0⟩
          · have c1 : decide (mid < m) = false := decide_eq_false hmm
            have hl := HLO.out
            rw [if_neg hmm, if_neg hmm] at hl
            have HL := Aside0.mk hl
            clear hl
            have e5 := E345.out.2.2
            have e6 := E6.out
            go_wp2_with fail
            go_meet
            case rel => exact ⟨by first | rfl | simp only [E345.out.2.2], by first | rfl | simp only [E345.out.2.2, E6.out], by first | rfl | (rw [← HL.out.1]; done), by first | rfl | (rw [← HL.out.2]; done), H0⟩
        case rest =>
          clear H0 e5 e6
          obtain ⟨rfl, rfl, rfl, rfl, HS⟩ := hcut
          go_upto_region 32 with (fail)
          go_cut [22] from 147 to 148 (fun v22 wc => v22 = .int .i64 (p : Int) ∧ Aside0 (SB val base w0 g cap d wc))
          case first => as_aux_lemma =>
            have e8 := E8.out
            go_wp2_with fail
            go_meet
            case rel => exact ⟨by first | rfl | rw [E8.out], HS⟩
          case rest =>
          clear HS
          obtain ⟨rfl, HS⟩ := hcut
          go_wp2_with fail
          go_loopg [20, 21] (hi - lo) (fun kq v20 v21 wc => ∃ (s r : Nat), v20 = .int .i64 (s : Int) ∧ v21 = .int .i64 (r : Int) ∧ Aside0 ((lo ≤ s ∧ s ≤ r ∧ r ≤ hi ∧ r - s ≤ kq) ∧ (s = lo ∨ ltC cf d[n - s]! d[s - 1]! = false) ∧ (r = hi ∨ ltC cf d[n - 1 - r]! d[r]! = true)) ∧ Aside0 (SB val base w0 g cap d wc))
          case atStart => exact ⟨lo, hi, rfl, rfl, ⟨⟨Nat.le_refl _, HH.out.2.1.2.1, Nat.le_refl _, Nat.le_refl _⟩, .inl rfl, .inl rfl⟩, HS⟩
          case round =>
            clear HS
            obtain ⟨s, r, rfl, rfl, HI, HS⟩ := hrel
            by_cases hlt : s < r
            · as_aux_lemma =>
              have c1 : decide (s < r) = true := decide_eq_true hlt
              have hi' := HI.out.1
              have hh := HH.out
              obtain ⟨sq, q, hsq, hq, hq1, hq2, e2, e3, e4⟩ := half_w s r hlt (by omega)
              have E2 := Aside0.mk e2
              have E3 := Aside0.mk e3
              have E4 := Aside0.mk e4
              clear e2 e3 e4
              obtain ⟨pq, hpq⟩ : ∃ pq, p - q = pq := ⟨_, rfl⟩
              have EQ : Aside0 (wrap64 ((q : Int) + 1) = ((q + 1 : Nat) : Int)) := ⟨by rw [w64 (by omega) (by omega)]; omega⟩
              have EP : Aside0 (IntKind.i64.wrap ((p : Int) - (q : Int)) = (pq : Int)) := ⟨by rw [IntKind.wrap_i64]; omega⟩
              have HQ : Aside0 ((s ≤ q ∧ q < r) ∧ n - 1 - q = pq ∧ n - (q + 1) = pq) := ⟨⟨hq1, hq2⟩, by omega, by omega⟩
              have p1 := eq_true (show (0 : Int) ≤ (pq : Int) by omega)
              have p2 := eq_true (show (pq : Int) < (d.size : Int) by omega)
              have q1 := eq_true (show (0 : Int) ≤ (q : Int) by omega)
              have q2 := eq_true (show (q : Int) < (d.size : Int) by omega)
              obtain ⟨⟨l0, l1, l2⟩, _⟩ := HS.out.cells (i := pq) (by omega)
              obtain ⟨⟨m0, m1, m2⟩, _⟩ := HS.out.cells (i := q) (by omega)
              obtain ⟨x, hx⟩ : ∃ x, d[pq]! = x := ⟨_, rfl⟩
              obtain ⟨y, hy⟩ : ∃ y, d[q]! = y := ⟨_, rfl⟩
              obtain ⟨X, hX⟩ : ∃ X, val x = X := ⟨_, rfl⟩
              obtain ⟨Y, hY⟩ : ∃ Y, val y = Y := ⟨_, rfl⟩
              rw [hx, hX] at l0 l1 l2
              rw [hy, hY] at m0 m1 m2
              have hcl := fun W => HCALL.out W x y
              rw [hX, hY] at hcl
              have HCL := Aside0.mk hcl
              have HXY : Aside0 (d[pq]! = x ∧ d[q]! = y) := ⟨hx, hy⟩
              have x0 := fun p => cell_gr (p := p) (World.block_lt_of_cell? wr _ l0) l0
              have x1 := fun p => cell_gr (p := p) (World.block_lt_of_cell? wr _ l1) l1
              have x2 := fun p => cell_gr (p := p) (World.block_lt_of_cell? wr _ l2) l2
              have x3 := fun p => cell_gr (p := p) (World.block_lt_of_cell? wr _ m0) m0
              have x4 := fun p => cell_gr (p := p) (World.block_lt_of_cell? wr _ m1) m1
              have x5 := fun p => cell_gr (p := p) (World.block_lt_of_cell? wr _ m2) m2
              clear l0 l1 l2 m0 m1 m2 hx hy hX hY hcl
              have HLT := Aside0.mk hlt
              clear hsq hq hq1 hq2 hlt hi' hh hpq
              have e2 := E2.out
              have e3 := E3.out
              have e4 := E4.out
              have ep := EP.out
              by_cases hlv : cf x y < 0
              · have HLV := Aside0.mk hlv
                have b1 := decide_eq_true hlv
                clear hlv
                go_wp2_with fail
                refine wp_region_gr (by kernel_rfl) (by kernel_rfl) ?_
                repeat (go_big_quiet_step (first | (go_at_fn f; refine Calls.gr_of (HCL.out _))))
                refine wpQuiet_nil ?_
                intro W2 hw'
                obtain ⟨⟨V2, hB2⟩, hw''⟩ := hw'
                replace hw'' : W2 = V2 := hw''
                subst hw''
                clear x0 x1 x2 x3 x4 x5
                have HS2 := Aside0.mk (HS.out.below hB2)
                clear hB2 HS
                go_wp2_with fail
                clear e2 e3 e4 ep
                go_roundg (q - s)
                case measure => have h1 := HI.out.1; have h2 := HQ.out; omega
                case rel => exact ⟨s, q, rfl, by first | rfl | rw [E4.out], ⟨⟨HI.out.1.1, HQ.out.1.1, by have h1 := HI.out.1; have h2 := HQ.out; omega, Nat.le_refl _⟩, HI.out.2.1, .inr (by rw [HQ.out.2.1, HXY.out.1, HXY.out.2]; exact decide_eq_true HLV.out)⟩, HS2⟩
              · have HLV := Aside0.mk hlv
                have b1 := decide_eq_false hlv
                clear hlv
                go_wp2_with fail
                refine wp_region_gr (by kernel_rfl) (by kernel_rfl) ?_
                repeat (go_big_quiet_step (first | (go_at_fn f; refine Calls.gr_of (HCL.out _))))
                refine wpQuiet_nil ?_
                intro W2 hw'
                obtain ⟨⟨V2, hB2⟩, hw''⟩ := hw'
                replace hw'' : W2 = V2 := hw''
                subst hw''
                clear x0 x1 x2 x3 x4 x5
                have HS2 := Aside0.mk (HS.out.below hB2)
                clear hB2 HS
                have eq := EQ.out
                go_wp2_with fail
                clear eq e2 e3 e4 ep
                go_roundg (r - (q + 1))
                case measure => have h1 := HI.out.1; have h2 := HQ.out; omega
                case rel => exact ⟨q + 1, r, by first | rfl | rw [EQ.out], rfl, ⟨⟨by have h1 := HI.out.1; have h2 := HQ.out; omega, by have h2 := HQ.out; omega, HI.out.1.2.2.1, Nat.le_refl _⟩, .inr (by rw [HQ.out.2.2, Nat.add_sub_cancel, HXY.out.1, HXY.out.2]; exact decide_eq_false (by have := HLV.out; omega)), HI.out.2.2⟩, HS2⟩
            · have c1 : decide (s < r) = false := decide_eq_false hlt
              obtain rfl : s = r := by have := HI.out.1; omega
              obtain ⟨e, he⟩ : ∃ e, n - s = e := ⟨_, rfl⟩
              have hh := HH.out
              have hi' := HI.out.1
              have E9 : Aside0 (wrap64 ((n : Int) - (s : Int)) = (e : Int)) := ⟨by rw [w64 (by omega) (by omega)]; omega⟩
              have HE : Aside0 (n - s = e ∧ a ≤ s ∧ s ≤ m ∧ s ≤ mid ∧ m ≤ e ∧ mid ≤ e ∧ e ≤ b) := ⟨he, by omega, by omega, by omega, by omega, by omega, by omega⟩
              have HPARTS : Aside0 (∀ d1, Rot d s m e d1 → Parts (ltC cf) a s mid e b d1) := ⟨fun d1 hR => sym_parts HO.out (by omega) (by omega) hh.2.2.2.2.1 hh.2.2.2.1.symm HLO.out.1.symm HLO.out.2.symm hi'.1 hi'.2.2.1 he.symm HI.out.2.1 HI.out.2.2 HS12.out.1 HS12.out.2 hR⟩
              clear hlt hh hi' he HI
              have e9 := E9.out
              go_upto_region 39 with (fail)
              go_cut [24, 185] from 178 to 185 (fun v24 v185 wc => ∃ b1 : Bool, v24 = .int .i64 (e : Int) ∧ v185 = .bool b1 ∧ Aside0 (b1 = true ↔ s < m ∧ m < e) ∧ Aside0 (SB val base w0 g cap d wc))
              case first => as_aux_lemma =>
                by_cases hc1 : s < m
                · have g1 : decide (s < m) = true := decide_eq_true hc1
                  by_cases hc2 : m < e
                  · have g2 : decide (m < e) = true := decide_eq_true hc2
                    have HC := Aside0.mk (And.intro hc1 hc2)
                    clear hc1 hc2
                    go_wp2_with fail
                    go_meet
                    case rel => exact ⟨true, by first | rfl | rw [E9.out], rfl, ⟨fun _ => HC.out, fun _ => rfl⟩, HS⟩
                  · have g2 : decide (m < e) = false := decide_eq_false hc2
                    have HC := Aside0.mk hc2
                    clear hc1 hc2
                    go_wp2_with fail
                    go_meet
                    case rel => exact ⟨false, by first | rfl | rw [E9.out], rfl, ⟨(fun h => by cases h), fun h => absurd h.2 HC.out⟩, HS⟩
                · have g1 : decide (s < m) = false := decide_eq_false hc1
                  have HC := Aside0.mk hc1
                  clear hc1
                  go_wp2_with fail
                  go_meet
                  case rel => exact ⟨false, by first | rfl | rw [E9.out], rfl, ⟨(fun h => by cases h), fun h => absurd h.1 HC.out⟩, HS⟩
              case rest =>
              clear HS e9
              obtain ⟨b1, rfl, rfl, HB1, HS⟩ := hcut
              go_upto_if 185 with (fail)
              go_cut [24] from 186 to 191 (fun v24 wc => v24 = .int .i64 (e : Int) ∧ ∃ d1, Aside0 (Rot d s m e d1 ∧ PermIn a b d d1) ∧ Aside0 (SB val base w0 g cap d1 wc))
              case first => as_aux_lemma =>
                cases hbb : b1 with
                | true =>
                  rw [hbb] at HB1
                  subst hbb
                  have hc := HB1.out.1 rfl
                  have hee := HE.out
                  have hh := HH.out
                  have HROT := Aside0.mk (rotate_sq d s m e (.func (.func f) #[] #[]) HS.out hc.1 hc.2 (by omega) (by omega))
                  clear hc hee hh HS
                  go_wp2_with (go_at_call 52; refine HROT.out.mono ?_; rintro e_ w' ⟨rfl, d1, hR, hP, hS⟩; have HR := Aside0.mk hR; have HP := Aside0.mk hP; have HS2 := Aside0.mk hS; clear hR hP hS)
                  go_meet
                  case rel => exact ⟨rfl, d1, ⟨HR.out, permIn_mono _ _ _ _ _ _ HE.out.2.1 HE.out.2.2.2.2.2.2 HH.out.1.2.2.1 HP.out⟩, HS2⟩
                | false =>
                  rw [hbb] at HB1
                  subst hbb
                  have HRR : Aside0 (Rot d s m e d) := ⟨by
                    have hee := HE.out
                    have hnc : ¬ (s < m ∧ m < e) := fun h => by have := HB1.out.2 h; cases this
                    rcases (by omega : s = m ∨ e = m) with h | h
                    · subst h; exact Rot.nil_left
                    · subst h; exact Rot.nil_right⟩
                  go_wp2_with fail
                  go_meet
                  case rel => exact ⟨rfl, d, ⟨HRR.out, permIn_refl _ _ _⟩, HS⟩
              case rest =>
                clear HS
                obtain ⟨rfl, d1, HRP, HS⟩ := hcut
                have HPT := Aside0.mk (HPARTS.out d1 HRP.out.1)
                have HD1 : Aside0 (d1.size = d.size) := ⟨HRP.out.1.size⟩
                go_upto_region 41 with (fail)
                go_cut [199] from 192 to 199 (fun v199 wc => ∃ b2 : Bool, v199 = .bool b2 ∧ Aside0 (b2 = true ↔ a < s ∧ s < mid) ∧ Aside0 (SB val base w0 g cap d1 wc))
                case first => as_aux_lemma =>
                  by_cases hc1 : a < s
                  · have g1 : decide (a < s) = true := decide_eq_true hc1
                    by_cases hc2 : s < mid
                    · have g2 : decide (s < mid) = true := decide_eq_true hc2
                      have HC := Aside0.mk (And.intro hc1 hc2)
                      clear hc1 hc2
                      go_wp2_with fail
                      go_meet
                      case rel => exact ⟨true, rfl, ⟨fun _ => HC.out, fun _ => rfl⟩, HS⟩
                    · have g2 : decide (s < mid) = false := decide_eq_false hc2
                      have HC := Aside0.mk hc2
                      clear hc1 hc2
                      go_wp2_with fail
                      go_meet
                      case rel => exact ⟨false, rfl, ⟨(fun h => by cases h), fun h => absurd h.2 HC.out⟩, HS⟩
                  · have g1 : decide (a < s) = false := decide_eq_false hc1
                    have HC := Aside0.mk hc1
                    clear hc1
                    go_wp2_with fail
                    go_meet
                    case rel => exact ⟨false, rfl, ⟨(fun h => by cases h), fun h => absurd h.1 HC.out⟩, HS⟩
                case rest =>
                clear HS
                obtain ⟨b2, rfl, HB2, HS⟩ := hcut
                go_upto_if 199 with (fail)
                go_cut [24] from 200 to 205 (fun v24 wc => v24 = .int .i64 (e : Int) ∧ ∃ d2, Aside0 (PermIn a mid d1 d2 ∧ SortedIn (ltC cf) a mid d2) ∧ Aside0 (SB val base w0 g cap d2 wc))
                case first => as_aux_lemma =>
                  have hee := HE.out
                  have hh := HH.out
                  have hd1 := HD1.out
                  cases hbb : b2 with
                  | true =>
                    rw [hbb] at HB2
                    subst hbb
                    have hc := HB2.out.1 rfl
                    have HM := Aside0.mk (IH.out d1 a s mid _ HS.out hc.1 hc.2 (by omega) (by omega) HPT.out.p1 HPT.out.p2 (by omega))
                    rw [hd1] at HM
                    clear hc hee hh hd1 HS
                    go_wp2_with (go_at_call 47; refine HM.out.mono ?_; rintro e_ w' ⟨rfl, d2, hP, hR, hS⟩; have HR := Aside0.mk hR; have HP := Aside0.mk hP; have HS2 := Aside0.mk hS; clear hR hP hS)
                    go_meet
                    case rel => exact ⟨rfl, d2, ⟨HP.out, HR.out⟩, HS2⟩
                  | false =>
                    rw [hbb] at HB2
                    subst hbb
                    have HSS : Aside0 (SortedIn (ltC cf) a mid d1) := ⟨by
                      have hnc : ¬ (a < s ∧ s < mid) := fun h => by have := HB2.out.2 h; cases this
                      rcases (by omega : s = a ∨ s = mid) with h | h
                      · have := HPT.out.p2; rw [h] at this; exact this
                      · have := HPT.out.p1; rw [h] at this; exact this⟩
                    clear hee hh hd1
                    go_wp2_with fail
                    go_meet
                    case rel => exact ⟨rfl, d1, ⟨permIn_refl _ _ _, HSS.out⟩, HS⟩
                case rest =>
                  clear HS
                  obtain ⟨rfl, d2, HP2, HS⟩ := hcut
                  have HD2 : Aside0 (d2.size = d.size) := ⟨HP2.out.1.1.trans HD1.out⟩
                  have HKEEP : Aside0 (∀ i, mid ≤ i → d2[i]! = d1[i]!) := ⟨fun i hi => HP2.out.1.2.1 i (.inr hi)⟩
                  have HDONE : Aside0 (∀ d3, PermIn mid b d2 d3 → SortedIn (ltC cf) mid b d3 → PermIn a b d d3 ∧ SortedIn (ltC cf) a b d3) := ⟨fun d3 h1 h2 => by
                    have hh := HH.out
                    have hd1 := HD1.out
                    have := sym_done (d1 := d1) (d2 := d2) (d3 := d3) (by omega) hh.2.2.1.1 (by omega) HPT.out.cross HP2.out.1 HP2.out.2 h1 h2
                    exact ⟨permIn_trans _ _ _ _ _ HRP.out.2 this.1, this.2⟩⟩
                  have hee := HE.out
                  have hh := HH.out
                  have hd2 := HD2.out
                  by_cases hc : mid < e ∧ e < b
                  · have g1 : decide (mid < e) = true := decide_eq_true hc.1
                    have g2 : decide (e < b) = true := decide_eq_true hc.2
                    have HM := Aside0.mk (IH.out d2 mid e b _ HS.out hc.1 hc.2 (by omega) (by omega) (sorted_keep HPT.out.p3 (fun i h1 _ => HKEEP.out i h1)) (sorted_keep HPT.out.p4 (fun i h1 _ => HKEEP.out i (by omega))) (by omega))
                    rw [hd2] at HM
                    clear hc hee hh hd2 HS
                    go_wp2_with (go_at_call 47; refine HM.out.mono ?_; rintro e_ w' ⟨rfl, d3, hP, hR, hS⟩; have HR := Aside0.mk hR; have HP := Aside0.mk hP; have HS2 := Aside0.mk hS; clear hR hP hS)
                    (first | go_end0 | ((try simp only [Exit.inBlock, Exit.then]); refine bodyPost_ret (results_none rfl _ _ _) rfl ?_))
                    exact ⟨rfl, d3, (HDONE.out d3 HP.out HR.out).1, (HDONE.out d3 HP.out HR.out).2, HS2.out⟩
                  · have HSS : Aside0 (SortedIn (ltC cf) mid b d2) := ⟨by
                      rcases (by omega : e = mid ∨ e = b) with h | h
                      · have := HPT.out.p4; rw [h] at this; exact sorted_keep this (fun i h1 _ => HKEEP.out i h1)
                      · have := HPT.out.p3; rw [h] at this; exact sorted_keep this (fun i h1 _ => HKEEP.out i h1)⟩
                    have HF := Aside0.mk (HDONE.out d2 (permIn_refl _ _ _) HSS.out)
                    by_cases hc1 : mid < e
                    · have g1 : decide (mid < e) = true := decide_eq_true hc1
                      have g2 : decide (e < b) = false := decide_eq_false (fun h => hc ⟨hc1, h⟩)
                      clear hc hc1 hee hh hd2
                      go_wp2_with fail
                      (first | go_end0 | ((try simp only [Exit.inBlock, Exit.then]); refine bodyPost_ret (results_none rfl _ _ _) rfl ?_))
                      exact ⟨rfl, d2, HF.out.1, HF.out.2, HS.out⟩
                    · have g1 : decide (mid < e) = false := decide_eq_false hc1
                      clear hc hc1 hee hh hd2
                      go_wp2_with fail
                      (first | go_end0 | ((try simp only [Exit.inBlock, Exit.then]); refine bodyPost_ret (results_none rfl _ _ _) rfl ?_))
                      exact ⟨rfl, d2, HF.out.1, HF.out.2, HS.out⟩

end Go.Proofs.YtomfebfjkcdjpabDoor.P

namespace Go.Proofs.YtomfebfjkcdjpabDoor.T
open Go.Sort
set_option linter.unusedSectionVars false
variable {α : Type} [Inhabited α] {lt : α → α → Bool} {L a b n : Nat} {D D' : Array α}
theorem dvd_eq {y : Nat} (h1 : L ∣ y) (h2 : L ∣ a) (h3 : y ≤ a) (h4 : a < y + L) : y = a := by
  have h := Nat.dvd_sub h2 h1
  have := Nat.eq_zero_of_dvd_of_lt h (by omega)
  omega
theorem dvd_next {y : Nat} (h1 : L ∣ y) (h2 : L ∣ a) (h3 : a < y) : a + L ≤ y := by
  have h := Nat.dvd_sub h1 h2
  have := Nat.le_of_dvd (by omega) h
  omega
def AllB (lt : α → α → Bool) (L n : Nat) (D : Array α) : Prop := ∀ y, L ∣ y → SortedIn lt y (min (y + L) n) D
def LoB (lt : α → α → Bool) (L a : Nat) (D : Array α) : Prop := ∀ y, L ∣ y → y + L ≤ a → SortedIn lt y (y + L) D
def HiB (lt : α → α → Bool) (L a n : Nat) (D : Array α) : Prop := ∀ y, L ∣ y → a ≤ y → SortedIn lt y (min (y + L) n) D
theorem sorted_out {x y : Nat} (h : SortedIn lt x y D) (hp : PermIn a b D D') (ho : y ≤ a ∨ b ≤ x) : SortedIn lt x y D' := fun i j h1 h2 h3 => by
  rw [hp.2.1 i (by omega), hp.2.1 j (by omega)]; exact h i j h1 h2 h3
theorem LoB.step (h : LoB lt L a D) (hL : L ∣ a) (hp : PermIn a (a + L) D D') (hs : SortedIn lt a (a + L) D') : LoB lt L (a + L) D' := fun y hy hle => by
  by_cases c : y + L ≤ a
  · exact sorted_out (h y hy c) hp (.inl c)
  · have e := dvd_eq hy hL (by omega) (by omega)
    rw [e]; exact hs
theorem LoB.last (h : LoB lt L a D) (hL : L ∣ a) (han : a ≤ n) (hn : n < a + L) (hp : PermIn a n D D') (hs : SortedIn lt a n D') : AllB lt L n D' := fun y hy => by
  by_cases c : y + L ≤ a
  · rw [Nat.min_eq_left (by omega)]; exact sorted_out (h y hy c) hp (.inl c)
  · by_cases c2 : y ≤ a
    · have e := dvd_eq hy hL c2 (by omega)
      rw [e, Nat.min_eq_right (by omega)]; exact hs
    · have := dvd_next hy hL (by omega)
      intro i j h1 h2 h3; omega
theorem HiB.step (h : HiB lt L a n D) (hab : a ≤ b) (hp : PermIn a b D D') : HiB lt L b n D' := fun y hy hle => sorted_out (h y hy (by omega)) hp (.inr hle)
theorem AllB.hi (h : AllB lt L n D) (a : Nat) : HiB lt L a n D := fun y hy _ => h y hy
theorem LoB.zero : LoB lt L 0 D := fun y hy h i j h1 h2 h3 => by
  have : L = 0 := by omega
  omega
theorem AllB.whole (h : AllB lt L n D) (hn : n ≤ L) : SortedIn lt 0 n D := by
  have := h 0 (Nat.dvd_zero _)
  rwa [Nat.zero_add, Nat.min_eq_right hn] at this
end Go.Proofs.YtomfebfjkcdjpabDoor.T

namespace Go.Proofs.YtomfebfjkcdjpabDoor.P
open Go.RowKit Go.Proofs.YtomfebfjkcdjpabDoorW.PrintWords Go.Proofs.YtomfebfjkcdjpabDoorW.PrintLast Go.Proofs.YtomfebfjkcdjpabDoorW.PrintMore
attribute [local go_sem] max2_int min2_int max_two min_two max_three min_three max_four min_four
set_option linter.unusedVariables false
set_option linter.unusedSimpArgs false

/-! ### impl_Square_36: function 36 -/
open Go.Proofs.YtomfebfjkcdjpabDoor.T Go.Proofs.YtomfebfjkcdjpabDoor.Aid Go.Proofs.YtomfebfjkcdjpabDoor.Sk Go.Proofs.YtomfebfjkcdjpabDoor.Gr Go.Sort
set_option maxHeartbeats 8000000 in
theorem stable_sq {α : Type} [Inhabited α] {val : α → Sq} {cf : α → α → Int} {f : Nat} {base g cap : Nat} {w0 w : World} (hO : SWO (ltC cf)) (hF : CmpSq Tryd.prog val cf f) (d : Array α) (n : Nat) (hn : d.size = n) (h : SB val base w0 g cap d w) (hsz : n ≤ 1000000000000) :
    Calls Tryd.prog 36 #[.slice (some ⟨g, 0, none⟩) n cap, .int .i64 (n : Int), .func (.func f) #[] #[]] w fun e w' => e = .returned (.tuple #[]) ∧ ∃ d', PermIn 0 n d d' ∧ SortedIn (ltC cf) 0 n d' ∧ SB val base w0 g cap d' w' := by
  have H0 := Aside0.mk h
  have HH : Aside0 (d.size = n ∧ n ≤ 1000000000000) := ⟨hn, hsz⟩
  have HO := Aside0.mk hO
  have HF := Aside0.mk hF
  clear h hn hsz hF hO
  go_enter Tryd.func36, Tryd.ntmps36
  go_wp2
  go_loopg [7, 8] n (fun kq v7 v8 wc => ∃ (a b : Nat) (D : Array α), v7 = .int .i64 (a : Int) ∧ v8 = .int .i64 (b : Int) ∧ Aside0 (a + 20 = b ∧ a ≤ n ∧ n - a ≤ kq ∧ 20 ∣ a ∧ D.size = n) ∧ Aside0 (LoB (ltC cf) 20 a D) ∧ Aside0 (PermIn 0 n d D) ∧ Aside0 (SB val base w0 g cap D wc))
  case atStart => exact ⟨0, 20, d, by first | rfl | simp, by first | rfl | simp, ⟨rfl, Nat.zero_le _, by omega, Nat.dvd_zero _, HH.out.1⟩, ⟨LoB.zero⟩, ⟨permIn_refl _ _ _⟩, H0⟩
  case round =>
    clear H0
    obtain ⟨a, b, D, rfl, rfl, HI, HL, HP, HS⟩ := hrel
    have hi := HI.out
    have hh := HH.out
    have hsD := hi.2.2.2.2
    by_cases hb : b ≤ n
    · have c1 : decide (b ≤ n) = true := decide_eq_true hb
      have HC := Aside0.mk (insertion_sq HF.out D a b HS.out (by omega) (by omega) (by omega))
      rw [hsD] at HC
      have hins := insertionSort_holds (lt := ltC cf) HO.out D a b (by omega) (by omega)
      have HN : Aside0 (b + 20 = b + 20 ∧ b ≤ n ∧ n - b < gk ∧ 20 ∣ b ∧ (insertionSort (ltC cf) D a b).size = n) := ⟨rfl, hb, by omega, by rw [← hi.1]; exact Nat.dvd_add hi.2.2.2.1 (Nat.dvd_refl _), hins.1.1.trans hsD⟩
      have HLN : Aside0 (LoB (ltC cf) 20 b (insertionSort (ltC cf) D a b)) := ⟨by
        have e := hi.1
        rw [← e]
        rw [← e] at hins
        exact HL.out.step hi.2.2.2.1 hins.1 hins.2⟩
      have HPN : Aside0 (PermIn 0 n d (insertionSort (ltC cf) D a b)) := ⟨permIn_trans _ _ _ _ _ HP.out (permIn_mono _ _ _ _ _ _ (Nat.zero_le _) hb (by omega) hins.1)⟩
      obtain ⟨b2, hb2⟩ : ∃ b2, b + 20 = b2 := ⟨_, rfl⟩
      have EB : Aside0 (wrap64 ((b : Int) + 20) = (b2 : Int)) := ⟨by rw [w64 (by omega) (by omega)]; omega⟩
      have HB2 := Aside0.mk hb2
      clear hi hh hsD hb hins hb2 HS HL HP
      have eb := EB.out
      go_wp2_with (go_at_call 46; refine HC.out.mono ?_; rintro e_ w' ⟨rfl, hS⟩; have HS2 := Aside0.mk hS; clear hS)
      clear eb
      go_roundg (n - b)
      case measure => exact HN.out.2.2.1
      case rel => exact ⟨b, b2, _, rfl, by first | rfl | rw [EB.out], ⟨HB2.out, HN.out.2.1, Nat.le_refl _, HN.out.2.2.2.1, HN.out.2.2.2.2⟩, HLN, HPN, HS2⟩
    · have c1 : decide (b ≤ n) = false := decide_eq_false hb
      have HC := Aside0.mk (insertion_sq HF.out D a n HS.out (by omega) (by omega) (by omega))
      rw [hsD] at HC
      have hins := insertionSort_holds (lt := ltC cf) HO.out D a n (by omega) (by omega)
      obtain ⟨D1, hD1⟩ : ∃ D1, insertionSort (ltC cf) D a n = D1 := ⟨_, rfl⟩
      rw [hD1] at HC hins
      have HALL : Aside0 (AllB (ltC cf) 20 n D1) := ⟨HL.out.last hi.2.2.2.1 hi.2.1 (by omega) hins.1 hins.2⟩
      have HPN : Aside0 (PermIn 0 n d D1) := ⟨permIn_trans _ _ _ _ _ HP.out (permIn_mono _ _ _ _ _ _ (Nat.zero_le _) (Nat.le_refl _) (by omega) hins.1)⟩
      have HSZ : Aside0 (D1.size = n) := ⟨hins.1.1.trans hsD⟩
      clear hi hh hsD hb hins hD1 HS HL HP HI
      go_wp2_with (go_at_call 46; refine HC.out.mono ?_; rintro e_ w' ⟨rfl, hS⟩; have HS2 := Aside0.mk hS; clear hS)
      go_loopg [6] n (fun kq v6 wc => ∃ (L : Nat) (D : Array α), v6 = .int .i64 (L : Int) ∧ Aside0 (20 ≤ L ∧ L ≤ 2 * n + 20 ∧ n - L ≤ kq ∧ D.size = n) ∧ Aside0 (AllB (ltC cf) L n D) ∧ Aside0 (PermIn 0 n d D) ∧ Aside0 (SB val base w0 g cap D wc))
      case atStart => exact ⟨20, D1, by first | rfl | simp, ⟨Nat.le_refl _, by omega, by omega, HSZ.out⟩, HALL, HPN, HS2⟩
      case round =>
        clear HS2 HALL HPN HSZ
        obtain ⟨L, D, rfl, HI, HA, HP, HS⟩ := hrel
        have hi := HI.out
        have hh := HH.out
        by_cases hL : L < n
        · have c1 : decide (L < n) = true := decide_eq_true hL
          obtain ⟨M, hM⟩ : ∃ M, 2 * L = M := ⟨_, rfl⟩
          have EM : Aside0 (wrap64 (2 * (L : Int)) = (M : Int)) := ⟨by rw [w64 (by omega) (by omega)]; omega⟩
          have EM2 : Aside0 (wrap64 ((L : Int) * 2) = (M : Int)) := ⟨by rw [w64 (by omega) (by omega)]; omega⟩
          have HM : Aside0 (2 * L = M ∧ L < n ∧ n - L ≤ gk ∧ 20 ≤ L) := ⟨hM, hL, hi.2.2.1, hi.1⟩
          have HSZ := Aside0.mk hi.2.2.2
          clear hi hh hL hM HI
          have em := EM.out
          go_wp2_with fail
          clear em
          go_loopg [7, 8] n (fun kq v7 v8 wc => ∃ (a b : Nat) (D : Array α), v7 = .int .i64 (a : Int) ∧ v8 = .int .i64 (b : Int) ∧ Aside0 (a + M = b ∧ a ≤ n ∧ n - a ≤ kq ∧ M ∣ a ∧ D.size = n) ∧ Aside0 (LoB (ltC cf) M a D ∧ HiB (ltC cf) L a n D) ∧ Aside0 (PermIn 0 n d D) ∧ Aside0 (SB val base w0 g cap D wc))
          case atStart => exact ⟨0, M, D, by first | rfl | simp, by first | rfl | rw [EM.out] | simp, ⟨Nat.zero_add _, Nat.zero_le _, by omega, Nat.dvd_zero _, HSZ.out⟩, ⟨LoB.zero, HA.out.hi 0⟩, HP, HS⟩
          case round =>
            clear HA HP HS HSZ
            obtain ⟨a, b, D, rfl, rfl, HI, HL, HP, HS⟩ := hrel
            have hi := HI.out
            have hh := HH.out
            have hm := HM.out
            have hsD := hi.2.2.2.2
            have hdL : L ∣ a := Nat.dvd_trans ⟨2, by omega⟩ hi.2.2.2.1
            obtain ⟨m, hma⟩ : ∃ m, a + L = m := ⟨_, rfl⟩
            have EMM : Aside0 (wrap64 ((a : Int) + (L : Int)) = (m : Int)) := ⟨by rw [w64 (by omega) (by omega)]; omega⟩
            have hdm : L ∣ m := by rw [← hma]; exact Nat.dvd_add hdL (Nat.dvd_refl _)
            by_cases hb : b ≤ n
            · have c1 : decide (b ≤ n) = true := decide_eq_true hb
              have s1 : SortedIn (ltC cf) a m D := by
                have := HL.out.2 a hdL (Nat.le_refl _)
                rwa [hma, Nat.min_eq_left (by omega)] at this
              have s2 : SortedIn (ltC cf) m b D := by
                have := HL.out.2 m hdm (by omega)
                rwa [Nat.min_eq_left (by omega), show m + L = b by omega] at this
              have HC := Aside0.mk (symMerge_sq (base := base) (g := g) (cap := cap) (w0 := w0) HO.out HF.out (b - a) D a m b _ HS.out (by omega) (by omega) (by omega) (by omega) s1 s2 (Nat.le_refl _))
              rw [hsD] at HC
              obtain ⟨b2, hb2⟩ : ∃ b2, b + M = b2 := ⟨_, rfl⟩
              have EB : Aside0 (wrap64 ((b : Int) + (M : Int)) = (b2 : Int)) := ⟨by rw [w64 (by omega) (by omega)]; omega⟩
              have HN : Aside0 (b + M = b2 ∧ b ≤ n ∧ n - b < gk ∧ M ∣ b) := ⟨hb2, hb, by omega, by rw [← hi.1]; exact Nat.dvd_add hi.2.2.2.1 (Nat.dvd_refl _)⟩
              have HLN : Aside0 (∀ D', PermIn a b D D' → SortedIn (ltC cf) a b D' → (LoB (ltC cf) M b D' ∧ HiB (ltC cf) L b n D') ∧ PermIn 0 n d D' ∧ D'.size = n) := ⟨fun D' h1 h2 => by
                have e := hi.1
                refine ⟨⟨?_, HL.out.2.step (by omega) h1⟩, permIn_trans _ _ _ _ _ HP.out (permIn_mono _ _ _ _ _ _ (Nat.zero_le _) hb (by omega) h1), h1.1.trans hsD⟩
                rw [← e]
                rw [← e] at h1 h2
                exact HL.out.1.step hi.2.2.2.1 h1 h2⟩
              clear hi hh hm hsD hdL hdm hma s1 s2 hb hb2 HS HL HP
              have emm := EMM.out
              go_wp2_with (go_at_call 47; refine HC.out.mono ?_; rintro e_ w' ⟨rfl, D', hP, hR, hS⟩; have HX := Aside0.mk (HLN.out D' hP hR); have HS2 := Aside0.mk hS; clear hS hP hR)
              clear emm
              go_roundg (n - b)
              case measure => exact HN.out.2.2.1
              case rel => exact ⟨b, b2, D', rfl, by first | rfl | (rw [EM.out, EB.out]; done) | (rw [EB.out]; done), ⟨HN.out.1, HN.out.2.1, Nat.le_refl _, HN.out.2.2.2, HX.out.2.2⟩, ⟨HX.out.1⟩, ⟨HX.out.2.1⟩, HS2⟩
            · have c1 : decide (b ≤ n) = false := decide_eq_false hb
              by_cases hmn : m < n
              · have c2 : decide (m < n) = true := decide_eq_true hmn
                have s1 : SortedIn (ltC cf) a m D := by
                  have := HL.out.2 a hdL (Nat.le_refl _)
                  rwa [hma, Nat.min_eq_left (by omega)] at this
                have s2 : SortedIn (ltC cf) m n D := by
                  have := HL.out.2 m hdm (by omega)
                  rwa [Nat.min_eq_right (by omega)] at this
                have HC := Aside0.mk (symMerge_sq (base := base) (g := g) (cap := cap) (w0 := w0) HO.out HF.out (n - a) D a m n _ HS.out (by omega) (by omega) (by omega) (by omega) s1 s2 (Nat.le_refl _))
                rw [hsD] at HC
                have HLN : Aside0 (∀ D', PermIn a n D D' → SortedIn (ltC cf) a n D' → AllB (ltC cf) M n D' ∧ PermIn 0 n d D' ∧ D'.size = n) := ⟨fun D' h1 h2 => ⟨HL.out.1.last hi.2.2.2.1 hi.2.1 (by omega) h1 h2, permIn_trans _ _ _ _ _ HP.out (permIn_mono _ _ _ _ _ _ (Nat.zero_le _) (Nat.le_refl _) (by omega) h1), h1.1.trans hsD⟩⟩
                clear hi hh hm hsD hdL hdm hma s1 s2 hb hmn HS HL HP
                have emm := EMM.out
                have em2 := EM2.out
                go_wp2_with (go_at_call 47; refine HC.out.mono ?_; rintro e_ w' ⟨rfl, D', hP, hR, hS⟩; have HX := Aside0.mk (HLN.out D' hP hR); have HS2 := Aside0.mk hS; clear hS hP hR)
                clear emm em2
                go_roundg (n - M)
                case measure => have := HM.out; omega
                case rel => exact ⟨M, D', by first | rfl | rw [EM2.out], ⟨by have := HM.out; omega, by have := HM.out; omega, Nat.le_refl _, HX.out.2.2⟩, ⟨HX.out.1⟩, ⟨HX.out.2.1⟩, HS2⟩
              · have c2 : decide (m < n) = false := decide_eq_false hmn
                have s1 : SortedIn (ltC cf) a n D := by
                  have := HL.out.2 a hdL (Nat.le_refl _)
                  rwa [Nat.min_eq_right (by omega)] at this
                have HX : Aside0 (AllB (ltC cf) M n D ∧ D.size = n) := ⟨HL.out.1.last hi.2.2.2.1 hi.2.1 (by omega) (permIn_refl _ _ _) s1, hsD⟩
                clear hi hh hm hsD hdL hdm hma s1 hb hmn HL
                have emm := EMM.out
                have em2 := EM2.out
                go_wp2_with fail
                clear emm em2
                go_roundg (n - M)
                case measure => have := HM.out; omega
                case rel => exact ⟨M, D, by first | rfl | rw [EM2.out], ⟨by have := HM.out; omega, by have := HM.out; omega, Nat.le_refl _, HX.out.2⟩, ⟨HX.out.1⟩, HP, HS⟩
        · have c1 : decide (L < n) = false := decide_eq_false hL
          have HE : Aside0 (SortedIn (ltC cf) 0 n D) := ⟨HA.out.whole (by omega)⟩
          clear hi hh hL
          go_wp2_with fail
          (first | go_end0 | ((try simp only [Exit.inBlock, Exit.then]); refine bodyPost_ret (results_none rfl _ _ _) rfl ?_))
          exact ⟨rfl, D, HP.out, HE.out, HS.out⟩

end Go.Proofs.YtomfebfjkcdjpabDoor.P

namespace Go.Proofs.YtomfebfjkcdjpabDoor.P
open Go.RowKit Go.Proofs.YtomfebfjkcdjpabDoorW.PrintWords Go.Proofs.YtomfebfjkcdjpabDoorW.PrintLast Go.Proofs.YtomfebfjkcdjpabDoorW.PrintMore
attribute [local go_sem] max2_int min2_int max_two min_two max_three min_three max_four min_four
set_option linter.unusedVariables false
set_option linter.unusedSimpArgs false

/-! ### impl_Square_23: function 23 -/
open Go.Proofs.YtomfebfjkcdjpabDoor.T Go.Proofs.YtomfebfjkcdjpabDoor.Aid Go.Proofs.YtomfebfjkcdjpabDoor.Sk Go.Proofs.YtomfebfjkcdjpabDoor.Gr Go.Sort
set_option maxHeartbeats 2000000 in
theorem sortStable_sq {α : Type} [Inhabited α] {val : α → Sq} {cf : α → α → Int} {f : Nat} {base g cap : Nat} {w0 w : World} (hO : SWO (ltC cf)) (hF : CmpSq Tryd.prog val cf f) (d : Array α) (n : Nat) (hn : d.size = n) (h : SB val base w0 g cap d w) (hsz : n ≤ 1000000000000) :
    Calls Tryd.prog 23 #[.slice (some ⟨g, 0, none⟩) n cap, .func (.func f) #[] #[]] w fun e w' => e = .returned (.tuple #[]) ∧ ∃ d', PermIn 0 n d d' ∧ SortedIn (ltC cf) 0 n d' ∧ SB val base w0 g cap d' w' := by
  have HC := Aside0.mk (stable_sq hO hF d n hn h hsz)
  clear h hn hsz hF hO
  go_enter Tryd.func23, Tryd.ntmps23
  go_wp2_with (go_at_call 36; refine HC.out.mono ?_; rintro e_ w' ⟨rfl, hS⟩; have HS2 := Aside0.mk hS; clear hS)
  (first | go_end0 | ((try simp only [Exit.inBlock, Exit.then]); refine bodyPost_ret (results_none rfl _ _ _) rfl ?_))
  exact ⟨rfl, HS2.out⟩

end Go.Proofs.YtomfebfjkcdjpabDoor.P

namespace Go.Proofs.YtomfebfjkcdjpabDoor.P
open Go.RowKit Go.Proofs.YtomfebfjkcdjpabDoorW.PrintWords Go.Proofs.YtomfebfjkcdjpabDoorW.PrintLast Go.Proofs.YtomfebfjkcdjpabDoorW.PrintMore
attribute [local go_sem] max2_int min2_int max_two min_two max_three min_three max_four min_four
set_option linter.unusedVariables false
set_option linter.unusedSimpArgs false

/-! ### impl_comparePlaces: function 24 -/
def impl_comparePlaces.f (a0_0 : Int) (a0_1 : Int) (a0_2 : Int) (a1_0 : Int) (a1_1 : Int) (a1_2 : Int) : Option (Int) := if a0_1 = a1_1 then (some (wrap64 (a0_0 - a1_0))) else (some (wrap64 (a0_1 - a1_1)))
set_option maxHeartbeats 8000000 in
set_option maxRecDepth 100000 in
theorem impl_comparePlaces.calls (a0_0 : Int) (a0_1 : Int) (a0_2 : Int) (a1_0 : Int) (a1_1 : Int) (a1_2 : Int) (r : Int) (w : World) (h : impl_comparePlaces.f a0_0 a0_1 a0_2 a1_0 a1_1 a1_2 = some r) :
    Calls Tryd.prog 24 #[.agg #[.int .i64 a0_0, .int .i64 a0_1, .int .i64 a0_2], .agg #[.int .i64 a1_0, .int .i64 a1_1, .int .i64 a1_2]] w fun e w' => e = .returned (.int .i64 r) ∧ Below w.heap.size w w' := by
  have hu41 := Tryd.underlying41
  have HB := Aside0.mk (Below.refl w.heap.size w)
  have H : (if a0_1 = a1_1 then (some (wrap64 (a0_0 - a1_0))) else (some (wrap64 (a0_1 - a1_1)))) = some r := h
  clear h
  by_cases c3 : a0_1 = a1_1
  · rw [if_pos c3] at H
    have c3b0 : (a0_1 == a1_1) = true := beq_iff_eq.mpr c3
    have c3b1 : (a0_1 != a1_1) = false := bne_eq_false_iff_eq.mpr c3
    clear c3
    obtain rfl := Option.some.inj H
    go_enter Tryd.func24, Tryd.ntmps24
    go_wp2_with (first | ((with_reducible refine gate_dst (N := 2) rfl ?_); refine box_event ?hg (N := 2) ?hd (cs := #[.int .i64 a0_0, .int .i64 a0_1, .int .i64 a0_2]) (t := 41) ?hr ?_; (case hd => rfl); (case hg => rfl); (case hr => first | (go_simp; done) | (go_simp; rfl)); intro gb101 hg w4 hbox hb; have n0_ := Aside0.mk (below_step (by repeat (first | (with_reducible first | exact HB.out | apply below_alloc | apply pw_below_drewN | apply below_drew1) | exact HB.out)) hb); have n1_ := Aside0.mk (hbox); have n2_ := Aside0.mk ((by rw [hg]; exact (below_size (by repeat (first | (with_reducible first | exact HB.out | apply below_alloc | apply pw_below_drewN | apply below_drew1) | exact HB.out))) : w.heap.size ≤ gb101)); have n3_ := Aside0.mk ((by rw [hg]; exact (below_size (by repeat (first | (with_reducible first | exact HB.out | apply below_alloc | apply pw_below_drewN | apply below_drew1) | exact HB.out))) : w.heap.size ≤ gb101)); clear HB; have HB := n0_; have BK101 := n1_; have GW101 := n2_; have GE101 := n3_; clear n0_ n1_ n2_ n3_; clear hb hbox hg) | ((with_reducible refine gate_dst (N := 3) rfl ?_); refine box_event ?hg (N := 3) ?hd (cs := #[.int .i64 a1_0, .int .i64 a1_1, .int .i64 a1_2]) (t := 41) ?hr ?_; (case hd => rfl); (case hg => rfl); (case hr => first | (go_simp; done) | (go_simp; rfl)); intro gb102 hg w5 hbox hb; have n0_ := Aside0.mk (blk_below (g := gb101) (o := .cells #[.int .i64 a0_0, .int .i64 a0_1, .int .i64 a0_2] 41 (0, 0)) (by (with_reducible repeat (first | refine blk_drewN ?_ _ | refine blk_drew ?_ | refine blk_alloc ?_ _)); exact BK101.out) hb); have n1_ := Aside0.mk (below_step (by repeat (first | (with_reducible first | exact HB.out | apply below_alloc | apply pw_below_drewN | apply below_drew1 | refine below_set ?_ GE101.out) | exact HB.out)) hb); have n2_ := Aside0.mk (hbox); have n3_ := Aside0.mk ((by rw [hg]; exact (below_size (by repeat (first | (with_reducible first | exact HB.out | apply below_alloc | apply pw_below_drewN | apply below_drew1 | refine below_set ?_ GE101.out) | exact HB.out))) : w.heap.size ≤ gb102)); have n4_ := Aside0.mk ((by rw [hg]; exact (below_size (by repeat (first | (with_reducible first | exact HB.out | apply below_alloc | apply pw_below_drewN | apply below_drew1 | refine below_set ?_ GE101.out) | exact HB.out))) : w.heap.size ≤ gb102)); have n5_ := Aside0.mk ((by rw [hg]; exact Nat.ne_of_lt (blk_lt (g := gb101) (o := .cells #[.int .i64 a0_0, .int .i64 a0_1, .int .i64 a0_2] 41 (0, 0)) (by (with_reducible repeat (first | refine blk_drewN ?_ _ | refine blk_drew ?_ | refine blk_alloc ?_ _)); exact BK101.out)) : gb101 ≠ gb102)); have n6_ := Aside0.mk ((by rw [hg]; exact Nat.ne_of_gt (blk_lt (g := gb101) (o := .cells #[.int .i64 a0_0, .int .i64 a0_1, .int .i64 a0_2] 41 (0, 0)) (by (with_reducible repeat (first | refine blk_drewN ?_ _ | refine blk_drew ?_ | refine blk_alloc ?_ _)); exact BK101.out)) : gb102 ≠ gb101)); clear BK101; clear HB; have BK101 := n0_; have HB := n1_; have BK102 := n2_; have GW102 := n3_; have GE102 := n4_; have NB101_102 := n5_; have NB102_101 := n6_; clear n0_ n1_ n2_ n3_ n4_ n5_ n6_; clear hb hbox hg; have hnb6 := NB101_102.out; have hnc6 := NB102_101.out; have hcz7_0 : w5.cell? ⟨gb101, 0, none⟩ = some (.int .i64 a0_0) := (blk_cell BK101.out 0).trans rfl; have hcz7_1 : w5.cell? ⟨gb101, 1, none⟩ = some (.int .i64 a0_1) := (blk_cell BK101.out 1).trans rfl; have hcz7_2 : w5.cell? ⟨gb101, 2, none⟩ = some (.int .i64 a0_2) := (blk_cell BK101.out 2).trans rfl; have hfz7_0 := blk_frozen BK101.out 0; have hfz7_1 := blk_frozen BK101.out 1; have hfz7_2 := blk_frozen BK101.out 2; have hcz8_0 : w5.cell? ⟨gb102, 0, none⟩ = some (.int .i64 a1_0) := (blk_cell BK102.out 0).trans rfl; have hcz8_1 : w5.cell? ⟨gb102, 1, none⟩ = some (.int .i64 a1_1) := (blk_cell BK102.out 1).trans rfl; have hcz8_2 : w5.cell? ⟨gb102, 2, none⟩ = some (.int .i64 a1_2) := (blk_cell BK102.out 2).trans rfl; have hfz8_0 := blk_frozen BK102.out 0; have hfz8_1 := blk_frozen BK102.out 1; have hfz8_2 := blk_frozen BK102.out 2))
    go_ret
    exact ⟨by first | rfl | (simp [errW_none, errW_some] <;> rfl) | (simp [*, errW_none, errW_some] <;> rfl), by repeat (first | (with_reducible first | exact HB.out | apply below_alloc | apply pw_below_drewN | apply below_drew1 | refine below_set ?_ GE101.out | refine below_set ?_ GE102.out) | exact HB.out)⟩
  · rw [if_neg c3] at H
    have c3b0 : (a0_1 == a1_1) = false := beq_eq_false_iff_ne.mpr c3
    have c3b1 : (a0_1 != a1_1) = true := bne_iff_ne.mpr c3
    obtain rfl := Option.some.inj H
    go_enter Tryd.func24, Tryd.ntmps24
    go_wp2_with (first | ((with_reducible refine gate_dst (N := 2) rfl ?_); refine box_event ?hg (N := 2) ?hd (cs := #[.int .i64 a0_0, .int .i64 a0_1, .int .i64 a0_2]) (t := 41) ?hr ?_; (case hd => rfl); (case hg => rfl); (case hr => first | (go_simp; done) | (go_simp; rfl)); intro gb101 hg w9 hbox hb; have n0_ := Aside0.mk (below_step (by repeat (first | (with_reducible first | exact HB.out | apply below_alloc | apply pw_below_drewN | apply below_drew1) | exact HB.out)) hb); have n1_ := Aside0.mk (hbox); have n2_ := Aside0.mk ((by rw [hg]; exact (below_size (by repeat (first | (with_reducible first | exact HB.out | apply below_alloc | apply pw_below_drewN | apply below_drew1) | exact HB.out))) : w.heap.size ≤ gb101)); have n3_ := Aside0.mk ((by rw [hg]; exact (below_size (by repeat (first | (with_reducible first | exact HB.out | apply below_alloc | apply pw_below_drewN | apply below_drew1) | exact HB.out))) : w.heap.size ≤ gb101)); clear HB; have HB := n0_; have BK101 := n1_; have GW101 := n2_; have GE101 := n3_; clear n0_ n1_ n2_ n3_; clear hb hbox hg) | ((with_reducible refine gate_dst (N := 3) rfl ?_); refine box_event ?hg (N := 3) ?hd (cs := #[.int .i64 a1_0, .int .i64 a1_1, .int .i64 a1_2]) (t := 41) ?hr ?_; (case hd => rfl); (case hg => rfl); (case hr => first | (go_simp; done) | (go_simp; rfl)); intro gb102 hg w10 hbox hb; have n0_ := Aside0.mk (blk_below (g := gb101) (o := .cells #[.int .i64 a0_0, .int .i64 a0_1, .int .i64 a0_2] 41 (0, 0)) (by (with_reducible repeat (first | refine blk_drewN ?_ _ | refine blk_drew ?_ | refine blk_alloc ?_ _)); exact BK101.out) hb); have n1_ := Aside0.mk (below_step (by repeat (first | (with_reducible first | exact HB.out | apply below_alloc | apply pw_below_drewN | apply below_drew1 | refine below_set ?_ GE101.out) | exact HB.out)) hb); have n2_ := Aside0.mk (hbox); have n3_ := Aside0.mk ((by rw [hg]; exact (below_size (by repeat (first | (with_reducible first | exact HB.out | apply below_alloc | apply pw_below_drewN | apply below_drew1 | refine below_set ?_ GE101.out) | exact HB.out))) : w.heap.size ≤ gb102)); have n4_ := Aside0.mk ((by rw [hg]; exact (below_size (by repeat (first | (with_reducible first | exact HB.out | apply below_alloc | apply pw_below_drewN | apply below_drew1 | refine below_set ?_ GE101.out) | exact HB.out))) : w.heap.size ≤ gb102)); have n5_ := Aside0.mk ((by rw [hg]; exact Nat.ne_of_lt (blk_lt (g := gb101) (o := .cells #[.int .i64 a0_0, .int .i64 a0_1, .int .i64 a0_2] 41 (0, 0)) (by (with_reducible repeat (first | refine blk_drewN ?_ _ | refine blk_drew ?_ | refine blk_alloc ?_ _)); exact BK101.out)) : gb101 ≠ gb102)); have n6_ := Aside0.mk ((by rw [hg]; exact Nat.ne_of_gt (blk_lt (g := gb101) (o := .cells #[.int .i64 a0_0, .int .i64 a0_1, .int .i64 a0_2] 41 (0, 0)) (by (with_reducible repeat (first | refine blk_drewN ?_ _ | refine blk_drew ?_ | refine blk_alloc ?_ _)); exact BK101.out)) : gb102 ≠ gb101)); clear BK101; clear HB; have BK101 := n0_; have HB := n1_; have BK102 := n2_; have GW102 := n3_; have GE102 := n4_; have NB101_102 := n5_; have NB102_101 := n6_; clear n0_ n1_ n2_ n3_ n4_ n5_ n6_; clear hb hbox hg; have hnb11 := NB101_102.out; have hnc11 := NB102_101.out; have hcz12_0 : w10.cell? ⟨gb101, 0, none⟩ = some (.int .i64 a0_0) := (blk_cell BK101.out 0).trans rfl; have hcz12_1 : w10.cell? ⟨gb101, 1, none⟩ = some (.int .i64 a0_1) := (blk_cell BK101.out 1).trans rfl; have hcz12_2 : w10.cell? ⟨gb101, 2, none⟩ = some (.int .i64 a0_2) := (blk_cell BK101.out 2).trans rfl; have hfz12_0 := blk_frozen BK101.out 0; have hfz12_1 := blk_frozen BK101.out 1; have hfz12_2 := blk_frozen BK101.out 2; have hcz13_0 : w10.cell? ⟨gb102, 0, none⟩ = some (.int .i64 a1_0) := (blk_cell BK102.out 0).trans rfl; have hcz13_1 : w10.cell? ⟨gb102, 1, none⟩ = some (.int .i64 a1_1) := (blk_cell BK102.out 1).trans rfl; have hcz13_2 : w10.cell? ⟨gb102, 2, none⟩ = some (.int .i64 a1_2) := (blk_cell BK102.out 2).trans rfl; have hfz13_0 := blk_frozen BK102.out 0; have hfz13_1 := blk_frozen BK102.out 1; have hfz13_2 := blk_frozen BK102.out 2))
    go_ret
    exact ⟨by first | rfl | (simp [errW_none, errW_some] <;> rfl) | (simp [*, errW_none, errW_some] <;> rfl), by repeat (first | (with_reducible first | exact HB.out | apply below_alloc | apply pw_below_drewN | apply below_drew1 | refine below_set ?_ GE101.out | refine below_set ?_ GE102.out) | exact HB.out)⟩

end Go.Proofs.YtomfebfjkcdjpabDoor.P

namespace Go.Proofs.YtomfebfjkcdjpabDoor.P
open Go.RowKit Go.Proofs.YtomfebfjkcdjpabDoorW.PrintWords Go.Proofs.YtomfebfjkcdjpabDoorW.PrintLast Go.Proofs.YtomfebfjkcdjpabDoorW.PrintMore
attribute [local go_sem] max2_int min2_int max_two min_two max_three min_three max_four min_four
set_option linter.unusedVariables false
set_option linter.unusedSimpArgs false

/-! ### impl_within: function 38 -/
def impl_within.f (a0 : Int) (a1 : Int) (a2 : Int) : Option (Bool) := if a1 ≤ a0 then (some (decide (a0 ≤ a2))) else (some false)
set_option maxHeartbeats 8000000 in
set_option maxRecDepth 100000 in
theorem impl_within.calls (a0 : Int) (a1 : Int) (a2 : Int) (r : Bool) (w : World) (h : impl_within.f a0 a1 a2 = some r) :
    Calls Tryd.prog 38 #[.int .i64 a0, .int .i64 a1, .int .i64 a2] w fun e w' => e = .returned (.bool r) ∧ Drawn0 w w' := by
  have H : (if a1 ≤ a0 then (some (decide (a0 ≤ a2))) else (some false)) = some r := h
  clear h
  by_cases c4 : a1 ≤ a0
  · rw [if_pos c4] at H
    have c4b0 : decide (a1 ≤ a0) = true := decide_eq_true c4
    clear c4
    obtain rfl := Option.some.inj H
    go_enter Tryd.func38, Tryd.ntmps38
    go_wp2
    go_ret
    exact ⟨by first | rfl | (simp; done) | (simp [*]; done), by repeat (first | exact Drawn0.refl _ | apply Drawn0.step)⟩
  · rw [if_neg c4] at H
    have c4b0 : decide (a1 ≤ a0) = false := decide_eq_false c4
    clear c4
    obtain rfl := Option.some.inj H
    go_enter Tryd.func38, Tryd.ntmps38
    go_wp2
    go_ret
    exact ⟨by first | rfl | (simp; done) | (simp [*]; done), by repeat (first | exact Drawn0.refl _ | apply Drawn0.step)⟩

end Go.Proofs.YtomfebfjkcdjpabDoor.P

namespace Go.Proofs.YtomfebfjkcdjpabDoor.P
open Go.RowKit Go.Proofs.YtomfebfjkcdjpabDoorW.PrintWords Go.Proofs.YtomfebfjkcdjpabDoorW.PrintLast Go.Proofs.YtomfebfjkcdjpabDoorW.PrintMore
attribute [local go_sem] max2_int min2_int max_two min_two max_three min_three max_four min_four
set_option linter.unusedVariables false
set_option linter.unusedSimpArgs false

/-! ### impl_isWide: function 37 -/
def impl_isWide.f (a0 : Int) : Option (Bool) := (impl_within.f a0 1 500).bind fun t101 => (some t101)
set_option maxHeartbeats 8000000 in
set_option maxRecDepth 100000 in
theorem impl_isWide.calls (a0 : Int) (r : Bool) (w : World) (h : impl_isWide.f a0 = some r) :
    Calls Tryd.prog 37 #[.int .i64 a0] w fun e w' => e = .returned (.bool r) ∧ Drawn0 w w' := by
  have H : ((impl_within.f a0 1 500).bind fun t101 => (some t101)) = some r := h
  clear h
  replace H := Option.bind_eq_some_iff.mp H
  obtain ⟨t101, A20, H⟩ := H
  replace H : (some t101) = some r := H
  have A2 := Aside0.mk A20
  clear A20
  obtain rfl := Option.some.inj H
  go_enter Tryd.func37, Tryd.ntmps37
  go_wp2_with (first | ((with_reducible refine gate_callee (f := 38) rfl ?_); refine goesL_ (some 4) rfl rfl Tryd.func38 (by kernel_rfl) rfl #[.int .i64 a0, .int .i64 1, .int .i64 500] rfl (by (try simp only [List.map_toArray, List.map_cons, List.map_nil]); first | done | rfl | (simp only [List.length_drop, List.length_take]; rfl)) ?_; (with_reducible refine (impl_within.calls a0 1 500 t101 _ A2.out).mono ?_); rintro e w' ⟨rfl, ⟨nd, rfl⟩⟩; refine ⟨_, rfl, ?_⟩))
  go_ret
  exact ⟨by first | rfl | (simp; done) | (simp [*]; done), by repeat (first | exact Drawn0.refl _ | apply Drawn0.step)⟩

end Go.Proofs.YtomfebfjkcdjpabDoor.P

namespace Go.Proofs.YtomfebfjkcdjpabDoor.T
/-- the first place at which p holds, from k on; -1 -/
def idxF {α : Type} (p : α → Bool) : List α → Nat → Int
  | [], _ => -1
  | x :: l, i => if p x = true then i else idxF p l (i + 1)
theorem idxF_hit {α : Type} (p : α → Bool) (l : List α) (j : Nat) (x : α) (hx : l[j]? = some x) (hp : p x = true) (hb : ∀ (i : Nat) (y : α), i < j → l[i]? = some y → p y = false) : ∀ k : Nat, idxF p l k = (k + j : Nat) := by
  induction l generalizing j with
  | nil => simp at hx
  | cons z l ih =>
    intro k
    cases j with
    | zero => simp at hx; subst hx; simp [idxF, hp]
    | succ j =>
      have hz := hb 0 z (by omega) rfl
      simp only [idxF, hz]
      rw [if_neg (by simp), ih j (by simpa using hx) (fun i y hi hy => hb (i + 1) y (by omega) (by simpa using hy))]
      omega
theorem idxF_miss {α : Type} (p : α → Bool) (l : List α) (hb : ∀ (i : Nat) (y : α), l[i]? = some y → p y = false) : ∀ k : Nat, idxF p l k = -1 := by
  induction l with
  | nil => intro k; rfl
  | cons z l ih =>
    intro k
    have hz := hb 0 z rfl
    simp only [idxF, hz]
    rw [if_neg (by simp), ih (fun i y hy => hb (i + 1) y (by simpa using hy))]
theorem idxF_nonneg {α : Type} (p : α → Bool) (l : List α) : ∀ k : Nat, 0 ≤ idxF p l k ↔ l.any p = true := by
  induction l with
  | nil => intro k; simp [idxF]
  | cons z l ih =>
    intro k
    have := ih (k + 1)
    simp only [idxF, List.any_cons]
    by_cases h : p z = true
    · rw [if_pos h, h]; simp
    · rw [if_neg h, this, Bool.eq_false_iff.mpr h]; simp
theorem idxF_any {α : Type} (p : α → Bool) (l : List α) (k : Nat) : decide (0 ≤ idxF p l k) = l.any p := by
  by_cases h : l.any p = true
  · rw [h, decide_eq_true ((idxF_nonneg p l k).2 h)]
  · rw [decide_eq_false (fun e => h ((idxF_nonneg p l k).1 e))]; simpa using h
end Go.Proofs.YtomfebfjkcdjpabDoor.T

namespace Go.Proofs.YtomfebfjkcdjpabDoor.P
open Go.RowKit Go.Proofs.YtomfebfjkcdjpabDoorW.PrintWords Go.Proofs.YtomfebfjkcdjpabDoorW.PrintLast Go.Proofs.YtomfebfjkcdjpabDoorW.PrintMore
attribute [local go_sem] max2_int min2_int max_two min_two max_three min_three max_four min_four
set_option linter.unusedVariables false
set_option linter.unusedSimpArgs false

/-! ### impl_Square_48: function 48 -/
open Go.Proofs.YtomfebfjkcdjpabDoor.T in
set_option maxHeartbeats 1000000 in
theorem slices_IndexFunc_sq (l : List S41) (A : Option Addr) (c : Nat) (g : Nat) (lb : Array Value) (p : S41 → Bool) (w : World) (hr : Kd.C k41 w A l.length l) (hlc : l.length ≤ c)
    (eg : ∀ args w, (callFunc g args).run Tryd.prog w = .ok (.enter g args) w)
    (hp : ∀ W x, Below w.heap.size w W → Calls Tryd.prog g (#[.agg #[.int .i64 x.f0, .int .i64 x.f1, .int .i64 x.f2]] ++ lb) W fun e w' => e = .returned (.bool (p x)) ∧ Below w.heap.size w w') :
    Calls Tryd.prog 48 #[.slice A l.length c, .func (.func g) #[] lb] w fun e w' => e = .returned (.int .i64 (idxF p l 0)) ∧ Below w.heap.size w w' := by
  have hlen := hr.2.1
  have HR := Aside0.mk hr
  clear hr
  go_enter Tryd.func48, Tryd.ntmps48
  go_wp2
  go_loopg [5, 8] l.length (fun gg v5 v8 wc => ∃ (i : Int), 0 ≤ i ∧ i ≤ (l.length : Int) ∧ (l.length : Int) - i ≤ (gg : Int) ∧ v8 = .int .i64 i ∧ Aside0 (Below w.heap.size w wc) ∧ Aside0 (∀ j y, (j : Nat) < i.toNat → l[j]? = some y → p y = false))
  case atStart => exact ⟨0, by omega, by omega, by omega, rfl, ⟨Below.refl _ _⟩, ⟨fun j y hj => by simp at hj⟩⟩
  case round =>
    obtain ⟨i, h0, h1, hg, rfl, HB, HN⟩ := hrel
    by_cases c4 : i < (l.length : Int)
    · obtain ⟨ad, e1, hx0, hx1, hx2⟩ := at_T41 (Kd.C_below HR.out HB.out) i h0 c4
      cases e1
      have hget : l[i.toNat]? = some (rd_T41 l i) := by
        have : i.toNat < l.length := by omega
        simp [rd_T41, this]
      have HG := Aside0.mk hget
      clear hget
      have HP := Aside0.mk (hp _ (rd_T41 l i) HB.out)
      clear hp
      generalize hxx : rd_T41 l i = x at HG HP hx0 hx1 hx2
      clear hxx
      have c4b : decide (i < (l.length : Int)) = true := decide_eq_true c4
      have h0' := eq_true h0
      cases hb : p x with
      | true =>
        rw [hb] at HP
        go_wp2_with (go_at_fn g; refine HP.out.mono ?_; rintro e w' ⟨rfl, hb'⟩)
        go_ret
        refine ⟨?_, hb'⟩
        rw [idxF_hit p l i.toNat x HG.out hb (fun j y hj hy => HN.out j y hj hy) 0, show ((0 + i.toNat : Nat) : Int) = i by omega]
        rfl
      | false =>
        rw [hb] at HP
        go_wp2_with (go_at_fn g; refine HP.out.mono ?_; rintro e w' ⟨rfl, hb'⟩)
        go_roundg (l.length - (i.toNat + 1))
        case measure => omega
        case rel =>
          refine ⟨i + 1, by omega, by omega, by omega, rfl, ⟨hb'⟩, ⟨fun j y hj hy => ?_⟩⟩
          by_cases e : j = i.toNat
          · subst e
            have := HG.out
            rw [this] at hy; cases hy; exact hb
          · exact HN.out j y (by omega) hy
    · have c4b : decide (i < (l.length : Int)) = false := decide_eq_false c4
      go_wp2
      go_ret
      refine ⟨?_, HB.out⟩
      rw [idxF_miss p l (fun j y hy => HN.out j y (by have := (List.getElem?_eq_some_iff.1 hy).1; omega) hy) 0]
      rfl

end Go.Proofs.YtomfebfjkcdjpabDoor.P

namespace Go.Proofs.YtomfebfjkcdjpabDoor.P
open Go.RowKit Go.Proofs.YtomfebfjkcdjpabDoorW.PrintWords Go.Proofs.YtomfebfjkcdjpabDoorW.PrintLast Go.Proofs.YtomfebfjkcdjpabDoorW.PrintMore
attribute [local go_sem] max2_int min2_int max_two min_two max_three min_three max_four min_four
set_option linter.unusedVariables false
set_option linter.unusedSimpArgs false

/-! ### impl_Square_39: function 39 -/
open Go.Proofs.YtomfebfjkcdjpabDoor.T in
theorem slices_ContainsFunc_sq (l : List S41) (A : Option Addr) (c : Nat) (g : Nat) (lb : Array Value) (p : S41 → Bool) (w : World) (hr : Kd.C k41 w A l.length l) (hlc : l.length ≤ c)
    (eg : ∀ args w, (callFunc g args).run Tryd.prog w = .ok (.enter g args) w)
    (hp : ∀ W x, Below w.heap.size w W → Calls Tryd.prog g (#[.agg #[.int .i64 x.f0, .int .i64 x.f1, .int .i64 x.f2]] ++ lb) W fun e w' => e = .returned (.bool (p x)) ∧ Below w.heap.size w w') :
    Calls Tryd.prog 39 #[.slice A l.length c, .func (.func g) #[] lb] w fun e w' => e = .returned (.bool (l.any p)) ∧ Below w.heap.size w w' := by
  rw [← idxF_any p l 0]
  have HC := Aside0.mk (slices_IndexFunc_sq l A c g lb p w hr hlc eg hp)
  clear hr hp
  go_enter Tryd.func39, Tryd.ntmps39
  go_wp2_with (go_at_call 48; refine HC.out.mono ?_; rintro e w' ⟨rfl, hb'⟩)
  go_ret
  exact ⟨rfl, hb'⟩

end Go.Proofs.YtomfebfjkcdjpabDoor.P

namespace Go.Proofs.YtomfebfjkcdjpabDoor.P
open Go.RowKit Go.Proofs.YtomfebfjkcdjpabDoorW.PrintWords Go.Proofs.YtomfebfjkcdjpabDoorW.PrintLast Go.Proofs.YtomfebfjkcdjpabDoorW.PrintMore
attribute [local go_sem] max2_int min2_int max_two min_two max_three min_three max_four min_four
set_option linter.unusedVariables false
set_option linter.unusedSimpArgs false

/-! ### impl_overlap: function 41 -/
def impl_overlap.f (a0_0 : Int) (a0_1 : Int) (a0_2 : Int) (a1_0 : Int) (a1_1 : Int) (a1_2 : Int) : Option (Bool) := if a0_0 < (wrap64 (a1_0 + a1_2)) then (if a1_0 < (wrap64 (a0_0 + a0_2)) then (if a0_1 < (wrap64 (a1_1 + a1_2)) then (some (decide (a1_1 < (wrap64 (a0_1 + a0_2))))) else (some false)) else (some false)) else (some false)
set_option maxHeartbeats 8000000 in
set_option maxRecDepth 100000 in
theorem impl_overlap.calls (a0_0 : Int) (a0_1 : Int) (a0_2 : Int) (a1_0 : Int) (a1_1 : Int) (a1_2 : Int) (r : Bool) (w : World) (h : impl_overlap.f a0_0 a0_1 a0_2 a1_0 a1_1 a1_2 = some r) :
    Calls Tryd.prog 41 #[.agg #[.int .i64 a0_0, .int .i64 a0_1, .int .i64 a0_2], .agg #[.int .i64 a1_0, .int .i64 a1_1, .int .i64 a1_2]] w fun e w' => e = .returned (.bool r) ∧ Below w.heap.size w w' := by
  have hu41 := Tryd.underlying41
  have HB := Aside0.mk (Below.refl w.heap.size w)
  have H : (if a0_0 < (wrap64 (a1_0 + a1_2)) then (if a1_0 < (wrap64 (a0_0 + a0_2)) then (if a0_1 < (wrap64 (a1_1 + a1_2)) then (some (decide (a1_1 < (wrap64 (a0_1 + a0_2))))) else (some false)) else (some false)) else (some false)) = some r := h
  clear h
  by_cases c3 : a0_0 < (wrap64 (a1_0 + a1_2))
  · rw [if_pos c3] at H
    have c3b0 : decide (a0_0 < (wrap64 (a1_0 + a1_2))) = true := decide_eq_true c3
    clear c3
    by_cases c4 : a1_0 < (wrap64 (a0_0 + a0_2))
    · rw [if_pos c4] at H
      have c4b0 : decide (a1_0 < (wrap64 (a0_0 + a0_2))) = true := decide_eq_true c4
      clear c4
      by_cases c5 : a0_1 < (wrap64 (a1_1 + a1_2))
      · rw [if_pos c5] at H
        have c5b0 : decide (a0_1 < (wrap64 (a1_1 + a1_2))) = true := decide_eq_true c5
        clear c5
        obtain rfl := Option.some.inj H
        go_enter Tryd.func41, Tryd.ntmps41
        go_wp2_with (first | ((with_reducible refine gate_dst (N := 2) rfl ?_); refine box_event ?hg (N := 2) ?hd (cs := #[.int .i64 a0_0, .int .i64 a0_1, .int .i64 a0_2]) (t := 41) ?hr ?_; (case hd => rfl); (case hg => rfl); (case hr => first | (go_simp; done) | (go_simp; rfl)); intro gb101 hg w6 hbox hb; have n0_ := Aside0.mk (below_step (by repeat (first | (with_reducible first | exact HB.out | apply below_alloc | apply pw_below_drewN | apply below_drew1) | exact HB.out)) hb); have n1_ := Aside0.mk (hbox); have n2_ := Aside0.mk ((by rw [hg]; exact (below_size (by repeat (first | (with_reducible first | exact HB.out | apply below_alloc | apply pw_below_drewN | apply below_drew1) | exact HB.out))) : w.heap.size ≤ gb101)); have n3_ := Aside0.mk ((by rw [hg]; exact (below_size (by repeat (first | (with_reducible first | exact HB.out | apply below_alloc | apply pw_below_drewN | apply below_drew1) | exact HB.out))) : w.heap.size ≤ gb101)); clear HB; have HB := n0_; have BK101 := n1_; have GW101 := n2_; have GE101 := n3_; clear n0_ n1_ n2_ n3_; clear hb hbox hg) | ((with_reducible refine gate_dst (N := 3) rfl ?_); refine box_event ?hg (N := 3) ?hd (cs := #[.int .i64 a1_0, .int .i64 a1_1, .int .i64 a1_2]) (t := 41) ?hr ?_; (case hd => rfl); (case hg => rfl); (case hr => first | (go_simp; done) | (go_simp; rfl)); intro gb102 hg w7 hbox hb; have n0_ := Aside0.mk (blk_below (g := gb101) (o := .cells #[.int .i64 a0_0, .int .i64 a0_1, .int .i64 a0_2] 41 (0, 0)) (by (with_reducible repeat (first | refine blk_drewN ?_ _ | refine blk_drew ?_ | refine blk_alloc ?_ _)); exact BK101.out) hb); have n1_ := Aside0.mk (below_step (by repeat (first | (with_reducible first | exact HB.out | apply below_alloc | apply pw_below_drewN | apply below_drew1 | refine below_set ?_ GE101.out) | exact HB.out)) hb); have n2_ := Aside0.mk (hbox); have n3_ := Aside0.mk ((by rw [hg]; exact (below_size (by repeat (first | (with_reducible first | exact HB.out | apply below_alloc | apply pw_below_drewN | apply below_drew1 | refine below_set ?_ GE101.out) | exact HB.out))) : w.heap.size ≤ gb102)); have n4_ := Aside0.mk ((by rw [hg]; exact (below_size (by repeat (first | (with_reducible first | exact HB.out | apply below_alloc | apply pw_below_drewN | apply below_drew1 | refine below_set ?_ GE101.out) | exact HB.out))) : w.heap.size ≤ gb102)); have n5_ := Aside0.mk ((by rw [hg]; exact Nat.ne_of_lt (blk_lt (g := gb101) (o := .cells #[.int .i64 a0_0, .int .i64 a0_1, .int .i64 a0_2] 41 (0, 0)) (by (with_reducible repeat (first | refine blk_drewN ?_ _ | refine blk_drew ?_ | refine blk_alloc ?_ _)); exact BK101.out)) : gb101 ≠ gb102)); have n6_ := Aside0.mk ((by rw [hg]; exact Nat.ne_of_gt (blk_lt (g := gb101) (o := .cells #[.int .i64 a0_0, .int .i64 a0_1, .int .i64 a0_2] 41 (0, 0)) (by (with_reducible repeat (first | refine blk_drewN ?_ _ | refine blk_drew ?_ | refine blk_alloc ?_ _)); exact BK101.out)) : gb102 ≠ gb101)); clear BK101; clear HB; have BK101 := n0_; have HB := n1_; have BK102 := n2_; have GW102 := n3_; have GE102 := n4_; have NB101_102 := n5_; have NB102_101 := n6_; clear n0_ n1_ n2_ n3_ n4_ n5_ n6_; clear hb hbox hg; have hnb8 := NB101_102.out; have hnc8 := NB102_101.out; have hcz9_0 : w7.cell? ⟨gb101, 0, none⟩ = some (.int .i64 a0_0) := (blk_cell BK101.out 0).trans rfl; have hcz9_1 : w7.cell? ⟨gb101, 1, none⟩ = some (.int .i64 a0_1) := (blk_cell BK101.out 1).trans rfl; have hcz9_2 : w7.cell? ⟨gb101, 2, none⟩ = some (.int .i64 a0_2) := (blk_cell BK101.out 2).trans rfl; have hfz9_0 := blk_frozen BK101.out 0; have hfz9_1 := blk_frozen BK101.out 1; have hfz9_2 := blk_frozen BK101.out 2; have hcz10_0 : w7.cell? ⟨gb102, 0, none⟩ = some (.int .i64 a1_0) := (blk_cell BK102.out 0).trans rfl; have hcz10_1 : w7.cell? ⟨gb102, 1, none⟩ = some (.int .i64 a1_1) := (blk_cell BK102.out 1).trans rfl; have hcz10_2 : w7.cell? ⟨gb102, 2, none⟩ = some (.int .i64 a1_2) := (blk_cell BK102.out 2).trans rfl; have hfz10_0 := blk_frozen BK102.out 0; have hfz10_1 := blk_frozen BK102.out 1; have hfz10_2 := blk_frozen BK102.out 2))
        go_ret
        exact ⟨by first | rfl | (simp [errW_none, errW_some] <;> rfl) | (simp [*, errW_none, errW_some] <;> rfl), by repeat (first | (with_reducible first | exact HB.out | apply below_alloc | apply pw_below_drewN | apply below_drew1 | refine below_set ?_ GE101.out | refine below_set ?_ GE102.out) | exact HB.out)⟩
      · rw [if_neg c5] at H
        have c5b0 : decide (a0_1 < (wrap64 (a1_1 + a1_2))) = false := decide_eq_false c5
        clear c5
        obtain rfl := Option.some.inj H
        go_enter Tryd.func41, Tryd.ntmps41
        go_wp2_with (first | ((with_reducible refine gate_dst (N := 2) rfl ?_); refine box_event ?hg (N := 2) ?hd (cs := #[.int .i64 a0_0, .int .i64 a0_1, .int .i64 a0_2]) (t := 41) ?hr ?_; (case hd => rfl); (case hg => rfl); (case hr => first | (go_simp; done) | (go_simp; rfl)); intro gb101 hg w11 hbox hb; have n0_ := Aside0.mk (below_step (by repeat (first | (with_reducible first | exact HB.out | apply below_alloc | apply pw_below_drewN | apply below_drew1) | exact HB.out)) hb); have n1_ := Aside0.mk (hbox); have n2_ := Aside0.mk ((by rw [hg]; exact (below_size (by repeat (first | (with_reducible first | exact HB.out | apply below_alloc | apply pw_below_drewN | apply below_drew1) | exact HB.out))) : w.heap.size ≤ gb101)); have n3_ := Aside0.mk ((by rw [hg]; exact (below_size (by repeat (first | (with_reducible first | exact HB.out | apply below_alloc | apply pw_below_drewN | apply below_drew1) | exact HB.out))) : w.heap.size ≤ gb101)); clear HB; have HB := n0_; have BK101 := n1_; have GW101 := n2_; have GE101 := n3_; clear n0_ n1_ n2_ n3_; clear hb hbox hg) | ((with_reducible refine gate_dst (N := 3) rfl ?_); refine box_event ?hg (N := 3) ?hd (cs := #[.int .i64 a1_0, .int .i64 a1_1, .int .i64 a1_2]) (t := 41) ?hr ?_; (case hd => rfl); (case hg => rfl); (case hr => first | (go_simp; done) | (go_simp; rfl)); intro gb102 hg w12 hbox hb; have n0_ := Aside0.mk (blk_below (g := gb101) (o := .cells #[.int .i64 a0_0, .int .i64 a0_1, .int .i64 a0_2] 41 (0, 0)) (by (with_reducible repeat (first | refine blk_drewN ?_ _ | refine blk_drew ?_ | refine blk_alloc ?_ _)); exact BK101.out) hb); have n1_ := Aside0.mk (below_step (by repeat (first | (with_reducible first | exact HB.out | apply below_alloc | apply pw_below_drewN | apply below_drew1 | refine below_set ?_ GE101.out) | exact HB.out)) hb); have n2_ := Aside0.mk (hbox); have n3_ := Aside0.mk ((by rw [hg]; exact (below_size (by repeat (first | (with_reducible first | exact HB.out | apply below_alloc | apply pw_below_drewN | apply below_drew1 | refine below_set ?_ GE101.out) | exact HB.out))) : w.heap.size ≤ gb102)); have n4_ := Aside0.mk ((by rw [hg]; exact (below_size (by repeat (first | (with_reducible first | exact HB.out | apply below_alloc | apply pw_below_drewN | apply below_drew1 | refine below_set ?_ GE101.out) | exact HB.out))) : w.heap.size ≤ gb102)); have n5_ := Aside0.mk ((by rw [hg]; exact Nat.ne_of_lt (blk_lt (g := gb101) (o := .cells #[.int .i64 a0_0, .int .i64 a0_1, .int .i64 a0_2] 41 (0, 0)) (by (with_reducible repeat (first | refine blk_drewN ?_ _ | refine blk_drew ?_ | refine blk_alloc ?_ _)); exact BK101.out)) : gb101 ≠ gb102)); have n6_ := Aside0.mk ((by rw [hg]; exact Nat.ne_of_gt (blk_lt (g := gb101) (o := .cells #[.int .i64 a0_0, .int .i64 a0_1, .int .i64 a0_2] 41 (0, 0)) (by (with_reducible repeat (first | refine blk_drewN ?_ _ | refine blk_drew ?_ | refine blk_alloc ?_ _)); exact BK101.out)) : gb102 ≠ gb101)); clear BK101; clear HB; have BK101 := n0_; have HB := n1_; have BK102 := n2_; have GW102 := n3_; have GE102 := n4_; have NB101_102 := n5_; have NB102_101 := n6_; clear n0_ n1_ n2_ n3_ n4_ n5_ n6_; clear hb hbox hg; have hnb13 := NB101_102.out; have hnc13 := NB102_101.out; have hcz14_0 : w12.cell? ⟨gb101, 0, none⟩ = some (.int .i64 a0_0) := (blk_cell BK101.out 0).trans rfl; have hcz14_1 : w12.cell? ⟨gb101, 1, none⟩ = some (.int .i64 a0_1) := (blk_cell BK101.out 1).trans rfl; have hcz14_2 : w12.cell? ⟨gb101, 2, none⟩ = some (.int .i64 a0_2) := (blk_cell BK101.out 2).trans rfl; have hfz14_0 := blk_frozen BK101.out 0; have hfz14_1 := blk_frozen BK101.out 1; have hfz14_2 := blk_frozen BK101.out 2; have hcz15_0 : w12.cell? ⟨gb102, 0, none⟩ = some (.int .i64 a1_0) := (blk_cell BK102.out 0).trans rfl; have hcz15_1 : w12.cell? ⟨gb102, 1, none⟩ = some (.int .i64 a1_1) := (blk_cell BK102.out 1).trans rfl; have hcz15_2 : w12.cell? ⟨gb102, 2, none⟩ = some (.int .i64 a1_2) := (blk_cell BK102.out 2).trans rfl; have hfz15_0 := blk_frozen BK102.out 0; have hfz15_1 := blk_frozen BK102.out 1; have hfz15_2 := blk_frozen BK102.out 2))
        go_ret
        exact ⟨by first | rfl | (simp [errW_none, errW_some] <;> rfl) | (simp [*, errW_none, errW_some] <;> rfl), by repeat (first | (with_reducible first | exact HB.out | apply below_alloc | apply pw_below_drewN | apply below_drew1 | refine below_set ?_ GE101.out | refine below_set ?_ GE102.out) | exact HB.out)⟩
    · rw [if_neg c4] at H
      have c4b0 : decide (a1_0 < (wrap64 (a0_0 + a0_2))) = false := decide_eq_false c4
      clear c4
      obtain rfl := Option.some.inj H
      go_enter Tryd.func41, Tryd.ntmps41
      go_wp2_with (first | ((with_reducible refine gate_dst (N := 2) rfl ?_); refine box_event ?hg (N := 2) ?hd (cs := #[.int .i64 a0_0, .int .i64 a0_1, .int .i64 a0_2]) (t := 41) ?hr ?_; (case hd => rfl); (case hg => rfl); (case hr => first | (go_simp; done) | (go_simp; rfl)); intro gb101 hg w16 hbox hb; have n0_ := Aside0.mk (below_step (by repeat (first | (with_reducible first | exact HB.out | apply below_alloc | apply pw_below_drewN | apply below_drew1) | exact HB.out)) hb); have n1_ := Aside0.mk (hbox); have n2_ := Aside0.mk ((by rw [hg]; exact (below_size (by repeat (first | (with_reducible first | exact HB.out | apply below_alloc | apply pw_below_drewN | apply below_drew1) | exact HB.out))) : w.heap.size ≤ gb101)); have n3_ := Aside0.mk ((by rw [hg]; exact (below_size (by repeat (first | (with_reducible first | exact HB.out | apply below_alloc | apply pw_below_drewN | apply below_drew1) | exact HB.out))) : w.heap.size ≤ gb101)); clear HB; have HB := n0_; have BK101 := n1_; have GW101 := n2_; have GE101 := n3_; clear n0_ n1_ n2_ n3_; clear hb hbox hg) | ((with_reducible refine gate_dst (N := 3) rfl ?_); refine box_event ?hg (N := 3) ?hd (cs := #[.int .i64 a1_0, .int .i64 a1_1, .int .i64 a1_2]) (t := 41) ?hr ?_; (case hd => rfl); (case hg => rfl); (case hr => first | (go_simp; done) | (go_simp; rfl)); intro gb102 hg w17 hbox hb; have n0_ := Aside0.mk (blk_below (g := gb101) (o := .cells #[.int .i64 a0_0, .int .i64 a0_1, .int .i64 a0_2] 41 (0, 0)) (by (with_reducible repeat (first | refine blk_drewN ?_ _ | refine blk_drew ?_ | refine blk_alloc ?_ _)); exact BK101.out) hb); have n1_ := Aside0.mk (below_step (by repeat (first | (with_reducible first | exact HB.out | apply below_alloc | apply pw_below_drewN | apply below_drew1 | refine below_set ?_ GE101.out) | exact HB.out)) hb); have n2_ := Aside0.mk (hbox); have n3_ := Aside0.mk ((by rw [hg]; exact (below_size (by repeat (first | (with_reducible first | exact HB.out | apply below_alloc | apply pw_below_drewN | apply below_drew1 | refine below_set ?_ GE101.out) | exact HB.out))) : w.heap.size ≤ gb102)); have n4_ := Aside0.mk ((by rw [hg]; exact (below_size (by repeat (first | (with_reducible first | exact HB.out | apply below_alloc | apply pw_below_drewN | apply below_drew1 | refine below_set ?_ GE101.out) | exact HB.out))) : w.heap.size ≤ gb102)); have n5_ := Aside0.mk ((by rw [hg]; exact Nat.ne_of_lt (blk_lt (g := gb101) (o := .cells #[.int .i64 a0_0, .int .i64 a0_1, .int .i64 a0_2] 41 (0, 0)) (by (with_reducible repeat (first | refine blk_drewN ?_ _ | refine blk_drew ?_ | refine blk_alloc ?_ _)); exact BK101.out)) : gb101 ≠ gb102)); have n6_ := Aside0.mk ((by rw [hg]; exact Nat.ne_of_gt (blk_lt (g := gb101) (o := .cells #[.int .i64 a0_0, .int .i64 a0_1, .int .i64 a0_2] 41 (0, 0)) (by (with_reducible repeat (first | refine blk_drewN ?_ _ | refine blk_drew ?_ | refine blk_alloc ?_ _)); exact BK101.out)) : gb102 ≠ gb101)); clear BK101; clear HB; have BK101 := n0_; have HB := n1_; have BK102 := n2_; have GW102 := n3_; have GE102 := n4_; have NB101_102 := n5_; have NB102_101 := n6_; clear n0_ n1_ n2_ n3_ n4_ n5_ n6_; clear hb hbox hg; have hnb18 := NB101_102.out; have hnc18 := NB102_101.out; have hcz19_0 : w17.cell? ⟨gb101, 0, none⟩ = some (.int .i64 a0_0) := (blk_cell BK101.out 0).trans rfl; have hcz19_1 : w17.cell? ⟨gb101, 1, none⟩ = some (.int .i64 a0_1) := (blk_cell BK101.out 1).trans rfl; have hcz19_2 : w17.cell? ⟨gb101, 2, none⟩ = some (.int .i64 a0_2) := (blk_cell BK101.out 2).trans rfl; have hfz19_0 := blk_frozen BK101.out 0; have hfz19_1 := blk_frozen BK101.out 1; have hfz19_2 := blk_frozen BK101.out 2; have hcz20_0 : w17.cell? ⟨gb102, 0, none⟩ = some (.int .i64 a1_0) := (blk_cell BK102.out 0).trans rfl; have hcz20_1 : w17.cell? ⟨gb102, 1, none⟩ = some (.int .i64 a1_1) := (blk_cell BK102.out 1).trans rfl; have hcz20_2 : w17.cell? ⟨gb102, 2, none⟩ = some (.int .i64 a1_2) := (blk_cell BK102.out 2).trans rfl; have hfz20_0 := blk_frozen BK102.out 0; have hfz20_1 := blk_frozen BK102.out 1; have hfz20_2 := blk_frozen BK102.out 2))
      go_ret
      exact ⟨by first | rfl | (simp [errW_none, errW_some] <;> rfl) | (simp [*, errW_none, errW_some] <;> rfl), by repeat (first | (with_reducible first | exact HB.out | apply below_alloc | apply pw_below_drewN | apply below_drew1 | refine below_set ?_ GE101.out | refine below_set ?_ GE102.out) | exact HB.out)⟩
  · rw [if_neg c3] at H
    have c3b0 : decide (a0_0 < (wrap64 (a1_0 + a1_2))) = false := decide_eq_false c3
    clear c3
    obtain rfl := Option.some.inj H
    go_enter Tryd.func41, Tryd.ntmps41
    go_wp2_with (first | ((with_reducible refine gate_dst (N := 2) rfl ?_); refine box_event ?hg (N := 2) ?hd (cs := #[.int .i64 a0_0, .int .i64 a0_1, .int .i64 a0_2]) (t := 41) ?hr ?_; (case hd => rfl); (case hg => rfl); (case hr => first | (go_simp; done) | (go_simp; rfl)); intro gb101 hg w21 hbox hb; have n0_ := Aside0.mk (below_step (by repeat (first | (with_reducible first | exact HB.out | apply below_alloc | apply pw_below_drewN | apply below_drew1) | exact HB.out)) hb); have n1_ := Aside0.mk (hbox); have n2_ := Aside0.mk ((by rw [hg]; exact (below_size (by repeat (first | (with_reducible first | exact HB.out | apply below_alloc | apply pw_below_drewN | apply below_drew1) | exact HB.out))) : w.heap.size ≤ gb101)); have n3_ := Aside0.mk ((by rw [hg]; exact (below_size (by repeat (first | (with_reducible first | exact HB.out | apply below_alloc | apply pw_below_drewN | apply below_drew1) | exact HB.out))) : w.heap.size ≤ gb101)); clear HB; have HB := n0_; have BK101 := n1_; have GW101 := n2_; have GE101 := n3_; clear n0_ n1_ n2_ n3_; clear hb hbox hg) | ((with_reducible refine gate_dst (N := 3) rfl ?_); refine box_event ?hg (N := 3) ?hd (cs := #[.int .i64 a1_0, .int .i64 a1_1, .int .i64 a1_2]) (t := 41) ?hr ?_; (case hd => rfl); (case hg => rfl); (case hr => first | (go_simp; done) | (go_simp; rfl)); intro gb102 hg w22 hbox hb; have n0_ := Aside0.mk (blk_below (g := gb101) (o := .cells #[.int .i64 a0_0, .int .i64 a0_1, .int .i64 a0_2] 41 (0, 0)) (by (with_reducible repeat (first | refine blk_drewN ?_ _ | refine blk_drew ?_ | refine blk_alloc ?_ _)); exact BK101.out) hb); have n1_ := Aside0.mk (below_step (by repeat (first | (with_reducible first | exact HB.out | apply below_alloc | apply pw_below_drewN | apply below_drew1 | refine below_set ?_ GE101.out) | exact HB.out)) hb); have n2_ := Aside0.mk (hbox); have n3_ := Aside0.mk ((by rw [hg]; exact (below_size (by repeat (first | (with_reducible first | exact HB.out | apply below_alloc | apply pw_below_drewN | apply below_drew1 | refine below_set ?_ GE101.out) | exact HB.out))) : w.heap.size ≤ gb102)); have n4_ := Aside0.mk ((by rw [hg]; exact (below_size (by repeat (first | (with_reducible first | exact HB.out | apply below_alloc | apply pw_below_drewN | apply below_drew1 | refine below_set ?_ GE101.out) | exact HB.out))) : w.heap.size ≤ gb102)); have n5_ := Aside0.mk ((by rw [hg]; exact Nat.ne_of_lt (blk_lt (g := gb101) (o := .cells #[.int .i64 a0_0, .int .i64 a0_1, .int .i64 a0_2] 41 (0, 0)) (by (with_reducible repeat (first | refine blk_drewN ?_ _ | refine blk_drew ?_ | refine blk_alloc ?_ _)); exact BK101.out)) : gb101 ≠ gb102)); have n6_ := Aside0.mk ((by rw [hg]; exact Nat.ne_of_gt (blk_lt (g := gb101) (o := .cells #[.int .i64 a0_0, .int .i64 a0_1, .int .i64 a0_2] 41 (0, 0)) (by (with_reducible repeat (first | refine blk_drewN ?_ _ | refine blk_drew ?_ | refine blk_alloc ?_ _)); exact BK101.out)) : gb102 ≠ gb101)); clear BK101; clear HB; have BK101 := n0_; have HB := n1_; have BK102 := n2_; have GW102 := n3_; have GE102 := n4_; have NB101_102 := n5_; have NB102_101 := n6_; clear n0_ n1_ n2_ n3_ n4_ n5_ n6_; clear hb hbox hg; have hnb23 := NB101_102.out; have hnc23 := NB102_101.out; have hcz24_0 : w22.cell? ⟨gb101, 0, none⟩ = some (.int .i64 a0_0) := (blk_cell BK101.out 0).trans rfl; have hcz24_1 : w22.cell? ⟨gb101, 1, none⟩ = some (.int .i64 a0_1) := (blk_cell BK101.out 1).trans rfl; have hcz24_2 : w22.cell? ⟨gb101, 2, none⟩ = some (.int .i64 a0_2) := (blk_cell BK101.out 2).trans rfl; have hfz24_0 := blk_frozen BK101.out 0; have hfz24_1 := blk_frozen BK101.out 1; have hfz24_2 := blk_frozen BK101.out 2; have hcz25_0 : w22.cell? ⟨gb102, 0, none⟩ = some (.int .i64 a1_0) := (blk_cell BK102.out 0).trans rfl; have hcz25_1 : w22.cell? ⟨gb102, 1, none⟩ = some (.int .i64 a1_1) := (blk_cell BK102.out 1).trans rfl; have hcz25_2 : w22.cell? ⟨gb102, 2, none⟩ = some (.int .i64 a1_2) := (blk_cell BK102.out 2).trans rfl; have hfz25_0 := blk_frozen BK102.out 0; have hfz25_1 := blk_frozen BK102.out 1; have hfz25_2 := blk_frozen BK102.out 2))
    go_ret
    exact ⟨by first | rfl | (simp [errW_none, errW_some] <;> rfl) | (simp [*, errW_none, errW_some] <;> rfl), by repeat (first | (with_reducible first | exact HB.out | apply below_alloc | apply pw_below_drewN | apply below_drew1 | refine below_set ?_ GE101.out | refine below_set ?_ GE102.out) | exact HB.out)⟩

end Go.Proofs.YtomfebfjkcdjpabDoor.P

namespace Go.Proofs.YtomfebfjkcdjpabDoor.P
open Go.RowKit Go.Proofs.YtomfebfjkcdjpabDoorW.PrintWords Go.Proofs.YtomfebfjkcdjpabDoorW.PrintLast Go.Proofs.YtomfebfjkcdjpabDoorW.PrintMore
attribute [local go_sem] max2_int min2_int max_two min_two max_three min_three max_four min_four
set_option linter.unusedVariables false
set_option linter.unusedSimpArgs false

/-! ### impl_IsCut: function 25 -/
/-- have two squares a common cell? -/
def ovl (a b : S41) : Bool := decide (a.f0 < wrap64 (b.f0 + b.f2)) && decide (b.f0 < wrap64 (a.f0 + a.f2)) && decide (a.f1 < wrap64 (b.f1 + b.f2)) && decide (b.f1 < wrap64 (a.f1 + a.f2))
theorem ovl_f (a b : S41) : impl_overlap.f a.f0 a.f1 a.f2 b.f0 b.f1 b.f2 = some (ovl a b) := by
  unfold impl_overlap.f ovl
  by_cases c1 : a.f0 < wrap64 (b.f0 + b.f2) <;> by_cases c2 : b.f0 < wrap64 (a.f0 + a.f2) <;> by_cases c3 : a.f1 < wrap64 (b.f1 + b.f2) <;> simp [c1, c2, c3]
theorem impl_IsCut_clo (x s : S41) (B : Nat) (w : World) (hB : B < w.heap.size) (h0 : w.cell? ⟨B, 0, none⟩ = some (.int .i64 s.f0)) (h1 : w.cell? ⟨B, 1, none⟩ = some (.int .i64 s.f1)) (h2 : w.cell? ⟨B, 2, none⟩ = some (.int .i64 s.f2)) :
    Calls Tryd.prog 40 #[.agg #[.int .i64 x.f0, .int .i64 x.f1, .int .i64 x.f2], .pointer (some ⟨B, 0, none⟩)] w fun e w' => e = .returned (.bool (ovl s x)) ∧ Below w.heap.size w w' := by
  have HF := Aside0.mk (fun W => impl_overlap.calls s.f0 s.f1 s.f2 x.f0 x.f1 x.f2 _ W (ovl_f s x))
  generalize ovl s x = b at HF ⊢
  have hne : B ≠ w.heap.size := by omega
  go_enter Tryd.func40, Tryd.ntmps40
  go_wp2_with (go_at_call 41; refine (HF.out _).mono ?_; rintro e w' ⟨rfl, hb⟩)
  go_ret
  exact ⟨rfl, ((Below.refl _ _).alloc (Nat.le_refl _) _).trans (hb.mono (by simp))⟩

/-- by Y, then by X: below 0, 0, above -/
def cmpP (a b : S41) : Int := if a.f1 = b.f1 then wrap64 (a.f0 - b.f0) else wrap64 (a.f1 - b.f1)
theorem cmpP_f (a b : S41) : impl_comparePlaces.f a.f0 a.f1 a.f2 b.f0 b.f1 b.f2 = some (cmpP a b) := by
  unfold impl_comparePlaces.f cmpP; split <;> rfl
theorem within_b (n lo hi : Int) : impl_within.f n lo hi = some (decide (lo ≤ n) && decide (n ≤ hi)) := by
  unfold impl_within.f; by_cases c : lo ≤ n <;> simp [c]
theorem isWide_b (n : Int) : impl_isWide.f n = some (decide (1 ≤ n) && decide (n ≤ 500)) := by
  unfold impl_isWide.f; rw [within_b]; rfl
/-- what the loop asks of square i: its side, its places, its order, no common cell with an elder one -/
def ok1 (W H : Int) (s : S41) : Bool := decide (1 ≤ s.f2) && decide (s.f2 ≤ mn W H)
def ok2 (W : Int) (s : S41) : Bool := decide (0 ≤ s.f0) && decide (s.f0 ≤ wrap64 (W - s.f2))
def ok3 (H : Int) (s : S41) : Bool := decide (0 ≤ s.f1) && decide (s.f1 ≤ wrap64 (H - s.f2))
def ok4 (l : List S41) (s : S41) (i : Nat) : Bool := decide (i = 0) || decide (cmpP (rd_T41 l ((i - 1 : Nat) : Int)) s < 0)
def okAt (W H : Int) (l : List S41) (i : Nat) : Bool :=
  let s := rd_T41 l (i : Int)
  ok1 W H s && ok2 W s && ok3 H s && ok4 l s i && !((l.take i).any (ovl s))
def areaW : List S41 → Int → Int
  | [], a => a
  | s :: l, a => areaW l (wrap64 (a + wrap64 (s.f2 * s.f2)))
theorem areaW_snoc (l : List S41) (s : S41) : ∀ a, areaW (l ++ [s]) a = wrap64 (areaW l a + wrap64 (s.f2 * s.f2)) := by
  induction l with
  | nil => intro a; rfl
  | cons t l ih => intro a; simp only [List.cons_append, areaW, ih]
def isCutB (W H : Int) (l : List S41) : Bool :=
  (decide (1 ≤ W) && decide (W ≤ 500)) && (decide (1 ≤ H) && decide (H ≤ 500)) && decide (l.length ≤ 30) && (List.range l.length).all (okAt W H l) && decide (areaW l 0 = wrap64 (W * H))
def impl_IsCut.f (a0_0 : Int) (a0_1 : Int) (l0_2 : List S41) : Option Bool := some (isCutB a0_0 a0_1 l0_2)
open Go.Proofs.YtomfebfjkcdjpabDoor.Gr in
set_option maxHeartbeats 4000000 in
set_option maxRecDepth 100000 in
theorem impl_IsCut.calls (a0_0 : Int) (a0_1 : Int) (A0_2 : Option Addr) (c0_2 : Nat) (l0_2 : List S41) (r : Bool) (w : World) (hr0_2 : Kd.C k41 w A0_2 l0_2.length l0_2) (hc0_2 : l0_2.length ≤ c0_2) (h : impl_IsCut.f a0_0 a0_1 l0_2 = some r) :
    Calls Tryd.prog 25 #[.agg #[.int .i64 a0_0, .int .i64 a0_1, .slice A0_2 l0_2.length c0_2]] w fun e w' => e = .returned (.bool r) ∧ Below w.heap.size w w' := by
  obtain rfl : isCutB a0_0 a0_1 l0_2 = r := Option.some.inj h
  clear h
  have hlen := hr0_2.2.1
  have HR := Aside0.mk hr0_2
  clear hr0_2
  have HW := Aside0.mk (fun n W => impl_isWide.calls n _ W (isWide_b n))
  have eg : ∀ args w, (callFunc 40 args).run Tryd.prog w = .ok (.enter 40 args) w := enters_of Tryd.func40 (by kernel_rfl) rfl
  have hu := Tryd.underlying41
  have hu2 := Tryd.underlying24
  generalize hq : isCutB a0_0 a0_1 l0_2 = q
  have HQ := Aside0.mk hq
  clear hq
  cases b1 : (decide (1 ≤ a0_0) && decide (a0_0 ≤ 500)) with
  | false =>
    have hq : q = false := by rw [← HQ.out]; unfold isCutB; rw [b1]; simp
    subst hq
    have H1 := Aside0.mk (fun W => by have := HW.out a0_0 W; rw [b1] at this; exact this)
    clear b1
    go_enter Tryd.func25, Tryd.ntmps25
    go_wp2_with (go_at_call 37; refine (H1.out _).mono ?_; rintro e w1 ⟨rfl, ⟨nd, rfl⟩⟩)
    go_ret
    exact ⟨rfl, by repeat (first | exact Below.refl _ _ | apply pw_below_drewN | apply below_alloc)⟩
  | true =>
  cases b2 : (decide (1 ≤ a0_1) && decide (a0_1 ≤ 500)) with
  | false =>
    have hq : q = false := by rw [← HQ.out]; unfold isCutB; rw [b2]; simp
    subst hq
    have H1 := Aside0.mk (fun W => by have := HW.out a0_0 W; rw [b1] at this; exact this)
    have H2 := Aside0.mk (fun W => by have := HW.out a0_1 W; rw [b2] at this; exact this)
    clear b1 b2
    go_enter Tryd.func25, Tryd.ntmps25
    go_wp2_with fail
    refine (H1.out _).mono ?_
    rintro e w1 ⟨rfl, ⟨nd, rfl⟩⟩
    go_wp2_with fail
    refine (H2.out _).mono ?_
    rintro e w1 ⟨rfl, ⟨nd2, rfl⟩⟩
    go_wp2
    go_ret
    exact ⟨rfl, by repeat (first | exact Below.refl _ _ | apply pw_below_drewN | apply below_alloc)⟩
  | true =>
  cases b3 : decide (l0_2.length ≤ 30) with
  | false =>
    have hq : q = false := by rw [← HQ.out]; unfold isCutB; rw [b3]; simp
    subst hq
    have b3' : decide (30 < l0_2.length) = true := by simp at b3 ⊢; omega
    have b3z : decide ((30 : Int) < (l0_2.length : Int)) = true := by simp at b3 ⊢; omega
    have H1 := Aside0.mk (fun W => by have := HW.out a0_0 W; rw [b1] at this; exact this)
    have H2 := Aside0.mk (fun W => by have := HW.out a0_1 W; rw [b2] at this; exact this)
    clear b1 b2 b3
    go_enter Tryd.func25, Tryd.ntmps25
    go_wp2_with fail
    refine (H1.out _).mono ?_
    rintro e w1 ⟨rfl, ⟨nd, rfl⟩⟩
    go_wp2_with fail
    refine (H2.out _).mono ?_
    rintro e w1 ⟨rfl, ⟨nd2, rfl⟩⟩
    go_wp2
    go_ret
    exact ⟨rfl, by repeat (first | exact Below.refl _ _ | apply pw_below_drewN | apply below_alloc)⟩
  | true =>
    have b3' : decide (30 < l0_2.length) = false := by simp at b3 ⊢; omega
    have b3z : decide ((30 : Int) < (l0_2.length : Int)) = false := by simp at b3 ⊢; omega
    have B123 := Aside0.mk (And.intro b1 (And.intro b2 b3))
    have H1 := Aside0.mk (fun W => by have := HW.out a0_0 W; rw [b1] at this; exact this)
    have H2 := Aside0.mk (fun W => by have := HW.out a0_1 W; rw [b2] at this; exact this)
    clear b1 b2 b3
    go_enter Tryd.func25, Tryd.ntmps25
    go_wp2_with fail
    refine (H1.out _).mono ?_
    rintro e w1 ⟨rfl, ⟨nd, rfl⟩⟩
    go_wp2_with fail
    refine (H2.out _).mono ?_
    rintro e w1 ⟨rfl, ⟨nd2, rfl⟩⟩
    go_wp2
    clear b3' b3z
    have HC0 : ∀ X, X = ((w.alloc (.cells #[.int .i64 a0_0, .int .i64 a0_1, .slice A0_2 l0_2.length c0_2] 24)).drewN (nd + nd2)) → Aside0 (Below w.heap.size w X ∧ X.heap.size = w.heap.size + 1 ∧ X.cell? ⟨w.heap.size, 0, none⟩ = some (.int .i64 a0_0) ∧ X.cell? ⟨w.heap.size, 1, none⟩ = some (.int .i64 a0_1) ∧ X.cell? ⟨w.heap.size, 2, none⟩ = some (.slice A0_2 l0_2.length c0_2)) := by
      rintro X rfl
      exact ⟨by repeat (first | exact Below.refl _ _ | apply pw_below_drewN | apply below_alloc), by simp, by simp, by simp, by simp⟩
    replace HC0 := HC0 _ rfl
    generalize ((w.alloc (.cells #[.int .i64 a0_0, .int .i64 a0_1, .slice A0_2 l0_2.length c0_2] 24)).drewN (nd + nd2)) = W1 at HC0 ⊢
    have HI := Aside0.mk (fun a b c W => impl_within.calls a b c _ W (within_b a b c))
    go_loopg [3, 4, 5, 25] l0_2.length (fun gg v3 v4 v5 v25 wc => ∃ i : Nat, i ≤ l0_2.length ∧ l0_2.length - i ≤ gg ∧ v25 = .int .i64 i ∧ v3 = .int .i64 (areaW (l0_2.take i) 0) ∧ Aside0 (Below W1.heap.size W1 wc) ∧ Aside0 (∀ j, j < i → okAt a0_0 a0_1 l0_2 j = true))
    case atStart => exact ⟨0, by omega, by omega, rfl, rfl, ⟨Below.refl _ _⟩, ⟨fun j hj => by omega⟩⟩
    case round =>
      obtain ⟨i, hi, hg, rfl, rfl, HB, HO⟩ := hrel
      have HBw := Aside0.mk (HC0.out.1.trans (HB.out.mono HC0.out.1.size))
      have hsz : w.heap.size < wr.heap.size := by have h1 := HC0.out.2.1; have h2 := HB.out.size; omega
      have d0 : wr.cell? ⟨w.heap.size, 0, none⟩ = some (.int .i64 a0_0) := (HB.out.cell (p := ⟨w.heap.size, 0, none⟩) (by have := HC0.out.2.1; show w.heap.size < _; omega)).trans HC0.out.2.2.1
      have d1 : wr.cell? ⟨w.heap.size, 1, none⟩ = some (.int .i64 a0_1) := (HB.out.cell (p := ⟨w.heap.size, 1, none⟩) (by have := HC0.out.2.1; show w.heap.size < _; omega)).trans HC0.out.2.2.2.1
      have d2 : wr.cell? ⟨w.heap.size, 2, none⟩ = some (.slice A0_2 l0_2.length c0_2) := (HB.out.cell (p := ⟨w.heap.size, 2, none⟩) (by have := HC0.out.2.1; show w.heap.size < _; omega)).trans HC0.out.2.2.2.2
      by_cases hlt : i < l0_2.length
      · have hltz : decide ((i : Int) < (l0_2.length : Int)) = true := by simp; omega
        obtain ⟨ad, e1, hx0, hx1, hx2⟩ := at_T41 (Kd.C_below HR.out HBw.out) (i : Int) (by omega) (by omega)
        cases e1
        simp only [Int.toNat_natCast] at hx0 hx1 hx2
        have HOK : Aside0 (okAt a0_0 a0_1 l0_2 i = (ok1 a0_0 a0_1 (rd_T41 l0_2 (i : Int)) && ok2 a0_0 (rd_T41 l0_2 (i : Int)) && ok3 a0_1 (rd_T41 l0_2 (i : Int)) && ok4 l0_2 (rd_T41 l0_2 (i : Int)) i && !((l0_2.take i).any (ovl (rd_T41 l0_2 (i : Int)))))) := ⟨rfl⟩
        have HNX : Aside0 (l0_2.take (i + 1) = l0_2.take i ++ [rd_T41 l0_2 (i : Int)]) := ⟨by rw [List.take_succ_eq_append_getElem hlt]; simp [rd_T41, hlt]⟩
        generalize hss : rd_T41 l0_2 (i : Int) = s at hx0 hx1 hx2 HOK HNX
        clear hss
        have hne : w.heap.size ≠ wr.heap.size := by omega
        have HF := Aside0.mk (fun (h : okAt a0_0 a0_1 l0_2 i = false) => show isCutB a0_0 a0_1 l0_2 = false by
          unfold isCutB
          have : (List.range l0_2.length).all (okAt a0_0 a0_1 l0_2) = false := by
            rw [List.all_eq_false]; exact ⟨i, List.mem_range.2 hlt, by rw [h]; simp⟩
          rw [this]; simp)
        obtain ⟨m, hm⟩ : ∃ m, mn a0_0 a0_1 = m := ⟨_, rfl⟩
        have hmm : (if a0_1 < a0_0 then a0_1 else a0_0) = m := hm
        have HM := Aside0.mk hm
        clear hm
        cases k1 : ok1 a0_0 a0_1 s with
        | false =>
          have hq : q = false := by rw [← HQ.out]; exact HF.out (by rw [HOK.out, k1]; simp)
          subst hq
          have V1 : Aside0 (∀ W, Calls Tryd.prog 38 #[.int .i64 s.f2, .int .i64 1, .int .i64 m] W fun e w' => e = .returned (.bool false) ∧ Drawn0 W w') := ⟨fun W => by have := HI.out s.f2 1 m W; rw [show (decide (1 ≤ s.f2) && decide (s.f2 ≤ m)) = false from by rw [← HM.out]; exact k1] at this; exact this⟩
          clear k1
          go_wp2_with fail
          refine (V1.out _).mono ?_
          rintro e w1 ⟨rfl, ⟨nd1, rfl⟩⟩
          go_wp2
          go_ret
          exact ⟨rfl, by repeat (first | exact HBw.out | apply pw_below_drewN | apply below_alloc)⟩
        | true =>
        have V1 : Aside0 (∀ W, Calls Tryd.prog 38 #[.int .i64 s.f2, .int .i64 1, .int .i64 m] W fun e w' => e = .returned (.bool true) ∧ Drawn0 W w') := ⟨fun W => by have := HI.out s.f2 1 m W; rw [show (decide (1 ≤ s.f2) && decide (s.f2 ≤ m)) = true from by rw [← HM.out]; exact k1] at this; exact this⟩
        have K1 := Aside0.mk k1
        clear k1
        cases k2 : ok2 a0_0 s with
        | false =>
          have hq : q = false := by rw [← HQ.out]; exact HF.out (by rw [HOK.out, k2]; simp)
          subst hq
          have V2 : Aside0 (∀ W, Calls Tryd.prog 38 #[.int .i64 s.f0, .int .i64 0, .int .i64 (wrap64 (a0_0 - s.f2))] W fun e w' => e = .returned (.bool false) ∧ Drawn0 W w') := ⟨fun W => by have := HI.out s.f0 0 (wrap64 (a0_0 - s.f2)) W; rw [show (decide (0 ≤ s.f0) && decide (s.f0 ≤ wrap64 (a0_0 - s.f2))) = false from k2] at this; exact this⟩
          clear k2
          go_wp2_with fail
          refine (V1.out _).mono ?_
          rintro e w1 ⟨rfl, ⟨nd1, rfl⟩⟩
          go_wp2_with fail
          refine (V2.out _).mono ?_
          rintro e w1 ⟨rfl, ⟨nd1, rfl⟩⟩
          go_wp2
          go_ret
          exact ⟨rfl, by repeat (first | exact HBw.out | apply pw_below_drewN | apply below_alloc)⟩
        | true =>
        have V2 : Aside0 (∀ W, Calls Tryd.prog 38 #[.int .i64 s.f0, .int .i64 0, .int .i64 (wrap64 (a0_0 - s.f2))] W fun e w' => e = .returned (.bool true) ∧ Drawn0 W w') := ⟨fun W => by have := HI.out s.f0 0 (wrap64 (a0_0 - s.f2)) W; rw [show (decide (0 ≤ s.f0) && decide (s.f0 ≤ wrap64 (a0_0 - s.f2))) = true from k2] at this; exact this⟩
        have K2 := Aside0.mk k2
        clear k2
        cases k3 : ok3 a0_1 s with
        | false =>
          have hq : q = false := by rw [← HQ.out]; exact HF.out (by rw [HOK.out, k3]; simp)
          subst hq
          have V3 : Aside0 (∀ W, Calls Tryd.prog 38 #[.int .i64 s.f1, .int .i64 0, .int .i64 (wrap64 (a0_1 - s.f2))] W fun e w' => e = .returned (.bool false) ∧ Drawn0 W w') := ⟨fun W => by have := HI.out s.f1 0 (wrap64 (a0_1 - s.f2)) W; rw [show (decide (0 ≤ s.f1) && decide (s.f1 ≤ wrap64 (a0_1 - s.f2))) = false from k3] at this; exact this⟩
          clear k3
          go_wp2_with fail
          refine (V1.out _).mono ?_
          rintro e w1 ⟨rfl, ⟨nd1, rfl⟩⟩
          go_wp2_with fail
          refine (V2.out _).mono ?_
          rintro e w1 ⟨rfl, ⟨nd1, rfl⟩⟩
          go_wp2_with fail
          refine (V3.out _).mono ?_
          rintro e w1 ⟨rfl, ⟨nd1, rfl⟩⟩
          go_wp2
          go_ret
          exact ⟨rfl, by repeat (first | exact HBw.out | apply pw_below_drewN | apply below_alloc)⟩
        | true =>
        have V3 : Aside0 (∀ W, Calls Tryd.prog 38 #[.int .i64 s.f1, .int .i64 0, .int .i64 (wrap64 (a0_1 - s.f2))] W fun e w' => e = .returned (.bool true) ∧ Drawn0 W w') := ⟨fun W => by have := HI.out s.f1 0 (wrap64 (a0_1 - s.f2)) W; rw [show (decide (0 ≤ s.f1) && decide (s.f1 ≤ wrap64 (a0_1 - s.f2))) = true from k3] at this; exact this⟩
        have K3 := Aside0.mk k3
        clear k3
        go_wp2_with fail
        refine (V1.out _).mono ?_
        rintro e w1 ⟨rfl, ⟨nd1, rfl⟩⟩
        go_wp2_with fail
        refine (V2.out _).mono ?_
        rintro e w1 ⟨rfl, ⟨nd2', rfl⟩⟩
        go_wp2_with fail
        refine (V3.out _).mono ?_
        rintro e w1 ⟨rfl, ⟨nd3, rfl⟩⟩
        go_wp2
        have HX : ∀ X, X = ((wr.alloc (.cells #[.int .i64 s.f0, .int .i64 s.f1, .int .i64 s.f2] 41)).drewN (nd1 + nd2' + nd3)) → Aside0 (Below w.heap.size w X ∧ Below W1.heap.size W1 X ∧ X.heap.size = wr.heap.size + 1) ∧ X.cell? ⟨w.heap.size, 2, none⟩ = some (.slice (some ad) l0_2.length c0_2) ∧ X.cell? ⟨wr.heap.size, 0, none⟩ = some (.int .i64 s.f0) ∧ X.cell? ⟨wr.heap.size, 1, none⟩ = some (.int .i64 s.f1) ∧ X.cell? ⟨wr.heap.size, 2, none⟩ = some (.int .i64 s.f2) := by
          rintro X rfl
          refine ⟨⟨by repeat (first | exact HBw.out | apply pw_below_drewN | apply below_alloc), by repeat (first | exact HB.out | apply pw_below_drewN | apply below_alloc), by simp⟩, ?_, ?_, ?_, ?_⟩
          · have hbx : Below wr.heap.size wr ((wr.alloc (.cells #[.int .i64 s.f0, .int .i64 s.f1, .int .i64 s.f2] 41)).drewN (nd1 + nd2' + nd3)) := by repeat (first | exact Below.refl _ _ | apply pw_below_drewN | apply below_alloc)
            exact (hbx.cell (p := ⟨w.heap.size, 2, none⟩) hsz).trans d2
          · simp
          · simp
          · simp
        obtain ⟨XF, x0, x1, x2, x3⟩ := HX _ rfl
        generalize ((wr.alloc (.cells #[.int .i64 s.f0, .int .i64 s.f1, .int .i64 s.f2] 41)).drewN (nd1 + nd2' + nd3)) = X at XF x0 x1 x2 x3 ⊢
        clear HX d0 d1 d2 hx0 hx1 hx2
        have HCF : Aside0 (∀ W, Below X.heap.size X W → Calls Tryd.prog 39 #[.slice (some ad) i c0_2, .func (.func 40) #[] #[.pointer (some ⟨wr.heap.size, 0, none⟩)]] W fun e w' => e = .returned (.bool ((l0_2.take i).any (ovl s))) ∧ Below W.heap.size W w') := ⟨fun W hW => by
          have hC := Kd.C_below (Kd.C_below HR.out XF.out.1) hW
          have hT : Kd.C k41 W (some ad) (l0_2.take i).length (l0_2.take i) := by
            refine ⟨rfl, by have := hC.2.1; simp; omega, fun h => ?_⟩
            obtain ⟨ad', e, hh⟩ := hC.2.2 (by omega)
            refine ⟨ad', e, fun j p hj => hh j p ?_⟩
            rw [List.getElem?_take] at hj
            split at hj
            · exact hj
            · cases hj
          have hl : (l0_2.take i).length = i := by simp; omega
          have hh := slices_ContainsFunc_sq (l0_2.take i) (some ad) c0_2 40 #[.pointer (some ⟨wr.heap.size, 0, none⟩)] (ovl s) W hT (by omega) eg (fun V x hV => by
            have hB : wr.heap.size < W.heap.size := by have := XF.out.2.2; have := hW.size; omega
            refine (impl_IsCut_clo x s wr.heap.size V (by have := hV.size; omega) ?_ ?_ ?_).mono ?_
            · exact (hV.cell (p := ⟨wr.heap.size, 0, none⟩) hB).trans ((hW.cell (p := ⟨wr.heap.size, 0, none⟩) (by have := XF.out.2.2; show wr.heap.size < _; omega)).trans x1)
            · exact (hV.cell (p := ⟨wr.heap.size, 1, none⟩) hB).trans ((hW.cell (p := ⟨wr.heap.size, 1, none⟩) (by have := XF.out.2.2; show wr.heap.size < _; omega)).trans x2)
            · exact (hV.cell (p := ⟨wr.heap.size, 2, none⟩) hB).trans ((hW.cell (p := ⟨wr.heap.size, 2, none⟩) (by have := XF.out.2.2; show wr.heap.size < _; omega)).trans x3)
            · rintro e w' ⟨rfl, hb⟩
              exact ⟨rfl, hV.trans (hb.mono hV.size)⟩)
          rw [hl] at hh
          exact hh⟩
        have hXs := Aside0.mk XF.out.2.2
        have x0' := fun p => cell_gr (p := p) (by have := hXs.out; show w.heap.size < _; omega) x0
        have x1' := fun p => cell_gr (p := p) (by have := hXs.out; show wr.heap.size < _; omega) x1
        have x2' := fun p => cell_gr (p := p) (by have := hXs.out; show wr.heap.size < _; omega) x2
        have x3' := fun p => cell_gr (p := p) (by have := hXs.out; show wr.heap.size < _; omega) x3
        clear x0 x1 x2 x3
        generalize hb5 : (l0_2.take i).any (ovl s) = b5 at HCF HOK
        clear hb5
        have HCP : Aside0 (∀ W, Calls Tryd.prog 24 #[.agg #[.int .i64 (rd_T41 l0_2 ((i - 1 : Nat) : Int)).f0, .int .i64 (rd_T41 l0_2 ((i - 1 : Nat) : Int)).f1, .int .i64 (rd_T41 l0_2 ((i - 1 : Nat) : Int)).f2], .agg #[.int .i64 s.f0, .int .i64 s.f1, .int .i64 s.f2]] W fun e w' => e = .returned (.int .i64 (cmpP (rd_T41 l0_2 ((i - 1 : Nat) : Int)) s)) ∧ Below W.heap.size W w') := ⟨fun W => impl_comparePlaces.calls _ _ _ _ _ _ _ W (cmpP_f _ s)⟩
        by_cases hi0 : i = 0
        · have z1 : decide ((0 : Int) < (i : Int)) = false := by simp; omega
          have z2 : decide (0 < i) = false := by simp; omega
          have KK4 : ok4 l0_2 s i = true := by unfold ok4; simp [hi0]
          have HK4 := Aside0.mk KK4
          clear KK4 hi0
          cases b5 with
          | true =>
            have hq : q = false := by rw [← HQ.out]; exact HF.out (by rw [HOK.out]; simp)
            subst hq
            refine wp_region_gr (by kernel_rfl) (by kernel_rfl) ?_
            repeat (go_big_quiet_step (first | (go_at_call 39; refine Calls.gr_of (HCF.out _ (Gr.h _))) | (go_at_call 24; refine Calls.gr_of (HCP.out _))))
            refine wpQuiet_nil ?_
            intro W2 hw'
            obtain ⟨⟨V2, hB2⟩, hw''⟩ := hw'
            replace hw'' : W2 = V2 := hw''
            subst hw''
            go_wp2
            go_ret
            exact ⟨rfl, XF.out.1.trans (hB2.mono XF.out.1.size)⟩
          | false =>
            refine wp_region_gr (by kernel_rfl) (by kernel_rfl) ?_
            repeat (go_big_quiet_step (first | (go_at_call 39; refine Calls.gr_of (HCF.out _ (Gr.h _))) | (go_at_call 24; refine Calls.gr_of (HCP.out _))))
            refine wpQuiet_nil ?_
            intro W2 hw'
            obtain ⟨⟨V2, hB2⟩, hw''⟩ := hw'
            replace hw'' : W2 = V2 := hw''
            subst hw''
            have y3 : W2.cell? ⟨wr.heap.size, 2, none⟩ = some (.int .i64 s.f2) := x3' ⟨W2, hB2⟩
            have HB2 := Aside0.mk hB2
            clear hB2 x0' x1' x2' x3'
            go_wp2
            go_roundg (l0_2.length - (i + 1))
            case measure => omega
            case rel =>
              refine ⟨i + 1, by omega, by omega, by go_num, ?_, ⟨XF.out.2.1.trans (HB2.out.mono XF.out.2.1.size)⟩, ⟨fun j hj => ?_⟩⟩
              · rw [HNX.out, areaW_snoc]
              · by_cases e : j = i
                · subst e; rw [HOK.out, K1.out, K2.out, K3.out, HK4.out]; rfl
                · exact HO.out j (by omega)
        · have z1 : decide ((0 : Int) < (i : Int)) = true := by simp; omega
          have z2 : decide (0 < i) = true := by simp; omega
          have hi1 : i - 1 + 1 = i := by omega
          obtain ⟨adp, ep, hp0, hp1, hp2⟩ := at_T41 (Kd.C_below HR.out XF.out.1) ((i - 1 : Nat) : Int) (by omega) (by omega)
          obtain rfl : ad = adp := by injection ep
          have hlt' := Kd.C_lt (Kd.C_below HR.out XF.out.1) (show 0 < l0_2.length by omega) (by decide)
          simp only [Int.toNat_natCast] at hp0 hp1 hp2
          have KK4 : ok4 l0_2 s i = decide (cmpP (rd_T41 l0_2 ((i - 1 : Nat) : Int)) s < 0) := by unfold ok4; simp [hi0]
          have HK4 := Aside0.mk KK4
          clear KK4 hi0 ep
          generalize rd_T41 l0_2 ((i - 1 : Nat) : Int) = t at HCP HK4 hp0 hp1 hp2
          generalize hcc : cmpP t s = cc at HCP HK4
          clear hcc
          have hlb : (ad.add ((i - 1) * 3)).block < X.heap.size := by rw [show (ad.add ((i - 1) * 3)).block = ad.block from by unfold Addr.add; split <;> rfl]; exact hlt'
          have hp0' := fun p => cell_gr (p := p) hlb hp0
          have hp1' := fun p => cell_gr (p := p) (a := ⟨(ad.add ((i - 1) * 3)).block, (ad.add ((i - 1) * 3)).off + 1, none⟩) hlb hp1
          have hp2' := fun p => cell_gr (p := p) (a := ⟨(ad.add ((i - 1) * 3)).block, (ad.add ((i - 1) * 3)).off + 2, none⟩) hlb hp2
          clear hp0 hp1 hp2 hlt' hlb
          by_cases hc0 : cc < 0
          · have z3 : decide (0 ≤ cc) = false := by simp; omega
            have HC9 := Aside0.mk hc0
            clear hc0
            cases b5 with
            | true =>
              have hq : q = false := by rw [← HQ.out]; exact HF.out (by rw [HOK.out]; simp)
              subst hq
              refine wp_region_gr (by kernel_rfl) (by kernel_rfl) ?_
              repeat (go_big_quiet_step (first | (go_at_call 39; refine Calls.gr_of (HCF.out _ (Gr.h _))) | (go_at_call 24; refine Calls.gr_of (HCP.out _))))
              refine wpQuiet_nil ?_
              intro W2 hw'
              obtain ⟨⟨V2, hB2⟩, hw''⟩ := hw'
              replace hw'' : W2 = V2 := hw''
              subst hw''
              go_wp2
              go_ret
              exact ⟨rfl, XF.out.1.trans (hB2.mono XF.out.1.size)⟩
            | false =>
              refine wp_region_gr (by kernel_rfl) (by kernel_rfl) ?_
              repeat (go_big_quiet_step (first | (go_at_call 39; refine Calls.gr_of (HCF.out _ (Gr.h _))) | (go_at_call 24; refine Calls.gr_of (HCP.out _))))
              refine wpQuiet_nil ?_
              intro W2 hw'
              obtain ⟨⟨V2, hB2⟩, hw''⟩ := hw'
              replace hw'' : W2 = V2 := hw''
              subst hw''
              have y3 : W2.cell? ⟨wr.heap.size, 2, none⟩ = some (.int .i64 s.f2) := x3' ⟨W2, hB2⟩
              have HB2 := Aside0.mk hB2
              clear hB2 x0' x1' x2' x3'
              go_wp2
              go_roundg (l0_2.length - (i + 1))
              case measure => omega
              case rel =>
                refine ⟨i + 1, by omega, by omega, by go_num, ?_, ⟨XF.out.2.1.trans (HB2.out.mono XF.out.2.1.size)⟩, ⟨fun j hj => ?_⟩⟩
                · rw [HNX.out, areaW_snoc]
                · by_cases e : j = i
                  · subst e; rw [HOK.out, K1.out, K2.out, K3.out, HK4.out, decide_eq_true HC9.out]; rfl
                  · exact HO.out j (by omega)
          · have z3 : decide (0 ≤ cc) = true := by simp; omega
            have hq : q = false := by rw [← HQ.out]; exact HF.out (by rw [HOK.out, HK4.out, decide_eq_false hc0]; simp)
            subst hq
            clear hc0
            refine wp_region_gr (by kernel_rfl) (by kernel_rfl) ?_
            repeat (go_big_quiet_step (first | (go_at_call 24; refine Calls.gr_of (HCP.out _))))
            refine wpQuiet_nil ?_
            intro W2 hw'
            obtain ⟨⟨V2, hB2⟩, hw''⟩ := hw'
            replace hw'' : W2 = V2 := hw''
            subst hw''
            go_wp2
            go_ret
            exact ⟨rfl, XF.out.1.trans (hB2.mono XF.out.1.size)⟩
      · have hltz : decide ((i : Int) < (l0_2.length : Int)) = false := by simp; omega
        have hil : l0_2.take i = l0_2 := List.take_of_length_le (by omega)
        have hall : (List.range l0_2.length).all (okAt a0_0 a0_1 l0_2) = true := by
          rw [List.all_eq_true]; exact fun j hj => HO.out j (by have := List.mem_range.1 hj; omega)
        have hq : (areaW l0_2 0 == wrap64 (a0_0 * a0_1)) = q := by
          rw [← HQ.out]; unfold isCutB; rw [B123.out.1, B123.out.2.1, B123.out.2.2, hall]; simp; rfl
        rw [hil]
        have HE := Aside0.mk hq
        clear hil hall hq
        generalize areaW l0_2 0 = ar at HE ⊢
        go_wp2
        go_ret
        refine ⟨?_, HBw.out⟩
        rw [← HE.out]
        rfl

end Go.Proofs.YtomfebfjkcdjpabDoor.P

namespace Go.Proofs.YtomfebfjkcdjpabDoor.Pure
set_option linter.unusedVariables false
set_option linter.unusedSimpArgs false
open Go.RowKit Go.Proofs.YtomfebfjkcdjpabDoor.P Go.Proofs.YtomfebfjkcdjpabDoorW.PrintWords Go.Proofs.YtomfebfjkcdjpabDoorW.PrintLast Go.Proofs.YtomfebfjkcdjpabDoor.Aid
theorem l1In_f (n lo hi : Int) : spec_l1In.f n lo hi = some (inR n lo hi) := by
  unfold spec_l1In.f inR; by_cases c : lo ≤ n <;> simp [c]
theorem within_f (n lo hi : Int) : impl_within.f n lo hi = some (inR n lo hi) := by
  unfold impl_within.f inR; by_cases c : lo ≤ n <;> simp [c]
end Go.Proofs.YtomfebfjkcdjpabDoor.Pure

namespace Go.Proofs.YtomfebfjkcdjpabDoor.Pure
set_option linter.unusedVariables false
set_option linter.unusedSimpArgs false
open Go.RowKit Go.Proofs.YtomfebfjkcdjpabDoor.P Go.Proofs.YtomfebfjkcdjpabDoorW.PrintWords Go.Proofs.YtomfebfjkcdjpabDoorW.PrintLast Go.Proofs.YtomfebfjkcdjpabDoorW.PrintMore Go.Proofs.YtomfebfjkcdjpabDoor.Aid Go.Proofs.YtomfebfjkcdjpabDoor.T
theorem rdq (l : List Sq) (i : Nat) : rd_T41 l (i : Int) = nq l i := by unfold rd_T41 nq; rw [Int.toNat_natCast]; rfl
end Go.Proofs.YtomfebfjkcdjpabDoor.Pure

namespace Go.Proofs.YtomfebfjkcdjpabDoor.Pure
set_option linter.unusedVariables false
set_option linter.unusedSimpArgs false
open Go.RowKit Go.Proofs.YtomfebfjkcdjpabDoor.P Go.Proofs.YtomfebfjkcdjpabDoorW.PrintWords Go.Proofs.YtomfebfjkcdjpabDoorW.PrintLast Go.Proofs.YtomfebfjkcdjpabDoorW.PrintMore Go.Proofs.YtomfebfjkcdjpabDoor.Aid Go.Proofs.YtomfebfjkcdjpabDoor.T
theorem apart_ovl (a b : Sq) (ha : inBox 500 500 a) (hb : inBox 500 500 b) : ovl a b = false ↔ Apart a b := by
  unfold inBox at ha hb
  unfold ovl Apart
  rw [w64 (by omega) (by omega), w64 (by omega) (by omega), w64 (by omega) (by omega), w64 (by omega) (by omega), Bool.eq_false_iff]
  simp only [ne_eq, Bool.and_eq_true, decide_eq_true_eq]
  constructor <;> intro h h' <;> exact h (by omega)
theorem inBox_mono {W H W' H' : Int} {q : Sq} (h : inBox W H q) (hw : W ≤ W') (hh : H ≤ H') : inBox W' H' q := by unfold inBox at *; omega
theorem lt_cmpP (a b : Sq) (ha : inBox 500 500 a) (hb : inBox 500 500 b) : cmpP a b < 0 ↔ Lt a b := by
  unfold inBox at ha hb
  unfold cmpP Lt
  split
  · rw [w64 (by omega) (by omega)]; omega
  · rw [w64 (by omega) (by omega)]; omega
/-- the program's tests of square i: where all elder ones are in the box -/
theorem okAt_iff (W H : Int) (l : List Sq) (hW : 1 ≤ W ∧ W ≤ 500) (hH : 1 ≤ H ∧ H ≤ 500) (i : Nat) (hi : i < l.length) (hold : ∀ j, j < i → inBox W H (nq l j)) : okAt W H l i = true ↔ OkS W H l i := by
  unfold okAt OkS
  simp only [rdq, Bool.and_eq_true, Bool.not_eq_true']
  have hbox : (ok1 W H (nq l i) = true ∧ ok2 W (nq l i) = true ∧ ok3 H (nq l i) = true) ↔ inBox W H (nq l i) := by
    unfold ok1 ok2 ok3 inBox
    simp only [Bool.and_eq_true, decide_eq_true_eq, mn_min]
    constructor
    · rintro ⟨⟨h1, h2⟩, ⟨h3, h4⟩, h5, h6⟩
      rw [w64 (by omega) (by omega)] at h4 h6
      omega
    · intro h
      rw [w64 (by omega) (by omega), w64 (by omega) (by omega)]
      omega
  have big : ∀ {q : Sq}, inBox W H q → inBox 500 500 q := fun h => inBox_mono h hW.2 hH.2
  constructor
  · rintro ⟨⟨⟨⟨h1, h2⟩, h3⟩, h4⟩, h5⟩
    have hb := hbox.1 ⟨h1, h2, h3⟩
    refine ⟨hb, fun j hj => ⟨?_, fun e => ?_⟩⟩
    · rw [List.any_eq_false] at h5
      have := h5 (nq l j) (by rw [← nq_take l i j hj]; exact nq_mem _ _ (by simp; omega))
      exact (apart_ovl _ _ (big hb) (big (hold j hj))).1 (Bool.eq_false_iff.2 this)
    · unfold ok4 at h4
      subst e
      rw [Bool.or_eq_true, decide_eq_true_eq, decide_eq_true_eq] at h4
      rcases h4 with h4 | h4
      · cases h4
      · rw [show j + 1 - 1 = j by omega, rdq] at h4
        exact (lt_cmpP _ _ (big (hold j hj)) (big hb)).1 h4
  · rintro ⟨hb, hs⟩
    obtain ⟨h1, h2, h3⟩ := hbox.2 hb
    refine ⟨⟨⟨⟨h1, h2⟩, h3⟩, ?_⟩, ?_⟩
    · unfold ok4
      rw [Bool.or_eq_true, decide_eq_true_eq, decide_eq_true_eq]
      rcases Nat.eq_zero_or_pos i with h0 | h0
      · exact .inl h0
      · refine .inr ?_
        rw [rdq]
        exact (lt_cmpP _ _ (big (hold _ (by omega))) (big hb)).2 ((hs (i - 1) (by omega)).2 (by omega))
    · rw [List.any_eq_false]
      intro q hq
      obtain ⟨j, hj, rfl⟩ := List.getElem_of_mem hq
      rw [List.length_take] at hj
      rw [← nq_get, nq_take l i j (by omega)]
      rw [Bool.not_eq_true]
      exact (apart_ovl _ _ (big hb) (big (hold j (by omega)))).2 (hs j (by omega)).1
theorem okAt_all (W H : Int) (l : List Sq) (hW : 1 ≤ W ∧ W ≤ 500) (hH : 1 ≤ H ∧ H ≤ 500) : (∀ i, i < l.length → okAt W H l i = true) ↔ ∀ i, i < l.length → OkS W H l i := by
  constructor
  · intro h i
    induction i using Nat.strongRecOn with
    | _ i ih => exact fun hi => (okAt_iff W H l hW hH i hi (fun j hj => (ih j hj (by omega)).1)).1 (h i hi)
  · intro h i hi
    exact (okAt_iff W H l hW hH i hi (fun j hj => (h j (by omega)).1)).2 (h i hi)
theorem areaW_area (l : List Sq) : ∀ n, n ≤ l.length → l.length ≤ 30 → (∀ i, i < n → 0 ≤ (nq l i).f2 ∧ (nq l i).f2 ≤ 500) → areaW (l.take n) 0 = area (l.take n)
  | 0, _, _, _ => by simp [areaW, area]
  | n + 1, hn, hl, hb => by
    have ih := areaW_area l n (by omega) hl (fun i hi => hb i (by omega))
    have hq := sq_le (hb n (by omega)).1 (hb n (by omega)).2
    have ha := area_bd l 500 n (by omega) (fun i hi => hb i (by omega))
    rw [area_take l n (by omega), List.take_succ_eq_append_getElem (by omega), areaW_snoc, ih, ← nq_get l n (by omega), w64 (e := (nq l n).f2 * (nq l n).f2) (by omega) (by omega), w64 (by omega) (by omega)]
theorem isCutB_good (W H : Int) (l : List Sq) : isCutB W H l = goodB W H l := by
  rw [Bool.eq_iff_iff, goodB_iff, good_iff]
  unfold isCutB
  simp only [Bool.and_eq_true, decide_eq_true_eq, List.all_eq_true, List.mem_range, and_assoc]
  constructor
  · rintro ⟨h1, h2, h3, h4, h5, h6, h7⟩
    have hs := (okAt_all W H l ⟨h1, h2⟩ ⟨h3, h4⟩).1 h6
    refine ⟨h1, h2, h3, h4, h5, hs, ?_⟩
    have hb : ∀ i, i < l.length → 0 ≤ (nq l i).f2 ∧ (nq l i).f2 ≤ 500 := fun i hi => by have := (hs i hi).1; unfold inBox at this; omega
    have ha := areaW_area l l.length (Nat.le_refl _) h5 hb
    rw [List.take_length] at ha
    have hp : 0 ≤ W * H ∧ W * H ≤ 500 * 500 := ⟨Int.mul_nonneg (by omega) (by omega), Int.mul_le_mul h2 h4 (by omega) (by omega)⟩
    rw [ha, w64 (by omega) (by omega)] at h7
    exact h7
  · rintro ⟨h1, h2, h3, h4, h5, hs, h7⟩
    refine ⟨h1, h2, h3, h4, h5, (okAt_all W H l ⟨h1, h2⟩ ⟨h3, h4⟩).2 hs, ?_⟩
    have hb : ∀ i, i < l.length → 0 ≤ (nq l i).f2 ∧ (nq l i).f2 ≤ 500 := fun i hi => by have := (hs i hi).1; unfold inBox at this; omega
    have ha := areaW_area l l.length (Nat.le_refl _) h5 hb
    rw [List.take_length] at ha
    have hp : 0 ≤ W * H ∧ W * H ≤ 500 * 500 := ⟨Int.mul_nonneg (by omega) (by omega), Int.mul_le_mul h2 h4 (by omega) (by omega)⟩
    rw [ha, w64 (by omega) (by omega)]
    exact h7
theorem isCut_f (W H : Int) (l : List Sq) : impl_IsCut.f W H l = some (goodB W H l) := by unfold impl_IsCut.f; rw [isCutB_good]

def PairOk (l : List Sq) (i j : Nat) : Prop := Apart (nq l i) (nq l j) ∧ (j + 1 = i → Lt (nq l j) (nq l i))
theorem cuLess_f (a b : Sq) : spec_cuLess.f a.f0 a.f1 a.f2 b.f0 b.f1 b.f2 = some (decide (a.f1 < b.f1) || (decide (a.f1 = b.f1) && decide (a.f0 < b.f0))) := by
  unfold spec_cuLess.f
  by_cases c1 : a.f1 < b.f1
  · simp [c1]
  · by_cases c2 : a.f1 = b.f1 <;> simp [c1, c2]
theorem lt_less (a b : Sq) : (decide (a.f1 < b.f1) || (decide (a.f1 = b.f1) && decide (a.f0 < b.f0))) = true ↔ Lt a b := by
  unfold Lt; simp
section
variable (W H : Int) (l : List Sq)
theorem good_l1_step (a : Int) (i m : Nat) (hm : m < i) (hi : i < l.length) {r : Bool}
    (h : Ev (fun k => spec_cuGood.j4 k a i m l l.length i (l.take i) i m (ovl (nq l i) (nq l m)) W H l (nq l i).f0 (nq l i).f1 (nq l i).f2 (nq l m).f0 (nq l m).f1 (nq l m).f2) r) :
    Ev (fun k => spec_cuGood.l1 k a i l l.length i (l.take i) i m W H l (nq l i).f0 (nq l i).f1 (nq l i).f2) r := by
  have e : rd_T41 (l.take i) (m : Int) = nq l m := by rw [rdq, nq_take l i m hm]
  refine Ev.step (fun _ => spec_cuGood.l1.eq_2 ..) (ev_pos (by omega) (ev_pos (by omega) (ev_pos (by simp; omega) ?_)))
  simp only [e]
  unfold ovl at h
  by_cases c1 : (nq l i).f0 < wrap64 ((nq l m).f0 + (nq l m).f2)
  · refine ev_pos c1 ?_
    by_cases c2 : (nq l m).f0 < wrap64 ((nq l i).f0 + (nq l i).f2)
    · refine ev_pos c2 ?_
      by_cases c3 : (nq l i).f1 < wrap64 ((nq l m).f1 + (nq l m).f2)
      · refine ev_pos c3 ?_
        simpa [c1, c2, c3] using h
      · refine ev_neg c3 ?_
        simpa [c1, c2, c3] using h
    · refine ev_neg c2 ?_
      simpa [c1, c2] using h
  · refine ev_neg c1 ?_
    simpa [c1] using h
theorem good_pass (hl : l.length ≤ 30) (a : Int) (i : Nat) (hi : i < l.length) (hb : ∀ j, j ≤ i → inBox 500 500 (nq l j)) {r : Bool} (h : Ev (fun k => spec_cuGood.l0 k a l l.length (i + 1 : Nat) W H l) r) :
    ∀ (d m : Nat), m + d = i → (∀ j, m ≤ j → j < i → PairOk l i j) → Ev (fun k => spec_cuGood.l1 k a i l l.length i (l.take i) i m W H l (nq l i).f0 (nq l i).f1 (nq l i).f2) r
  | 0, m, hd, hp => by
    refine Ev.step (fun _ => spec_cuGood.l1.eq_2 ..) (ev_neg (by omega) ?_)
    rw [w64 (by omega) (by omega)]
    exact h
  | d + 1, m, hd, hp => by
    have ih := good_pass hl a i hi hb h d (m + 1) (by omega) (fun j h1 h2 => hp j (by omega) h2)
    obtain ⟨p1, p2⟩ := hp m (Nat.le_refl _) (by omega)
    refine good_l1_step W H l a i m (by omega) hi ?_
    rw [(apart_ovl _ _ (hb i (Nat.le_refl _)) (hb m (by omega))).2 p1]
    refine Ev.step (fun _ => spec_cuGood.j4.eq_2 ..) (ev_neg (by simp) ?_)
    rw [w64 (by omega) (by omega), w64 (by omega) (by omega)]
    by_cases c : m + 1 = i
    · refine ev_pos (by omega) (ev_call (cuLess_f (nq l m) (nq l i)) (ev_pos ((lt_less _ _).2 (p2 c)) ?_))
      exact ih
    · exact ev_neg (by omega) ih
theorem good_fail (hl : l.length ≤ 30) (a : Int) (i : Nat) (hi : i < l.length) (hb : ∀ j, j ≤ i → inBox 500 500 (nq l j)) :
    ∀ (d m : Nat), m + d = i → (∃ j, m ≤ j ∧ j < i ∧ ¬ PairOk l i j) → Ev (fun k => spec_cuGood.l1 k a i l l.length i (l.take i) i m W H l (nq l i).f0 (nq l i).f1 (nq l i).f2) false
  | 0, m, hd, hp => by obtain ⟨j, h1, h2, _⟩ := hp; omega
  | d + 1, m, hd, hp => by
    refine good_l1_step W H l a i m (by omega) hi ?_
    by_cases p1 : Apart (nq l i) (nq l m)
    · rw [(apart_ovl _ _ (hb i (Nat.le_refl _)) (hb m (by omega))).2 p1]
      refine Ev.step (fun _ => spec_cuGood.j4.eq_2 ..) (ev_neg (by simp) ?_)
      rw [w64 (by omega) (by omega), w64 (by omega) (by omega)]
      by_cases c : m + 1 = i
      · by_cases p2 : Lt (nq l m) (nq l i)
        · exfalso
          obtain ⟨j, h1, h2, h3⟩ := hp
          have : j = m := by omega
          subst this
          exact h3 ⟨p1, fun _ => p2⟩
        · refine ev_pos (by omega) (ev_call (cuLess_f (nq l m) (nq l i)) (ev_neg (fun h => p2 ((lt_less _ _).1 h)) (ev_some rfl)))
      · refine ev_neg (by omega) (good_fail hl a i hi hb d (m + 1) (by omega) ?_)
        obtain ⟨j, h1, h2, h3⟩ := hp
        refine ⟨j, ?_, h2, h3⟩
        rcases Nat.lt_or_ge m j with h | h
        · omega
        · have : j = m := by omega
          subst this
          exact absurd ⟨p1, fun h => absurd h c⟩ h3
    · have : ovl (nq l i) (nq l m) = true := by
        rw [← Bool.not_eq_false]
        intro h
        exact p1 ((apart_ovl _ _ (hb i (Nat.le_refl _)) (hb m (by omega))).1 h)
      rw [this]
      exact Ev.step (fun _ => spec_cuGood.j4.eq_2 ..) (ev_pos rfl (ev_some rfl))
/-- one round of the outer loop: its tests of the square itself -/
theorem good_round (a : Int) (i : Nat) (hi : i < l.length) (hW : 1 ≤ W ∧ W ≤ 500) (hH : 1 ≤ H ∧ H ≤ 500) {r : Bool}
    (h : inBox W H (nq l i) → Ev (fun k => spec_cuGood.l1 k (wrap64 (a + wrap64 ((nq l i).f2 * (nq l i).f2))) i l l.length i (l.take i) i (0 : Nat) W H l (nq l i).f0 (nq l i).f1 (nq l i).f2) r) (hf : ¬ inBox W H (nq l i) → r = false) :
    Ev (fun k => spec_cuGood.l0 k a l l.length i W H l) r := by
  refine Ev.step (fun _ => spec_cuGood.l0.eq_2 ..) (ev_pos (by omega) (ev_pos (by omega) (ev_pos (by omega) ?_)))
  simp only [rdq]
  refine ev_call (l1In_f _ _ _) ?_
  by_cases c1 : inR (nq l i).f2 1 500 = true
  · refine ev_pos c1 (ev_call (l1In_f _ _ _) ?_)
    rw [inR_iff] at c1
    rw [w64 (by omega) (by omega)]
    by_cases c2 : inR (nq l i).f0 0 (W - (nq l i).f2) = true
    · refine ev_pos c2 ?_
      rw [w64 (by omega) (by omega)]
      refine ev_call (l1In_f _ _ _) ?_
      rw [inR_iff] at c2
      by_cases c3 : inR (nq l i).f1 0 (H - (nq l i).f2) = true
      · rw [c3]
        rw [inR_iff] at c3
        refine Ev.step (fun _ => spec_cuGood.j2.eq_2 ..) (ev_neg (by simp) (ev_pos (by omega) (ev_pos (by omega) ?_)))
        refine ev_call rfl ?_
        simp only [Int.toNat_natCast]
        have := h (by unfold inBox; omega)
        simpa [Nat.min_eq_left (Nat.le_of_lt hi)] using this
      · have : r = false := hf (fun hb => c3 (inR_iff.2 (by unfold inBox at hb; omega)))
        subst this
        rw [Bool.not_eq_true] at c3
        rw [c3]
        exact Ev.step (fun _ => spec_cuGood.j2.eq_2 ..) (ev_pos rfl (ev_some rfl))
    · have : r = false := hf (fun hb => c2 (inR_iff.2 (by unfold inBox at hb; omega)))
      subst this
      exact ev_neg c2 (Ev.step (fun _ => spec_cuGood.j2.eq_2 ..) (ev_pos rfl (ev_some rfl)))
  · have : r = false := hf (fun hb => c1 (inR_iff.2 (by unfold inBox at hb; omega)))
    subst this
    exact ev_neg c1 (Ev.step (fun _ => spec_cuGood.j2.eq_2 ..) (ev_pos rfl (ev_some rfl)))
theorem good_l0 (hl : l.length ≤ 30) (hW : 1 ≤ W ∧ W ≤ 500) (hH : 1 ≤ H ∧ H ≤ 500) : ∀ (d i : Nat), i + d = l.length → (∀ j, j < i → OkS W H l j) → Ev (fun k => spec_cuGood.l0 k (area (l.take i)) l l.length i W H l) (goodB W H l)
  | 0, i, hd, hs => by
    refine Ev.step (fun _ => spec_cuGood.l0.eq_2 ..) (ev_neg (by omega) (ev_some ?_))
    have hp : 0 ≤ W * H ∧ W * H ≤ 500 * 500 := ⟨Int.mul_nonneg (by omega) (by omega), Int.mul_le_mul hW.2 hH.2 (by omega) (by omega)⟩
    rw [w64 (by omega) (by omega), show i = l.length by omega, List.take_length, Bool.eq_iff_iff, goodB_iff, good_iff, beq_iff_eq]
    exact ⟨fun h => ⟨hW, hH, hl, fun j hj => hs j (by omega), h⟩, fun h => h.2.2.2.2⟩
  | d + 1, i, hd, hs => by
    have hnot : ¬ OkS W H l i → goodB W H l = false := fun h => by
      rw [Bool.eq_false_iff]
      intro hg
      rw [goodB_iff, good_iff] at hg
      exact h (hg.2.2.2.1 i (by omega))
    refine good_round W H l _ i (by omega) hW hH (fun hb => ?_) (fun hb => hnot (fun h => hb h.1))
    have hbb : ∀ j, j ≤ i → inBox 500 500 (nq l j) := fun j hj => by
      rcases Nat.lt_or_ge j i with h | h
      · exact inBox_mono (hs j h).1 hW.2 hH.2
      · rw [show j = i by omega]; exact inBox_mono hb hW.2 hH.2
    have ha := area_bd l 500 i (by omega) (fun j hj => by have := hbb j (by omega); unfold inBox at this; omega)
    have hq := hbb i (Nat.le_refl _)
    unfold inBox at hq
    have hsq := sq_le (a := (nq l i).f2) (m := 500) (by omega) (by omega)
    rw [w64 (e := (nq l i).f2 * (nq l i).f2) (by omega) (by omega), w64 (by omega) (by omega), ← area_take l i (by omega)]
    by_cases c : ∃ j, 0 ≤ j ∧ j < i ∧ ¬ PairOk l i j
    · rw [hnot (fun h => by obtain ⟨j, _, h2, h3⟩ := c; exact h3 (h.2 j h2))]
      exact good_fail W H l hl _ i (by omega) hbb i 0 (by omega) c
    · have hp : ∀ j, j < i → PairOk l i j := fun j hj => Classical.byContradiction fun h => c ⟨j, by omega, hj, h⟩
      refine good_pass W H l hl _ i (by omega) hbb ?_ i 0 (by omega) (fun j _ h => hp j h)
      exact good_l0 hl hW hH d (i + 1) (by omega) (fun j hj => by
        rcases Nat.lt_or_ge j i with h | h
        · exact hs j h
        · rw [show j = i by omega]; exact ⟨hb, hp⟩)
end
theorem cuGood_ev (W H : Int) (l : List Sq) (hlen : l.length ≤ 9223372036854775807) : Ev (fun k => spec_cuGood.f k W H l) (goodB W H l) := by
  have bad : ¬ ((1 ≤ W ∧ W ≤ 500) ∧ (1 ≤ H ∧ H ≤ 500) ∧ (1 ≤ l.length ∧ l.length ≤ 30)) → goodB W H l = false := fun h => by
    rw [Bool.eq_false_iff]
    intro hg
    rw [goodB_iff] at hg
    exact h ⟨hg.w, hg.h, hg.pos, hg.len⟩
  refine ev_call (l1In_f _ _ _) ?_
  by_cases c1 : inR W 1 500 = true
  · refine ev_pos c1 (ev_call (l1In_f _ _ _) ?_)
    by_cases c2 : inR H 1 500 = true
    · refine ev_pos c2 (ev_call (l1In_f _ _ _) ?_)
      rw [inR_iff] at c1 c2
      by_cases c3 : inR (l.length : Int) 1 30 = true
      · rw [c3]
        rw [inR_iff] at c3
        refine Ev.step (fun _ => spec_cuGood.j0.eq_2 ..) (ev_neg (by simp) ?_)
        have := good_l0 W H l (by omega) c1 c2 l.length 0 (by omega) (fun j hj => by omega)
        simpa [area] using this
      · have e := bad (fun h => c3 (inR_iff.2 (by omega)))
        rw [Bool.not_eq_true] at c3
        rw [c3, e]
        exact Ev.step (fun _ => spec_cuGood.j0.eq_2 ..) (ev_pos rfl (ev_some rfl))
    · rw [bad (fun h => c2 (inR_iff.2 h.2.1))]
      exact ev_neg c2 (Ev.step (fun _ => spec_cuGood.j0.eq_2 ..) (ev_pos rfl (ev_some rfl)))
  · rw [bad (fun h => c1 (inR_iff.2 h.1))]
    exact ev_neg c1 (Ev.step (fun _ => spec_cuGood.j0.eq_2 ..) (ev_pos rfl (ev_some rfl)))
end Go.Proofs.YtomfebfjkcdjpabDoor.Pure
