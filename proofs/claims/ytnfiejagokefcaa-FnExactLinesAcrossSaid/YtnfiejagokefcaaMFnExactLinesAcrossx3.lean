import Derived.Test.YtnfiejagokefcaaMFnExactLinesAcrossx0
import Derived.Test.YtnfiejagokefcaaMFnExactLinesAcrossx1
import Derived.Test.YtnfiejagokefcaaMFnExactLinesAcrossx2
import Derived.Lib.SmallJoins
import Derived.Deep.Slices
import Derived.ChangeArms
import Derived.ChangeShapes
import Derived.ChangeSlices
namespace Go.Proofs.Ytnfiejagokefcaa.P
open Go.RowKit Go.Proofs.YtnfiejagokefcaaW.PrintWords Go.Proofs.YtnfiejagokefcaaW.PrintLast Go.Proofs.Ytnfiejagokefcaa.Wm
attribute [local go_sem] max2_int min2_int max_two min_two
set_option linter.unusedVariables false
set_option linter.unusedSimpArgs false
def laws_markSquareS.l0 : Nat → List (S61) → Int → Int → Option (Int × (List (S61)))
  | 0, _, _, _ => none
  | k + 1, x0, x1, x5 => if x5 < (x0.length : Int) then (if 0 ≤ x5 then ((some (x0.set (x5 : Int).toNat (⟨x1, (rd_T61 x0 x5).f1, (rd_T61 x0 x5).f2⟩ : S61) : List (S61))).bind fun y101 => ((some (y101.set (x5 : Int).toNat (⟨(rd_T61 y101 x5).f0, wrap64 (x1 + 1), (rd_T61 y101 x5).f2⟩ : S61) : List (S61))).bind fun y102 => (laws_markSquareS.l0 k (y102.set (x5 : Int).toNat (⟨(rd_T61 y102 x5).f0, (rd_T61 y102 x5).f1, wrap64 ((wrap64 (x1 + 1)) + 1)⟩ : S61)) (wrap64 ((wrap64 ((wrap64 (x1 + 1)) + 1)) + 1)) (wrap64 (x5 + 1))))) else (none)) else (some (x1, x0))
def laws_markSquareS.f (k : Nat) (l0 : List (S61)) (a1 : Int) : Option (Int × (List (S61))) := laws_markSquareS.l0 k l0 a1 0
set_option maxHeartbeats 8000000 in
set_option maxRecDepth 100000 in
theorem laws_markSquareS.calls (k : Nat) (P0_ : Nat → Prop) (u9000_ : Value) (l0 : List (S61)) (a1 : Int) (r1 : Int) (r2 : List (S61)) (w0 w : World) (hB : Below w0.heap.size w0 w) (ho0 : Kd.R k61 61 w w0.heap.size P0_ u9000_ l0) (h : laws_markSquareS.f k l0 a1 = some (r1, r2)) :
    Calls Try.prog 37 #[u9000_, .int .i64 a1] w fun e w' => e = .returned (.int .i64 r1) ∧ Kd.R k61 61 w' w0.heap.size (fun k_ => (P0_ k_ ∨ w.heap.size ≤ k_)) u9000_ r2 ∧ Below w0.heap.size w0 w' ∧ Kept w w' (fun k_ => P0_ k_) := by
  have HO0 := Aside0.mk (show Kd.R k61 61 w w0.heap.size (fun k_ => (P0_ k_ ∨ w.heap.size ≤ k_)) u9000_ l0 from Kd.R_mono ho0 (fun k_ hk => (.inl hk)))
  have HK := Aside0.mk (Kept.refl w (fun k_ => P0_ k_))
  have HW0 := Aside0.mk hB.size
  have HB := Aside0.mk hB
  clear hB
  have H : (laws_markSquareS.l0 k l0 a1 0) = some (r1, r2) := h
  clear h
  have H' := Aside0.mk H
  clear H
  go_enter Try.func37, Try.ntmps37
  go_wp2
  go_loopg [1, 5] k (fun kq v1 v5 w' => ∃ (x0_1 : List (S61)) (x1_1 : Int) (x5_1 : Int), v1 = .int .i64 x1_1 ∧ v5 = .int .i64 x5_1 ∧ Aside0 (laws_markSquareS.l0 kq x0_1 x1_1 x5_1 = some (r1, r2)) ∧ Aside0 (kq ≤ k) ∧ Aside0 (Kd.R k61 61 w' w0.heap.size (fun k_ => (P0_ k_ ∨ w.heap.size ≤ k_)) u9000_ x0_1) ∧ Aside0 (Kept w w' (fun k_ => P0_ k_)) ∧ Aside0 (Below w0.heap.size w0 w'))
  case atStart => exact ⟨(l0), (a1), (0), (by first | rfl | (simp; done) | (simp [*]; done)), (by first | rfl | (simp; done) | (simp [*]; done)), H', ⟨Nat.le_refl _⟩, ⟨by (with_reducible repeat (first | apply Kd.R_alloc | apply Kd.R_drewN | apply Kd.R_drew)); exact HO0.out⟩, ⟨by repeat (first | (with_reducible first | exact HK.out | apply Kept.alloc | apply Kept.drewN | apply Kept.drew) | exact HK.out)⟩, ⟨by repeat (first | (with_reducible first | exact HB.out | apply below_alloc | apply pw_below_drewN | apply below_drew1) | exact HB.out)⟩⟩
  case round =>
    clear H'
    try clear p2
    obtain ⟨x0_1, x1_1, x5_1, rfl, rfl, HA, HK1, HO_0, HK, HB⟩ := hrel
    cases gk with
    | zero => exact absurd HA.out (by simp [laws_markSquareS.l0])
    | succ k1 =>
      have H := HA.out
      clear HA
      simp only [laws_markSquareS.l0] at H
      by_cases c3 : x5_1 < (x0_1.length : Int)
      · rw [if_pos c3] at H
        have c3b0 : decide (x5_1 < (x0_1.length : Int)) = true := decide_eq_true c3
        clear c3
        by_cases c4 : 0 ≤ x5_1
        · rw [if_pos c4] at H
          have c4b0 : decide (0 ≤ x5_1) = true := decide_eq_true c4
          clear c4
          obtain ⟨y101, hy101⟩ : ∃ y_ : List (S61), y_ = (x0_1.set (x5_1 : Int).toNat (⟨x1_1, (rd_T61 x0_1 x5_1).f1, (rd_T61 x0_1 x5_1).f2⟩ : S61)) := ⟨_, rfl⟩
          replace H : ((some (y101.set (x5_1 : Int).toNat (⟨(rd_T61 y101 x5_1).f0, wrap64 (x1_1 + 1), (rd_T61 y101 x5_1).f2⟩ : S61) : List (S61))).bind fun y102 => (laws_markSquareS.l0 k1 (y102.set (x5_1 : Int).toNat (⟨(rd_T61 y102 x5_1).f0, (rd_T61 y102 x5_1).f1, wrap64 ((wrap64 (x1_1 + 1)) + 1)⟩ : S61)) (wrap64 ((wrap64 ((wrap64 (x1_1 + 1)) + 1)) + 1)) (wrap64 (x5_1 + 1)))) = some (r1, r2) := by first | (rw [hy101]; with_reducible exact H) | (have H2_ := (Option.bind_some _ _).symm.trans H; rw [hy101]; with_reducible exact H2_) | (have H2_ := (Option.bind_some _ _).symm.trans H; with_reducible exact H2_) | with_reducible exact H | (rw [hy101]; exact H) | exact H
          have Ny101 := Aside0.mk hy101
          clear hy101
          obtain ⟨y102, hy102⟩ : ∃ y_ : List (S61), y_ = (y101.set (x5_1 : Int).toNat (⟨(rd_T61 y101 x5_1).f0, wrap64 (x1_1 + 1), (rd_T61 y101 x5_1).f2⟩ : S61)) := ⟨_, rfl⟩
          replace H : (laws_markSquareS.l0 k1 (y102.set (x5_1 : Int).toNat (⟨(rd_T61 y102 x5_1).f0, (rd_T61 y102 x5_1).f1, wrap64 ((wrap64 (x1_1 + 1)) + 1)⟩ : S61)) (wrap64 ((wrap64 ((wrap64 (x1_1 + 1)) + 1)) + 1)) (wrap64 (x5_1 + 1))) = some (r1, r2) := by first | (rw [hy102]; with_reducible exact H) | (have H2_ := (Option.bind_some _ _).symm.trans H; rw [hy102]; with_reducible exact H2_) | (have H2_ := (Option.bind_some _ _).symm.trans H; with_reducible exact H2_) | with_reducible exact H | (rw [hy102]; exact H) | exact H
          have Ny102 := Aside0.mk hy102
          clear hy102
          obtain ⟨y103, hy103⟩ : ∃ y_ : List (S61), y_ = (y102.set (x5_1 : Int).toNat (⟨(rd_T61 y102 x5_1).f0, (rd_T61 y102 x5_1).f1, wrap64 ((wrap64 (x1_1 + 1)) + 1)⟩ : S61)) := ⟨_, rfl⟩
          replace H : (laws_markSquareS.l0 k1 y103 (wrap64 ((wrap64 ((wrap64 (x1_1 + 1)) + 1)) + 1)) (wrap64 (x5_1 + 1))) = some (r1, r2) := by first | (rw [hy103]; with_reducible exact H) | (have H2_ := (Option.bind_some _ _).symm.trans H; rw [hy103]; with_reducible exact H2_) | (have H2_ := (Option.bind_some _ _).symm.trans H; with_reducible exact H2_) | with_reducible exact H | (rw [hy103]; exact H) | exact H
          have Ny103 := Aside0.mk hy103
          clear hy103
          have H' := Aside0.mk H
          clear H
          obtain ⟨Ao8, co8, eo8⟩ := Kd.R_slice HO_0.out
          subst eo8
          have p5 : 0 ≤ (x5_1 : Int) := of_decide_eq_true (by first | (with_reducible assumption) | assumption)
          have q5 : (x5_1 : Int) < ((x0_1.length : Int) : Int) := of_decide_eq_true (by first | (with_reducible assumption) | assumption)
          obtain ⟨go5, co5, eo5, gb5, gl5, cl5, HG5⟩ := Kd.R_form HO_0.out (by omega)
          (first | cases eo5 | (injection eo5 with ea_ en_ ec_; (first | subst ea_ | (injection ea_ with ea_; subst ea_)); subst ec_; clear en_))
          have GB5 := Aside0.mk gb5
          have GG5 := Aside0.mk HG5
          clear gb5 gl5 HG5
          have HMgo5 := Aside0.mk (show (P0_ go5 ∨ w.heap.size ≤ go5) from (HO_0.out.1 _ rfl))
          obtain ⟨ce5, hcl5, hM5, hcc5, hfr5⟩ := Kd.R_elem HO_0.out z61 (x5_1 : Int) p5 q5
          obtain rfl := k61_openM hM5
          have hx5_0 : wr.cell? ⟨go5, (x5_1 : Int).toNat * 3, none⟩ = some (.int .i64 ((rd_T61 x0_1 x5_1).f0)) := hcc5 0 _ rfl
          have hx5_1 : wr.cell? ⟨go5, (x5_1 : Int).toNat * 3 + 1, none⟩ = some (.int .i64 ((rd_T61 x0_1 x5_1).f1)) := hcc5 1 _ rfl
          have hx5_2 : wr.cell? ⟨go5, (x5_1 : Int).toNat * 3 + 2, none⟩ = some (.int .i64 ((rd_T61 x0_1 x5_1).f2)) := hcc5 2 _ rfl
          have hf5_0 : wr.frozen? ⟨go5, (x5_1 : Int).toNat * 3, none⟩ = false := hfr5 0
          have hf5_1 : wr.frozen? ⟨go5, (x5_1 : Int).toNat * 3 + 1, none⟩ = false := hfr5 1
          have hf5_2 : wr.frozen? ⟨go5, (x5_1 : Int).toNat * 3 + 2, none⟩ = false := hfr5 2
          clear hcl5 hcc5 hfr5; (try clear hM5)
          replace p5 := eq_true p5
          replace q5 := eq_true q5
          have HX9 := Aside0.mk (show Kd.R k61 61 wr w0.heap.size (fun k_ => (P0_ k_ ∨ w.heap.size ≤ k_)) (.slice (some ⟨go5, 0, none⟩) x0_1.length co8) x0_1 from (by (with_reducible repeat (first | apply Kd.R_alloc | apply Kd.R_drewN | apply Kd.R_drew)); exact HO_0.out))
          obtain ⟨ce9, hcl9, hM9, hcc9, hfr9⟩ := Kd.R_elem HX9.out z61 (x5_1 : Int) (of_decide_eq_true (by first | (with_reducible assumption) | assumption)) (by have h_ : (x5_1 : Int) < ((x0_1.length : Int) : Int) := of_decide_eq_true (by first | (with_reducible assumption) | assumption); first | exact h_ | (have e_ := (Kd.R_reads' HO_0.out).1; omega) | simpa using h_)
          obtain rfl := k61_openM hM9
          have HP9 := Kd.R_seg HX9.out (x5_1 : Int) (of_decide_eq_true (by first | (with_reducible assumption) | assumption)) (by have h_ : (x5_1 : Int) < ((x0_1.length : Int) : Int) := of_decide_eq_true (by first | (with_reducible assumption) | assumption); first | exact h_ | (have e_ := (Kd.R_reads' HO_0.out).1; omega) | simpa using h_) (seg := [.int .i64 x1_1]) (j := 0) hcl9 hcc9 (show 1 ≤ 3 from by decide) (x' := (⟨x1_1, (rd_T61 x0_1 x5_1).f1, (rd_T61 x0_1 x5_1).f2⟩ : S61)) (k61_mkM _ _ _ (⟨x1_1, (rd_T61 x0_1 x5_1).f1, (rd_T61 x0_1 x5_1).f2⟩ : S61) ) (fun _ hk => hk)
          have hx9_0 := hcc9 0 _ rfl
          (try simp only [show (k61).sz = 3 from rfl, Nat.mul_one, Nat.add_zero] at hx9_0)
          have hf9_0 := hfr9 0
          (try simp only [show (k61).sz = 3 from rfl, Nat.mul_one, Nat.add_zero] at hf9_0)
          clear hcl9 hcc9 hfr9; (try clear hM9)
          go_wp2_with (first | ((with_reducible refine gate_store (t := 3) (p := 16) rfl ?_); refine store_event (t := 3) (p := 16) (v := ?vo_w10) (w1 := (wr.setCell ⟨go5, (x5_1 : Int).toNat * 3, none⟩ (.int .i64 x1_1))) ?hg ?ho ?hn ?hr ?_; (case ho => rfl); (case hg => rfl); (case hn => rfl); (case hr => first | (go_simp; done) | (go_simp; rfl)); intro w10 hw; have hg : wr.grownBy w10 (some go5) := (by rw [hw]; exact HP9.2); have hp_ : Kd.R k61 61 w10 w0.heap.size (fun k_ => (P0_ k_ ∨ w.heap.size ≤ k_)) (.slice (some ⟨go5, 0, none⟩) x0_1.length co8) y101 := (by rw [hw, Ny101.out]; exact HP9.1); clear HP9; have n0_ := Aside0.mk (hp_); have n1_ := Aside0.mk ((by rw [hw]; exact below_set (HB.out) GB5.out : Below w0.heap.size w0 w10)); have n2_ := Aside0.mk (Kept.of_grown (S := (fun k_ => P0_ k_)) hg (by repeat (first | (with_reducible first | exact HK.out | apply Kept.alloc | apply Kept.drewN | apply Kept.drew) | exact HK.out)) (fun k_ e_ => (HO_0.out.1 k_ e_))); clear HO_0; clear HB; clear HK; have HO_0 := n0_; have HB := n1_; have HK := n2_; clear n0_ n1_ n2_; clear hg hw hp_; have p6 : 0 ≤ (x5_1 : Int) := of_decide_eq_true (by first | (with_reducible assumption) | assumption); have q6 : (x5_1 : Int) < ((x0_1.length : Int) : Int) := of_decide_eq_true (by first | (with_reducible assumption) | assumption); obtain ⟨ce6, hcl6, hM6, hcc6, hfr6⟩ := Kd.R_elem HO_0.out z61 (x5_1 : Int) p6 q6; obtain rfl := k61_openM hM6; have hx6_0 : w10.cell? ⟨go5, (x5_1 : Int).toNat * 3, none⟩ = some (.int .i64 ((rd_T61 y101 x5_1).f0)) := hcc6 0 _ rfl; have hx6_1 : w10.cell? ⟨go5, (x5_1 : Int).toNat * 3 + 1, none⟩ = some (.int .i64 ((rd_T61 y101 x5_1).f1)) := hcc6 1 _ rfl; have hx6_2 : w10.cell? ⟨go5, (x5_1 : Int).toNat * 3 + 2, none⟩ = some (.int .i64 ((rd_T61 y101 x5_1).f2)) := hcc6 2 _ rfl; have hf6_0 : w10.frozen? ⟨go5, (x5_1 : Int).toNat * 3, none⟩ = false := hfr6 0; have hf6_1 : w10.frozen? ⟨go5, (x5_1 : Int).toNat * 3 + 1, none⟩ = false := hfr6 1; have hf6_2 : w10.frozen? ⟨go5, (x5_1 : Int).toNat * 3 + 2, none⟩ = false := hfr6 2; clear hcl6 hcc6 hfr6; (try clear hM6); replace p6 := eq_true p6; replace q6 := eq_true q6; have HX11 := Aside0.mk (show Kd.R k61 61 w10 w0.heap.size (fun k_ => (P0_ k_ ∨ w.heap.size ≤ k_)) (.slice (some ⟨go5, 0, none⟩) x0_1.length co8) y101 from (by (with_reducible repeat (first | apply Kd.R_alloc | apply Kd.R_drewN | apply Kd.R_drew)); exact HO_0.out)); obtain ⟨ce11, hcl11, hM11, hcc11, hfr11⟩ := Kd.R_elem HX11.out z61 (x5_1 : Int) (of_decide_eq_true (by first | (with_reducible assumption) | assumption)) (by have h_ : (x5_1 : Int) < ((x0_1.length : Int) : Int) := of_decide_eq_true (by first | (with_reducible assumption) | assumption); first | exact h_ | (have e_ := (Kd.R_reads' HO_0.out).1; omega) | simpa using h_); obtain rfl := k61_openM hM11; have HP11 := Kd.R_seg HX11.out (x5_1 : Int) (of_decide_eq_true (by first | (with_reducible assumption) | assumption)) (by have h_ : (x5_1 : Int) < ((x0_1.length : Int) : Int) := of_decide_eq_true (by first | (with_reducible assumption) | assumption); first | exact h_ | (have e_ := (Kd.R_reads' HO_0.out).1; omega) | simpa using h_) (seg := [.int .i64 (wrap64 (x1_1 + 1))]) (j := 1) hcl11 hcc11 (show 2 ≤ 3 from by decide) (x' := (⟨(rd_T61 y101 x5_1).f0, wrap64 (x1_1 + 1), (rd_T61 y101 x5_1).f2⟩ : S61)) (k61_mkM _ _ _ (⟨(rd_T61 y101 x5_1).f0, wrap64 (x1_1 + 1), (rd_T61 y101 x5_1).f2⟩ : S61) ) (fun _ hk => hk); have hx11_1 := hcc11 1 _ rfl; (try simp only [show (k61).sz = 3 from rfl, Nat.mul_one, Nat.add_zero] at hx11_1); have hf11_1 := hfr11 1; (try simp only [show (k61).sz = 3 from rfl, Nat.mul_one, Nat.add_zero] at hf11_1); clear hcl11 hcc11 hfr11; (try clear hM11)) | ((with_reducible refine gate_store (t := 3) (p := 23) rfl ?_); refine store_event (t := 3) (p := 23) (v := ?vo_w12) (w1 := (w10.setCell ⟨go5, (x5_1 : Int).toNat * 3 + 1, none⟩ (.int .i64 (wrap64 (x1_1 + 1))))) ?hg ?ho ?hn ?hr ?_; (case ho => rfl); (case hg => rfl); (case hn => rfl); (case hr => first | (go_simp; done) | (go_simp; rfl)); intro w12 hw; have hg : w10.grownBy w12 (some go5) := (by rw [hw]; exact HP11.2); have hp_ : Kd.R k61 61 w12 w0.heap.size (fun k_ => (P0_ k_ ∨ w.heap.size ≤ k_)) (.slice (some ⟨go5, 0, none⟩) x0_1.length co8) y102 := (by rw [hw, Ny102.out]; exact HP11.1); clear HP11; have n0_ := Aside0.mk (hp_); have n1_ := Aside0.mk ((by rw [hw]; exact below_set (HB.out) GB5.out : Below w0.heap.size w0 w12)); have n2_ := Aside0.mk (Kept.of_grown (S := (fun k_ => P0_ k_)) hg (by repeat (first | (with_reducible first | exact HK.out | apply Kept.alloc | apply Kept.drewN | apply Kept.drew) | exact HK.out)) (fun k_ e_ => (HO_0.out.1 k_ e_))); clear HO_0; clear HB; clear HK; have HO_0 := n0_; have HB := n1_; have HK := n2_; clear n0_ n1_ n2_; clear hg hw hp_; have p7 : 0 ≤ (x5_1 : Int) := of_decide_eq_true (by first | (with_reducible assumption) | assumption); have q7 : (x5_1 : Int) < ((x0_1.length : Int) : Int) := of_decide_eq_true (by first | (with_reducible assumption) | assumption); obtain ⟨ce7, hcl7, hM7, hcc7, hfr7⟩ := Kd.R_elem HO_0.out z61 (x5_1 : Int) p7 q7; obtain rfl := k61_openM hM7; have hx7_0 : w12.cell? ⟨go5, (x5_1 : Int).toNat * 3, none⟩ = some (.int .i64 ((rd_T61 y102 x5_1).f0)) := hcc7 0 _ rfl; have hx7_1 : w12.cell? ⟨go5, (x5_1 : Int).toNat * 3 + 1, none⟩ = some (.int .i64 ((rd_T61 y102 x5_1).f1)) := hcc7 1 _ rfl; have hx7_2 : w12.cell? ⟨go5, (x5_1 : Int).toNat * 3 + 2, none⟩ = some (.int .i64 ((rd_T61 y102 x5_1).f2)) := hcc7 2 _ rfl; have hf7_0 : w12.frozen? ⟨go5, (x5_1 : Int).toNat * 3, none⟩ = false := hfr7 0; have hf7_1 : w12.frozen? ⟨go5, (x5_1 : Int).toNat * 3 + 1, none⟩ = false := hfr7 1; have hf7_2 : w12.frozen? ⟨go5, (x5_1 : Int).toNat * 3 + 2, none⟩ = false := hfr7 2; clear hcl7 hcc7 hfr7; (try clear hM7); replace p7 := eq_true p7; replace q7 := eq_true q7; have HX13 := Aside0.mk (show Kd.R k61 61 w12 w0.heap.size (fun k_ => (P0_ k_ ∨ w.heap.size ≤ k_)) (.slice (some ⟨go5, 0, none⟩) x0_1.length co8) y102 from (by (with_reducible repeat (first | apply Kd.R_alloc | apply Kd.R_drewN | apply Kd.R_drew)); exact HO_0.out)); obtain ⟨ce13, hcl13, hM13, hcc13, hfr13⟩ := Kd.R_elem HX13.out z61 (x5_1 : Int) (of_decide_eq_true (by first | (with_reducible assumption) | assumption)) (by have h_ : (x5_1 : Int) < ((x0_1.length : Int) : Int) := of_decide_eq_true (by first | (with_reducible assumption) | assumption); first | exact h_ | (have e_ := (Kd.R_reads' HO_0.out).1; omega) | simpa using h_); obtain rfl := k61_openM hM13; have HP13 := Kd.R_seg HX13.out (x5_1 : Int) (of_decide_eq_true (by first | (with_reducible assumption) | assumption)) (by have h_ : (x5_1 : Int) < ((x0_1.length : Int) : Int) := of_decide_eq_true (by first | (with_reducible assumption) | assumption); first | exact h_ | (have e_ := (Kd.R_reads' HO_0.out).1; omega) | simpa using h_) (seg := [.int .i64 (wrap64 ((wrap64 (x1_1 + 1)) + 1))]) (j := 2) hcl13 hcc13 (show 3 ≤ 3 from by decide) (x' := (⟨(rd_T61 y102 x5_1).f0, (rd_T61 y102 x5_1).f1, wrap64 ((wrap64 (x1_1 + 1)) + 1)⟩ : S61)) (k61_mkM _ _ _ (⟨(rd_T61 y102 x5_1).f0, (rd_T61 y102 x5_1).f1, wrap64 ((wrap64 (x1_1 + 1)) + 1)⟩ : S61) ) (fun _ hk => hk); have hx13_2 := hcc13 2 _ rfl; (try simp only [show (k61).sz = 3 from rfl, Nat.mul_one, Nat.add_zero] at hx13_2); have hf13_2 := hfr13 2; (try simp only [show (k61).sz = 3 from rfl, Nat.mul_one, Nat.add_zero] at hf13_2); clear hcl13 hcc13 hfr13; (try clear hM13)) | ((with_reducible refine gate_store (t := 3) (p := 30) rfl ?_); refine store_event (t := 3) (p := 30) (v := ?vo_w14) (w1 := (w12.setCell ⟨go5, (x5_1 : Int).toNat * 3 + 2, none⟩ (.int .i64 (wrap64 ((wrap64 (x1_1 + 1)) + 1))))) ?hg ?ho ?hn ?hr ?_; (case ho => rfl); (case hg => rfl); (case hn => rfl); (case hr => first | (go_simp; done) | (go_simp; rfl)); intro w14 hw; have hg : w12.grownBy w14 (some go5) := (by rw [hw]; exact HP13.2); have hp_ : Kd.R k61 61 w14 w0.heap.size (fun k_ => (P0_ k_ ∨ w.heap.size ≤ k_)) (.slice (some ⟨go5, 0, none⟩) x0_1.length co8) y103 := (by rw [hw, Ny103.out]; exact HP13.1); clear HP13; have n0_ := Aside0.mk (hp_); have n1_ := Aside0.mk ((by rw [hw]; exact below_set (HB.out) GB5.out : Below w0.heap.size w0 w14)); have n2_ := Aside0.mk (Kept.of_grown (S := (fun k_ => P0_ k_)) hg (by repeat (first | (with_reducible first | exact HK.out | apply Kept.alloc | apply Kept.drewN | apply Kept.drew) | exact HK.out)) (fun k_ e_ => (HO_0.out.1 k_ e_))); clear HO_0; clear HB; clear HK; have HO_0 := n0_; have HB := n1_; have HK := n2_; clear n0_ n1_ n2_; clear hg hw hp_))
          go_roundg k1
          case measure => have := HK1.out; omega
          case rel => exact ⟨(y103), (wrap64 ((wrap64 ((wrap64 (x1_1 + 1)) + 1)) + 1)), (wrap64 (x5_1 + 1)), (by first | rfl | (simp; done) | (simp [*]; done)), (by first | rfl | (simp; done) | (simp [*]; done)), H', ⟨by have := HK1.out; omega⟩, ⟨by (with_reducible repeat (first | apply Kd.R_alloc | apply Kd.R_drewN | apply Kd.R_drew)); exact HO_0.out⟩, ⟨by repeat (first | (with_reducible first | exact HK.out | apply Kept.alloc | apply Kept.drewN | apply Kept.drew) | exact HK.out)⟩, ⟨by repeat (first | (with_reducible first | exact HB.out | apply below_alloc | apply pw_below_drewN | apply below_drew1) | exact HB.out)⟩⟩
        · rw [if_neg c4] at H
          exact absurd H (by simp)
      · rw [if_neg c3] at H
        have c3b0 : decide (x5_1 < (x0_1.length : Int)) = false := decide_eq_false c3
        clear c3
        simp only [Option.some.injEq, Prod.mk.injEq] at H
        obtain ⟨rfl, rfl⟩ := H
        obtain ⟨Ao15, co15, eo15⟩ := Kd.R_slice HO_0.out
        subst eo15
        go_wp2
        go_ret
        exact ⟨by first | rfl | (simp [errW_none, errW_some] <;> rfl) | (simp [*, errW_none, errW_some] <;> rfl), by (with_reducible repeat (first | apply Kd.R_alloc | apply Kd.R_drewN | apply Kd.R_drew)); exact HO_0.out, by repeat (first | (with_reducible first | exact HB.out | apply below_alloc | apply pw_below_drewN | apply below_drew1) | exact HB.out), by repeat (first | (with_reducible first | exact HK.out | apply Kept.alloc | apply Kept.drewN | apply Kept.drew) | exact HK.out)⟩
end Go.Proofs.Ytnfiejagokefcaa.P

namespace Go.Proofs.Ytnfiejagokefcaa.P
open Go.RowKit Go.Proofs.YtnfiejagokefcaaW.PrintWords Go.Proofs.YtnfiejagokefcaaW.PrintLast Go.Proofs.Ytnfiejagokefcaa.Wm
attribute [local go_sem] max2_int min2_int max_two min_two
set_option linter.unusedVariables false
set_option linter.unusedSimpArgs false
def laws_markCut.f (k : Nat) (a0_0 : Int) (a0_1 : Int) (l0_2 : List (S61)) (a1 : Int) : Option (Int × (List (S61))) := (laws_markSquareS.f k l0_2 a1).bind fun bt102 => (some (bt102.1, bt102.2))
set_option maxHeartbeats 8000000 in
set_option maxRecDepth 100000 in
theorem laws_markCut.calls (k : Nat) (a0_0 : Int) (a0_1 : Int) (P0_2_ : Nat → Prop) (u9000_ : Value) (l0_2 : List (S61)) (a1 : Int) (r1 : Int) (r2 : List (S61)) (w0 w : World) (hB : Below w0.heap.size w0 w) (ho0_2 : Kd.R k61 61 w w0.heap.size P0_2_ u9000_ l0_2) (h : laws_markCut.f k a0_0 a0_1 l0_2 a1 = some (r1, r2)) :
    Calls Try.prog 15 #[.agg #[.int .i64 a0_0, .int .i64 a0_1, u9000_], .int .i64 a1] w fun e w' => e = .returned (.int .i64 r1) ∧ Kd.R k61 61 w' w0.heap.size (fun k_ => (P0_2_ k_ ∨ w.heap.size ≤ k_)) u9000_ r2 ∧ Below w0.heap.size w0 w' ∧ Kept w w' (fun k_ => P0_2_ k_) := by
  have hu31 := Try.underlying31
  have HO0_2 := Aside0.mk (show Kd.R k61 61 w w0.heap.size (fun k_ => (P0_2_ k_ ∨ w.heap.size ≤ k_)) u9000_ l0_2 from Kd.R_mono ho0_2 (fun k_ hk => (.inl hk)))
  have HK := Aside0.mk (Kept.refl w (fun k_ => P0_2_ k_))
  have HW0 := Aside0.mk hB.size
  have HB := Aside0.mk hB
  clear hB
  have H : ((laws_markSquareS.f k l0_2 a1).bind fun bt102 => (some (bt102.1, bt102.2))) = some (r1, r2) := h
  clear h
  replace H := Option.bind_eq_some_iff.mp H
  obtain ⟨⟨t102, t103⟩, A30, H⟩ := H
  replace H : (some (t102, t103)) = some (r1, r2) := H
  have A3 := Aside0.mk A30
  clear A30
  simp only [Option.some.injEq, Prod.mk.injEq] at H
  obtain ⟨rfl, rfl⟩ := H
  obtain ⟨Ao4, co4, eo4⟩ := Kd.R_slice HO0_2.out
  subst eo4
  go_enter Try.func15, Try.ntmps15
  go_wp2_with (first | ((with_reducible refine gate_dst (N := 2) rfl ?_); refine box_event ?hg (N := 2) ?hd (cs := #[.int .i64 a0_0, .int .i64 a0_1, .slice Ao4 l0_2.length co4]) (t := 31) ?hr ?_; (case hd => rfl); (case hg => rfl); (case hr => first | (go_simp; done) | (go_simp; rfl)); intro gb101 hg w5 hbox hb; have n0_ := Aside0.mk (Kd.R_below (by (with_reducible repeat (first | apply Kd.R_alloc | apply Kd.R_drewN | apply Kd.R_drew)); exact HO0_2.out) hb); have n1_ := Aside0.mk (Kept.below (S := (fun k_ => P0_2_ k_)) (by repeat (first | (with_reducible first | exact HK.out | apply Kept.alloc | apply Kept.drewN | apply Kept.drew) | exact HK.out)) hb); have n2_ := Aside0.mk (below_step (by repeat (first | (with_reducible first | exact HB.out | apply below_alloc | apply pw_below_drewN | apply below_drew1) | exact HB.out)) hb); have n3_ := Aside0.mk (hbox); have n4_ := Aside0.mk ((by rw [hg]; exact (by first | exact HK.out.1 | exact (show Kept w _ (fun k_ => P0_2_ k_) from by repeat (first | (with_reducible first | exact HK.out | apply Kept.alloc | apply Kept.drewN | apply Kept.drew) | exact HK.out)).1) : w.heap.size ≤ gb101)); have n5_ := Aside0.mk ((by rw [hg]; exact (below_size (by repeat (first | (with_reducible first | exact HB.out | apply below_alloc | apply pw_below_drewN | apply below_drew1) | exact HB.out))) : w0.heap.size ≤ gb101)); clear HO0_2; clear HK; clear HB; have HO0_2 := n0_; have HK := n1_; have HB := n2_; have BK101 := n3_; have GW101 := n4_; have GE101 := n5_; clear n0_ n1_ n2_ n3_ n4_ n5_; clear hb hbox hg; have hcz6_0 : w5.cell? ⟨gb101, 0, none⟩ = some (.int .i64 a0_0) := (blk_cell BK101.out 0).trans rfl; have hcz6_1 : w5.cell? ⟨gb101, 1, none⟩ = some (.int .i64 a0_1) := (blk_cell BK101.out 1).trans rfl; have hcz6_2 : w5.cell? ⟨gb101, 2, none⟩ = some (.slice Ao4 l0_2.length co4) := (blk_cell BK101.out 2).trans rfl; have hfz6_0 := blk_frozen BK101.out 0; have hfz6_1 := blk_frozen BK101.out 1; have hfz6_2 := blk_frozen BK101.out 2) | ((with_reducible refine gate_callee (f := 37) rfl ?_); refine goesL_ (some 8) rfl rfl Try.func37 (by kernel_rfl) rfl #[.slice Ao4 l0_2.length co4, .int .i64 a1] rfl (by (try simp only [List.map_toArray, List.map_cons, List.map_nil]); first | done | rfl | (simp only [List.length_drop, List.length_take]; rfl)) ?_; (with_reducible refine (laws_markSquareS.calls k (fun k_ => some k_ = (.slice Ao4 l0_2.length co4 : Value).ownBlock) (.slice Ao4 l0_2.length co4) l0_2 a1 t102 t103 w0 _ ?side1 ?side2 A3.out).mono ?_); (case side1 => repeat (first | (with_reducible first | exact HB.out | apply below_alloc | apply pw_below_drewN | apply below_drew1 | refine below_set ?_ GE101.out) | exact HB.out)); (case side2 => exact Kd.R_tight rfl HO0_2.out); rintro e w7 ⟨rfl, hy0, hb, hkp⟩; refine ⟨_, rfl, ?_⟩; have n0_ := Aside0.mk (Kd.R_reok rfl hy0 (fun k_ e_ => HO0_2.out.1 k_ e_)); have n1_ := Aside0.mk (blk_kept (by (with_reducible repeat (first | refine blk_drewN ?_ _ | refine blk_drew ?_ | refine blk_alloc ?_ _)); exact BK101.out) hkp (fun hs_ => (fun e_ => (Kd.R_ne HO0_2.out BK101.out (by decide)) e_) hs_)); have n2_ := Aside0.mk (Kept.then_ (S := (fun k_ => P0_2_ k_)) (by repeat (first | (with_reducible first | exact HK.out | apply Kept.alloc | apply Kept.drewN | apply Kept.drew | refine Kept.setCell ?_ (.inr GW101.out) _) | exact HK.out)) hkp (fun k_ hs_ => (fun e_ => (HO0_2.out.1 k_ e_.symm)) hs_)); have n3_ := Aside0.mk (hb); clear HO0_2; clear BK101; clear HK; clear HB; have HO0_2 := n0_; have BK101 := n1_; have HK := n2_; have HB := n3_; clear n0_ n1_ n2_ n3_; (try clear hb); (try clear hkp); (try clear hy0)))
  go_ret
  exact ⟨by first | rfl | (simp [errW_none, errW_some] <;> rfl) | (simp [*, errW_none, errW_some] <;> rfl), by (with_reducible repeat (first | apply Kd.R_alloc | apply Kd.R_drewN | apply Kd.R_drew)); exact HO0_2.out, by repeat (first | (with_reducible first | exact HB.out | apply below_alloc | apply pw_below_drewN | apply below_drew1 | refine below_set ?_ GE101.out) | exact HB.out), by repeat (first | (with_reducible first | exact HK.out | apply Kept.alloc | apply Kept.drewN | apply Kept.drew | refine Kept.setCell ?_ (.inr GW101.out) _) | exact HK.out)⟩
end Go.Proofs.Ytnfiejagokefcaa.P

namespace Go.Proofs.Ytnfiejagokefcaa.P
open Go.RowKit Go.Proofs.YtnfiejagokefcaaW.PrintWords Go.Proofs.YtnfiejagokefcaaW.PrintLast Go.Proofs.Ytnfiejagokefcaa.Wm
attribute [local go_sem] max2_int min2_int max_two min_two
set_option linter.unusedVariables false
set_option linter.unusedSimpArgs false
def laws_markIntS.l0 : Nat → List Int → Int → Int → Option (Int × List Int)
  | 0, _, _, _ => none
  | k + 1, x0, x1, x5 => if x5 < (x0.length : Int) then (if 0 ≤ x5 then (laws_markIntS.l0 k (x0.set (x5 : Int).toNat x1) (wrap64 (x1 + 1)) (wrap64 (x5 + 1))) else (none)) else (some (x1, x0))
def laws_markIntS.f (k : Nat) (l0 : List Int) (a1 : Int) : Option (Int × List Int) := laws_markIntS.l0 k l0 a1 0
set_option maxHeartbeats 8000000 in
set_option maxRecDepth 100000 in
theorem laws_markIntS.calls (k : Nat) (P0_ : Nat → Prop) (u9000_ : Value) (l0 : List Int) (a1 : Int) (r1 : Int) (r2 : List Int) (w0 w : World) (hB : Below w0.heap.size w0 w) (ho0 : Kd.R (Kd.int .i64) 3 w w0.heap.size P0_ u9000_ l0) (h : laws_markIntS.f k l0 a1 = some (r1, r2)) :
    Calls Try.prog 16 #[u9000_, .int .i64 a1] w fun e w' => e = .returned (.int .i64 r1) ∧ Kd.R (Kd.int .i64) 3 w' w0.heap.size (fun k_ => (P0_ k_ ∨ w.heap.size ≤ k_)) u9000_ r2 ∧ Below w0.heap.size w0 w' ∧ Kept w w' (fun k_ => P0_ k_) := by
  have HO0 := Aside0.mk (show Kd.R (Kd.int .i64) 3 w w0.heap.size (fun k_ => (P0_ k_ ∨ w.heap.size ≤ k_)) u9000_ l0 from Kd.R_mono ho0 (fun k_ hk => (.inl hk)))
  have HK := Aside0.mk (Kept.refl w (fun k_ => P0_ k_))
  have HW0 := Aside0.mk hB.size
  have HB := Aside0.mk hB
  clear hB
  have H : (laws_markIntS.l0 k l0 a1 0) = some (r1, r2) := h
  clear h
  have H' := Aside0.mk H
  clear H
  go_enter Try.func16, Try.ntmps16
  go_wp2
  go_loopg [1, 5] k (fun kq v1 v5 w' => ∃ (x0_1 : List Int) (x1_1 : Int) (x5_1 : Int), v1 = .int .i64 x1_1 ∧ v5 = .int .i64 x5_1 ∧ Aside0 (laws_markIntS.l0 kq x0_1 x1_1 x5_1 = some (r1, r2)) ∧ Aside0 (kq ≤ k) ∧ Aside0 (Kd.R (Kd.int .i64) 3 w' w0.heap.size (fun k_ => (P0_ k_ ∨ w.heap.size ≤ k_)) u9000_ x0_1) ∧ Aside0 (Kept w w' (fun k_ => P0_ k_)) ∧ Aside0 (Below w0.heap.size w0 w'))
  case atStart => exact ⟨(l0), (a1), (0), (by first | rfl | (simp; done) | (simp [*]; done)), (by first | rfl | (simp; done) | (simp [*]; done)), H', ⟨Nat.le_refl _⟩, ⟨by (with_reducible repeat (first | apply Kd.R_alloc | apply Kd.R_drewN | apply Kd.R_drew)); exact HO0.out⟩, ⟨by repeat (first | (with_reducible first | exact HK.out | apply Kept.alloc | apply Kept.drewN | apply Kept.drew) | exact HK.out)⟩, ⟨by repeat (first | (with_reducible first | exact HB.out | apply below_alloc | apply pw_below_drewN | apply below_drew1) | exact HB.out)⟩⟩
  case round =>
    clear H'
    try clear c1
    try clear p2
    obtain ⟨x0_1, x1_1, x5_1, rfl, rfl, HA, HK1, HO_0, HK, HB⟩ := hrel
    cases gk with
    | zero => exact absurd HA.out (by simp [laws_markIntS.l0])
    | succ k1 =>
      have H := HA.out
      clear HA
      simp only [laws_markIntS.l0] at H
      by_cases c3 : x5_1 < (x0_1.length : Int)
      · rw [if_pos c3] at H
        have c3b0 : decide (x5_1 < (x0_1.length : Int)) = true := decide_eq_true c3
        clear c3
        by_cases c4 : 0 ≤ x5_1
        · rw [if_pos c4] at H
          have c4b0 : decide (0 ≤ x5_1) = true := decide_eq_true c4
          clear c4
          obtain ⟨y101, hy101⟩ : ∃ y_ : List Int, y_ = (x0_1.set (x5_1 : Int).toNat x1_1) := ⟨_, rfl⟩
          replace H : (laws_markIntS.l0 k1 y101 (wrap64 (x1_1 + 1)) (wrap64 (x5_1 + 1))) = some (r1, r2) := by first | (rw [hy101]; with_reducible exact H) | (have H2_ := (Option.bind_some _ _).symm.trans H; rw [hy101]; with_reducible exact H2_) | (have H2_ := (Option.bind_some _ _).symm.trans H; with_reducible exact H2_) | with_reducible exact H | (rw [hy101]; exact H) | exact H
          have Ny101 := Aside0.mk hy101
          clear hy101
          have H' := Aside0.mk H
          clear H
          obtain ⟨Ao6, co6, eo6⟩ := Kd.R_slice HO_0.out
          subst eo6
          have p5 : 0 ≤ (x5_1 : Int) := of_decide_eq_true (by first | (with_reducible assumption) | assumption)
          have q5 : (x5_1 : Int) < ((x0_1.length : Int) : Int) := of_decide_eq_true (by first | (with_reducible assumption) | assumption)
          obtain ⟨go5, co5, eo5, gb5, gl5, cl5, HG5⟩ := Kd.R_form HO_0.out (by omega)
          (first | cases eo5 | (injection eo5 with ea_ en_ ec_; (first | subst ea_ | (injection ea_ with ea_; subst ea_)); subst ec_; clear en_))
          have GB5 := Aside0.mk gb5
          have GG5 := Aside0.mk HG5
          clear gb5 gl5 HG5
          have HMgo5 := Aside0.mk (show (P0_ go5 ∨ w.heap.size ≤ go5) from (HO_0.out.1 _ rfl))
          obtain ⟨hx5_0, hf5_0⟩ := Kd.R_celln 0 HO_0.out (x5_1 : Int) p5 q5
          replace p5 := eq_true p5
          replace q5 := eq_true q5
          have HP7 := Kd.R_putg HO_0.out (x5_1 : Int) x1_1
          go_wp2_with (first | ((with_reducible refine gate_store (t := 3) (p := 15) rfl ?_); refine store_event (t := 3) (p := 15) (v := ?vo_w8) (w1 := (wr.setCell ⟨go5, (x5_1 : Int).toNat, none⟩ (.int .i64 x1_1))) ?hg ?ho ?hn ?hr ?_; (case ho => rfl); (case hg => rfl); (case hn => rfl); (case hr => first | (go_simp; done) | (go_simp; rfl)); intro w8 hw; have hg : wr.grownBy w8 (some go5) := (by rw [hw]; exact HP7.2); have hp_ : Kd.R (Kd.int .i64) 3 w8 w0.heap.size (fun k_ => (P0_ k_ ∨ w.heap.size ≤ k_)) (.slice (some ⟨go5, 0, none⟩) x0_1.length co6) y101 := (by rw [hw, Ny101.out]; exact HP7.1); clear HP7; have n0_ := Aside0.mk (hp_); have n1_ := Aside0.mk ((by rw [hw]; exact below_set (HB.out) GB5.out : Below w0.heap.size w0 w8)); have n2_ := Aside0.mk (Kept.of_grown (S := (fun k_ => P0_ k_)) hg (by repeat (first | (with_reducible first | exact HK.out | apply Kept.alloc | apply Kept.drewN | apply Kept.drew) | exact HK.out)) (fun k_ e_ => (HO_0.out.1 k_ e_))); clear HO_0; clear HB; clear HK; have HO_0 := n0_; have HB := n1_; have HK := n2_; clear n0_ n1_ n2_; clear hg hw hp_))
          go_roundg k1
          case measure => have := HK1.out; omega
          case rel => exact ⟨(y101), (wrap64 (x1_1 + 1)), (wrap64 (x5_1 + 1)), (by first | rfl | (simp; done) | (simp [*]; done)), (by first | rfl | (simp; done) | (simp [*]; done)), H', ⟨by have := HK1.out; omega⟩, ⟨by (with_reducible repeat (first | apply Kd.R_alloc | apply Kd.R_drewN | apply Kd.R_drew)); exact HO_0.out⟩, ⟨by repeat (first | (with_reducible first | exact HK.out | apply Kept.alloc | apply Kept.drewN | apply Kept.drew) | exact HK.out)⟩, ⟨by repeat (first | (with_reducible first | exact HB.out | apply below_alloc | apply pw_below_drewN | apply below_drew1) | exact HB.out)⟩⟩
        · rw [if_neg c4] at H
          exact absurd H (by simp)
      · rw [if_neg c3] at H
        have c3b0 : decide (x5_1 < (x0_1.length : Int)) = false := decide_eq_false c3
        clear c3
        simp only [Option.some.injEq, Prod.mk.injEq] at H
        obtain ⟨rfl, rfl⟩ := H
        obtain ⟨Ao9, co9, eo9⟩ := Kd.R_slice HO_0.out
        subst eo9
        go_wp2
        go_ret
        exact ⟨by first | rfl | (simp [errW_none, errW_some] <;> rfl) | (simp [*, errW_none, errW_some] <;> rfl), by (with_reducible repeat (first | apply Kd.R_alloc | apply Kd.R_drewN | apply Kd.R_drew)); exact HO_0.out, by repeat (first | (with_reducible first | exact HB.out | apply below_alloc | apply pw_below_drewN | apply below_drew1) | exact HB.out), by repeat (first | (with_reducible first | exact HK.out | apply Kept.alloc | apply Kept.drewN | apply Kept.drew) | exact HK.out)⟩
end Go.Proofs.Ytnfiejagokefcaa.P

namespace Go.Proofs.Ytnfiejagokefcaa.P
open Go.RowKit Go.Proofs.YtnfiejagokefcaaW.PrintWords Go.Proofs.YtnfiejagokefcaaW.PrintLast Go.Proofs.Ytnfiejagokefcaa.Wm
attribute [local go_sem] max2_int min2_int max_two min_two
set_option linter.unusedVariables false
set_option linter.unusedSimpArgs false
def laws_heldIntS.l0 : Nat → List Int → Int → Int → Option (Int)
  | 0, _, _, _ => none
  | k + 1, x0, x1, x5 => if x5 < (x0.length : Int) then (if 0 ≤ x5 then (if (rd x0 x5) = x1 then (laws_heldIntS.l0 k x0 (wrap64 (x1 + 1)) (wrap64 (x5 + 1))) else (some (-1))) else (none)) else (some x1)
def laws_heldIntS.f (k : Nat) (l0 : List Int) (a1 : Int) : Option (Int) := laws_heldIntS.l0 k l0 a1 0
set_option maxHeartbeats 8000000 in
set_option maxRecDepth 100000 in
theorem laws_heldIntS.calls (k : Nat) (A0 : Option Addr) (c0 : Nat) (l0 : List Int) (a1 : Int) (r : Int) (w : World) (hr0 : Kd.C (Kd.int .i64) w A0 l0.length l0) (hc0 : l0.length ≤ c0) (h : laws_heldIntS.f k l0 a1 = some r) :
    Calls Try.prog 17 #[.slice A0 l0.length c0, .int .i64 a1] w fun e w' => e = .returned (.int .i64 r) ∧ Drawn0 w w' := by
  have HR0 := Aside0.mk hr0
  have HC0 := Aside0.mk hc0
  clear hr0 hc0
  have H : (laws_heldIntS.l0 k l0 a1 0) = some r := h
  clear h
  have H' := Aside0.mk H
  clear H
  go_enter Try.func17, Try.ntmps17
  go_wp2
  go_loopg [1, 5] k (fun kq v1 v5 w' => ∃ (x1_1 : Int) (x5_1 : Int), v1 = .int .i64 x1_1 ∧ v5 = .int .i64 x5_1 ∧ Aside0 (laws_heldIntS.l0 kq l0 x1_1 x5_1 = some r) ∧ Aside0 (kq ≤ k) ∧ Drawn0 w w')
  case atStart => exact ⟨(a1), (0), (by first | rfl | (simp; done) | (simp [*]; done)), (by first | rfl | (simp; done) | (simp [*]; done)), H', ⟨Nat.le_refl _⟩, by repeat (first | exact Drawn0.refl _ | apply Drawn0.step)⟩
  case round =>
    clear H'
    try clear c1
    try clear p2
    obtain ⟨x1_1, x5_1, rfl, rfl, HA, HK1, ⟨m1, rfl⟩⟩ := hrel
    cases gk with
    | zero => exact absurd HA.out (by simp [laws_heldIntS.l0])
    | succ k1 =>
      have H := HA.out
      clear HA
      simp only [laws_heldIntS.l0] at H
      by_cases c3 : x5_1 < (l0.length : Int)
      · rw [if_pos c3] at H
        have c3b0 : decide (x5_1 < (l0.length : Int)) = true := decide_eq_true c3
        clear c3
        by_cases c4 : 0 ≤ x5_1
        · rw [if_pos c4] at H
          have c4b0 : decide (0 ≤ x5_1) = true := decide_eq_true c4
          clear c4
          by_cases c5 : (rd l0 x5_1) = x1_1
          · rw [if_pos c5] at H
            have c5b0 : ((rd l0 x5_1) == x1_1) = true := beq_iff_eq.mpr c5
            have c5b1 : ((rd l0 x5_1) != x1_1) = false := bne_eq_false_iff_eq.mpr c5
            clear c5
            have H' := Aside0.mk H
            clear H
            have p101 : 0 ≤ (x5_1 : Int) := of_decide_eq_true (by first | (with_reducible assumption) | assumption)
            have q101 : x5_1 < (l0.length : Int) := of_decide_eq_true (by first | (with_reducible assumption) | assumption)
            obtain ⟨ad101, e101, hx101_0⟩ := Kd.at_int HR0.out x5_1 p101 q101
            cases e101
            replace p101 := eq_true p101
            replace q101 := eq_true q101
            go_wp2
            go_roundg k1
            case measure => have := HK1.out; omega
            case rel => exact ⟨(wrap64 (x1_1 + 1)), (wrap64 (x5_1 + 1)), (by first | rfl | (simp; done) | (simp [*]; done)), (by first | rfl | (simp; done) | (simp [*]; done)), H', ⟨by have := HK1.out; omega⟩, by repeat (first | exact Drawn0.refl _ | apply Drawn0.step)⟩
          · rw [if_neg c5] at H
            have c5b0 : ((rd l0 x5_1) == x1_1) = false := beq_eq_false_iff_ne.mpr c5
            have c5b1 : ((rd l0 x5_1) != x1_1) = true := bne_iff_ne.mpr c5
            obtain rfl := Option.some.inj H
            have p101 : 0 ≤ (x5_1 : Int) := of_decide_eq_true (by first | (with_reducible assumption) | assumption)
            have q101 : x5_1 < (l0.length : Int) := of_decide_eq_true (by first | (with_reducible assumption) | assumption)
            obtain ⟨ad101, e101, hx101_0⟩ := Kd.at_int HR0.out x5_1 p101 q101
            cases e101
            replace p101 := eq_true p101
            replace q101 := eq_true q101
            go_wp2
            go_ret
            exact ⟨by first | rfl | (simp; done) | (simp [*]; done), by repeat (first | exact Drawn0.refl _ | apply Drawn0.step)⟩
        · rw [if_neg c4] at H
          exact absurd H (by simp)
      · rw [if_neg c3] at H
        have c3b0 : decide (x5_1 < (l0.length : Int)) = false := decide_eq_false c3
        clear c3
        obtain rfl := Option.some.inj H
        go_wp2
        go_ret
        exact ⟨by first | rfl | (simp; done) | (simp [*]; done), by repeat (first | exact Drawn0.refl _ | apply Drawn0.step)⟩
end Go.Proofs.Ytnfiejagokefcaa.P

namespace Go.Proofs.Ytnfiejagokefcaa.RowAid
open Go.RowKit Go.ChangeShapes Go.WideShapes Go.Deep Go.Joins Go.Proofs.YtnfiejagokefcaaW.PrintWords Go.Proofs.Ytnfiejagokefcaa.T
set_option linter.unusedVariables false
theorem list_of {α : Type} (P : Nat → α → Prop) : ∀ n : Nat, (∀ i, i < n → ∃ x, P i x) → ∃ l : List α, l.length = n ∧ ∀ i x, l[i]? = some x → P i x
  | 0, _ => ⟨[], rfl, fun i x h => by simp at h⟩
  | n + 1, h => by
    obtain ⟨l, hl, hp⟩ := list_of P n (fun i hi => h i (by omega))
    obtain ⟨x, hx⟩ := h n (by omega)
    refine ⟨l ++ [x], by simp [hl], fun i y hy => ?_⟩
    rw [List.getElem?_append] at hy
    split at hy
    · exact hp i y hy
    · have hi : i - l.length = 0 := by
        rcases Nat.eq_zero_or_pos (i - l.length) with h0 | h0
        · exact h0
        · rw [List.getElem?_eq_none (by simp; omega)] at hy; cases hy
      rw [hi] at hy
      injection hy with hy
      subst hy
      rw [show i = n by omega]; exact hx
def kq : Kd Sq := Kd.iso (Kd.pair (Kd.int .i64) (Kd.pair (Kd.int .i64) (Kd.int .i64))) (fun x : Sq => (x.f0, x.f1, x.f2))
def wfq (x : Sq) : Prop := (Lit.int .i64 x.f0).wf = true ∧ (Lit.int .i64 x.f1).wf = true ∧ (Lit.int .i64 x.f2).wf = true
section
variable {H : Type} {enc : TypeId × Value → H} {P : Program} {w : World} {base : Nat} {spare : Nat → Bool} {held : Bool}
theorem open_squares {t e ti : TypeId} {n0 n1 n2 : Field} {fuel : Nat} {v : Value} {x : DataW H × List MemPlace} (ht : P.underlying t = some (.slice e)) (he : P.underlying e = some (.struct #[n0, n1, n2]))
    (hi : P.underlying ti = some (.int .i64)) (h0 : n0.type = ti ∧ n0.offset = 0) (h1 : n1.type = ti ∧ n1.offset = 1) (h2 : n2.type = ti ∧ n2.offset = 2) (hC : P.cellsOf e = 3) (hC1 : P.cellsOf ti = 1)
    (h : DataW.trod enc P w base spare held fuel t [v] = some x) :
    ∃ (A : Option Addr) (c : Nat) (l : List Sq), v = .slice A l.length c ∧ l.length ≤ c ∧ c ≤ maxLen ∧ Kd.C kq w A l.length l ∧ ∀ q ∈ l, wfq q := by
  rcases open_slice ht h with ⟨h, _⟩ | ⟨a, len, cap, m, n, D, Pl, hcs, _, hl, hm, hmm, _, hel⟩
  · injection h with h
    subst h
    exact ⟨none, 0, [], rfl, Nat.le_refl _, Nat.zero_le _, ⟨rfl, by simp, fun h => absurd h (by simp)⟩, fun q hq => by cases hq⟩
  · injection hcs with hv
    subst hv
    have hlm : len ≤ m := by rw [hmm]; split <;> omega
    obtain ⟨l, hll, hp⟩ := list_of (fun i (q : Sq) => wfq q ∧ ∀ j u, [Value.int .i64 q.f0, Value.int .i64 q.f1, Value.int .i64 q.f2][j]? = some u → w.cell? (a.add (i * 3 + j)) = some u) len (fun i hil => by
      obtain ⟨cs, hc, htr⟩ := hel i (by omega)
      obtain ⟨y0, y1, y2, n', _, hcl, e0, e1, e2⟩ := trod_struct3 he htr
      rw [hC] at hcl hc
      obtain ⟨_, _, hat⟩ := World.cells?_some hc
      match cs, hcl with
      | [c0, c1, c2], _ =>
        rw [h0.1, h0.2, hC1] at e0
        rw [h1.1, h1.2, hC1] at e1
        rw [h2.1, h2.2, hC1] at e2
        obtain ⟨z0, q0, _, w0⟩ := DataW.trod_int hi e0
        obtain ⟨z1, q1, _, w1⟩ := DataW.trod_int hi e1
        obtain ⟨z2, q2, _, w2⟩ := DataW.trod_int hi e2
        simp at q0 q1 q2
        subst q0 q1 q2
        refine ⟨⟨z0, z1, z2⟩, ⟨w0, w1, w2⟩, fun j u hu => ?_⟩
        have hj : j < 3 := by have := (List.getElem?_eq_some_iff.1 hu).1; simpa using this
        rw [← Go.Deep.add_add, hat j hj, hu])
    subst hll
    refine ⟨some a, cap, l, rfl, hl, hm, ⟨rfl, by unfold maxLen at hm; omega, fun _ => ⟨a, rfl, fun j p hj => ?_⟩⟩, fun q hq => ?_⟩
    · exact ⟨[.int .i64 p.f0, .int .i64 p.f1, .int .i64 p.f2], rfl, ⟨[.int .i64 p.f0], [.int .i64 p.f1, .int .i64 p.f2], rfl, rfl, ⟨[.int .i64 p.f1], [.int .i64 p.f2], rfl, rfl, rfl⟩⟩, (hp j p hj).2⟩
    · obtain ⟨i, hi'⟩ := List.mem_iff_getElem?.1 hq
      exact (hp i q hi').1
theorem open_cut {r : Reach} {b0 : Nat} {t tsl e ti : TypeId} {f0 f1 f2 n0 n1 n2 : Field} {v : Value} {d : DataW H} {p : List MemPlace} (hs : P.underlying t = some (.struct #[f0, f1, f2])) (hone : oneCellFields P #[f0, f1, f2] = true) (hCt : P.cellsOf t = 3)
    (g0 : f0.type = ti) (g1 : f1.type = ti) (g2 : f2.type = tsl) (ht : P.underlying tsl = some (.slice e)) (he : P.underlying e = some (.struct #[n0, n1, n2]))
    (hi : P.underlying ti = some (.int .i64)) (h0 : n0.type = ti ∧ n0.offset = 0) (h1 : n1.type = ti ∧ n1.offset = 1) (h2 : n2.type = ti ∧ n2.offset = 2) (hC : P.cellsOf e = 3) (hC1 : P.cellsOf ti = 1)
    (hv : Value.okWide P w r b0 t v) (h : DataW.Trod enc P w base spare held t v d p) :
    ∃ (x y : Int) (A : Option Addr) (c : Nat) (l : List Sq), v = .agg #[.int .i64 x, .int .i64 y, .slice A l.length c] ∧ (Lit.int .i64 x).wf = true ∧ (Lit.int .i64 y).wf = true ∧ l.length ≤ c ∧ c ≤ maxLen ∧ Kd.C kq w A l.length l ∧ ∀ q ∈ l, wfq q := by
  obtain ⟨va, vb, vc, ya, yb, yc, n, rfl, _, _, ha, hb, hc⟩ := open_agg3 hs hone hCt hv h
  rw [g0] at ha
  rw [g1] at hb
  rw [g2] at hc
  obtain ⟨x, q0, _, w0⟩ := DataW.trod_int hi ha
  obtain ⟨y, q1, _, w1⟩ := DataW.trod_int hi hb
  injection q0 with q0
  injection q1 with q1
  subst q0 q1
  obtain ⟨A, c, l, rfl, hl, hm, hC', hw⟩ := open_squares ht he hi h0 h1 h2 hC hC1 hc
  exact ⟨x, y, A, c, l, rfl, w0, w1, hl, hm, hC', hw⟩
end
end Go.Proofs.Ytnfiejagokefcaa.RowAid

namespace Go.Proofs.Ytnfiejagokefcaa.P
open Go.RowKit Go.Proofs.YtnfiejagokefcaaW.PrintWords Go.Proofs.YtnfiejagokefcaaW.PrintLast Go.Proofs.Ytnfiejagokefcaa.Wm
attribute [local go_sem] max2_int min2_int max_two min_two
set_option linter.unusedVariables false
set_option linter.unusedSimpArgs false
open Go.Proofs.Ytnfiejagokefcaa.T Go.Proofs.Ytnfiejagokefcaa.LawAid
def laws_FnExactLinesAcross.Pure : Prop := ∀ (a0_0 a0_1 : Int) (l0_2 : List S64), (Lit.int .i64 a0_0).wf = true → (Lit.int .i64 a0_1).wf = true → l0_2.length ≤ maxLen → (∀ q ∈ l0_2, RowAid.wfq q) → ∃ z0, (laws_szCut.f a0_0 a0_1 l0_2 1048576 = some (z0)) ∧ (z0 < 0 ∨ ∃ (r1 : List Int) (r2 : Bool) (m1 : Int) (ym1 : List Sq) (m2 : Int) (ym2 : List Int), (∃ k, laws_toCut.f k a0_0 a0_1 l0_2 = some (a0_0, a0_1, l0_2)) ∧ (∃ k, spec_LinesAcross.f k a0_0 a0_1 l0_2 = some (r1, r2)) ∧ (impl_LinesAcross.f a0_0 a0_1 l0_2 = some (r1, r2)) ∧ (∃ k, laws_eqIntS.f k r1 r1 = some (true)) ∧ (∃ k, laws_eqCut.f k a0_0 a0_1 l0_2 a0_0 a0_1 l0_2 = some (true)) ∧ (∃ k, laws_markCut.f k a0_0 a0_1 l0_2 1 = some (m1, ym1)) ∧ (∃ k, laws_markIntS.f k r1 1 = some (m2, ym2)) ∧ (∃ k, laws_heldIntS.f k ym2 1 = some (m2)) ∧ ¬ m1 < 0 ∧ ¬ m2 < 0)
set_option maxHeartbeats 8000000 in
set_option maxRecDepth 100000 in
theorem laws_FnExactLinesAcross.walk (P : laws_FnExactLinesAcross.Pure) (a0_0 a0_1 : Int) (A0_2 : Option Addr) (c0_2 : Nat) (l0_2 : List S64) (w : World) (u0_0 : (Lit.int .i64 a0_0).wf = true) (u0_1 : (Lit.int .i64 a0_1).wf = true) (u0_2 : l0_2.length ≤ maxLen) (u0_3 : ∀ q ∈ l0_2, RowAid.wfq q) (hr0_2 : Kd.C k64 w A0_2 l0_2.length l0_2) (hc0_2 : l0_2.length ≤ c0_2) :
    Calls Try.prog 3 #[.agg #[.int .i64 a0_0, .int .i64 a0_1, .slice A0_2 l0_2.length c0_2]] w fun e w' => e = .returned (.bool true) ∧ Below w.heap.size w w' := by
  have HR0 := Aside0.mk hr0_2
  have HC0 := Aside0.mk hc0_2
  clear hr0_2 hc0_2
  have hup0 := Try.underlying24
  have hui := Try.underlying31
  have P := P a0_0 a0_1 l0_2 u0_0 u0_1 u0_2 u0_3
  clear u0_0 u0_1 u0_2 u0_3
  obtain ⟨z0, g1, P⟩ := P
  have G1 := Aside0.mk g1
  clear g1
  by_cases hz : z0 < 0
  · have bz0 := decide_eq_true hz
    clear hz P
    go_enter Try.func3, Try.ntmps3
    have HS1 := Aside0.mk (hs_start (Below.refl w.heap.size w))
    have HS2 := Aside0.mk (hs_box (W := w) (cs := #[.int .i64 a0_0, .int .i64 a0_1, .slice A0_2 l0_2.length c0_2]) (t := 24) w.heap.size rfl HS1.out)
    clear HS1
    obtain ⟨x1a, x1b, x1c⟩ := blk3 (HS2.out _ (Below.refl _ _)).1
    go_wp2_with fail
    refine (laws_szCut.calls (a0_0 := a0_0) (a0_1 := a0_1) (l0_2 := l0_2) (a1 := 1048576) (hr0_2 := Kd.C_below HR0.out (HS2.out _ (Below.refl _ _)).2) (hc0_2 := HC0.out) (w := _) (h := G1.out)).mono ?_
    rintro e w1 ⟨rfl, hb⟩
    have HS3 := Aside0.mk (hs_step hb HS2.out)
    clear HS2
    clear hb
    clear x1a x1b x1c
    go_wp2_with fail
    go_ret
    exact ⟨rfl, (HS3.out _ (Below.refl _ _)).2⟩
  replace P := P.resolve_left hz
  have bz0 := decide_eq_false hz
  clear hz
  obtain ⟨r1, r2, m1, ym1, m2, ym2, g2, g3, g4, g5, g6, g7, g8, g9, pm1, pm2⟩ := P
  have G2 := Aside0.mk g2
  have G3 := Aside0.mk g3
  have G4 := Aside0.mk g4
  have G5 := Aside0.mk g5
  have G6 := Aside0.mk g6
  have G7 := Aside0.mk g7
  have G8 := Aside0.mk g8
  have G9 := Aside0.mk g9
  have bm1 := decide_eq_false pm1
  have bm2 := decide_eq_false pm2
  clear g2 g3 g4 g5 g6 g7 g8 g9 pm1 pm2
  go_enter Try.func3, Try.ntmps3
  have HS1 := Aside0.mk (hs_start (Below.refl w.heap.size w))
  have HS2 := Aside0.mk (hs_box (W := w) (cs := #[.int .i64 a0_0, .int .i64 a0_1, .slice A0_2 l0_2.length c0_2]) (t := 24) w.heap.size rfl HS1.out)
  clear HS1
  obtain ⟨x1a, x1b, x1c⟩ := blk3 (HS2.out _ (Below.refl _ _)).1
  go_wp2_with fail
  refine (laws_szCut.calls (a0_0 := a0_0) (a0_1 := a0_1) (l0_2 := l0_2) (a1 := 1048576) (hr0_2 := Kd.C_below HR0.out (HS2.out _ (Below.refl _ _)).2) (hc0_2 := HC0.out) (w := _) (h := G1.out)).mono ?_
  rintro e w1 ⟨rfl, hb⟩
  have HS3 := Aside0.mk (hs_step hb HS2.out)
  clear HS2
  clear hb
  clear x1a x1b x1c
  obtain ⟨x2a, x2b, x2c⟩ := blk3 (HS3.out _ (Below.refl _ _)).1
  go_wp2_with fail
  refine (laws_toCut.calls (k := _) (a0_0 := a0_0) (a0_1 := a0_1) (l0_2 := l0_2) (hr0_2 := Kd.C_below HR0.out (HS3.out _ (Below.refl _ _)).2) (hc0_2 := HC0.out) (w := _) (h := G2.out.choose_spec)).mono ?_
  rintro e w2 ⟨vw20, rfl, ho0, hb⟩
  replace ho0 := row_tight rfl ho0 (HS3.out _ (Below.refl _ _)).2
  obtain ⟨Aw20, cw20, rfl⟩ := Kd.R_slice ho0
  have HS4 := Aside0.mk (hs_row ho0 (hs_step hb HS3.out))
  clear HS3
  clear hb ho0
  clear x2a x2b x2c
  go_wp2_with fail
  refine (spec_LinesAcross.calls (k := _) (a0_0 := a0_0) (a0_1 := a0_1) (l0_2 := l0_2) (hr0_2 := (Kd.R_reads' (HS4.out _ (Below.refl _ _)).1).2.2) (hc0_2 := (Kd.R_reads' (HS4.out _ (Below.refl _ _)).1).2.1) (w := _) (h := G3.out.choose_spec)).mono ?_
  rintro e w3 ⟨vw30, rfl, ho0, hb⟩
  have NEw30_w20 := Aside0.mk (ne_new (HS4.out _ (Below.refl _ _)).1 ho0)
  replace ho0 := row_tight rfl ho0 (HS4.out _ (Below.refl _ _)).2.2
  obtain ⟨Aw30, cw30, rfl⟩ := Kd.R_slice ho0
  have HS5 := Aside0.mk (hs_row ho0 (hs_step hb HS4.out))
  clear HS4
  clear hb ho0
  have HS6 := Aside0.mk (fun V hV => And.intro (HS5.out V hV).1 (And.intro (HS5.out V hV).2.2.1 ((HS5.out V hV).2.2.2)))
  clear HS5
  obtain ⟨x3a, x3b, x3c⟩ := blk3 (HS6.out _ (Below.refl _ _)).2.1
  go_wp2_with fail
  refine (laws_toCut.calls (k := _) (a0_0 := a0_0) (a0_1 := a0_1) (l0_2 := l0_2) (hr0_2 := Kd.C_below HR0.out (HS6.out _ (Below.refl _ _)).2.2) (hc0_2 := HC0.out) (w := _) (h := G2.out.choose_spec)).mono ?_
  rintro e w4 ⟨vw40, rfl, ho0, hb⟩
  have NEw40_w30 := Aside0.mk (ne_new (HS6.out _ (Below.refl _ _)).1 ho0)
  replace ho0 := row_tight rfl ho0 (HS6.out _ (Below.refl _ _)).2.2
  obtain ⟨Aw40, cw40, rfl⟩ := Kd.R_slice ho0
  have HS7 := Aside0.mk (hs_row ho0 (hs_step hb HS6.out))
  clear HS6
  clear hb ho0
  clear x3a x3b x3c
  have HS8 := Aside0.mk (hs_box (W := w4) (cs := #[.int .i64 a0_0, .int .i64 a0_1, .slice Aw40 l0_2.length cw40]) (t := 31) w4.heap.size rfl HS7.out)
  clear HS7
  obtain ⟨x4a, x4b, x4c⟩ := blk3 (HS8.out _ (Below.refl _ _)).1
  go_wp2_with fail
  refine (impl_LinesAcross.calls (a0_0 := a0_0) (a0_1 := a0_1) (l0_2 := l0_2) (hr0_2 := (Kd.R_reads' (HS8.out _ (Below.refl _ _)).2.1).2.2) (hc0_2 := (Kd.R_reads' (HS8.out _ (Below.refl _ _)).2.1).2.1) (w := _) (h := G4.out)).mono ?_
  rintro e w5 ⟨vw50, rfl, ho0, hb⟩
  have NEw50_w30 := Aside0.mk (ne_new (HS8.out _ (Below.refl _ _)).2.2.1 ho0)
  have NEw50_w40 := Aside0.mk (ne_new (HS8.out _ (Below.refl _ _)).2.1 ho0)
  replace ho0 := row_tight rfl ho0 (HS8.out _ (Below.refl _ _)).2.2.2.2
  obtain ⟨Aw50, cw50, rfl⟩ := Kd.R_slice ho0
  have HS9 := Aside0.mk (hs_row ho0 (hs_step hb HS8.out))
  clear HS8
  clear hb ho0
  clear x4a x4b x4c
  go_wp2_with fail
  refine (laws_eqIntS.calls (k := _) (l0 := r1) (l1 := r1) (hr0 := (Kd.R_reads' (HS9.out _ (Below.refl _ _)).1).2.2) (hc0 := (Kd.R_reads' (HS9.out _ (Below.refl _ _)).1).2.1) (hr1 := (Kd.R_reads' (HS9.out _ (Below.refl _ _)).2.2.2.1).2.2) (hc1 := (Kd.R_reads' (HS9.out _ (Below.refl _ _)).2.2.2.1).2.1) (w := _) (h := G5.out.choose_spec)).mono ?_
  rintro e w6 ⟨rfl, hb⟩
  have HS10 := Aside0.mk (hs_step hb.below HS9.out)
  clear HS9
  clear hb
  go_wp2_with fail
  have HS11 := Aside0.mk (hs_drew HS10.out)
  clear HS10
  refine start_ (n := 5) (S := fun w' => w'.cell? ⟨w4.heap.size, 0, none⟩ = some (.int .i64 a0_0) ∧ w'.cell? ⟨w4.heap.size, 1, none⟩ = some (.int .i64 a0_1) ∧ w'.cell? ⟨w4.heap.size, 2, none⟩ = some (.slice Aw40 l0_2.length cw40) ∧ w'.cell? ⟨w.heap.size, 0, none⟩ = some (.int .i64 a0_0) ∧ w'.cell? ⟨w.heap.size, 1, none⟩ = some (.int .i64 a0_1) ∧ w'.cell? ⟨w.heap.size, 2, none⟩ = some (.slice A0_2 l0_2.length c0_2)) (ds := []) #[false, false, false, false, false] (by kernel_rfl) rfl rfl ⟨(blk_cell (HS11.out _ (Below.refl _ _)).2.1 0).trans rfl, (blk_cell (HS11.out _ (Below.refl _ _)).2.1 1).trans rfl, (blk_cell (HS11.out _ (Below.refl _ _)).2.1 2).trans rfl, (blk_cell (HS11.out _ (Below.refl _ _)).2.2.2.2.1 0).trans rfl, (blk_cell (HS11.out _ (Below.refl _ _)).2.2.2.2.1 1).trans rfl, (blk_cell (HS11.out _ (Below.refl _ _)).2.2.2.2.1 2).trans rfl⟩ (fun hHeld => ?_)
  generalize w6.drew = w7 at HS11 hHeld ⊢
  refine take_ (i := 0) (N := some 41) (v := ?_) (a' := ?_) #[true, false, false, false, false] rfl rfl (by kernel_rfl) (fun _ _ _ h => h) (Or.inl ⟨by rfl, ?_⟩) hHeld ?_ ?_
  rotate_left
  · rintro w' ⟨s0, s1, s2, s3, s4, s5⟩
    go_simp
    with_reducible rfl
  rotate_left
  · simp only [Act.put, List.setIfInBounds_toArray, List.set_cons_zero, List.set_cons_succ, i64_w, i32_w]
    rfl
  refine take_ (i := 1) (N := some 42) (v := ?_) (a' := ?_) #[true, true, false, false, false] rfl rfl (by kernel_rfl) (fun _ _ _ h => h) (Or.inl ⟨by rfl, ?_⟩) hHeld ?_ ?_
  rotate_left
  · rintro w' ⟨s0, s1, s2, s3, s4, s5⟩
    go_simp
    with_reducible rfl
  rotate_left
  · simp only [Act.put, List.setIfInBounds_toArray, List.set_cons_zero, List.set_cons_succ, i64_w, i32_w]
    rfl
  refine one_ (i := 2) (N := some 43) #[true, true, true, false, false] rfl rfl (by kernel_rfl) (by decide) (fun K hK => ?_)
  refine goes_ Try.func11 (by kernel_rfl) rfl #[.agg #[.int .i64 a0_0, .int .i64 a0_1, .slice A0_2 l0_2.length c0_2]] (by rfl) rfl rfl (by (try simp only [List.map_toArray, List.map_cons, List.map_nil]); first | done | rfl) ?_
  with_reducible refine (laws_toCut.calls (k := _) (a0_0 := a0_0) (a0_1 := a0_1) (l0_2 := l0_2) (hr0_2 := Kd.C_below HR0.out (HS11.out _ (Below.refl _ _)).2.2.2.2.2) (hc0_2 := HC0.out) (w := _) (h := G2.out.choose_spec)).mono ?_
  rintro e w8 ⟨vw80, rfl, ho0, hb⟩
  have NEw80_w30 := Aside0.mk (ne_new (HS11.out _ (Below.refl _ _)).2.2.2.1 ho0)
  have NEw80_w40 := Aside0.mk (ne_new (HS11.out _ (Below.refl _ _)).2.2.1 ho0)
  have NEw80_w50 := Aside0.mk (ne_new (HS11.out _ (Below.refl _ _)).1 ho0)
  replace ho0 := row_tight rfl ho0 (HS11.out _ (Below.refl _ _)).2.2.2.2.2
  obtain ⟨Aw80, cw80, rfl⟩ := Kd.R_slice ho0
  have HS12 := Aside0.mk (hs_row ho0 (hs_step hb HS11.out))
  clear HS11
  clear hb ho0
  refine ⟨_, rfl, ?_⟩
  refine hK.out _ _ ⟨(blk_cell (HS12.out _ (Below.refl _ _)).2.2.1 0).trans rfl, (blk_cell (HS12.out _ (Below.refl _ _)).2.2.1 1).trans rfl, (blk_cell (HS12.out _ (Below.refl _ _)).2.2.1 2).trans rfl, (blk_cell (HS12.out _ (Below.refl _ _)).2.2.2.2.2.1 0).trans rfl, (blk_cell (HS12.out _ (Below.refl _ _)).2.2.2.2.2.1 1).trans rfl, (blk_cell (HS12.out _ (Below.refl _ _)).2.2.2.2.2.1 2).trans rfl⟩ (fun hHeld => ?_)
  clear hK K
  refine norm_ (a' := ?_) ?_ ?_
  rotate_left
  · show Act.put _ (some 43) _ = _
    simp only [Act.put, List.setIfInBounds_toArray, List.set_cons_zero, List.set_cons_succ, i64_w, i32_w]
    rfl
  refine one_ (i := 3) (N := some 44) #[true, true, true, true, false] rfl rfl (by kernel_rfl) (by decide) (fun K hK => ?_)
  refine goes_ Try.func14 (by kernel_rfl) rfl #[.agg #[.int .i64 a0_0, .int .i64 a0_1, .slice Aw40 l0_2.length cw40], .agg #[.int .i64 a0_0, .int .i64 a0_1, .slice Aw80 l0_2.length cw80]] (by rfl) rfl rfl (by (try simp only [List.map_toArray, List.map_cons, List.map_nil]); first | done | rfl) ?_
  with_reducible refine (laws_eqCut.calls (k := _) (a0_0 := a0_0) (a0_1 := a0_1) (l0_2 := l0_2) (a1_0 := a0_0) (a1_1 := a0_1) (l1_2 := l0_2) (hr0_2 := (Kd.R_reads' (HS12.out _ (Below.refl _ _)).2.2.2.1).2.2) (hc0_2 := (Kd.R_reads' (HS12.out _ (Below.refl _ _)).2.2.2.1).2.1) (hr1_2 := (Kd.R_reads' (HS12.out _ (Below.refl _ _)).1).2.2) (hc1_2 := (Kd.R_reads' (HS12.out _ (Below.refl _ _)).1).2.1) (w := _) (h := G6.out.choose_spec)).mono ?_
  rintro e w9 ⟨rfl, hb⟩
  have HS13 := Aside0.mk (hs_step hb HS12.out)
  clear HS12
  clear hb
  refine ⟨_, rfl, ?_⟩
  refine hK.out _ _ ⟨(blk_cell (HS13.out _ (Below.refl _ _)).2.2.1 0).trans rfl, (blk_cell (HS13.out _ (Below.refl _ _)).2.2.1 1).trans rfl, (blk_cell (HS13.out _ (Below.refl _ _)).2.2.1 2).trans rfl, (blk_cell (HS13.out _ (Below.refl _ _)).2.2.2.2.2.1 0).trans rfl, (blk_cell (HS13.out _ (Below.refl _ _)).2.2.2.2.2.1 1).trans rfl, (blk_cell (HS13.out _ (Below.refl _ _)).2.2.2.2.2.1 2).trans rfl⟩ (fun hHeld => ?_)
  clear hK K
  refine norm_ (a' := ?_) ?_ ?_
  rotate_left
  · show Act.put _ (some 44) _ = _
    simp only [Act.put, List.setIfInBounds_toArray, List.set_cons_zero, List.set_cons_succ, i64_w, i32_w]
    rfl
  refine pure_ (i := 4) (N := some 45) (v := ?_) (a' := ?_) #[true, true, true, true, true] rfl rfl (by kernel_rfl) (fun _ _ _ h => h) (Or.inl ⟨by rfl, ?_⟩) ?_ ?_
  rotate_left
  · intro w'
    go_simp
    with_reducible rfl
  rotate_left
  · simp only [Act.put, List.setIfInBounds_toArray, List.set_cons_zero, List.set_cons_succ, i64_w, i32_w]
    rfl
  refine done_ (by kernel_rfl) ?_
  clear hHeld
  have HS14 := Aside0.mk (fun V hV => And.intro (HS13.out V hV).2.1 (And.intro (HS13.out V hV).2.2.1 (And.intro (HS13.out V hV).2.2.2.1 (And.intro (HS13.out V hV).2.2.2.2.1 (And.intro (HS13.out V hV).2.2.2.2.2.1 ((HS13.out V hV).2.2.2.2.2.2))))))
  clear HS13
  obtain ⟨x5a, x5b, x5c⟩ := blk3 (HS14.out _ (Below.refl _ _)).2.1
  go_wp2_with fail
  refine (laws_markCut.calls _ a0_0 a0_1 (fun k_ => some k_ = (.slice Aw40 l0_2.length cw40 : Value).ownBlock) (.slice Aw40 l0_2.length cw40) l0_2 1 _ _ w _ (HS14.out _ (Below.refl _ _)).2.2.2.2.2 (HS14.out _ (Below.refl _ _)).2.2.1 G7.out.choose_spec).mono ?_
  rintro e w10 ⟨rfl, ho, hb, hk⟩
  have HLNw10 : Aside0 (l0_2.length = ym1.length) := ⟨(Kd.R_reads' ho).1⟩
  replace ho := Kd.R_tight rfl ho
  have HS15 := Aside0.mk (hs_row (row_away (HS14.out _ (Below.refl _ _)).1 hk NEw50_w40.out) (hs_blk (box_away (HS14.out _ (Below.refl _ _)).2.1 (HS14.out _ (Below.refl _ _)).2.2.1 (by decide) hk) (hs_row ho (hs_row (row_away' (HS14.out _ (Below.refl _ _)).2.2.2.1 hk NEw40_w30.out) (hs_blk (box_away (HS14.out _ (Below.refl _ _)).2.2.2.2.1 (HS14.out _ (Below.refl _ _)).2.2.1 (by decide) hk) (hs_start hb))))))
  clear HS14
  clear ho hb hk
  clear x5a x5b x5c
  go_wp2_with fail
  refine (laws_eqIntS.calls (k := _) (l0 := r1) (l1 := r1) (hr0 := (Kd.R_reads' (HS15.out _ (Below.refl _ _)).1).2.2) (hc0 := (Kd.R_reads' (HS15.out _ (Below.refl _ _)).1).2.1) (hr1 := (Kd.R_reads' (HS15.out _ (Below.refl _ _)).2.2.2.1).2.2) (hc1 := (Kd.R_reads' (HS15.out _ (Below.refl _ _)).2.2.2.1).2.1) (w := _) (h := G5.out.choose_spec)).mono ?_
  rintro e w11 ⟨rfl, hb⟩
  have HS16 := Aside0.mk (hs_step hb.below HS15.out)
  clear HS15
  clear hb
  go_wp2_with fail
  refine (laws_markIntS.calls _ (fun k_ => some k_ = (.slice Aw50 r1.length cw50 : Value).ownBlock) (.slice Aw50 r1.length cw50) r1 1 _ _ w _ (HS16.out _ (Below.refl _ _)).2.2.2.2.2 (HS16.out _ (Below.refl _ _)).1 G8.out.choose_spec).mono ?_
  rintro e w12 ⟨rfl, ho, hb, hk⟩
  have HLNw12 : Aside0 (r1.length = ym2.length) := ⟨(Kd.R_reads' ho).1⟩
  replace ho := Kd.R_tight rfl ho
  have HS17 := Aside0.mk (hs_row ho (hs_blk (box_away (HS16.out _ (Below.refl _ _)).2.1 (HS16.out _ (Below.refl _ _)).1 (by decide) hk) (hs_row (row_away' (HS16.out _ (Below.refl _ _)).2.2.1 hk NEw50_w40.out) (hs_row (row_away' (HS16.out _ (Below.refl _ _)).2.2.2.1 hk NEw50_w30.out) (hs_blk (box_away (HS16.out _ (Below.refl _ _)).2.2.2.2.1 (HS16.out _ (Below.refl _ _)).1 (by decide) hk) (hs_start hb))))))
  clear HS16
  clear ho hb hk
  go_wp2_with fail
  have hc := laws_heldIntS.calls (k := _) (l0 := ym2) (a1 := 1) (hr0 := (Kd.R_reads' (HS17.out _ (Below.refl _ _)).1).2.2) (hc0 := (by rw [← HLNw12.out]; exact (Kd.R_reads' (HS17.out _ (Below.refl _ _)).1).2.1)) (w := w12) (h := G9.out.choose_spec)
  rw [← HLNw12.out] at hc
  refine (hc).mono ?_
  rintro e w13 ⟨rfl, hb⟩
  have HS18 := Aside0.mk (hs_step hb.below HS17.out)
  clear HS17
  clear hb
  clear hc
  obtain ⟨x6a, x6b, x6c⟩ := blk3 (HS18.out _ (Below.refl _ _)).2.2.2.2.1
  go_wp2_with fail
  refine (laws_toCut.calls (k := _) (a0_0 := a0_0) (a0_1 := a0_1) (l0_2 := l0_2) (hr0_2 := Kd.C_below HR0.out (HS18.out _ (Below.refl _ _)).2.2.2.2.2) (hc0_2 := HC0.out) (w := _) (h := G2.out.choose_spec)).mono ?_
  rintro e w14 ⟨vw140, rfl, ho0, hb⟩
  have NEw140_w30 := Aside0.mk (ne_new (HS18.out _ (Below.refl _ _)).2.2.2.1 ho0)
  have NEw140_w40 := Aside0.mk (ne_new (HS18.out _ (Below.refl _ _)).2.2.1 ho0)
  have NEw140_w50 := Aside0.mk (ne_new (HS18.out _ (Below.refl _ _)).1 ho0)
  replace ho0 := row_tight rfl ho0 (HS18.out _ (Below.refl _ _)).2.2.2.2.2
  obtain ⟨Aw140, cw140, rfl⟩ := Kd.R_slice ho0
  have HS19 := Aside0.mk (hs_row ho0 (hs_step hb HS18.out))
  clear HS18
  clear hb ho0
  clear x6a x6b x6c
  go_wp2_with fail
  refine (impl_LinesAcross.calls (a0_0 := a0_0) (a0_1 := a0_1) (l0_2 := l0_2) (hr0_2 := (Kd.R_reads' (HS19.out _ (Below.refl _ _)).1).2.2) (hc0_2 := (Kd.R_reads' (HS19.out _ (Below.refl _ _)).1).2.1) (w := _) (h := G4.out)).mono ?_
  rintro e w15 ⟨vw150, rfl, ho0, hb⟩
  have NEw150_w30 := Aside0.mk (ne_new (HS19.out _ (Below.refl _ _)).2.2.2.2.1 ho0)
  have NEw150_w40 := Aside0.mk (ne_new (HS19.out _ (Below.refl _ _)).2.2.2.1 ho0)
  have NEw150_w50 := Aside0.mk (ne_new (HS19.out _ (Below.refl _ _)).2.1 ho0)
  have NEw150_w140 := Aside0.mk (ne_new (HS19.out _ (Below.refl _ _)).1 ho0)
  replace ho0 := row_tight rfl ho0 (HS19.out _ (Below.refl _ _)).2.2.2.2.2.2
  obtain ⟨Aw150, cw150, rfl⟩ := Kd.R_slice ho0
  have HS20 := Aside0.mk (hs_row ho0 (hs_step hb HS19.out))
  clear HS19
  clear hb ho0
  have HS21 := Aside0.mk (fun V hV => And.intro (HS20.out V hV).1 (And.intro (HS20.out V hV).2.2.1 (And.intro (HS20.out V hV).2.2.2.1 (And.intro (HS20.out V hV).2.2.2.2.1 (And.intro (HS20.out V hV).2.2.2.2.2.1 (And.intro (HS20.out V hV).2.2.2.2.2.2.1 ((HS20.out V hV).2.2.2.2.2.2.2)))))))
  clear HS20
  go_wp2_with fail
  refine (laws_eqIntS.calls (k := _) (l0 := r1) (l1 := r1) (hr0 := (Kd.R_reads' (HS21.out _ (Below.refl _ _)).1).2.2) (hc0 := (Kd.R_reads' (HS21.out _ (Below.refl _ _)).1).2.1) (hr1 := (Kd.R_reads' (HS21.out _ (Below.refl _ _)).2.2.2.2.1).2.2) (hc1 := (Kd.R_reads' (HS21.out _ (Below.refl _ _)).2.2.2.2.1).2.1) (w := _) (h := G5.out.choose_spec)).mono ?_
  rintro e w16 ⟨rfl, hb⟩
  have HS22 := Aside0.mk (hs_step hb.below HS21.out)
  clear HS21
  clear hb
  go_wp2_with fail
  have hc := laws_heldIntS.calls (k := _) (l0 := ym2) (a1 := 1) (hr0 := (Kd.R_reads' (HS22.out _ (Below.refl _ _)).2.1).2.2) (hc0 := (by rw [← HLNw12.out]; exact (Kd.R_reads' (HS22.out _ (Below.refl _ _)).2.1).2.1)) (w := w16) (h := G9.out.choose_spec)
  rw [← HLNw12.out] at hc
  refine (hc).mono ?_
  rintro e w17 ⟨rfl, hb⟩
  have HS23 := Aside0.mk (hs_step hb.below HS22.out)
  clear HS22
  clear hb
  clear hc
  go_wp2_with fail
  go_ret
  exact ⟨rfl, (HS23.out _ (Below.refl _ _)).2.2.2.2.2.2⟩
end Go.Proofs.Ytnfiejagokefcaa.P

namespace Go.Proofs.Ytnfiejagokefcaa.P
end Go.Proofs.Ytnfiejagokefcaa.P

namespace Go.Proofs.Ytnfiejagokefcaa.Pure
set_option linter.unusedVariables false
set_option linter.unusedSimpArgs false
open Go.RowKit Go.Proofs.Ytnfiejagokefcaa.P Go.Proofs.YtnfiejagokefcaaW.PrintWords Go.Proofs.YtnfiejagokefcaaW.PrintLast Go.Proofs.Ytnfiejagokefcaa.Wm Go.Proofs.Ytnfiejagokefcaa.Aid Go.Proofs.Ytnfiejagokefcaa.T
theorem rdqL (l : List Sq) (i : Nat) : rd_T64 l (i : Int) = nq l i := by unfold rd_T64 nq; rw [Int.toNat_natCast]; rfl
theorem toSquareS_l (l : List Sq) (hl : l.length ≤ 9223372036854775807) : ∀ (d i : Nat), i + d = l.length → Ev (fun k => laws_toSquareS.l0 k l (l.take i ++ List.replicate d ⟨0, 0, 0⟩) i) l
  | 0, i, hd => Ev.step (fun _ => laws_toSquareS.l0.eq_2 ..) (ev_neg (by omega) (ev_some (by rw [show i = l.length by omega]; simp)))
  | d + 1, i, hd => Ev.step (fun _ => laws_toSquareS.l0.eq_2 ..) (ev_pos (by omega) (ev_pos (by omega) (by
      simp only [rdqL]
      refine ev_call rfl (ev_pos (by simp; omega) ?_)
      rw [w64 (by omega) (by omega)]
      have := toSquareS_l l hl d (i + 1) (by omega)
      rw [show ((i : Int) + 1) = ((i + 1 : Nat) : Int) by omega]
      have e : (l.take i ++ List.replicate (d + 1) (⟨0, 0, 0⟩ : Sq)).set (i : Int).toNat (nq l i) = l.take (i + 1) ++ List.replicate d ⟨0, 0, 0⟩ := by
        have hi : i < l.length := by omega
        simp only [Int.toNat_natCast]
        rw [List.set_append_right _ _ (by simp; omega), List.length_take, show i - min i l.length = 0 by omega, List.replicate_succ, List.set_cons_zero, List.take_succ_eq_append_getElem hi, nq_get l i hi, List.append_assoc]
        rfl
      show Ev (fun n => laws_toSquareS.l0 n l ((l.take i ++ List.replicate (d + 1) (⟨0, 0, 0⟩ : Sq)).set (i : Int).toNat (nq l i)) _) l
      rw [e]
      exact this)))
theorem toSquareS_ev (l : List Sq) (hl : l.length ≤ 1048576) : Ev (fun k => laws_toSquareS.f k l) l := by
  have := toSquareS_l l (by omega) l.length 0 (by omega)
  refine ev_pos (by omega) (ev_pos (by simp; omega) ?_)
  simp only [List.take_zero, List.nil_append] at this
  exact this
theorem toCut_ev (a b : Int) (l : List Sq) (hl : l.length ≤ 1048576) : Ev (fun k => laws_toCut.f k a b l) (a, b, l) := ev_bind (toSquareS_ev l hl) (ev_some rfl)
theorem eqSquareS_refl_l (l : List Sq) (hl : l.length ≤ 9223372036854775807) : ∀ (d i : Nat), i + d = l.length → Ev (fun k => laws_eqSquareS.l0 k l l i) true
  | 0, i, hd => Ev.step (fun _ => laws_eqSquareS.l0.eq_2 ..) (ev_neg (by omega) (ev_some rfl))
  | d + 1, i, hd => Ev.step (fun _ => laws_eqSquareS.l0.eq_2 ..) (ev_pos (by omega) (ev_pos (by omega) (ev_pos (by omega) (by
      refine ev_call (a := true) (by unfold laws_eqSquare.f; simp) (ev_pos rfl ?_)
      rw [w64 (by omega) (by omega)]
      exact eqSquareS_refl_l l hl d (i + 1) (by omega)))))
theorem eqSquareS_refl (l : List Sq) (hl : l.length ≤ 9223372036854775807) : Ev (fun k => laws_eqSquareS.f k l l) true := ev_pos rfl (eqSquareS_refl_l l hl l.length 0 (by omega))
theorem eqCut_refl (a b : Int) (l : List Sq) (hl : l.length ≤ 9223372036854775807) : Ev (fun k => laws_eqCut.f k a b l a b l) true :=
  ev_pos rfl (ev_pos rfl (ev_bind (eqSquareS_refl l hl) (ev_pos rfl (ev_some rfl))))
theorem szCut_f (a b : Int) (l : List Sq) (x : Int) (h0 : 0 ≤ x) (h1 : x ≤ 1048576) (hl : l.length ≤ 9223372036854775807) : laws_szCut.f a b l x = some (if x < l.length then -1 else x - l.length) := by
  unfold laws_szCut.f laws_szSquareS.f
  rw [w64 (by omega) (by omega)]
  by_cases c : x < l.length
  · rw [if_pos (show x - (l.length : Int) < 0 by omega), if_pos c]; rfl
  · rw [if_neg (show ¬ x - (l.length : Int) < 0 by omega), if_neg c]
    simp only [Option.bind_some]
    rw [if_neg (by omega)]
end Go.Proofs.Ytnfiejagokefcaa.Pure

namespace Go.Proofs.Ytnfiejagokefcaa.Pure
set_option linter.unusedVariables false
set_option linter.unusedSimpArgs false
open Go.RowKit Go.Proofs.Ytnfiejagokefcaa.P Go.Proofs.YtnfiejagokefcaaW.PrintWords Go.Proofs.YtnfiejagokefcaaW.PrintLast Go.Proofs.Ytnfiejagokefcaa.Wm Go.Proofs.Ytnfiejagokefcaa.Aid Go.Proofs.Ytnfiejagokefcaa.T
def pOk (x : Int) (q : Sq) : Bool := decide (x ≤ q.f0) || decide (x ≥ wrap64 (q.f0 + q.f2))
theorem lineOk_all (x : Int) : ∀ l : List Sq, lineOk l x = l.all (pOk x)
  | [] => rfl
  | q :: l => by
    have ih := lineOk_all x l
    unfold lineOk at ih ⊢
    rw [List.any_cons, List.all_cons, Bool.not_or, ih]
    congr 1
    unfold pOk
    by_cases c1 : q.f0 < x <;> by_cases c2 : x < wrap64 (q.f0 + q.f2)
    · rw [decide_eq_true c1, decide_eq_true c2, decide_eq_false (by omega), decide_eq_false (by omega)]; rfl
    · rw [decide_eq_true c1, decide_eq_false c2, decide_eq_false (by omega), decide_eq_true (by omega)]; rfl
    · rw [decide_eq_false c1, decide_eq_true (show x ≤ q.f0 by omega)]; rfl
    · rw [decide_eq_false c1, decide_eq_true (show x ≤ q.f0 by omega)]; rfl
end Go.Proofs.Ytnfiejagokefcaa.Pure

namespace Go.Proofs.Ytnfiejagokefcaa.Pure
set_option linter.unusedVariables false
set_option linter.unusedSimpArgs false
open Go.RowKit Go.Proofs.Ytnfiejagokefcaa.P Go.Proofs.YtnfiejagokefcaaW.PrintWords Go.Proofs.YtnfiejagokefcaaW.PrintLast Go.Proofs.Ytnfiejagokefcaa.Wm Go.Proofs.Ytnfiejagokefcaa.Aid Go.Proofs.Ytnfiejagokefcaa.T
def flipS (q : Sq) : Sq := ⟨q.f1, q.f0, q.f2⟩
theorem jx_l1 (l : List Sq) (hl : l.length ≤ 1000) (out : List Int) (W x a0 a1 : Int) {r : List Int} : ∀ (d i : Nat) (b : Bool), i + d = l.length →
    Ev (fun k => if (b && (l.drop i).all (fun q => pOk x (flipS q))) = true then (if out.length < 17592186044416 then (spec_joLines.l0 k false (out ++ [x]) W (wrap64 (x + 1)) a0 a1 l) else (none)) else (spec_joLines.l0 k false out W (wrap64 (x + 1)) a0 a1 l)) r →
    Ev (fun k => spec_joLines.l1 k false out W x b l l.length i a0 a1 l) r
  | 0, i, b, hd, hr => by
    rw [List.drop_eq_nil_of_le (by omega), List.all_nil, Bool.and_true] at hr
    exact Ev.step (fun _ => spec_joLines.l1.eq_2 ..) (ev_neg (by omega) hr)
  | d + 1, i, b, hd, hr => by
    have hi : i < l.length := by omega
    have e : l.drop i = nq l i :: l.drop (i + 1) := by
      rw [List.drop_eq_getElem_cons hi]
      unfold nq
      rw [List.getD_eq_getElem?_getD, List.getElem?_eq_getElem hi]
      rfl
    rw [e, List.all_cons, ← Bool.and_assoc] at hr
    have ih := jx_l1 l hl out W x a0 a1 d (i + 1) (b && pOk x (flipS (nq l i))) (by omega) hr
    refine Ev.step (fun _ => spec_joLines.l1.eq_2 ..) (ev_pos (by omega) (ev_pos (by omega) (ev_pos (by omega) (ev_neg (by simp) ?_))))
    rw [w64 (e := (i : Int) + 1) (by omega) (by omega), rdq]
    cases b
    · exact ev_neg (by simp) ih
    · refine ev_pos rfl ?_
      by_cases c1 : x ≤ (nq l i).f1
      · refine ev_pos c1 ?_
        have : pOk x (flipS (nq l i)) = true := by unfold pOk flipS; rw [decide_eq_true c1]; rfl
        rw [this] at ih
        exact ih
      · refine ev_neg c1 ?_
        have : pOk x (flipS (nq l i)) = decide (x ≥ wrap64 ((nq l i).f1 + (nq l i).f2)) := by unfold pOk flipS; rw [decide_eq_false c1]; rfl
        rw [this] at ih
        exact ih
theorem jx_l0 (l : List Sq) (hl : l.length ≤ 1000) (W : Nat) (hW : W ≤ 1000) (a0 a1 : Int) : ∀ (d n : Nat), n + 1 + d = W → Ev (fun k => spec_joLines.l0 k false (linesTo (l.map flipS) n) W ((n + 1 : Nat) : Int) a0 a1 l) (linesTo (l.map flipS) (W - 1))
  | 0, n, hd => Ev.step (fun _ => spec_joLines.l0.eq_2 ..) (ev_neg (by omega) (ev_some (by congr 1; omega)))
  | d + 1, n, hd => by
    have ih := jx_l0 l hl W hW a0 a1 d (n + 1) (by omega)
    have hlen := linesTo_len (l.map flipS) n
    refine Ev.step (fun _ => spec_joLines.l0.eq_2 ..) (ev_pos (by omega) (jx_l1 l hl _ _ _ _ _ l.length 0 true (by omega) ?_))
    have ea : l.all (fun q => pOk ((n + 1 : Nat) : Int) (flipS q)) = lineOk (l.map flipS) ((n + 1 : Nat) : Int) := by rw [lineOk_all, List.all_map]; rfl
    rw [List.drop_zero, Bool.true_and, ea, w64 (by omega) (by omega), show ((n + 1 : Nat) : Int) + 1 = ((n + 1 + 1 : Nat) : Int) by omega]
    simp only [linesTo] at ih
    by_cases c : lineOk (l.map flipS) ((n + 1 : Nat) : Int) = true
    · rw [if_pos c] at ih
      exact ev_pos c (ev_pos (by omega) ih)
    · rw [if_neg c, List.append_nil] at ih
      exact ev_neg c ih
theorem joLinesX_ev (l : List Sq) (hl : l.length ≤ 1000) (H : Nat) (hH : 1 ≤ H ∧ H ≤ 1000) (a : Int) : Ev (fun k => spec_joLines.f k a H l false) (linesTo (l.map flipS) (H - 1)) :=
  ev_neg (by simp) (Ev.step (fun _ => spec_joLines.j0.eq_2 ..) (jx_l0 l hl H hH.2 a H (H - 1) 0 (by omega)))
theorem lineOk_perm {A B : List Sq} (h : ∀ q, q ∈ A ↔ q ∈ B) (x : Int) : lineOk A x = lineOk B x := by
  rw [lineOk_all, lineOk_all]
  refine Bool.eq_iff_iff.2 ?_
  simp only [List.all_eq_true]
  exact ⟨fun k q hq => k q ((h q).2 hq), fun k q hq => k q ((h q).1 hq)⟩
theorem linesTo_congr {A B : List Sq} (h : ∀ x, lineOk A x = lineOk B x) : ∀ n, linesTo A n = linesTo B n
  | 0 => rfl
  | n + 1 => by simp only [linesTo, linesTo_congr h n, h]
theorem linesTo_back (W : Int) (l : List Sq) (n : Nat) : linesTo (backL W l) n = linesTo (l.map flipS) n := by
  refine linesTo_congr (fun x => ?_) n
  have hp : (backL W l).Perm (l.map (backS W)) := srt_perm _
  rw [lineOk_perm (fun q => hp.mem_iff) x, lineOk_all, lineOk_all, List.all_map, List.all_map]
  rfl
theorem back_f (a b : Int) (l : List Sq) (g : T.Good a b l) : impl_Cut_back.f a b l = some (b, a, backL a l) := by
  have t1 : ∀ {x y : Int} {m : List Sq}, T.Good x y m → impl_Cut_turned.f x y m = some (y, x, turnL y m) := fun {x y m} h => by
    unfold impl_Cut_turned.f
    rw [if_pos (by rw [isCutB_good]; exact goodB_iff.2 h)]
  unfold impl_Cut_back.f
  rw [t1 g, Option.bind_some]
  simp only
  rw [t1 g.turn, Option.bind_some]
  simp only
  rw [t1 g.turn.turn, Option.bind_some]
  simp only
  rw [turn3 g.til]
end Go.Proofs.Ytnfiejagokefcaa.Pure

namespace Go.Proofs.Ytnfiejagokefcaa.P
open Go.RowKit Go.Proofs.YtnfiejagokefcaaW.PrintWords Go.Proofs.YtnfiejagokefcaaW.PrintLast Go.Proofs.Ytnfiejagokefcaa.Wm
attribute [local go_sem] max2_int min2_int max_two min_two
set_option linter.unusedVariables false
set_option linter.unusedSimpArgs false
end Go.Proofs.Ytnfiejagokefcaa.P

namespace Go.Proofs.Ytnfiejagokefcaa.P
open Go.RowKit Go.Proofs.YtnfiejagokefcaaW.PrintWords Go.Proofs.YtnfiejagokefcaaW.PrintLast Go.Proofs.Ytnfiejagokefcaa.Wm
attribute [local go_sem] max2_int min2_int max_two min_two
set_option linter.unusedVariables false
set_option linter.unusedSimpArgs false
end Go.Proofs.Ytnfiejagokefcaa.P

namespace Go.Proofs.Ytnfiejagokefcaa.Pure
set_option linter.unusedVariables false
set_option linter.unusedSimpArgs false
open Go.RowKit Go.Proofs.Ytnfiejagokefcaa.P Go.Proofs.YtnfiejagokefcaaW.PrintWords Go.Proofs.YtnfiejagokefcaaW.PrintLast Go.Proofs.Ytnfiejagokefcaa.Wm Go.Proofs.Ytnfiejagokefcaa.Aid Go.Proofs.Ytnfiejagokefcaa.T
def mkS (m : Int) : Nat → List Sq
  | 0 => []
  | n + 1 => ⟨m, m + 1, m + 2⟩ :: mkS (m + 3) n
theorem set_at (pre : List Sq) (q x : Sq) (rest : List Sq) : (pre ++ q :: rest).set pre.length x = pre ++ x :: rest := by
  rw [List.set_append_right _ _ (Nat.le_refl _), Nat.sub_self, List.set_cons_zero]
theorem nq_at (pre : List Sq) (q : Sq) (rest : List Sq) : nq (pre ++ q :: rest) pre.length = q := by
  unfold nq
  rw [List.getD_eq_getElem?_getD, List.getElem?_append_right (Nat.le_refl _), Nat.sub_self]
  rfl
theorem markE_l : ∀ (rest pre : List Sq) (m : Int), (pre ++ rest).length ≤ 1048576 → 0 ≤ m → m + 3 * (rest.length : Int) ≤ 1000000000000000 → Ev (fun k => laws_markSquareS.l0 k (pre ++ rest) m pre.length) (m + 3 * (rest.length : Int), pre ++ mkS m rest.length)
  | [], pre, m, hl, h0, hm => Ev.step (fun _ => laws_markSquareS.l0.eq_2 ..) (ev_neg (by simp) (ev_some (by simp [mkS])))
  | q :: rest, pre, m, hl, h0, hm => by
    simp only [List.length_append, List.length_cons] at hl hm
    have ih := markE_l rest (pre ++ [⟨m, m + 1, m + 2⟩]) (m + 3) (by simp; omega) (by omega) (by omega)
    refine Ev.step (fun _ => laws_markSquareS.l0.eq_2 ..) (ev_pos (by simp; omega) (ev_pos (by omega) ?_))
    simp only [Option.bind_some, Int.toNat_natCast, rdq, nq_at, set_at]
    rw [w64 (e := m + 1) (by omega) (by omega), w64 (e := m + 1 + 1) (by omega) (by omega), w64 (e := m + 1 + 1 + 1) (by omega) (by omega), w64 (e := (pre.length : Int) + 1) (by omega) (by omega)]
    rw [List.append_assoc] at ih
    simp only [List.singleton_append, List.length_append, List.length_cons, List.length_nil, Nat.zero_add] at ih
    rw [show m + 1 + 1 + 1 = m + 3 by omega, show m + 1 + 1 = m + 2 by omega, show (pre.length : Int) + 1 = ((pre.length + 1 : Nat) : Int) by omega]
    rw [List.append_assoc] at ih
    simp only [List.singleton_append] at ih
    simp only [List.length_cons, mkS]
    rw [show m + 3 * ((rest.length + 1 : Nat) : Int) = m + 3 + 3 * (rest.length : Int) by omega]
    exact ih
theorem markE (a b : Int) (l : List Sq) (m : Int) (hl : l.length ≤ 1048576) (h0 : 0 ≤ m) (hm : m + 3 * (l.length : Int) ≤ 1000000000000000) : Ev (fun k => laws_markCut.f k a b l m) (m + 3 * (l.length : Int), mkS m l.length) := by
  have := markE_l l [] m (by simpa using hl) h0 hm
  simp only [List.nil_append] at this
  exact ev_bind (a := (m + 3 * (l.length : Int), mkS m l.length)) this (ev_some rfl)
end Go.Proofs.Ytnfiejagokefcaa.Pure

namespace Go.Proofs.Ytnfiejagokefcaa.Pure
set_option linter.unusedVariables false
set_option linter.unusedSimpArgs false
open Go.RowKit Go.Proofs.Ytnfiejagokefcaa.P Go.Proofs.YtnfiejagokefcaaW.PrintWords Go.Proofs.YtnfiejagokefcaaW.PrintLast Go.Proofs.Ytnfiejagokefcaa.Aid
theorem eqIntS_refl_l (l : List Int) (hl : l.length ≤ 9223372036854775807) : ∀ (d : Nat) (i : Int), 0 ≤ i → (l.length : Int) - i = d → Ev (fun k => laws_eqIntS.l0 k l l i) true
  | 0, i, h0, hd => Ev.step (fun _ => rfl) (ev_neg (by omega) (ev_some rfl))
  | d + 1, i, h0, hd => Ev.step (fun _ => rfl) (ev_pos (by omega) (ev_pos h0 (ev_pos (by omega) (ev_pos rfl (by
      rw [w64 (by omega) (by omega)]
      exact eqIntS_refl_l l hl d (i + 1) (by omega) (by omega))))))
theorem eqIntS_refl (l : List Int) (hl : l.length ≤ 9223372036854775807) : Ev (fun k => laws_eqIntS.f k l l) true :=
  ev_pos rfl (eqIntS_refl_l l hl l.length 0 (by omega) (by omega))
end Go.Proofs.Ytnfiejagokefcaa.Pure

namespace Go.Proofs.Ytnfiejagokefcaa.Pure
set_option linter.unusedVariables false
set_option linter.unusedSimpArgs false
open Go.RowKit Go.Proofs.Ytnfiejagokefcaa.P Go.Proofs.YtnfiejagokefcaaW.PrintWords Go.Proofs.YtnfiejagokefcaaW.PrintLast Go.Proofs.Ytnfiejagokefcaa.Aid
def marked (l : List Int) (m : Int) : Nat → List Int
  | 0 => l
  | n + 1 => (marked l m n).set n (m + n)
theorem marked_length (l : List Int) (m : Int) : ∀ n, (marked l m n).length = l.length
  | 0 => rfl
  | n + 1 => by simp only [marked, List.length_set, marked_length l m n]
theorem marked_get (l : List Int) (m : Int) : ∀ n j, j < n → j < l.length → rd (marked l m n) (j : Nat) = m + j
  | 0, j, h, _ => by omega
  | n + 1, j, h, hl => by
    simp only [marked, rd]
    by_cases e : n = j
    · subst e; simp [marked_length, hl]
    · have := marked_get l m n j (by omega) hl
      simp only [rd] at this
      rw [List.getD_eq_getElem?_getD, List.getElem?_set_ne (by simpa using e), ← List.getD_eq_getElem?_getD, this]
theorem markIntS_l (l : List Int) (m : Int) (h0 : 0 ≤ m) (hl : m + l.length ≤ 9223372036854775807) : ∀ (d i : Nat), i + d = l.length → Ev (fun k => laws_markIntS.l0 k (marked l m i) (m + i) i) (m + l.length, marked l m l.length)
  | 0, i, hd => Ev.step (fun _ => rfl) (ev_neg (by rw [marked_length]; omega) (ev_some (by rw [show i = l.length by omega])))
  | d + 1, i, hd => Ev.step (fun _ => rfl) (ev_pos (by rw [marked_length]; omega) (ev_pos (by omega) (by
      rw [w64 (by omega) (by omega), w64 (by omega) (by omega)]
      have := markIntS_l l m h0 hl d (i + 1) (by omega)
      rw [show (m + (i : Int) + 1) = m + ((i + 1 : Nat) : Int) by omega, show ((i : Int) + 1) = ((i + 1 : Nat) : Int) by omega]
      exact this)))
theorem markIntS_ev (l : List Int) (m : Int) (h0 : 0 ≤ m) (hl : m + l.length ≤ 9223372036854775807) : Ev (fun k => laws_markIntS.f k l m) (m + l.length, marked l m l.length) := by
  have := markIntS_l l m h0 hl l.length 0 (by omega)
  simp only [marked, Int.natCast_zero, Int.add_zero] at this
  exact this
theorem heldIntS_l (l : List Int) (m : Int) (h0 : 0 ≤ m) (hl : m + l.length ≤ 9223372036854775807) : ∀ (d i : Nat), i + d = l.length → Ev (fun k => laws_heldIntS.l0 k (marked l m l.length) (m + i) i) (m + l.length)
  | 0, i, hd => Ev.step (fun _ => rfl) (ev_neg (by rw [marked_length]; omega) (ev_some (by rw [show i = l.length by omega])))
  | d + 1, i, hd => Ev.step (fun _ => rfl) (ev_pos (by rw [marked_length]; omega) (ev_pos (by omega) (ev_pos (marked_get l m _ i (by omega) (by omega)) (by
      rw [w64 (by omega) (by omega), w64 (by omega) (by omega)]
      have := heldIntS_l l m h0 hl d (i + 1) (by omega)
      rw [show (m + (i : Int) + 1) = m + ((i + 1 : Nat) : Int) by omega, show ((i : Int) + 1) = ((i + 1 : Nat) : Int) by omega]
      exact this))))
theorem heldIntS_ev (l : List Int) (m : Int) (h0 : 0 ≤ m) (hl : m + l.length ≤ 9223372036854775807) : Ev (fun k => laws_heldIntS.f k (marked l m l.length) m) (m + l.length) := by
  have := heldIntS_l l m h0 hl l.length 0 (by omega)
  simp only [Int.natCast_zero, Int.add_zero] at this
  exact this
end Go.Proofs.Ytnfiejagokefcaa.Pure

namespace Go.Proofs.Ytnfiejagokefcaa.Pure
set_option linter.unusedVariables false
set_option linter.unusedSimpArgs false
open Go.RowKit Go.Proofs.Ytnfiejagokefcaa.P Go.Proofs.YtnfiejagokefcaaW.PrintWords Go.Proofs.YtnfiejagokefcaaW.PrintLast Go.Proofs.Ytnfiejagokefcaa.Wm Go.Proofs.Ytnfiejagokefcaa.Aid Go.Proofs.Ytnfiejagokefcaa.T
theorem linesAcross_both (a b : Int) (l : List Sq) (hl : l.length ≤ 9223372036854775807) : ∃ r : List Int × Bool, r.1.length ≤ 1000 ∧ Ev (fun k => spec_LinesAcross.f k a b l) r ∧ impl_LinesAcross.f a b l = some r := by
  by_cases g : goodB a b l = true
  · have hg := goodB_iff.1 g
    have hw := hg.w
    have hh := hg.h
    have hn : l.length ≤ 1000 := by have := hg.len; omega
    obtain ⟨y, rfl⟩ : ∃ y : Nat, b = y := ⟨b.toNat, by omega⟩
    have hll := linesTo_len (l.map flipS) (y - 1)
    refine ⟨(linesTo (l.map flipS) (y - 1), true), by simp only; omega, ev_bind (cuGood_ev a y l hl) (ev_pos g (ev_bind (joLinesX_ev l hn y (by omega) a) (ev_some rfl))), ?_⟩
    unfold impl_LinesAcross.f
    rw [isCut_f, Option.bind_some, if_pos g, back_f a y l hg, Option.bind_some]
    unfold impl_Cut_linesDown.f
    rw [if_pos (by simp only; omega), Option.bind_some, Int.toNat_natCast, linesTo_back]
  · refine ⟨([], false), by simp, ev_bind (cuGood_ev a b l hl) (ev_neg g (ev_some rfl)), ?_⟩
    unfold impl_LinesAcross.f
    rw [isCut_f, Option.bind_some, if_neg g]
theorem FnExactLinesAcross : laws_FnExactLinesAcross.Pure := by
  intro a b l _ _ hl _
  unfold maxLen at hl
  refine ⟨_, szCut_f a b l 1048576 (by omega) (by omega) hl, ?_⟩
  by_cases c : (1048576 : Int) < l.length
  · rw [if_pos c]; exact Or.inl (by decide)
  · rw [if_neg c]
    obtain ⟨⟨r, o⟩, hr, h1, h2⟩ := linesAcross_both a b l hl
    simp only at hr
    have hm := markE a b l 1 (by omega) (by omega) (by omega)
    refine Or.inr ⟨r, o, _, _, _, _, ev_at (toCut_ev a b l (by omega)), ev_at h1, h2, ev_at (eqIntS_refl r (by omega)), ev_at (eqCut_refl a b l hl), ev_at hm, ev_at (markIntS_ev r 1 (by omega) (by omega)), ev_at (heldIntS_ev r 1 (by omega) (by omega)), by omega, by omega⟩
end Go.Proofs.Ytnfiejagokefcaa.Pure
