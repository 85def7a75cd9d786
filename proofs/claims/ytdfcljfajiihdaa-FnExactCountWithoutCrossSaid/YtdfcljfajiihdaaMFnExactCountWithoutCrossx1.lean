import Derived.Test.YtdfcljfajiihdaaMFnExactCountWithoutCrosswWords
import Derived.Test.YtdfcljfajiihdaaMFnExactCountWithoutCrosswLast
import Derived.Test.YtdfcljfajiihdaaMFnExactCountWithoutCrosswApart
import Derived.Test.YtdfcljfajiihdaaMFnExactCountWithoutCrosswFoot
import Derived.Test.YtdfcljfajiihdaaMFnExactCountWithoutCrosswKept
import Derived.Test.YtdfcljfajiihdaaMFnExactCountWithoutCrosswShare
import Derived.Test.YtdfcljfajiihdaaMFnExactCountWithoutCrosswN
import Derived.Test.YtdfcljfajiihdaaMFnExactCountWithoutCrosswEqStruct
import Derived.Test.YtdfcljfajiihdaaMFnExactCountWithoutCrosswRepsOne
import Derived.Test.YtdfcljfajiihdaaMFnExactCountWithoutCrosswInv
import Derived.Test.YtdfcljfajiihdaaMFnExactCountWithoutCrosswMore
import Derived.Test.YtdfcljfajiihdaaMFnExactCountWithoutCrossx0
import Derived.Shelf.Abstract
import Derived.Deep.RegionLaw
import Derived.Deep.RegionLawGrows
import Derived.Deep.DeepCutAuto
namespace Go.Proofs.Ytdfcljfajiihdaa.P
open Go.RowKit Go.Proofs.YtdfcljfajiihdaaW.PrintWords Go.Proofs.YtdfcljfajiihdaaW.PrintLast Go.Proofs.YtdfcljfajiihdaaW.PrintMore
attribute [local go_sem] max2_int min2_int max_two min_two max_three min_three max_four min_four
set_option linter.unusedVariables false
set_option linter.unusedSimpArgs false
open Go.Proofs.Ytdfcljfajiihdaa.T Go.Proofs.Ytdfcljfajiihdaa.Aid Go.Proofs.Ytdfcljfajiihdaa.Gr
def spec_cuSorted.f (k : Nat) (l0 : List S56) : Option (List S56) := if l0.length ≤ 500000 then some (srt l0) else none
theorem cuLess_s (a b : Sq) : spec_cuLess.f a.f0 a.f1 a.f2 b.f0 b.f1 b.f2 = some (ltb a b) := by
  unfold spec_cuLess.f ltb
  by_cases c1 : a.f1 < b.f1
  · simp [c1]
  · by_cases c2 : a.f1 = b.f1 <;> simp [c1, c2]
theorem rd_sqs (l : List Sq) (i : Nat) : rd_T56 l (i : Int) = l.getD i ⟨0, 0, 0⟩ := by unfold rd_T56; rw [Int.toNat_natCast]; rfl
theorem srtF_drop (l o : List Sq) (i : Nat) (hi : i < l.length) : srtF ltb ⟨0, 0, 0⟩ o (l.drop i) = srtF ltb ⟨0, 0, 0⟩ (insG ltb ⟨0, 0, 0⟩ (l.getD i ⟨0, 0, 0⟩) o) (l.drop (i + 1)) := by
  have e : l.drop i = l.getD i ⟨0, 0, 0⟩ :: l.drop (i + 1) := by
    rw [List.drop_eq_getElem_cons hi]
    simp [hi]
  rw [e]; rfl
theorem insG_lencs {α : Type} (lt : α → α → Bool) (z s : α) (out : List α) : (insG lt z s out).length = out.length + 1 := by
  have := (insG_perm lt z s out).length_eq
  simpa using this
theorem R_slcs {α : Type} {d : Kd α} {w : World} {base e : Nat} {ok : Nat → Prop} {v : Value} {xs : List α} (h : d.R e w base ok v xs) : ∃ A n c, v = .slice A n c := by
  obtain ⟨A, c, e⟩ := Kd.R_slice h
  exact ⟨_, _, _, e⟩
theorem R_emptycs (W : World) (base : Nat) (hb : base ≤ W.heap.size) : Kd.R k56 56 (W.alloc (.cells #[] 56)) base (fun _ => True) (.slice (some ⟨W.heap.size, 0, none⟩) 0 0) [] :=
  ⟨fun k hk => trivial, [], World.ownsRow_lit (base := base) (e := 56) (size := 3) W #[] 0 hb (by simp [maxLen]) (by simp), Reps.none _ _⟩
theorem C_of_blkcs {W : World} {L : Nat} (q : Sq) (h : W.heap[L]? = some (.cells #[.int .i64 q.f0, .int .i64 q.f1, .int .i64 q.f2] 56 (0, 0))) : Kd.C k56 W (some ⟨L, 0, none⟩) 1 [q] := by
  have hh : Kd.R k56 56 W 0 (fun _ => True) (.slice (some ⟨L, 0, none⟩) 1 1) [q] :=
    ⟨fun k hk => trivial, [.int .i64 q.f0, .int .i64 q.f1, .int .i64 q.f2], ⟨by rfl, .inr ⟨L, 1, _, rfl, Nat.zero_le _, h, Nat.le_refl _, by simp [maxLen], by rfl, by rfl⟩⟩, Reps.c3 (k56_mkM _ _ _ q) (Reps.none _ _)⟩
  exact (Kd.R_reads' hh).2.2
set_option maxHeartbeats 4000000 in
set_option maxRecDepth 100000 in
theorem spec_cuSorted.calls (k : Nat) (A0 : Option Addr) (c0 : Nat) (l0 : List S56) (r : List S56) (w : World) (hr0 : Kd.C k56 w A0 l0.length l0) (hc0 : l0.length ≤ c0) (h : spec_cuSorted.f k l0 = some r) :
    Calls Try.prog 83 #[.slice A0 l0.length c0] w fun e w' => ∃ v0_ : Value, e = .returned (v0_) ∧ Kd.R k56 56 w' w.heap.size (fun _ => True) v0_ r ∧ Below w.heap.size w w' := by
  unfold spec_cuSorted.f at h
  by_cases hl : l0.length ≤ 500000
  · rw [if_pos hl] at h
    have hr := Option.some.inj h
    clear h
    have HR0 := Aside0.mk hr0
    have HL := Aside0.mk hl
    have HRES := Aside0.mk hr
    clear hr0 hr
    have hu60 := Try.underlying56
    go_enter Try.func83, Try.ntmps83
    go_wp2_with fail
    go_loopg [3, 10] l0.length (fun kq v3 v10 wc => ∃ (i : Nat) (xi : Int) (out : List S56), i ≤ l0.length ∧ l0.length - i ≤ kq ∧ (i : Int) = xi ∧ v10 = .int .i64 xi ∧ Aside0 (out.length = i ∧ srtF ltb ⟨0, 0, 0⟩ out (l0.drop i) = srt l0) ∧ Aside0 (Kd.R k56 56 wc w.heap.size (fun _ => True) v3 out) ∧ Aside0 (Below w.heap.size w wc))
    case atStart => exact ⟨0, 0, [], by omega, by omega, rfl, rfl, ⟨rfl, rfl⟩, ⟨Kd.R_nil _ _ _ _ _⟩, ⟨Below.refl _ _⟩⟩
    case round =>
      obtain ⟨i, xi, out, hi, hk, hxi, rfl, HV, HO, HB⟩ := hrel
      by_cases hlt : i < l0.length
      · have b1 : decide (xi < (l0.length : Int)) = true := decide_eq_true (by omega)
        obtain ⟨ad, e1, h0, h1, h2⟩ := at_T56 HR0.out xi (by omega) (by omega)
        cases e1
        replace h0 := (HB.out.cell (World.block_lt_of_cell? w _ h0)).trans h0
        replace h1 := (HB.out.cell (World.block_lt_of_cell? w _ h1)).trans h1
        replace h2 := (HB.out.cell (World.block_lt_of_cell? w _ h2)).trans h2
        have q1 := eq_true (show 0 ≤ xi by omega)
        have q2 := eq_true (show xi < (l0.length : Int) by omega)
        obtain ⟨s, hs⟩ : ∃ s, rd_T56 l0 xi = s := ⟨_, rfl⟩
        rw [hs] at h0 h1 h2
        have HSV : Aside0 (l0.getD i ⟨0, 0, 0⟩ = s) := ⟨by rw [← rd_sqs, hxi]; exact hs⟩
        obtain ⟨A1, c1, e1⟩ := Kd.R_slice HO.out
        subst e1
        have HI := Aside0.mk (And.intro hi (And.intro hk (And.intro hxi hlt)))
        clear hi hk hxi hlt hs
        go_wp2_with (first | ((with_reducible refine gate_dst (N := 5) rfl ?_); refine box_event ?hg (N := 5) ?hd (cs := #[.int .i64 0, .int .i64 0, .int .i64 0]) (t := 56) ?hr ?_; (case hd => rfl); (case hg => rfl); (case hr => first | (go_simp; done) | (go_simp; rfl)); intro gb hg w5 hbox hb; have HBX := Aside0.mk hbox; have HB5 := Aside0.mk hb; have HG := Aside0.mk hg; have hcz0 : w5.cell? ⟨gb, 0, none⟩ = some (.int .i64 0) := (blk_cell hbox 0).trans rfl; have hcz1 : w5.cell? ⟨gb, 1, none⟩ = some (.int .i64 0) := (blk_cell hbox 1).trans rfl; have hcz2 : w5.cell? ⟨gb, 2, none⟩ = some (.int .i64 0) := (blk_cell hbox 2).trans rfl; have hfz0 := blk_frozen hbox 0; have hfz1 := blk_frozen hbox 1; have hfz2 := blk_frozen hbox 2; clear hb hbox hg))
        have GE : w.heap.size ≤ gb := by rw [HG.out]; exact HB.out.size
        have HO5 := Kd.R_below (Kd.R_elderB HO.out gb (Nat.le_of_eq HG.out.symm)) HB5.out
        have HO6 : Aside0 (Kd.R k56 56 (((w5.setCell ⟨gb, 0, none⟩ (.int .i64 s.f0)).setCell ⟨gb, 1, none⟩ (.int .i64 s.f1)).setCell ⟨gb, 2, none⟩ (.int .i64 s.f2)) w.heap.size (fun k_ => k_ ≠ gb) (.slice A1 out.length c1) out) := ⟨Kd.R_mono (Kd.R_far (p := ⟨gb, 2, none⟩) (Kd.R_far (p := ⟨gb, 1, none⟩) (Kd.R_far (p := ⟨gb, 0, none⟩) (Kd.R_mono HO5 (fun k_ hk => (⟨hk, hk.2⟩ : _ ∧ k_ ≠ gb))) (fun _ hk => hk.2) (.int .i64 s.f0)) (fun _ hk => hk.2) (.int .i64 s.f1)) (fun _ hk => hk.2) (.int .i64 s.f2)) (fun _ hk => hk.2)⟩
        have HX6 : Aside0 ((((w5.setCell ⟨gb, 0, none⟩ (.int .i64 s.f0)).setCell ⟨gb, 1, none⟩ (.int .i64 s.f1)).setCell ⟨gb, 2, none⟩ (.int .i64 s.f2)).heap[gb]? = some (.cells #[.int .i64 s.f0, .int .i64 s.f1, .int .i64 s.f2] 56 (0, 0))) := ⟨blk_put (cs := #[.int .i64 s.f0, .int .i64 s.f1, .int .i64 0]) (blk_put (cs := #[.int .i64 s.f0, .int .i64 0, .int .i64 0]) (blk_put (cs := #[.int .i64 0, .int .i64 0, .int .i64 0]) HBX.out 0 _ rfl) 1 _ rfl) 2 _ rfl⟩
        have HB6 : Aside0 (Below w.heap.size w (((w5.setCell ⟨gb, 0, none⟩ (.int .i64 s.f0)).setCell ⟨gb, 1, none⟩ (.int .i64 s.f1)).setCell ⟨gb, 2, none⟩ (.int .i64 s.f2))) := ⟨below_set (below_set (below_set (below_step HB.out HB5.out) GE) GE) GE⟩
        generalize (((w5.setCell ⟨gb, 0, none⟩ (.int .i64 s.f0)).setCell ⟨gb, 1, none⟩ (.int .i64 s.f1)).setCell ⟨gb, 2, none⟩ (.int .i64 s.f2)) = W6 at HO6 HX6 HB6 ⊢
        clear HBX HB5 HO5 hcz0 hcz1 hcz2 hfz0 hfz1 hfz2 h0 h1 h2 b1 q1 q2 HG HO HB
        go_loopg [6] out.length (fun kq v6 wc => ∃ (j : Nat) (ji : Int), j ≤ out.length ∧ j ≤ kq ∧ (j : Int) = ji ∧ v6 = .int .i64 ji ∧ Aside0 (insK ltb ⟨0, 0, 0⟩ s out out.length = insK ltb ⟨0, 0, 0⟩ s out j) ∧ Aside0 (Below W6.heap.size W6 wc))
        case atStart => exact ⟨out.length, _, Nat.le_refl _, Nat.le_refl _, rfl, rfl, ⟨rfl⟩, ⟨Below.refl _ _⟩⟩
        case round =>
          obtain ⟨j, ji, hj, hjk, hji, rfl, HV2, HB7⟩ := hrel
          have HO7 := Aside0.mk (Kd.R_below HO6.out HB7.out)
          have HX7 := Aside0.mk (blk_below HX6.out HB7.out)
          have HJ := Aside0.mk (And.intro hj (And.intro hjk hji))
          have hol : out.length ≤ 500000 := by have h1 := HV.out.1; have h2 := HI.out.1; have h3 := HL.out; omega
          obtain ⟨jp, hjp⟩ : ∃ jp : Int, ji - 1 = jp := ⟨_, rfl⟩
          have hwj : wrap64 (ji - 1) = jp := by rw [w64 (by omega) (by omega)]; exact hjp
          have HJP := Aside0.mk (And.intro hjp hwj)
          clear hj hjk hji hjp hwj
          go_upto_region 6 with (fail)
          go_cut [26] (fun v26 wc => ∃ b : Bool, v26 = .bool b ∧ Aside0 (if b = true then 0 < j ∧ insK ltb ⟨0, 0, 0⟩ s out j = insK ltb ⟨0, 0, 0⟩ s out (j - 1) else insK ltb ⟨0, 0, 0⟩ s out j = j) ∧ Aside0 (Below wr.heap.size wr wc))
          case first => as_aux_lemma =>
            have hj1 := HJ.out
            rcases Nat.eq_zero_or_pos j with hz | hz
            · subst hz
              have z1 : decide ((0 : Int) < ji) = false := decide_eq_false (by omega)
              clear hj1
              refine wp_region_gr (by kernel_rfl) (by kernel_rfl) ?_
              repeat (go_big_quiet_step (fail))
              refine wpQuiet_nil ?_
              intro W2 hw'
              obtain ⟨⟨V2, hB2⟩, hw''⟩ := hw'
              replace hw'' : W2 = V2 := hw''
              subst hw''
              try go_wp2_with fail
              go_meet
              case rel => exact ⟨false, rfl, ⟨rfl⟩, ⟨hB2⟩⟩
            · have z1 : decide ((0 : Int) < ji) = true := decide_eq_true (by omega)
              have hjp := HJP.out.1
              have hwj := HJP.out.2
              obtain ⟨ad2, e2, g0, g1, g2⟩ := at_T56 (Kd.R_reads' HO7.out).2.2 jp (by omega) (by omega)
              cases e2
              obtain ⟨p, hp⟩ : ∃ p, rd_T56 out jp = p := ⟨_, rfl⟩
              rw [hp] at g0 g1 g2
              have HP : Aside0 (out.getD (j - 1) ⟨0, 0, 0⟩ = p) := ⟨by rw [← rd_sqs, ← hp]; congr 1; omega⟩
              have q1 := eq_true (show 0 ≤ jp by omega)
              have q2 := eq_true (show jp < (out.length : Int) by omega)
              have HCL : Aside0 (∀ W, Calls Try.prog 74 #[.agg #[.int .i64 s.f0, .int .i64 s.f1, .int .i64 s.f2], .agg #[.int .i64 p.f0, .int .i64 p.f1, .int .i64 p.f2]] W fun e w' => e = .returned (.bool (ltb s p)) ∧ Below W.heap.size W w') := ⟨fun W => spec_cuLess.calls _ _ _ _ _ _ _ W (cuLess_s s p)⟩
              have HBV : Aside0 (if ltb s p = true then 0 < j ∧ insK ltb ⟨0, 0, 0⟩ s out j = insK ltb ⟨0, 0, 0⟩ s out (j - 1) else insK ltb ⟨0, 0, 0⟩ s out j = j) := ⟨by
                have e : insK ltb ⟨0, 0, 0⟩ s out j = if ltb s p = true then insK ltb ⟨0, 0, 0⟩ s out (j - 1) else j := by
                  obtain ⟨j', rfl⟩ : ∃ j', j = j' + 1 := ⟨j - 1, by omega⟩
                  have := HP.out
                  rw [Nat.add_sub_cancel] at this
                  rw [insK, this, Nat.add_sub_cancel]
                rw [e]
                split
                · exact ⟨hz, rfl⟩
                · rfl⟩
              generalize ltb s p = b at HCL HBV
              have l1 := blk_lt HX7.out
              have l2 := World.block_lt_of_cell? wr _ g0
              have x0 := fun p => cell_gr (p := p) l1 ((blk_cell HX7.out 0).trans rfl)
              have x1 := fun p => cell_gr (p := p) l1 ((blk_cell HX7.out 1).trans rfl)
              have x2 := fun p => cell_gr (p := p) l1 ((blk_cell HX7.out 2).trans rfl)
              have x3 := fun p => cell_gr (p := p) l2 g0
              have x4 := fun p => cell_gr (p := p) (World.block_lt_of_cell? wr _ g1) g1
              have x5 := fun p => cell_gr (p := p) (World.block_lt_of_cell? wr _ g2) g2
              clear hj1 hjp hp g0 g1 g2 l1 l2
              refine wp_region_gr (by kernel_rfl) (by kernel_rfl) ?_
              repeat (go_big_quiet_step (first | (go_at_call 74; refine Calls.gr_of (HCL.out _))))
              refine wpQuiet_nil ?_
              intro W2 hw'
              obtain ⟨⟨V2, hB2⟩, hw''⟩ := hw'
              replace hw'' : W2 = V2 := hw''
              subst hw''
              try go_wp2_with fail
              go_meet
              case rel => exact ⟨b, rfl, HBV, ⟨hB2⟩⟩
          case rest =>
            obtain ⟨b, rfl, HBV, HB8⟩ := hcut
            have HB9 := Aside0.mk (HB7.out.trans (HB8.out.mono HB7.out.size))
            cases b with
            | true =>
              have hd := HBV.out
              rw [if_pos rfl] at hd
              have HD := Aside0.mk hd
              have hwj := HJP.out.2
              clear hd
              go_wp2_with fail
              go_roundg (j - 1)
              case measure => have h1 := HD.out.1; have h2 := HJ.out.2.1; omega
              case rel => exact ⟨j - 1, jp, by have := HJ.out.1; omega, by omega, by have h1 := HD.out.1; have h2 := HJ.out.2.2; have h3 := HJP.out.1; omega, by first | rfl | rw [hwj], ⟨HV2.out.trans HD.out.2⟩, HB9⟩
            | false =>
              have hd := HBV.out
              rw [if_neg (by decide)] at hd
              have HD : Aside0 (insK ltb ⟨0, 0, 0⟩ s out out.length = j) := ⟨HV2.out.trans hd⟩
              clear hd HBV HJP HV2 HB8 HO7 HX7 HB7
              go_upto_region 8 with (fail)
              obtain ⟨w5, rfl⟩ : ∃ w5 : World, w5 = wc := ⟨_, rfl⟩
              have HO8 := Aside0.mk (Kd.R_below HO6.out HB9.out)
              have HX8 := Aside0.mk (blk_below HX6.out HB9.out)
              have HJI : Aside0 (0 ≤ ji ∧ ji ≤ out.length ∧ ji.toNat = j) := ⟨by have h1 := HJ.out.1; have h2 := HJ.out.2.2; omega⟩
              obtain ⟨i0, hi0, _, hsz, _⟩ := info_parts info56
              have hroom : out.length ≤ c1 := (Kd.R_reads' HO8.out).2.1
              have hcutt := cut_to (P := Try.prog) 35 56 .i64 Try.underlying35 hi0 A1 out.length c1 ji HJI.out.1 HJI.out.2.1 hroom
              have hcutf := cut_from (P := Try.prog) 35 56 .i64 Try.underlying35 hi0 3 hsz A1 out.length c1 ji HJI.out.1 HJI.out.2.1
              have HTK := Aside0.mk (Kd.C_take (m := ji.toNat) (Kd.R_reads' HO8.out).2.2 (by have := HJI.out; omega))
              have hdr : Kd.C k56 w5 (if c1 = ji.toNat then A1 else A1.map (·.add (ji.toNat * 3))) (out.drop ji.toNat).length (out.drop ji.toNat) := Kd.C_drop (m := ji.toNat) (c := c1) (Kd.R_reads' HO8.out).2.2 (by have := HJI.out; omega) hroom
              have hl1 : (out.take ji.toNat).length = ji.toNat := by rw [List.length_take]; have := HJI.out; omega
              have hl2 : (out.drop ji.toNat).length = out.length - ji.toNat := List.length_drop
              rw [← hl1] at hcutt
              obtain ⟨AD, hAD⟩ : ∃ AD, (if c1 = ji.toNat then A1 else A1.map (·.add (ji.toNat * 3))) = AD := ⟨_, rfl⟩
              obtain ⟨cD, hcD⟩ : ∃ cD, c1 - ji.toNat = cD := ⟨_, rfl⟩
              rw [hAD] at hdr
              rw [hAD, hcD, ← hl2] at hcutf
              have HOL : Aside0 (out.length ≤ 500000) := ⟨by have h1 := HV.out.1; have h2 := HI.out.1; have h3 := HL.out; omega⟩
              obtain ⟨sq, hsq⟩ : ∃ sq, out.take ji.toNat = sq := ⟨_, rfl⟩
              obtain ⟨dq, hdq⟩ : ∃ dq, out.drop ji.toNat = dq := ⟨_, rfl⟩
              have HSQ : Aside0 (sq.length ≤ 500000) := ⟨by rw [← hsq, List.length_take]; have := HOL.out; omega⟩
              have HDQ : Aside0 (dq.length ≤ 500000) := ⟨by rw [← hdq, List.length_drop]; have := HOL.out; omega⟩
              have HINS : Aside0 (insG ltb ⟨0, 0, 0⟩ s out = sq ++ [s] ++ dq) := ⟨by
                unfold insG
                rw [HD.out, ← hsq, ← hdq, HJI.out.2.2]; simp⟩
              have HSC5 := HTK
              rw [hsq] at hcutt HSC5
              rw [hdq] at hcutf hdr
              have HDC5 := Aside0.mk hdr
              have HP6 : Aside0 (∀ W, Below w5.heap.size w5 W → W.cell? ⟨gb, 0, none⟩ = some (.int .i64 s.f0) ∧ W.cell? ⟨gb, 1, none⟩ = some (.int .i64 s.f1) ∧ W.cell? ⟨gb, 2, none⟩ = some (.int .i64 s.f2)) := ⟨fun W hW => ⟨(blk_cell (blk_below HX8.out hW) 0).trans rfl, (blk_cell (blk_below HX8.out hW) 1).trans rfl, (blk_cell (blk_below HX8.out hW) 2).trans rfl⟩⟩
              have HB10 := Aside0.mk (HB6.out.trans (HB9.out.mono HB6.out.size))
              clear HTK hdr hl1 hl2 hsq hdq hAD hcD hi0 hsz hroom
              have q3 := eq_true HJI.out.1
              have q4 := eq_true HJI.out.2.1
              go_cut [7] (fun v7 wc => Aside0 (Kd.R k56 56 wc w5.heap.size (fun _ => True) v7 (sq ++ [s])) ∧ Aside0 (Below w5.heap.size w5 wc))
              case first => as_aux_lemma =>
                obtain ⟨p50, p51, p52⟩ := HP6.out w5 (Below.refl _ _)
                obtain ⟨p5a, p5b, p5c⟩ := HP6.out (w5.alloc (.cells #[] 56)) (below_alloc (Below.refl _ _) _)
                go_region_law (first | (refine Kd.R_append_rows_step k56 (w0 := w5) w5.heap.size (by simp [Region.wanted]) (.tmp 29) (.tmp 32) 35 56 (.agg #[.int .i64 0, .int .i64 0, .int .i64 0]) 24 rfl Try.underlying35 info56 rfl (by decide) (by omega) (.slice (some ⟨w5.heap.size, 0, none⟩) 0 0) [] sq _ _ _ (fun _ => True) (fun _ => False) rfl rfl ?aO ?aR (fun _ _ h => h) (fun _ h => h.elim) (fun _ _ => trivial) ?aB ?aS ?aL ?_; (case aO => exact (by first | exact R_emptycs _ _ (by simp) | exact Kd.R_drew (R_emptycs _ _ (by simp)) | exact Kd.R_drew (Kd.R_alloc (R_emptycs _ _ (by simp)) _) | exact Kd.R_alloc (R_emptycs _ _ (by simp)) _)); (case aR => exact (show Kd.C k56 _ A1 sq.length sq from by (with_reducible repeat (first | refine Kd.C_alloc ?_ _ | refine Kd.C_drew ?_)); exact HSC5.out)); (case aB => exact (by repeat (first | exact Below.refl _ _ | apply below_alloc | apply below_drew))); (case aS => exact (by simp; try omega)); (case aL => exact (by have := HSQ.out; simp; omega)); intro v118 w6 ho hb hg hat; obtain ⟨A6, n6, c6, e6⟩ := R_slcs ho; subst e6; rw [List.nil_append] at ho; have HR6 := Aside0.mk ho; have HB6 := Aside0.mk hb; obtain ⟨p60, p61, p62⟩ := HP6.out _ hb; (first | (have hq6 := blk_grown (w1 := w6) (heap_alloc_new (w5.drew.alloc (.cells #[] 56)) (.cells #[.int .i64 s.f0, .int .i64 s.f1, .int .i64 s.f2] 56)) hg (by first | (simp [Value.ownBlock]; done) | (intro h_; injection h_ with h_; omega))) | skip); clear ho hb hg hat) | (refine Kd.R_append_step k56 (w0 := w5) w5.heap.size (by simp [Region.wanted]) (.tmp 33) (.tmp 35) 35 56 (.agg #[.int .i64 0, .int .i64 0, .int .i64 0]) 24 rfl Try.underlying35 info56 rfl (by decide) (by omega) _ sq s [.int .i64 s.f0, .int .i64 s.f1, .int .i64 s.f2] (fun _ => True) (fun _ => False) rfl rfl (k56_mkM _ _ _ _) (fun _ h => h.elim) (fun _ _ => trivial) HR6.out HB6.out HB6.out.size ?aL ?_; (case aL => exact (by have := HSQ.out; omega)); intro v127 w7 ho hb hg hat; obtain ⟨A7, n7, c7, e7⟩ := R_slcs ho; subst e7; have HR7 := Aside0.mk ho; have HB7 := Aside0.mk hb; clear ho hb hg hat) | (refine Kd.R_append_rows_step k56 (w0 := w5) w5.heap.size (by simp [Region.wanted]) (.tmp 33) (.tmp 35) 35 56 (.agg #[.int .i64 0, .int .i64 0, .int .i64 0]) 24 rfl Try.underlying35 info56 rfl (by decide) (by omega) _ sq [s] _ _ _ (fun _ => True) (fun _ => False) rfl rfl HR6.out (show Kd.C k56 w6 _ 1 [s] from C_of_blkcs s (by first | exact hq6 | simpa using hq6)) (fun _ _ h => h) (fun _ h => h.elim) (fun _ _ => trivial) HB6.out HB6.out.size ?aL ?_; (case aL => exact (by have := HSQ.out; omega)); intro v127 w7 ho hb hg hat; obtain ⟨A7, n7, c7, e7⟩ := R_slcs ho; subst e7; have HR7 := Aside0.mk ho; have HB7 := Aside0.mk hb; clear ho hb hg hat) | (refine Kd.R_append_rows_step k56 (w0 := w5) w5.heap.size (by simp [Region.wanted]) (.tmp 29) (.tmp 32) 35 56 (.agg #[.int .i64 0, .int .i64 0, .int .i64 0]) 24 rfl Try.underlying35 info56 rfl (by decide) (by omega) (.slice (some ⟨w5.heap.size + 1, 0, none⟩) 0 0) [] sq _ _ _ (fun _ => True) (fun _ => False) rfl rfl ?aO ?aR (fun _ _ h => h) (fun _ h => h.elim) (fun _ _ => trivial) ?aB ?aS ?aL ?_; (case aO => exact (by have h := R_emptycs (w5.alloc (.cells #[.int .i64 s.f0, .int .i64 s.f1, .int .i64 s.f2] 56)) w5.heap.size (below_alloc (Below.refl _ _) _).size; rw [show (w5.alloc (.cells #[.int .i64 s.f0, .int .i64 s.f1, .int .i64 s.f2] 56)).heap.size = w5.heap.size + 1 from by simp] at h; first | exact Kd.R_drew h | exact h)); (case aR => exact (show Kd.C k56 _ A1 sq.length sq from by (with_reducible repeat (first | refine Kd.C_alloc ?_ _ | refine Kd.C_drew ?_)); exact HSC5.out)); (case aB => exact (by repeat (first | exact Below.refl _ _ | apply below_alloc | apply below_drew))); (case aS => exact (by simp; try omega)); (case aL => exact (by have := HSQ.out; simp; omega)); intro v118 w6 ho hb hg hat; obtain ⟨A6, n6, c6, e6⟩ := R_slcs ho; subst e6; rw [List.nil_append] at ho; have HR6 := Aside0.mk ho; have HB6 := Aside0.mk hb; obtain ⟨p60, p61, p62⟩ := HP6.out _ hb; have hq6 := blk_grown (w1 := w6) (blk_alloc (heap_alloc_new w5.drew (.cells #[.int .i64 s.f0, .int .i64 s.f1, .int .i64 s.f2] 56)) _) hg (by first | (simp [Value.ownBlock]; done) | (intro h_; injection h_ with h_; omega)); clear ho hb hg hat))
                all_goals
                  go_wp2_with fail
                  go_meet
                  case rel => exact ⟨HR7, HB7⟩
              case rest =>
                obtain ⟨HR7, HB7⟩ := hcut
                obtain ⟨A7, n7, c7, e7⟩ := R_slcs HR7.out
                subst e7
                have HD7 := Aside0.mk (Kd.C_below HDC5.out HB7.out)
                have hw3 : wrap64 (xi + 1) = ((i + 1 : Nat) : Int) := by
                  have h1 := HI.out
                  have h2 := HL.out
                  rw [w64 (by omega) (by omega)]; omega
                have HNX : Aside0 ((sq ++ [s] ++ dq).length = i + 1 ∧ srtF ltb ⟨0, 0, 0⟩ (sq ++ [s] ++ dq) (l0.drop (i + 1)) = srt l0) := ⟨by
                  have h1 := HV.out
                  refine ⟨by rw [← HINS.out, insG_lencs, h1.1], ?_⟩
                  rw [← HINS.out, ← h1.2, srtF_drop _ _ _ HI.out.2.2.2, HSV.out]⟩
                go_wp2_with (first | ((with_reducible refine gate_builtin (b := .append) (xs := #[.tmp 37, .tmp 40]) rfl ?_); at_builtin; refine Kd.R_append_rows k56 (w0 := w5) w5.heap.size rfl (.tmp 37) (.tmp 40) 35 56 (.agg #[(.int .i64 0), (.int .i64 0), (.int .i64 0)]) 24 rfl Try.underlying35 info56 rfl (by decide) (by omega) _ (sq ++ [s]) dq _ _ _ (fun _ => True) (fun _ => False) rfl rfl HR7.out HD7.out (fun _ _ h => h) (fun _ h => h.elim) (fun _ _ => trivial) HB7.out HB7.out.size (by have h1 := HSQ.out; have h2 := HDQ.out; rw [List.length_append, List.length_singleton]; omega) ?_; intro v41 w6 ho hb hg hat; have HO9 := Aside0.mk ho; have HB11 := Aside0.mk hb; clear ho hb hg hat))
                go_roundg (l0.length - (i + 1))
                case measure => have := HI.out; omega
                case rel => exact ⟨i + 1, _, _, by have := HI.out; omega, Nat.le_refl _, rfl, by first | rfl | rw [hw3], HNX, ⟨Kd.R_lower HO9.out HB10.out.size⟩, ⟨HB10.out.trans (HB11.out.mono HB10.out.size)⟩⟩
      · have b1 : decide (xi < (l0.length : Int)) = false := decide_eq_false (by omega)
        obtain rfl : i = l0.length := by omega
        have e2 := HV.out.2
        rw [List.drop_length] at e2
        have HE : Aside0 (out = r) := ⟨e2.trans HRES.out⟩
        clear e2
        go_wp2_with fail
        go_ret
        exact ⟨_, rfl, by rw [← HE.out]; exact HO.out, HB.out⟩
  · rw [if_neg hl] at h; cases h
end Go.Proofs.Ytdfcljfajiihdaa.P

namespace Go.Proofs.Ytdfcljfajiihdaa.P
open Go.RowKit Go.Proofs.YtdfcljfajiihdaaW.PrintWords Go.Proofs.YtdfcljfajiihdaaW.PrintLast Go.Proofs.YtdfcljfajiihdaaW.PrintMore
attribute [local go_sem] max2_int min2_int max_two min_two max_three min_three max_four min_four
set_option linter.unusedVariables false
set_option linter.unusedSimpArgs false
def spec_l1Own.f (l0 : List Int) : Option (List Int) := (some (([] : List Int) : List Int)).bind fun y101 => (if y101.length + l0.length < 17592186044416 then (some (y101 ++ l0)) else (none))
set_option maxHeartbeats 8000000 in
set_option maxRecDepth 100000 in
theorem spec_l1Own.calls (A0 : Option Addr) (c0 : Nat) (l0 : List Int) (r : List Int) (w : World) (hr0 : Kd.C (Kd.int .i64) w A0 l0.length l0) (hc0 : l0.length ≤ c0) (h : spec_l1Own.f l0 = some r) :
    Calls Try.prog 93 #[.slice A0 l0.length c0] w fun e w' => ∃ v0_ : Value, e = .returned (v0_) ∧ Kd.R (Kd.int .i64) 3 w' w.heap.size (fun _ => True) v0_ r ∧ Below w.heap.size w w' := by
  have HR0 := Aside0.mk hr0
  have HC0 := Aside0.mk hc0
  clear hr0 hc0
  have HB := Aside0.mk (Below.refl w.heap.size w)
  have H : ((some (([] : List Int) : List Int)).bind fun y101 => (if y101.length + l0.length < 17592186044416 then (some (y101 ++ l0)) else (none))) = some r := h
  clear h
  obtain ⟨y101, hy101⟩ : ∃ y_ : List Int, y_ = (([] : List Int)) := ⟨_, rfl⟩
  replace H : (if y101.length + l0.length < 17592186044416 then (some (y101 ++ l0)) else (none)) = some r := by first | (rw [hy101]; with_reducible exact H) | (have H2_ := (Option.bind_some _ _).symm.trans H; rw [hy101]; with_reducible exact H2_) | (have H2_ := (Option.bind_some _ _).symm.trans H; with_reducible exact H2_) | with_reducible exact H | (rw [hy101]; exact H) | exact H
  have Ny101 := Aside0.mk hy101
  clear hy101
  by_cases c2 : y101.length + l0.length < 17592186044416
  · rw [if_pos c2] at H
    have LMc2 := Aside0.mk c2
    clear c2
    obtain ⟨y104, hy104⟩ : ∃ y_ : List Int, y_ = (y101 ++ l0) := ⟨_, rfl⟩
    replace H : (some y104) = some r := by first | (rw [hy104]; with_reducible exact H) | (have H2_ := (Option.bind_some _ _).symm.trans H; rw [hy104]; with_reducible exact H2_) | (have H2_ := (Option.bind_some _ _).symm.trans H; with_reducible exact H2_) | with_reducible exact H | (rw [hy104]; exact H) | exact H
    have Ny104 := Aside0.mk hy104
    clear hy104
    obtain rfl := Option.some.inj H
    go_enter Try.func93, Try.ntmps93
    go_wp2_with (first | ((with_reducible refine gate_dst (N := 3) rfl ?_); refine Kd.R_lit (Kd.int .i64) _ 3 ?hg (N := 3) ?hd (xs := ([] : List Int)) (inner := []) (ok := fun _ => True) (okp := fun _ => True) ?hr ?hp (fun _ hk => hk) trivial (Below.refl _ _) (Nat.le_refl _) (by simp) ?_; (case hd => rfl); (case hg => rfl); (case hr => first | (go_simp; done) | (go_simp; rfl)); (case hp => exact (Reps.none _ _)); intro v102 w3 ho4 hb hg_ hnew_; clear hg_ hnew_; (first | rw [← Ny101.out] at ho4 | (simp only [Int.reduceToNat] at ho4; rw [← Ny101.out] at ho4)); have n0_ := Aside0.mk (Kd.R_lower ho4 (below_size (by repeat (first | (with_reducible first | exact HB.out | apply below_alloc | apply pw_below_drewN | apply below_drew1) | exact HB.out)))); have n1_ := Aside0.mk (below_step (by repeat (first | (with_reducible first | exact HB.out | apply below_alloc | apply pw_below_drewN | apply below_drew1) | exact HB.out)) hb); clear HB; have HO103 := n0_; have HB := n1_; clear n0_ n1_; clear hb ho4) | ((with_reducible refine gate_builtin (b := .append) (xs := #[.tmp 3, .tmp 4]) rfl ?_); at_builtin; refine Kd.R_append_rows (Kd.int .i64) (w0 := w) w.heap.size rfl (.tmp 3) (.tmp 4) 22 3 (.int .i64 0) 8 rfl Try.underlying22 info3 rfl (by decide) (by omega) v102 y101 l0 _ _ _ (fun _ => True) (fun _ => False) rfl rfl ?aO ?aR (fun _ _ h => h) (fun _ h => h.elim) ?aF ?aB ?aS ?aL ?_; (case aR => repeat (first | exact (Kd.C_below HR0.out HB.out) | (with_reducible refine Kd.C_alloc ?_ _) | (with_reducible refine Kd.C_drewN ?_ _) | (with_reducible refine Kd.C_drew ?_))); (case aB => exact (by repeat (first | (with_reducible first | exact HB.out | apply below_alloc | apply pw_below_drewN | apply below_drew1) | exact HB.out))); (case aF => exact (fun _ _ => trivial)); (case aO => exact (by (with_reducible repeat (first | apply Kd.R_alloc | apply Kd.R_drewN | apply Kd.R_drew)); exact HO103.out)); (case aS => exact (below_size (by repeat (first | (with_reducible first | exact HB.out | apply below_alloc | apply pw_below_drewN | apply below_drew1) | exact HB.out)))); (case aL => have := LMc2.out; omega); intro v105 w5 ho hb hg hat; rw [← Ny104.out] at ho; have n0_ := Aside0.mk (hb); have n1_ := Aside0.mk (ho); clear HB; clear HO103; have HB := n0_; have HO106 := n1_; clear n0_ n1_; clear ho hb hg hat))
    go_ret
    exact ⟨_, by first | rfl | (simp [errW_none, errW_some] <;> rfl) | (simp [*, errW_none, errW_some] <;> rfl), by (with_reducible repeat (first | apply Kd.R_alloc | apply Kd.R_drewN | apply Kd.R_drew)); exact HO106.out, by repeat (first | (with_reducible first | exact HB.out | apply below_alloc | apply pw_below_drewN | apply below_drew1) | exact HB.out)⟩
  · rw [if_neg c2] at H
    exact absurd H (by simp)
end Go.Proofs.Ytdfcljfajiihdaa.P

namespace Go.Proofs.Ytdfcljfajiihdaa.P
open Go.RowKit Go.Proofs.YtdfcljfajiihdaaW.PrintWords Go.Proofs.YtdfcljfajiihdaaW.PrintLast Go.Proofs.YtdfcljfajiihdaaW.PrintMore
attribute [local go_sem] max2_int min2_int max_two min_two max_three min_three max_four min_four
set_option linter.unusedVariables false
set_option linter.unusedSimpArgs false
open Go.Proofs.Ytdfcljfajiihdaa.T Go.Proofs.Ytdfcljfajiihdaa.Aid
theorem i64_w' (e : Int) : IntKind.i64.wrap e = wrap64 e := by rw [IntKind.wrap_i64]; unfold wrap64; omega
def lowTo (f : List Int) : Nat → Nat
  | 0 => 0
  | i + 1 => if ht f i < ht f (lowTo f i) then i else lowTo f i
def leftTo (h : Int) (f : List Int) : Nat → Int
  | 0 => 0
  | i + 1 => leftTo h f i + (h - ht f i)
theorem lowTo_spec (f : List Int) : ∀ i, 0 < i → lowTo f i < i ∧ (∀ c, c < i → ht f (lowTo f i) ≤ ht f c) ∧ (∀ c, c < lowTo f i → ht f (lowTo f i) < ht f c)
  | 0, h => by omega
  | i + 1, _ => by
    rcases Nat.eq_zero_or_pos i with h0 | h0
    · subst h0
      have e : lowTo f (0 + 1) = 0 := by
        have : lowTo f (0 + 1) = if ht f 0 < ht f 0 then 0 else 0 := rfl
        rw [this]; split <;> rfl
      rw [e]
      exact ⟨by omega, fun c hc => (by have h0 : c = 0 := (by omega); subst h0; exact Int.le_refl _), fun c hc => (by omega)⟩
    · obtain ⟨h1, h2, h3⟩ := lowTo_spec f i h0
      simp only [lowTo]
      split
      · rename_i hlt
        refine ⟨by omega, fun c hc => ?_, fun c hc => ?_⟩
        · rcases Nat.lt_or_eq_of_le (Nat.le_of_lt_succ hc) with h | h
          · have := h2 c h; omega
          · subst h; omega
        · have := h2 c hc; omega
      · rename_i hge
        refine ⟨by omega, fun c hc => ?_, h3⟩
        rcases Nat.lt_or_eq_of_le (Nat.le_of_lt_succ hc) with h | h
        · exact h2 c h
        · subst h; omega
theorem lowTo_low (f : List Int) (h : f ≠ []) : lowTo f f.length = low f := by
  obtain ⟨h1, h2, h3⟩ := lowTo_spec f f.length (List.length_pos_iff.2 h)
  exact IsLow.unique ⟨h1, h2, h3⟩ (low_spec f h)
theorem lowTo_le (f : List Int) (i : Nat) : lowTo f i ≤ i := by
  rcases Nat.eq_zero_or_pos i with h0 | h0
  · subst h0; exact Nat.le_refl _
  · have := (lowTo_spec f i h0).1; omega
theorem leftTo_left (h : Int) (f : List Int) (hf : ∀ c, c < f.length → ht f c ≤ h) : ∀ i, i ≤ f.length → leftTo h f i = left h (f.take i)
  | 0, _ => by simp [leftTo, left]
  | i + 1, hi => by
    have e := leftTo_left h f hf i (by omega)
    have := hf i (by omega)
    have hg : ht f i = f[i] := by unfold ht; rw [List.getD_eq_getElem?_getD, List.getElem?_eq_getElem (by omega)]; rfl
    rw [List.take_succ_eq_append_getElem (by omega), left_append, leftTo, e, ← hg]
    simp only [left]
    omega
theorem leftTo_bd (h : Int) (f : List Int) (hh : 0 ≤ h ∧ h ≤ 1000) (hf : ∀ c, c < f.length → 0 ≤ ht f c ∧ ht f c ≤ h) : ∀ i, i ≤ f.length → 0 ≤ leftTo h f i ∧ leftTo h f i ≤ i * 1000
  | 0, _ => by simp [leftTo]
  | i + 1, hi => by
    have e := leftTo_bd h f hh hf i (by omega)
    have := hf i (by omega)
    simp only [leftTo]
    omega
theorem lst_f (a b : Int) : spec_l1Least.f a b = some (min a b) := by
  unfold spec_l1Least.f; split <;> simp <;> omega
theorem cuS_ev (l : List Sq) (hl : l.length ≤ 500000) : ∃ k, spec_cuSorted.f k l = some (srt l) := ⟨0, if_pos hl⟩
structure LO (w0 : World) (OB : Nat) (vO : Value) (outs : List Ct) (w : World) : Prop where
  be : Below w0.heap.size w0 w
  box : w.heap[OB]? = some (.cells #[vO] 53 (0, 0))
  ob : w0.heap.size ≤ OB
  row : Kd.S k37 37 w w0.heap.size (fun k => k ≠ OB) vO outs
def LS (OB : Nat) (vO : Value) (k : Nat) : Prop := k = OB ∨ some k = vO.ownBlock
def LN (vO vO' : Value) (w : World) : Prop := vO'.ownBlock = vO.ownBlock ∨ ∃ b, vO'.ownBlock = some b ∧ w.heap.size ≤ b
theorem LN.refl (vO : Value) (w : World) : LN vO vO w := .inl rfl
theorem LN.trans {a b c : Value} {w w1 : World} (h : LN a b w) (k : LN b c w1) (hz : w.heap.size ≤ w1.heap.size) : LN a c w := by
  rcases k with k | ⟨x, k1, k2⟩
  · rcases h with h | ⟨y, h1, h2⟩
    · exact .inl (k.trans h)
    · exact .inr ⟨y, k.trans h1, h2⟩
  · exact .inr ⟨x, k1, by omega⟩
theorem Kept.next {OB : Nat} {vO vO' : Value} {w w1 w2 : World} (h : Kept w w1 (LS OB vO)) (hn : LN vO vO' w) (k : Kept w1 w2 (LS OB vO')) : Kept w w2 (LS OB vO) :=
  h.then_ k (fun j hj => by
    rcases hj with hj | hj
    · exact .inl (.inl hj)
    · rcases hn with e | ⟨b, e, hb⟩
      · exact .inl (.inr (by rw [← e]; exact hj))
      · rw [e] at hj; injection hj with hj; subst hj; exact .inr hb)
section
variable {w0 w w1 : World} {OB : Nat} {vO : Value} {outs : List Ct}
theorem LO.lt (h : LO w0 OB vO outs w) : OB < w.heap.size := blk_lt h.box
theorem LO.below (h : LO w0 OB vO outs w) (hb : Below w.heap.size w w1) : LO w0 OB vO outs w1 :=
  ⟨h.be.trans (hb.mono h.be.size), blk_below h.box hb, h.ob, Kd.S_below h.row hb⟩
theorem LO.cell (h : LO w0 OB vO outs w) : w.cell? ⟨OB, 0, none⟩ = some vO := (blk_cell h.box 0).trans rfl
theorem LO.other {α : Type} {d : Kd α} {e : Nat} {v : Value} {xs : List α} (hE : d.E = []) (h : LO w0 OB vO outs w) (hr : d.R e w w0.heap.size (fun _ => True) v xs) (h1 : e ≠ 53) (h2 : e ≠ 37) (hkp : Kept w w1 (LS OB vO)) : d.R e w1 w0.heap.size (fun _ => True) v xs := by
  refine Kd.R_mono (Kd.R_kept (Kd.R_tight hE hr) hkp (fun k hk hs => ?_)) (fun _ _ => trivial)
  rcases hs with hs | hs
  · subst hs; exact Kd.R_ne hr h.box h1 hk
  · obtain ⟨_, ho1, _⟩ := hr.2
    obtain ⟨_, ho2, _⟩ := (Kd.S_R h.row).2
    rcases own_type_ne ho1 ho2 h2 with e | e
    · rw [e] at hk; cases hk
    · exact e (hk.symm.trans hs)
theorem LO.boxed {w2 : World} (h : LO w0 OB vO outs w) (hb : Below w.heap.size w w1) (hg : w1.grownBy w2 vO.ownBlock) : w2.cell? ⟨OB, 0, none⟩ = some vO ∧ w2.frozen? ⟨OB, 0, none⟩ = false := by
  have h1 := h.below hb
  have hne : some OB ≠ vO.ownBlock := Kd.R_ne (Kd.S_R h1.row) h1.box (by decide)
  have hbx := blk_grown h1.box hg hne
  exact ⟨(blk_cell hbx 0).trans rfl, blk_frozen hbx 0⟩
theorem R_sl {α : Type} {d : Kd α} {w : World} {base e : Nat} {ok : Nat → Prop} {v : Value} {xs : List α} (h : d.R e w base ok v xs) : ∃ A n c, v = .slice A n c := by
  obtain ⟨A, c, e⟩ := Kd.R_slice h
  exact ⟨_, _, _, e⟩
theorem S_sl {α : Type} {d : Kd α} {w : World} {base e : Nat} {ok : Nat → Prop} {v : Value} {xs : List α} (h : Kd.S d e w base ok v xs) : ∃ A n c, v = .slice A n c := by
  obtain ⟨A, c, e⟩ := Kd.S_slice h
  exact ⟨_, _, _, e⟩
theorem LO.put {v1 : Value} {c : Ct} {w2 : World} (h : LO w0 OB vO outs w) (hb : Below w.heap.size w w1) (ho : Kd.S k37 37 w2 w0.heap.size (fun k => k ≠ OB) v1 (outs ++ [c])) (hbe : Below w0.heap.size w0 w2) (hg : w1.grownBy w2 vO.ownBlock) (hat : v1.ownBlock = vO.ownBlock ∨ ∃ b, v1.ownBlock = some b ∧ w1.heap.size ≤ b) :
    LO w0 OB v1 (outs ++ [c]) (w2.setCell ⟨OB, 0, none⟩ v1) ∧ LN vO v1 w ∧ Kept w (w2.setCell ⟨OB, 0, none⟩ v1) (LS OB vO) := by
  have h1 := h.below hb
  have hne : some OB ≠ vO.ownBlock := Kd.R_ne (Kd.S_R h1.row) h1.box (by decide)
  have hbx := blk_grown h1.box hg hne
  refine ⟨⟨?_, blk_put hbx 0 _ rfl, h.ob, Kd.S_far (p := ⟨OB, 0, none⟩) ho (fun _ hk => hk) _⟩, ?_, ?_⟩
  · exact ⟨hbe.os, hbe.tape, hbe.output, by simpa [World.setCell] using hbe.size, fun k hk => (Below.heap_setCell w2 _ _ k (by have := h.ob; simp only; omega)).trans (hbe.block k hk)⟩
  · rcases hat with e | ⟨b, e, hle⟩
    · exact .inl e
    · exact .inr ⟨b, e, Nat.le_trans hb.size hle⟩
  · refine Kept.setCell (Kept.of_grown hg (Kept.of_below hb _) (fun k hk => .inl (.inr hk.symm))) (.inl (.inl rfl)) _
end
theorem row_cut {w : World} {base : Nat} {v : Value} {l : List Sq} {w1 : World} (a b : Int) (hv : Kd.R k56 56 w1 w.heap.size (fun _ => True) v l) (hb : base ≤ w.heap.size) :
    (k37).M w1 base (fun k => w.heap.size ≤ k) (⟨a, b, l⟩ : Ct) [.int .i64 a, .int .i64 b, v] :=
  k37_mkM w1 base _ ⟨a, b, l⟩ (Kd.R_lower (Kd.R_mono (Kd.R_bound hv) (fun k hk => hk.2.1)) hb)
theorem R_empty (W : World) (base : Nat) (hb : base ≤ W.heap.size) : Kd.R k56 56 (W.alloc (.cells #[] 56)) base (fun _ => True) (.slice (some ⟨W.heap.size, 0, none⟩) 0 0) [] :=
  ⟨fun k hk => trivial, [], World.ownsRow_lit (base := base) (e := 56) (size := 3) W #[] 0 hb (by simp [maxLen]) (by simp), Reps.none _ _⟩
theorem C_of_blk {W : World} {L : Nat} (q : Sq) (h : W.heap[L]? = some (.cells #[.int .i64 q.f0, .int .i64 q.f1, .int .i64 q.f2] 56 (0, 0))) : Kd.C k56 W (some ⟨L, 0, none⟩) 1 [q] := by
  have hh : Kd.R k56 56 W 0 (fun _ => True) (.slice (some ⟨L, 0, none⟩) 1 1) [q] :=
    ⟨fun k hk => trivial, [.int .i64 q.f0, .int .i64 q.f1, .int .i64 q.f2], ⟨by rfl, .inr ⟨L, 1, _, rfl, Nat.zero_le _, h, Nat.le_refl _, by simp [maxLen], by rfl, by rfl⟩⟩, Reps.c3 (k56_mkM _ _ _ q) (Reps.none _ _)⟩
  exact (Kd.R_reads' hh).2.2
theorem below_put {B : Nat} {w w1 : World} (h : Below B w w1) {p : Addr} (hp : B ≤ p.block) (u : Value) : Below B w (w1.setCell p u) :=
  ⟨h.os, h.tape, h.output, by simpa [World.setCell] using h.size, fun k hk => (Below.heap_setCell w1 p u k (by omega)).trans (h.block k hk)⟩
theorem rev_range (i : Nat) : (List.range (i + 1)).reverse = i :: (List.range i).reverse := by rw [List.range_succ, List.reverse_append]; rfl
theorem mul_bd {a b A B : Int} (h0 : -A ≤ a) (h1 : a ≤ A) (k0 : 0 ≤ b) (k1 : b ≤ B) (hA : 0 ≤ A) : -(A * B) ≤ a * b ∧ a * b ≤ A * B := by
  have e1 : a * b ≤ A * b := Int.mul_le_mul_of_nonneg_right h1 k0
  have e2 : A * b ≤ A * B := Int.mul_le_mul_of_nonneg_left k1 hA
  have e3 : -A * b ≤ a * b := Int.mul_le_mul_of_nonneg_right h0 k0
  rw [Int.neg_mul] at e3
  omega
theorem prune_w (more mi : Int) (h0 : -1000001 ≤ more) (h1 : more ≤ 1000001) (h2 : 0 ≤ mi) (h3 : mi ≤ 1000) : ∃ z1 z2 : Int, wrap64 (more * mi) = z1 ∧ wrap64 (z1 * mi) = z2 ∧ more * mi * mi = z2 := by
  have hb1 := mul_bd (a := more) (b := mi) (A := 1000001) (B := 1000) h0 h1 h2 h3 (by decide)
  have hb2 := mul_bd (a := more * mi) (b := mi) (A := 1000001 * 1000) (B := 1000) hb1.1 hb1.2 h2 h3 (by decide)
  exact ⟨more * mi, more * mi * mi, w64 (by omega) (by omega), w64 (by omega) (by omega), rfl⟩
theorem room_w (f : List Int) (H : Int) (hlt : low f < f.length) (hb : 0 ≤ ht f (low f) ∧ ht f (low f) ≤ H) (hH : H ≤ 1000) (hn : f.length ≤ 1000) (hle : low f + runAt f (low f) ≤ f.length) :
    wrap64 (H - ht f (low f)) = H - ht f (low f) ∧ min (runAt f (low f) : Int) (H - ht f (low f)) = (room f H (low f) : Int) ∧ room f H (low f) ≤ 1000 :=
  ⟨w64 (by omega) (by omega), by unfold room; omega, by unfold room; omega⟩
theorem own_lt' {α : Type} {d : Kd α} {w : World} {base e : Nat} {ok : Nat → Prop} {v : Value} {xs : List α} (h : d.R e w base ok v xs) : ∀ k, v.ownBlock = some k → k < w.heap.size := by
  obtain ⟨_, ho, _⟩ := h.2
  exact own_lt ho
def LookPost (w0 : World) (OB : Nat) (vO : Value) (outs : List Ct) (w : World) (e : Ending) (w' : World) : Prop :=
  (∃ v, e = .returned v) ∧ ∃ vO', LO w0 OB vO' outs w' ∧ LN vO vO' w ∧ Kept w w' (LS OB vO)
set_option maxHeartbeats 8000000 in
set_option maxRecDepth 100000 in
theorem spec_feLook_calls (w0 : World) (OB : Nat) (H : Int) (hH : 0 ≤ H ∧ H ≤ 1000) (N : Nat) (hN : N ≤ 1000) :
    ∀ (n : Nat) (f : List Int) (sq : List Sq) (more : Int) (vO vF vS : Value) (outs : List Ct) (w : World), LO w0 OB vO outs w →
      Kd.R (Kd.int .i64) 3 w w0.heap.size (fun _ => True) vF f → Kd.R k56 56 w w0.heap.size (fun _ => True) vS sq →
      f.length = N → Fits f H → left H f < n → (∀ c, c < f.length → 0 ≤ ht f c) → sq.length + left H f ≤ 100000 → (left H f : Int) - 1000001 ≤ more → more ≤ 1000000 →
      outs.length + (lookP H (min (N : Int) H) n f sq more).length ≤ 1000000000000 →
      Calls Try.prog 71 #[.int .i64 (N : Int), .int .i64 H, vF, vS, .int .i64 more, .pointer (some ⟨OB, 0, none⟩)] w
        (LookPost w0 OB vO (outs ++ (lookP H (min (N : Int) H) n f sq more).map (fun t => (⟨N, H, srt t⟩ : Ct))) w) := by
  intro n
  induction n with
  | zero => intro f sq more vO vF vS outs w _ _ _ _ _ hn; omega
  | succ n ih =>
    intro f sq more vO vF vS outs w hO hF hS hlen hfit hleft hpos hsq hm0 hm1 hout
    have L := low_spec f hfit.1
    have hcap : ∀ c, c < f.length → 0 ≤ ht f c ∧ ht f c ≤ H := fun c hc => ⟨hpos c hc, hfit.2 c hc⟩
    obtain ⟨kC, hC⟩ := cuS_ev sq (by omega)
    obtain ⟨AF, cF, e1⟩ := Kd.R_slice hF
    obtain ⟨AS, cS, e2⟩ := Kd.R_slice hS
    obtain ⟨AO, cO, e3⟩ := Kd.S_slice hO.row
    subst e1 e2 e3
    have HF := Aside0.mk hF
    have HS := Aside0.mk hS
    have HO := Aside0.mk hO
    have HIH := Aside0.mk ih
    have HFIT := Aside0.mk hfit
    have HL := Aside0.mk L
    have HCAP := Aside0.mk hcap
    have HSQ := Aside0.mk hsq
    have HOUT := Aside0.mk hout
    have HLEFT := Aside0.mk hleft
    have HC := Aside0.mk hC
    have HM0 := Aside0.mk hm0
    have HM1 := Aside0.mk hm1
    have hle1 : leftTo H f f.length = left H f := by rw [leftTo_left H f (fun c hc => (hcap c hc).2) _ (Nat.le_refl _), List.take_length]
    have hle2 := lowTo_low f hfit.1
    have HLT := Aside0.mk hle1
    have HLW := Aside0.mk hle2
    have HLB := Aside0.mk (leftTo_bd H f hH hcap)
    -- the columns, in whatever world the row stands
    have HCOL : Aside0 (∃ ad, AF = some ad ∧ ∀ W, Kd.C (Kd.int .i64) W AF f.length f → ∀ i : Int, 0 ≤ i → i < (N : Int) → W.cell? (ad.add i.toNat) = some (.int .i64 (ht f i.toNat))) := ⟨by
      have h0 := L.lt
      obtain ⟨ad, e, _⟩ := Kd.at_int (Kd.R_reads' hF).2.2 0 (by omega) (by omega)
      refine ⟨ad, e, fun W hW i hi hi2 => ?_⟩
      obtain ⟨ad2, e2, hc⟩ := Kd.at_int hW i hi (by omega)
      rw [e] at e2
      injection e2 with e2
      subst e2
      exact hc⟩
    obtain ⟨ad, had, hcol⟩ := HCOL.out
    subst had
    have HCOL := Aside0.mk hcol
    clear hcol
    clear hF hS hO ih hfit L hcap hpos hsq hout hleft hC hm0 hle1 hle2
    go_enter Try.func71, Try.ntmps71
    go_wp2_with fail
    go_loopg [12, 13, 24] N (fun kq v12 v13 v24 wc => ∃ i : Nat, i ≤ N ∧ N - i ≤ kq ∧ v12 = .int .i64 (lowTo f i : Int) ∧ v13 = .int .i64 (leftTo H f i) ∧ v24 = .int .i64 (i : Int) ∧ wc = w)
    case atStart => exact ⟨0, by omega, by omega, rfl, rfl, rfl, rfl⟩
    case round =>
      obtain ⟨i, hi, hkq, rfl, rfl, rfl, rfl⟩ := hrel
      have HLE := Aside0.mk (lowTo_le f i)
      have HC1 := Aside0.mk (Kd.R_reads' HF.out).2.2
      by_cases hlt : i < N
      · have hxl : lowTo f i < N := by have := HLE.out; omega
        have HY := Aside0.mk (HCAP.out i (by omega))
        have HYX := Aside0.mk (HCAP.out _ (by omega : lowTo f i < f.length))
        have HB0 := Aside0.mk (HLB.out i (by omega))
        have HB1 := Aside0.mk (HLB.out (i + 1) (by omega))
        have HN1 : Aside0 (lowTo f (i + 1) = if ht f i < ht f (lowTo f i) then i else lowTo f i) := ⟨rfl⟩
        have HN2 : Aside0 (leftTo H f (i + 1) = leftTo H f i + (H - ht f i)) := ⟨rfl⟩
        obtain ⟨xi, hxi⟩ : ∃ z : Int, (i : Int) = z := ⟨_, rfl⟩
        obtain ⟨xl, hxl2⟩ : ∃ z : Int, (lowTo f i : Int) = z := ⟨_, rfl⟩
        obtain ⟨yi, hyi⟩ : ∃ z : Int, ht f i = z := ⟨_, rfl⟩
        obtain ⟨yl, hyl⟩ : ∃ z : Int, ht f (lowTo f i) = z := ⟨_, rfl⟩
        obtain ⟨lf, hlf⟩ : ∃ z : Int, leftTo H f i = z := ⟨_, rfl⟩
        rw [hyi] at HY HN1 HN2
        rw [hyl] at HYX HN1
        rw [hlf] at HB0 HN2
        have p1 := HCOL.out wr HC1.out xi (by omega) (by omega)
        have p2 := HCOL.out wr HC1.out xl (by omega) (by omega)
        rw [show xi.toNat = i by omega, hyi] at p1
        rw [show xl.toNat = lowTo f i by omega, hyl] at p2
        rw [show i = xi.toNat by omega] at p1
        rw [show lowTo f i = xl.toNat by omega] at p2
        have b1 : decide (xi < (N : Int)) = true := decide_eq_true (by omega)
        have q1 := eq_true (show 0 ≤ xi by omega)
        have q2 := eq_true (show xi < (N : Int) by omega)
        have q3 := eq_true (show 0 ≤ xl by omega)
        have q4 := eq_true (show xl < (N : Int) by omega)
        rw [hxi, hxl2, hlf]
        have HXI := Aside0.mk hxi
        have HXL := Aside0.mk hxl2
        have HLF := Aside0.mk hlf
        have hw1 : wrap64 (H - yi) = H - yi := w64 (by have := HY.out; omega) (by have := HY.out; omega)
        have hw2 : wrap64 (lf + (H - yi)) = lf + (H - yi) := w64 (by have := HY.out; have := HB0.out; omega) (by have := HY.out; have := HB0.out; omega)
        have hw3 : wrap64 (xi + 1) = ((i + 1 : Nat) : Int) := by rw [w64 (by omega) (by omega)]; omega
        have HW := Aside0.mk (And.intro hw1 (And.intro hw2 hw3))
        clear hxi hxl2 hlf hyi hyl hw1 hw2 hw3 hlt hxl
        by_cases hyy : yi < yl
        · have b2 : decide (yi < yl) = true := decide_eq_true hyy
          have HYY := Aside0.mk hyy
          clear hyy
          go_wp2_with fail
          go_roundg (N - (i + 1))
          case measure => have := HXI.out; have := of_decide_eq_true b1; omega
          case rel =>
            refine ⟨i + 1, by have := HXI.out; have := of_decide_eq_true b1; omega, Nat.le_refl _, ?_, ?_, ?_, rfl⟩
            · rw [HN1.out, if_pos HYY.out, HXI.out]
            · rw [HN2.out]
              have h1 := HW.out.1
              have h2 := HW.out.2.1
              first | rfl | (rw [← h2, ← h1]; done) | (rw [h1, h2]; done)
            · have h3 := HW.out.2.2
              rw [← h3]
        · have b2 : decide (yi < yl) = false := decide_eq_false hyy
          have HYY := Aside0.mk hyy
          clear hyy
          go_wp2_with fail
          go_roundg (N - (i + 1))
          case measure => have := HXI.out; have := of_decide_eq_true b1; omega
          case rel =>
            refine ⟨i + 1, by have := HXI.out; have := of_decide_eq_true b1; omega, Nat.le_refl _, ?_, ?_, ?_, rfl⟩
            · rw [HN1.out, if_neg (by have := HYY.out; omega), HXL.out]
            · rw [HN2.out]
              have h1 := HW.out.1
              have h2 := HW.out.2.1
              first | rfl | (rw [← h2, ← h1]; done) | (rw [h1, h2]; done)
            · have h3 := HW.out.2.2
              rw [← h3]
      · have b1 : decide ((i : Int) < (N : Int)) = false := decide_eq_false (by omega)
        obtain rfl : N = i := by omega
        rw [← hlen] at b1 ⊢
        rw [HLW.out, HLT.out]
        rw [hlen] at b1 ⊢
        by_cases hl0 : left H f = 0
        · have hz : (((left H f : Nat) : Int) == 0) = true := by rw [hl0]; rfl
          have HP : Aside0 (lookP H (min (N : Int) H) (n + 1) f sq more = [sq]) := ⟨by simp only [lookP]; rw [if_pos hl0]⟩
          --LEAF{
          have HCS : Aside0 (∀ V, Below wr.heap.size wr V → Calls Try.prog 83 #[.slice AS sq.length cS] V fun e w' => ∃ v0, e = .returned v0 ∧ Kd.R k56 56 w' wr.heap.size (fun _ => True) v0 (srt sq) ∧ Below wr.heap.size wr w') := ⟨fun V hV => by
            refine (spec_cuSorted.calls kC AS cS sq (srt sq) V (Kd.R_reads' (Kd.R_below HS.out hV)).2.2 (Kd.R_reads' HS.out).2.1 HC.out).mono ?_
            rintro e w' ⟨v0, rfl, hr, hb⟩
            exact ⟨v0, rfl, Kd.R_lower hr hV.size, hV.trans (hb.mono hV.size)⟩⟩
          have HMK : Aside0 (∀ w' A1 c1, Kd.R k56 56 w' wr.heap.size (fun _ => True) (.slice A1 (srt sq).length c1) (srt sq) → Below wr.heap.size wr w' → (k37).M w' w0.heap.size (fun k => wr.heap.size ≤ k) (⟨N, H, srt sq⟩ : Ct) [.int .i64 (N : Int), .int .i64 H, .slice A1 (srt sq).length c1] ∧ (∀ k, w'.heap.size ≤ k → k ≠ OB) ∧ LO w0 OB (.slice AO outs.length cO) outs w' ∧ Kd.S k37 37 w' w0.heap.size (fun k => k ≠ OB ∧ ¬ wr.heap.size ≤ k) (.slice AO outs.length cO) outs) := ⟨fun w' A1 c1 hr hb => ⟨row_cut (N : Int) H hr HO.out.be.size, fun k hk e => by have := (HO.out.below hb).lt; omega, HO.out.below hb, Kd.S_below (Kd.S_mono (Kd.S_bound HO.out.row) (fun k hk => ⟨hk.1, by have := hk.2.2.1; omega⟩)) hb⟩⟩
          have HNE : Aside0 (∀ k, wr.heap.size ≤ k → k ≠ OB ∧ some k ≠ (Value.slice AO outs.length cO).ownBlock) := ⟨fun k hk => ⟨fun e => by have := HO.out.lt; omega, fun e => by have := own_lt' (Kd.S_R HO.out.row) k e.symm; omega⟩⟩
          have HLN : Aside0 ((outs.length + 1) * 40 ≤ 140737488355328) := ⟨by have h1 := HOUT.out; rw [HP.out] at h1; simp at h1; omega⟩
          have hcc := HO.out.cell
          have hu38 := Try.underlying37
          clear hl0
          go_wp2_with fail
          go_region_law (first | (go_simp; go_at_call 83; refine (HCS.out _ (by first | exact Below.refl _ _ | exact (Below.refl _ _).drew)).mono ?_; rintro e w' ⟨v0, rfl, hr, hb⟩; obtain ⟨A1, c1, e1⟩ := Kd.R_slice hr; subst e1; have HR1 := Aside0.mk hr; have HB1 := Aside0.mk hb; have hcc2 := (HO.out.below hb).cell; have hcc3 : (w'.alloc (.cells #[.int .i64 (N : Int), .int .i64 H, .slice A1 (srt sq).length c1] 37)).cell? ⟨OB, 0, none⟩ = some (.slice AO outs.length cO) := (World.cell?_alloc_lt _ _ _ (HO.out.below hb).lt).trans hcc2; clear hr hb) | (refine Kd.S_append_step k37 (w0 := w0) w0.heap.size (by simp [Region.wanted]) (.tmp 47) (.tmp 53) 53 37 (.agg #[.int .i64 0, .int .i64 0, .slice none 0 0]) 40 rfl Try.underlying53 info37 rfl (by decide) (by omega) (.slice AO outs.length cO) outs (⟨N, H, srt sq⟩ : Ct) [.int .i64 (N : Int), .int .i64 H, .slice A1 (srt sq).length c1] (fun k => k ≠ OB) (fun k => wr.heap.size ≤ k) rfl rfl (HMK.out _ _ _ HR1.out HB1.out).1 HNE.out (HMK.out _ _ _ HR1.out HB1.out).2.1 (HMK.out _ _ _ HR1.out HB1.out).2.2.2 (HMK.out _ _ _ HR1.out HB1.out).2.2.1.be (HMK.out _ _ _ HR1.out HB1.out).2.2.1.be.size HLN.out ?_; intro v1 w1 ho hb hg hat; obtain ⟨A2, n2, c2, e2⟩ := S_sl ho; subst e2; have HPUT := Aside0.mk (HO.out.put HB1.out ho hb hg hat); have hbx := HO.out.boxed HB1.out hg; have hbx1 := hbx.1; have hbx2 := hbx.2; clear ho hb hg hat hbx))
          all_goals
            go_wp2_with fail
            go_end0
            rw [HP.out, List.map_singleton]
            exact ⟨⟨_, rfl⟩, _, HPUT.out.1, HPUT.out.2.1, HPUT.out.2.2⟩
          --LEAF}
        · have hz : (((left H f : Nat) : Int) == 0) = false := by simp; omega
          have HL0 := Aside0.mk hl0
          clear hl0
          obtain ⟨wo, rfl⟩ : ∃ wo : World, wo = wr := ⟨_, rfl⟩
          obtain ⟨xl, hxl⟩ : ∃ z : Int, (low f : Int) = z := ⟨_, rfl⟩
          obtain ⟨lf, hlf⟩ : ∃ z : Int, ((left H f : Nat) : Int) = z := ⟨_, rfl⟩
          rw [hxl, hlf]
          rw [hlf] at hz
          have HXL := Aside0.mk hxl
          have HLF := Aside0.mk hlf
          clear hxl hlf
          go_upto_block 2 with (fail)
          go_cut [16] (fun v16 wc => v16 = .int .i64 (runAt f (low f) : Int) ∧ ∃ q, wc = wo.drewN q)
          case first => as_aux_lemma =>
            --CUT{
            go_wp2_with fail
            go_loopg [16] N (fun kq v16 wc => ∃ r : Nat, r ≤ runAt f (low f) ∧ N - r ≤ kq ∧ v16 = .int .i64 (r : Int) ∧ ∃ q, wc = wo.drewN q)
            case atStart => exact ⟨0, by omega, by omega, rfl, 0, rfl⟩
            case round =>
              obtain ⟨r, hr, hkq, rfl, q, rfl⟩ := hrel
              have HRD := Aside0.mk (Kd.R_reads' HF.out).2.2
              have hlow := HL.out.lt
              have HRW := Aside0.mk (runAt_le f (low f) (by omega))
              have HREQ := Aside0.mk (runAt_eq f (low f))
              have HREN := Aside0.mk (runAt_end f (low f))
              have HY0 := Aside0.mk (HCAP.out _ hlow)
              have hxl := HXL.out
              obtain ⟨ri, hri⟩ : ∃ z : Int, (r : Int) = z := ⟨_, rfl⟩
              obtain ⟨zi, hzi⟩ : ∃ z : Int, xl + ri = z := ⟨_, rfl⟩
              have hwz : wrap64 (xl + ri) = zi := by have h1 := HRW.out; rw [w64 (by omega) (by omega)]; exact hzi
              have hwz2 : IntKind.i64.wrap (xl + ri) = zi := (i64_w' _).trans hwz
              have hwr : wrap64 (ri + 1) = ((r + 1 : Nat) : Int) := by have h1 := HRW.out; rw [w64 (by omega) (by omega)]; omega
              have p2 := HCOL.out _ HRD.out xl (by omega) (by omega)
              rw [show xl.toNat = low f by omega] at p2
              obtain ⟨y0, hy0⟩ : ∃ z : Int, ht f (low f) = z := ⟨_, rfl⟩
              rw [hy0] at p2
              rw [show low f = xl.toNat by omega] at p2
              have q3 := eq_true (show 0 ≤ xl by omega)
              have q4 := eq_true (show xl < (N : Int) by omega)
              have HRI := Aside0.mk hri
              have HZI := Aside0.mk hzi
              have HWR := Aside0.mk hwr
              rw [hri]
              by_cases hin : low f + r < N
              · have p1 := HCOL.out _ HRD.out zi (by omega) (by omega)
                rw [show zi.toNat = low f + r by omega] at p1
                obtain ⟨y1, hy1⟩ : ∃ z : Int, ht f (low f + r) = z := ⟨_, rfl⟩
                rw [hy1] at p1
                rw [show low f + r = zi.toNat by omega] at p1
                have b1 : decide (zi < (N : Int)) = true := decide_eq_true (by omega)
                have q1 := eq_true (show 0 ≤ zi by omega)
                have q2 := eq_true (show zi < (N : Int) by omega)
                have HY := Aside0.mk (And.intro hy0 hy1)
                have HIN := Aside0.mk hin
                clear hxl hri hzi hy0 hy1 hin hlow hwr
                by_cases hyy : y1 = y0
                · have b2 : (y1 == y0) = true := by rw [hyy]; exact beq_self_eq_true y0
                  have HYY := Aside0.mk hyy
                  have HRR : Aside0 (r + 1 ≤ runAt f (low f)) := ⟨by
                    rcases Nat.lt_or_eq_of_le hr with h | h
                    · omega
                    · exfalso
                      have h1 := HREN.out (by rw [← h, hlen]; exact HIN.out)
                      rw [← h, HY.out.1, HY.out.2] at h1
                      exact h1 HYY.out⟩
                  clear hyy
                  go_wp2_with fail
                  go_quiet (fail)
                  go_wp2_with fail
                  go_roundg (N - (r + 1))
                  case measure => have := HIN.out; omega
                  case rel => exact ⟨r + 1, HRR.out, Nat.le_refl _, by rw [← HWR.out], _, by first | rfl | exact World.drewN_drewN _ _ _⟩
                · have b2 : (y1 == y0) = false := by simp [hyy]
                  have HYY := Aside0.mk hyy
                  have HRR : Aside0 (ri = (runAt f (low f) : Int)) := ⟨by
                    rcases Nat.lt_or_eq_of_le hr with h | h
                    · exfalso
                      have h1 := HREQ.out r h
                      rw [HY.out.1, HY.out.2] at h1
                      exact hyy h1
                    · have := HRI.out; omega⟩
                  clear hyy
                  go_wp2_with fail
                  go_quiet (fail)
                  go_wp2_with fail
                  go_meet
                  case rel => exact ⟨by rw [HRR.out], _, World.drewN_drewN _ _ _⟩
              · have b1 : decide (zi < (N : Int)) = false := decide_eq_false (by omega)
                have HRR : Aside0 (ri = (runAt f (low f) : Int)) := ⟨by have := HRW.out; omega⟩
                clear hxl hri hzi hy0 hin hlow hwr
                go_wp2_with fail
                go_quiet (fail)
                go_wp2_with fail
                go_meet
                case rel => exact ⟨by rw [HRR.out], _, World.drewN_drewN _ _ _⟩
            --CUT}
          case rest =>
            obtain ⟨rfl, q, rfl⟩ := hcut
            --REST
            have hxl := HXL.out
            have hlow := HL.out.lt
            have hrw := runAt_le f (low f) (by omega)
            have p2 := HCOL.out _ (Kd.R_reads' HF.out).2.2 xl (by omega) (by omega)
            rw [show xl.toNat = low f by omega] at p2
            have HYB := Aside0.mk (HCAP.out _ hlow)
            obtain ⟨y0, hy0⟩ : ∃ z : Int, ht f (low f) = z := ⟨_, rfl⟩
            rw [hy0] at p2 HYB
            rw [show low f = xl.toNat by omega] at p2
            obtain ⟨hwH, hrm2, hrm3⟩ := room_w f H hlow (HCAP.out _ hlow) hH.2 (by omega) hrw
            rw [hy0] at hwH hrm2
            obtain ⟨hy, hhy⟩ : ∃ z : Int, H - y0 = z := ⟨_, rfl⟩
            obtain ⟨rm, hrm⟩ : ∃ z : Nat, room f H (low f) = z := ⟨_, rfl⟩
            rw [hrm] at hrm2 hrm3
            have HRMB := Aside0.mk hrm3
            replace hwH : wrap64 (H - y0) = hy := hwH.trans hhy
            rw [hhy] at hrm2
            obtain ⟨ra, hra⟩ : ∃ z : Int, ((runAt f (low f) : Nat) : Int) = z := ⟨_, rfl⟩
            rw [hra] at hrm2 ⊢
            have HA1 := Aside0.mk (fun W => spec_l1Least.calls ra hy (rm : Int) W (by rw [lst_f, hrm2]))
            clear hrm2 hra hhy
            have hmi2 : 0 ≤ min (N : Int) H ∧ min (N : Int) H ≤ 1000 := by omega
            obtain ⟨mi, hmi⟩ : ∃ z : Int, min (N : Int) H = z := ⟨_, rfl⟩
            have HA2 := Aside0.mk (fun W => spec_l1Least.calls (N : Int) H mi W (by rw [lst_f, hmi]))
            have HMI := Aside0.mk hmi
            rw [hmi] at hmi2
            clear hmi
            obtain ⟨z1, z2, hw1, hw2, hz2⟩ := prune_w more mi (by have := HM0.out; omega) (by omega) hmi2.1 hmi2.2
            have q3 := eq_true (show 0 ≤ xl by omega)
            have q4 := eq_true (show xl < (N : Int) by omega)
            have HZ2 : Aside0 (more * min (N : Int) H * min (N : Int) H = z2) := ⟨by rw [HMI.out]; exact hz2⟩
            have HRM := Aside0.mk hrm
            have HY0 := Aside0.mk hy0
            have HRW := Aside0.mk hrw
            clear hxl hlow hrw hy0 hrm hrm3 hmi2 hz2
            by_cases hpr : z2 < lf
            · have hpz : decide (z2 < lf) = true := decide_eq_true hpr
              have HP : Aside0 (lookP H (min (N : Int) H) (n + 1) f sq more = []) := ⟨by simp only [lookP]; rw [if_neg HL0.out, if_pos (by rw [HZ2.out]; have := HLF.out; omega)]⟩
              clear hpr
              --PR{
              go_wp2_with (first | (go_at_call 51; refine (HA1.out _).mono ?_; rintro e w1 ⟨rfl, ⟨nd, rfl⟩⟩) | (go_at_call 51; refine (HA2.out _).mono ?_; rintro e w1 ⟨rfl, ⟨nd2, rfl⟩⟩))
              go_end0
              rw [HP.out, List.map_nil, List.append_nil]
              exact ⟨⟨_, rfl⟩, _, HO.out.below (by repeat (first | exact Below.refl _ _ | apply pw_below_drewN)), LN.refl _ _, Kept.of_below (by repeat (first | exact Below.refl _ _ | apply pw_below_drewN)) _⟩
              --PR}
            · have hpz : decide (z2 < lf) = false := decide_eq_false hpr
              obtain ⟨ch, hch⟩ : ∃ ch : Nat → List (List Sq), (fun i => lookP H (min (N : Int) H) n (place f (low f) (i + 1) (ht f (low f) + (i + 1 : Nat))) (sq ++ [⟨low f, ht f (low f), (i + 1 : Nat)⟩]) (more - 1)) = ch := ⟨_, rfl⟩
              have HP : Aside0 (lookP H (min (N : Int) H) (n + 1) f sq more = (List.range rm).reverse.flatMap ch) := ⟨by simp only [lookP]; rw [if_neg HL0.out, if_neg (by rw [HZ2.out]; have := HLF.out; omega), HRM.out, ← hch]⟩
              have HCH := Aside0.mk hch
              clear hpr hch
              go_upto_region 16 with (first | (go_at_call 51; refine (HA1.out _).mono ?_; rintro e w1 ⟨rfl, ⟨nd, rfl⟩⟩) | (go_at_call 51; refine (HA2.out _).mono ?_; rintro e w1 ⟨rfl, ⟨nd2, rfl⟩⟩))
              go_wp2_with fail
              obtain ⟨R, hR⟩ : ∃ R : List Ct, outs ++ (lookP H (min (N : Int) H) (n + 1) f sq more).map (fun t => (⟨N, H, srt t⟩ : Ct)) = R := ⟨_, rfl⟩
              have HR := Aside0.mk hR
              have HRL : Aside0 (R.length ≤ 1000000000000) := ⟨by rw [← hR, List.length_append, List.length_map]; exact HOUT.out⟩
              clear hR p2 q3 q4 HA1 HA2 hw1 hw2 hwH hz hpz HZ2 HC HM1
              have HBW : Aside0 (∀ k, Below wo.heap.size wo (wo.drewN k)) := ⟨fun k => pw_below_drewN (Below.refl _ _) k⟩
              go_loopg [18] rm (fun kq v18 wc => ∃ (i : Nat) (vO1 : Value) (outs1 : List Ct), i ≤ rm ∧ i ≤ kq ∧ v18 = .int .i64 (i : Int) ∧ Aside0 (outs1 ++ ((List.range i).reverse.flatMap ch).map (fun t => (⟨N, H, srt t⟩ : Ct)) = R) ∧ Aside0 (LO w0 OB vO1 outs1 wc) ∧ Aside0 (LN (.slice AO outs.length cO) vO1 wo) ∧ Aside0 (Kept wo wc (LS OB (.slice AO outs.length cO))) ∧ Aside0 (Kd.R (Kd.int .i64) 3 wc w0.heap.size (fun _ => True) (.slice (some ad) N cF) f) ∧ Aside0 (Kd.R k56 56 wc w0.heap.size (fun _ => True) (.slice AS sq.length cS) sq))
              case atStart =>
                refine ⟨rm, _, outs, Nat.le_refl _, Nat.le_refl _, rfl, ⟨by rw [← HR.out, HP.out]⟩, ⟨HO.out.below (HBW.out _)⟩, ⟨LN.refl _ _⟩, ⟨Kept.of_below (HBW.out _) _⟩, ⟨by have h := Kd.R_below HF.out (HBW.out (q + nd + nd2)); rwa [hlen] at h⟩, ⟨Kd.R_below HS.out (HBW.out _)⟩⟩
              case round =>
                clear HO HF HS
                have HRE := HR
                clear HR
                obtain ⟨i, vO1, outs1, hi, hkq, rfl, HR, HO, HN, HK, HF, HS⟩ := hrel
                rcases Nat.eq_zero_or_pos i with h0 | h0
                · subst h0
                  go_wp2_with fail
                  go_end0
                  have h := HR.out
                  rw [show (List.range 0).reverse = ([] : List Nat) from rfl, List.flatMap_nil, List.map_nil, List.append_nil] at h
                  rw [HRE.out, ← h]
                  exact ⟨⟨_, rfl⟩, vO1, HO.out, HN.out, HK.out⟩
                · obtain ⟨s, rfl⟩ : ∃ s, i = s + 1 := ⟨i - 1, by omega⟩
                  have hs1 : s < rm := by omega
                  have HOWN : Aside0 (∀ W, Below wr.heap.size wr W → Calls Try.prog 93 #[.slice (some ad) N cF] W fun e w' => ∃ v0, e = .returned v0 ∧ Kd.R (Kd.int .i64) 3 w' W.heap.size (fun _ => True) v0 f ∧ Below W.heap.size W w') := ⟨fun W hW => by
                    have h := spec_l1Own.calls (some ad) cF f f W (Kd.R_reads' (Kd.R_below HF.out hW)).2.2 (by rw [hlen]; exact (Kd.R_reads' HF.out).2.1) (by unfold spec_l1Own.f; simp; omega)
                    rwa [hlen] at h⟩
                  obtain ⟨si, hsi⟩ : ∃ z : Int, ((s + 1 : Nat) : Int) = z := ⟨_, rfl⟩
                  rw [hsi]
                  have hsi0 : decide (0 < si) = true := decide_eq_true (by omega)
                  have HSI := Aside0.mk hsi
                  have HS1 := Aside0.mk hs1
                  clear hsi hs1
                  go_wp2_with (go_at_call 93; refine (HOWN.out _ (by exact Below.refl _ _)).mono ?_; rintro e w' ⟨v0, rfl, hr, hb⟩; have HR1 := Aside0.mk hr; have HB1 := Aside0.mk hb; clear hr hb)
                  obtain ⟨NB, cN, e0, hNB, hNB2, _⟩ := Kd.N_form (Kd.R_N HR1.out) (by have := HRW.out; have := HL.out.lt; omega)
                  rw [hlen] at e0
                  subst e0
                  obtain ⟨wq, rfl⟩ : ∃ wq : World, wq = wr := ⟨_, rfl⟩
                  obtain ⟨xs, hxs⟩ : ∃ z : Int, xl + si = z := ⟨_, rfl⟩
                  have hx0 := HXL.out
                  have hxlt := HL.out.lt
                  have hsi1 := HSI.out
                  have hs1' := HS1.out
                  have hrb := HRMB.out
                  have HROOM : Aside0 (low f + rm ≤ f.length ∧ (rm : Int) ≤ H - y0) := ⟨by have h1 := HRM.out; have h2 := HRW.out; unfold room at h1; rw [HY0.out] at h1; omega⟩
                  have HRUN : Aside0 (∀ j, j < rm → ht f (low f + j) = y0) := ⟨fun j hj => by rw [runAt_eq f (low f) j (by have h1 := HRM.out; unfold room at h1; omega), HY0.out]⟩
                  have hyb := HYB.out
                  have hrr := HROOM.out
                  have hwxs : wrap64 (xl + si) = xs := by rw [w64 (by omega) (by omega)]; exact hxs
                  obtain ⟨ys, hys⟩ : ∃ z : Int, y0 + si = z := ⟨_, rfl⟩
                  have hwys : wrap64 (y0 + si) = ys := by rw [w64 (by omega) (by omega)]; exact hys
                  have HXS := Aside0.mk hxs
                  have HYS := Aside0.mk hys
                  clear hxs hys hx0 hxlt hsi1 hs1' hrb hyb hrr
                  go_loopg [20] (s + 1) (fun kq v20 wc => ∃ (j : Nat) (ji : Int), j ≤ s + 1 ∧ s + 1 - j ≤ kq ∧ xl + (j : Int) = ji ∧ v20 = .int .i64 ji ∧ Aside0 (Below wq.heap.size wq wc) ∧ Aside0 (Kd.R (Kd.int .i64) 3 wc wq.heap.size (fun _ => True) (.slice (some ⟨NB, 0, none⟩) N cN) (place f (low f) j ys)))
                  case atStart => exact ⟨0, xl, by omega, by omega, by omega, rfl, HB1, ⟨by rw [place_zero]; exact HR1.out⟩⟩
                  case round =>
                    clear HB1 HR1 HOWN
                    obtain ⟨j, ji, hj, hjk, hji, rfl, HB1, HR1⟩ := hrel
                    have hx0 := HXL.out
                    have hxlt := HL.out.lt
                    have hsi1 := HSI.out
                    have hxs := HXS.out
                    have hs1' := HS1.out
                    have hrb := HRMB.out
                    have hrr := HROOM.out
                    by_cases hjs : j < s + 1
                    · have b1 : decide (ji < xs) = true := decide_eq_true (by omega)
                      have q1 := eq_true (show 0 ≤ ji by omega)
                      have q2 := eq_true (show ji < (N : Int) by omega)
                      obtain ⟨cc, cf⟩ := Kd.R_celln (0 : Int) HR1.out ji (by omega) (by omega)
                      have hcv : rdOf (0 : Int) (place f (low f) j ys) ji = y0 := by
                        show ht (place f (low f) j ys) ji.toNat = y0
                        rw [show ji.toNat = low f + j by omega, ht_place _ _ _ _ (by omega), if_neg (by omega)]
                        exact HRUN.out j (by omega)
                      rw [hcv] at cc
                      have HP := Aside0.mk (Kd.R_putn HR1.out ji ys)
                      rw [show ji.toNat = low f + j by omega, place_one _ _ _ _ (by omega)] at HP
                      rw [show low f + j = ji.toNat by omega] at HP
                      have hwj : wrap64 (ji + 1) = ji + 1 := w64 (by omega) (by omega)
                      have HJI := Aside0.mk hji
                      have HJS := Aside0.mk hjs
                      clear hcv hji hjs hx0 hxlt hsi1 hxs hs1' hrb hrr
                      (try simp only [add_plain] at *)
                      go_wp2_with fail
                      go_roundg (s + 1 - (j + 1))
                      case measure => have := HJS.out; omega
                      case rel => exact ⟨j + 1, ji + 1, HJS.out, Nat.le_refl _, by have := HJI.out; omega, by first | rfl | rw [hwj], ⟨below_put HB1.out hNB _⟩, HP⟩
                    · have b1 : decide (ji < xs) = false := decide_eq_false (by omega)
                      obtain rfl : j = s + 1 := by omega
                      clear hx0 hxlt hsi1 hxs hs1' hrb hrr
                      go_upto_region 24 with (fail)
                      obtain ⟨w5, rfl⟩ : ∃ w5 : World, w5 = wr := ⟨_, rfl⟩
                      have HSC5 := Aside0.mk (Kd.R_reads' (Kd.R_below HS.out HB1.out)).2.2
                      have p5 := HCOL.out w5 (Kd.R_reads' (Kd.R_below HF.out HB1.out)).2.2 xl (by have := HXL.out; omega) (by have := HXL.out; have := HL.out.lt; omega)
                      rw [show xl.toNat = low f by have := HXL.out; omega, HY0.out] at p5
                      rw [show low f = xl.toNat by have := HXL.out; omega] at p5
                      have HP6 : Aside0 (∀ W, Below w5.heap.size w5 W → W.cell? (ad.add xl.toNat) = some (.int .i64 y0)) := ⟨fun W hW => (hW.cell (World.block_lt_of_cell? w5 _ p5)).trans p5⟩
                      have q3 := eq_true (show 0 ≤ xl by have := HXL.out; omega)
                      have q4 := eq_true (show xl < (N : Int) by have := HXL.out; have := HL.out.lt; omega)
                      have hu57 := Try.underlying56
                      go_cut [21] (fun v21 wc => Aside0 (Kd.R k56 56 wc w5.heap.size (fun _ => True) v21 (sq ++ [⟨xl, y0, si⟩])) ∧ Aside0 (Below w5.heap.size w5 wc))
                      case first => as_aux_lemma =>
                        --RG{
                        have p5a := HP6.out (w5.alloc (.cells #[] 56)) (below_alloc (Below.refl _ _) _)
                        go_region_law (first | (refine Kd.R_append_rows_step k56 (w0 := w5) w5.heap.size (by simp [Region.wanted]) (.tmp 116) (.tmp 117) 35 56 (.agg #[.int .i64 0, .int .i64 0, .int .i64 0]) 24 rfl Try.underlying35 info56 rfl (by decide) (by omega) (.slice (some ⟨w5.heap.size, 0, none⟩) 0 0) [] sq _ _ _ (fun _ => True) (fun _ => False) rfl rfl ?aO ?aR (fun _ _ h => h) (fun _ h => h.elim) (fun _ _ => trivial) ?aB ?aS ?aL ?_; (case aO => exact (by first | exact R_empty _ _ (by simp) | exact Kd.R_drew (R_empty _ _ (by simp)) | exact Kd.R_drew (Kd.R_alloc (R_empty _ _ (by simp)) _) | exact Kd.R_alloc (R_empty _ _ (by simp)) _)); (case aR => exact (show Kd.C k56 _ AS sq.length sq from by (with_reducible repeat (first | refine Kd.C_alloc ?_ _ | refine Kd.C_drew ?_)); exact HSC5.out)); (case aB => exact (by repeat (first | exact Below.refl _ _ | apply below_alloc | apply below_drew))); (case aS => exact (by simp; try omega)); (case aL => exact (by have := HSQ.out; simp; omega)); intro v118 w6 ho hb hg hat; obtain ⟨A6, n6, c6, e6⟩ := R_sl ho; subst e6; rw [List.nil_append] at ho; have HR6 := Aside0.mk ho; have HB6 := Aside0.mk hb; have p6 := HP6.out _ hb; (first | (have hq6 := blk_grown (w1 := w6) (heap_alloc_new (w5.drew.alloc (.cells #[] 56)) (.cells #[.int .i64 xl, .int .i64 y0, .int .i64 si] 56)) hg (by first | (simp [Value.ownBlock]; done) | (intro h_; injection h_ with h_; omega))) | skip); clear ho hb hg hat) | (refine Kd.R_append_step k56 (w0 := w5) w5.heap.size (by simp [Region.wanted]) (.tmp 118) (.tmp 126) 35 56 (.agg #[.int .i64 0, .int .i64 0, .int .i64 0]) 24 rfl Try.underlying35 info56 rfl (by decide) (by omega) _ sq (⟨xl, y0, si⟩ : Sq) [.int .i64 xl, .int .i64 y0, .int .i64 si] (fun _ => True) (fun _ => False) rfl rfl (k56_mkM _ _ _ _) (fun _ h => h.elim) (fun _ _ => trivial) HR6.out HB6.out HB6.out.size ?aL ?_; (case aL => exact (by have := HSQ.out; omega)); intro v127 w7 ho hb hg hat; obtain ⟨A7, n7, c7, e7⟩ := R_sl ho; subst e7; have HR7 := Aside0.mk ho; have HB7 := Aside0.mk hb; clear ho hb hg hat) | (refine Kd.R_append_rows_step k56 (w0 := w5) w5.heap.size (by simp [Region.wanted]) (.tmp 118) (.tmp 126) 35 56 (.agg #[.int .i64 0, .int .i64 0, .int .i64 0]) 24 rfl Try.underlying35 info56 rfl (by decide) (by omega) _ sq [(⟨xl, y0, si⟩ : Sq)] _ _ _ (fun _ => True) (fun _ => False) rfl rfl HR6.out (show Kd.C k56 w6 _ 1 [(⟨xl, y0, si⟩ : Sq)] from C_of_blk ⟨xl, y0, si⟩ (by first | exact hq6 | simpa using hq6)) (fun _ _ h => h) (fun _ h => h.elim) (fun _ _ => trivial) HB6.out HB6.out.size ?aL ?_; (case aL => exact (by have := HSQ.out; omega)); intro v127 w7 ho hb hg hat; obtain ⟨A7, n7, c7, e7⟩ := R_sl ho; subst e7; have HR7 := Aside0.mk ho; have HB7 := Aside0.mk hb; clear ho hb hg hat) | (refine Kd.R_append_rows_step k56 (w0 := w5) w5.heap.size (by simp [Region.wanted]) (.tmp 116) (.tmp 117) 35 56 (.agg #[.int .i64 0, .int .i64 0, .int .i64 0]) 24 rfl Try.underlying35 info56 rfl (by decide) (by omega) (.slice (some ⟨w5.heap.size + 1, 0, none⟩) 0 0) [] sq _ _ _ (fun _ => True) (fun _ => False) rfl rfl ?aO ?aR (fun _ _ h => h) (fun _ h => h.elim) (fun _ _ => trivial) ?aB ?aS ?aL ?_; (case aO => exact (by have h := R_empty (w5.alloc (.cells #[.int .i64 xl, .int .i64 y0, .int .i64 si] 56)) w5.heap.size (below_alloc (Below.refl _ _) _).size; rw [show (w5.alloc (.cells #[.int .i64 xl, .int .i64 y0, .int .i64 si] 56)).heap.size = w5.heap.size + 1 from by simp] at h; first | exact Kd.R_drew h | exact h)); (case aR => exact (show Kd.C k56 _ AS sq.length sq from by (with_reducible repeat (first | refine Kd.C_alloc ?_ _ | refine Kd.C_drew ?_)); exact HSC5.out)); (case aB => exact (by repeat (first | exact Below.refl _ _ | apply below_alloc | apply below_drew))); (case aS => exact (by simp; try omega)); (case aL => exact (by have := HSQ.out; simp; omega)); intro v118 w6 ho hb hg hat; obtain ⟨A6, n6, c6, e6⟩ := R_sl ho; subst e6; rw [List.nil_append] at ho; have HR6 := Aside0.mk ho; have HB6 := Aside0.mk hb; have p6 := HP6.out _ hb; have hq6 := blk_grown (w1 := w6) (blk_alloc (heap_alloc_new w5.drew (.cells #[.int .i64 xl, .int .i64 y0, .int .i64 si] 56)) _) hg (by first | (simp [Value.ownBlock]; done) | (intro h_; injection h_ with h_; omega)); clear ho hb hg hat))
                        all_goals
                          go_wp2_with fail
                          go_meet
                          case rel => exact ⟨HR7, HB7⟩
                        --RG}
                      case rest =>
                        obtain ⟨HR7, HB7⟩ := hcut
                        have HB8 := Aside0.mk (HB1.out.trans (HB7.out.mono HB1.out.size))
                        have HO8 := Aside0.mk (HO.out.below HB8.out)
                        have HF8 := Aside0.mk (Kd.R_below HF.out HB8.out)
                        have HS8 := Aside0.mk (Kd.R_below HS.out HB8.out)
                        have HNX := Aside0.mk (Kd.R_lower (Kd.R_below HR1.out HB7.out) HO.out.be.size)
                        have HSX := Aside0.mk (Kd.R_lower HR7.out (HO.out.below HB1.out).be.size)
                        have hsi1 := HSI.out
                        have hrr := HROOM.out
                        have hs1' := HS1.out
                        have hxl1 := HXL.out
                        have hm0' := HM0.out
                        have hsq' := HSQ.out
                        have hys' := HYS.out
                        obtain ⟨LF, LL⟩ := step_fits HFIT.out (i := s) (by rw [HRM.out]; exact hs1') HLEFT.out
                        have hpl := left_place H f (low f) (s + 1) (by omega) (by have h1 := HRM.out; unfold room at h1; omega) (by omega) (by rw [HY0.out]; omega)
                        have hqe : (⟨(low f : Int), ht f (low f), ((s + 1 : Nat) : Int)⟩ : Sq) = ⟨xl, y0, si⟩ := by rw [hxl1, HY0.out, hsi1]
                        have hpe : place f (low f) (s + 1) (ht f (low f) + ((s + 1 : Nat) : Int)) = place f (low f) (s + 1) ys := by rw [HY0.out, hsi1, hys']
                        have HCHS : Aside0 (ch s = lookP H (min (N : Int) H) n (place f (low f) (s + 1) ys) (sq ++ [⟨xl, y0, si⟩]) (more - 1)) := ⟨by rw [← HCH.out]; simp only; rw [hqe, hpe]⟩
                        rw [hpe] at LF LL hpl
                        have hplen : (place f (low f) (s + 1) ys).length = N := by rw [place_length _ _ _ _ (by omega), hlen]
                        have hleft1 : left H (place f (low f) (s + 1) ys) + 1 ≤ left H f := by
                          have : 1 ≤ (s + 1) * (s + 1) := Nat.succ_le_of_lt (Nat.mul_pos (by omega) (by omega))
                          omega
                        have hpos' : ∀ c, c < (place f (low f) (s + 1) ys).length → 0 ≤ ht (place f (low f) (s + 1) ys) c := fun c hc => by
                          rw [ht_place _ _ _ _ (by omega)]
                          have := HYB.out
                          split
                          · omega
                          · exact (HCAP.out c (by rw [hplen] at hc; omega)).1
                        have hR := HR.out
                        rw [rev_range, List.flatMap_cons, List.map_append, ← List.append_assoc, HCHS.out] at hR
                        have hrl := HRL.out
                        have hout : outs1.length + (lookP H (min (N : Int) H) n (place f (low f) (s + 1) ys) (sq ++ [⟨xl, y0, si⟩]) (more - 1)).length ≤ 1000000000000 := by
                          rw [← hR, List.length_append, List.length_append, List.length_map] at hrl
                          omega
                        have HREC := Aside0.mk (HIH.out (place f (low f) (s + 1) ys) (sq ++ [⟨xl, y0, si⟩]) (more - 1) vO1 _ _ outs1 wc HO8.out HNX.out HSX.out hplen LF LL hpos' (by rw [List.length_append, List.length_singleton]; omega) (by omega) (by omega) hout)
                        have hwm : wrap64 (more - 1) = more - 1 := w64 (by omega) (by omega)
                        have hwsi : wrap64 (si - 1) = (s : Int) := by rw [w64 (by omega) (by omega)]; omega
                        have HRN := Aside0.mk hR
                        have HSZ8 : Aside0 (wo.heap.size ≤ wc.heap.size) := ⟨Nat.le_trans HK.out.1 HB8.out.size⟩
                        clear hsi1 hrr hs1' hxl1 hm0' hsq' hys' LF LL hpl hqe hpe hplen hleft1 hpos' hR hrl hout
                        go_wp2_with (go_at_call 71; refine HREC.out.mono ?_; rintro e w' ⟨⟨v, rfl⟩, vO2, hO2, hN2, hK2⟩; have HO9 := Aside0.mk hO2; have HN9 := Aside0.mk hN2; have HK9 := Aside0.mk hK2; clear hO2 hN2 hK2)
                        go_roundg s
                        case measure => have := HS1.out; omega
                        case rel =>
                          refine ⟨s, vO2, _, by have := HS1.out; omega, Nat.le_refl _, by first | rfl | rw [hwsi], HRN, HO9, ⟨HN.out.trans HN9.out HSZ8.out⟩, ⟨Kept.next (HK.out.below HB8.out) HN.out HK9.out⟩, ⟨HO8.out.other rfl HF8.out (by decide) (by decide) HK9.out⟩, ⟨HO8.out.other rfl HS8.out (by decide) (by decide) HK9.out⟩⟩
end Go.Proofs.Ytdfcljfajiihdaa.P

namespace Go.Proofs.Ytdfcljfajiihdaa.Pure
set_option linter.unusedVariables false
set_option linter.unusedSimpArgs false
open Go.RowKit Go.Proofs.Ytdfcljfajiihdaa.P Go.Proofs.YtdfcljfajiihdaaW.PrintWords Go.Proofs.YtdfcljfajiihdaaW.PrintLast Go.Proofs.YtdfcljfajiihdaaW.PrintMore Go.Proofs.Ytdfcljfajiihdaa.Aid Go.Proofs.Ytdfcljfajiihdaa.T
def lexI : List Int → List Int → Bool
  | [], [] => false
  | [], _ :: _ => true
  | _ :: _, [] => false
  | x :: a, y :: b => if x = y then lexI a b else decide (x < y)
theorem drop_rd (l : List Int) (i : Nat) (h : i < l.length) : l.drop i = rd l i :: l.drop (i + 1) := by
  rw [List.drop_eq_getElem_cons h]
  simp [rd, h]
theorem cuBefore_l (a b : List Int) (ha : a.length ≤ 1000000) (hb : b.length ≤ 1000000) : ∀ (d i : Nat), i + d = a.length → i ≤ b.length → Ev (fun k => spec_cuBefore.l0 k a b i) (lexI (a.drop i) (b.drop i))
  | 0, i, hd, hi => by
    refine Ev.step (fun _ => spec_cuBefore.l0.eq_2 ..) (ev_neg (by omega) (Ev.step (fun _ => spec_cuBefore.j1.eq_2 ..) (ev_neg (by simp) (ev_some ?_))))
    rw [List.drop_eq_nil_of_le (show a.length ≤ i by omega)]
    rcases Nat.lt_or_ge i b.length with h | h
    · rw [drop_rd b i h]; simp only [lexI]; exact decide_eq_true (by omega)
    · rw [List.drop_eq_nil_of_le h]; simp only [lexI]; exact decide_eq_false (by omega)
  | d + 1, i, hd, hi => by
    have ew : wrap64 ((i : Int) + 1) = ((i + 1 : Nat) : Int) := by rw [w64 (by omega) (by omega)]; omega
    rcases Nat.lt_or_ge i b.length with h | h
    · refine Ev.step (fun _ => spec_cuBefore.l0.eq_2 ..) (ev_pos (by omega) (Ev.step (fun _ => spec_cuBefore.j1.eq_2 ..) (ev_pos (by simpa using h) (ev_pos (by omega) (ev_pos (by omega) (ev_pos (by omega) ?_))))))
      rw [drop_rd a i (by omega), drop_rd b i h]
      simp only [lexI]
      by_cases c : rd a i = rd b i
      · rw [if_pos c]
        refine ev_pos c ?_
        rw [ew]
        exact cuBefore_l a b ha hb d (i + 1) (by omega) (by omega)
      · rw [if_neg c]
        exact ev_neg c (ev_some rfl)
    · refine Ev.step (fun _ => spec_cuBefore.l0.eq_2 ..) (ev_pos (by omega) (Ev.step (fun _ => spec_cuBefore.j1.eq_2 ..) (ev_neg (by simpa using h) (ev_some ?_))))
      rw [drop_rd a i (by omega), List.drop_eq_nil_of_le h]
      simp only [lexI]
      exact decide_eq_false (by omega)
theorem cuBefore_ev (a b : List Int) (ha : a.length ≤ 1000000) (hb : b.length ≤ 1000000) : Ev (fun k => spec_cuBefore.f k a b) (lexI a b) := by
  have h := cuBefore_l a b ha hb a.length 0 (by omega) (by omega)
  show Ev (fun k => spec_cuBefore.l0 k a b 0) (lexI a b)
  simpa using h
theorem lexI_sq (s q : Sq) (h : s ≠ q) : lexI [s.f0, s.f1, s.f2] [q.f0, q.f1, q.f2] = decide (Bef s q) := by
  simp only [lexI]
  by_cases c0 : s.f0 = q.f0
  · rw [if_pos c0]
    by_cases c1 : s.f1 = q.f1
    · rw [if_pos c1]
      by_cases c2 : s.f2 = q.f2
      · exact absurd (by cases s; cases q; simp_all) h
      · rw [if_neg c2]
        exact decide_eq_decide.2 ⟨fun e => .inr ⟨c0, .inr ⟨c1, e⟩⟩, fun e => by unfold Bef at e; omega⟩
    · rw [if_neg c1]
      exact decide_eq_decide.2 ⟨fun e => .inr ⟨c0, .inl e⟩, fun e => by unfold Bef at e; omega⟩
  · rw [if_neg c0]
    exact decide_eq_decide.2 ⟨fun e => .inl e, fun e => by unfold Bef at e; omega⟩
theorem drop_sq (l : List Sq) (i : Nat) (h : i < l.length) : l.drop i = rd_T56 l i :: l.drop (i + 1) := by
  rw [List.drop_eq_getElem_cons h]
  simp [rd_T56, h]
theorem sq_ne (s q : Sq) : (!(s.f0 == q.f0) || (!(s.f1 == q.f1) || !(s.f2 == q.f2))) = true ↔ s ≠ q := by
  cases s; cases q
  simp
  omega
theorem cuFirst_l (A B : List Sq) (a0 a1 b0 b1 : Int) (ha : A.length ≤ 1000000) (hb : B.length ≤ 1000000) : ∀ (d i : Nat), i + d = A.length → i ≤ B.length → Ev (fun k => spec_cuFirst.l0 k A (A.length : Int) i a0 a1 A b0 b1 B) (lexB (A.drop i) (B.drop i))
  | 0, i, hd, hi => by
    refine Ev.step (fun _ => spec_cuFirst.l0.eq_2 ..) (ev_neg (by omega) (ev_some ?_))
    rw [List.drop_eq_nil_of_le (show A.length ≤ i by omega)]
    rcases Nat.lt_or_ge i B.length with h | h
    · rw [drop_sq B i h]; simp only [lexB]; exact decide_eq_true (by omega)
    · rw [List.drop_eq_nil_of_le h]; simp only [lexB]; exact decide_eq_false (by omega)
  | d + 1, i, hd, hi => by
    have ew : wrap64 ((i : Int) + 1) = ((i + 1 : Nat) : Int) := by rw [w64 (by omega) (by omega)]; omega
    rcases Nat.lt_or_ge i B.length with h | h
    · refine Ev.step (fun _ => spec_cuFirst.l0.eq_2 ..) (ev_pos (by omega) (ev_pos (by omega) (ev_pos (by omega) (ev_neg (by omega) (ev_pos (by omega) ?_)))))
      rw [drop_sq A i (by omega), drop_sq B i h]
      simp only [lexB]
      by_cases c : rd_T56 A i = rd_T56 B i
      · rw [if_pos c]
        refine ev_neg (fun e => (sq_ne _ _).1 e c) ?_
        rw [ew]
        exact cuFirst_l A B a0 a1 b0 b1 ha hb d (i + 1) (by omega) (by omega)
      · rw [if_neg c, ← lexI_sq _ _ c]
        exact ev_pos ((sq_ne _ _).2 c) (ev_bind (cuBefore_ev _ _ (by simp) (by simp)) (ev_some rfl))
    · refine Ev.step (fun _ => spec_cuFirst.l0.eq_2 ..) (ev_pos (by omega) (ev_pos (by omega) (ev_pos (by omega) (ev_pos (by omega) (ev_some ?_)))))
      rw [drop_sq A i (by omega), List.drop_eq_nil_of_le h]
      simp only [lexB]
theorem cuFirst_ev (A B : List Sq) (a0 a1 b0 b1 : Int) (ha : A.length ≤ 1000000) (hb : B.length ≤ 1000000) : Ev (fun k => spec_cuFirst.f k a0 a1 A b0 b1 B) (lexB A B) := by
  have h := cuFirst_l A B a0 a1 b0 b1 ha hb A.length 0 (by omega) (by omega)
  show Ev (fun k => spec_cuFirst.l0 k A (A.length : Int) 0 a0 a1 A b0 b1 B) (lexB A B)
  simpa using h
end Go.Proofs.Ytdfcljfajiihdaa.Pure

namespace Go.Proofs.YtdfcljfajiihdaaW.PrintWords
open Go.RowKit
theorem nodup_at {idx : List Nat} (hn : idx.Nodup) {i j a : Nat} (hi : idx[i]? = some a) (hj : idx[j]? = some a) : i = j := by
  obtain ⟨l1, e1⟩ := List.getElem?_eq_some_iff.1 hi
  obtain ⟨l2, e2⟩ := List.getElem?_eq_some_iff.1 hj
  have h := List.pairwise_iff_getElem.1 hn
  rcases Nat.lt_trichotomy i j with c | c | c
  · exact absurd (e1.trans e2.symm) (h i j l1 l2 c)
  · exact c
  · exact absurd (e2.trans e1.symm) (h j i l2 l1 c)
theorem S_of_raw {α : Type} {d : Kd α} {e : Nat} {w : World} {base : Nat} {ok ok1 : Nat → Prop} {v : Value} {idx : List Nat} {g : Nat → List Value} {x : Nat → α} (f : Nat → Nat)
    (ho : (Kd.raw d.sz).R e w base ok1 v (idx.map g)) (hM : ∀ j, j ∈ idx → d.M w base (fun k => ok k ∧ f k = j) (x j) (g j)) (hn : idx.Nodup) (h1 : ∀ k, ok1 k → ok k) (hv : ∀ k, v.ownBlock = some k → ¬ (f k ∈ idx)) :
    Kd.S d e w base ok v (idx.map x) := by
  obtain ⟨h0, inner, ho, hr⟩ := ho
  have hs : (Kd.raw d.sz).sz = d.sz := rfl
  rw [hs] at ho hr
  obtain ⟨f', hf'⟩ := Kd.reps_tag (d := d) (w := w) (base := base) (ok := fun k => ok k ∧ some k ≠ v.ownBlock) (xs := idx.map x) (inner := inner) (fun j k => (ok k ∧ some k ≠ v.ownBlock) ∧ idx[j]? = some (f k))
    (fun i j k hi hj => nodup_at hn hi.2 hj.2)
    (fun j k h => h.1)
    (by rw [hr.1]; simp)
    (fun j p hj => by
      rw [List.getElem?_map] at hj
      obtain ⟨i, hi, rfl⟩ := Option.map_eq_some_iff.1 hj
      have hg := hr.2 j (g i) (by rw [List.getElem?_map, hi]; rfl)
      have hmem : i ∈ idx := List.mem_of_getElem? hi
      have hc : (inner.drop (j * d.sz)).take d.sz = g i := hg.1
      rw [hc]
      refine d.M_mono ?_ (hM i hmem)
      intro k hk
      exact ⟨⟨hk.1, fun hkv => hv k hkv.symm (by rw [hk.2]; exact hmem)⟩, by rw [hi, hk.2]⟩)
  refine ⟨f', fun k hk => h1 k (h0 k hk), inner, ?_, ?_⟩
  · rw [List.length_zipIdx, List.length_map]
    rw [List.length_map] at ho
    exact ho
  · have := hf'
    refine ⟨this.1, fun j p hj => this.2 j p hj⟩
end Go.Proofs.YtdfcljfajiihdaaW.PrintWords

namespace Go.Proofs.Ytdfcljfajiihdaa.T
theorem til_iff (W : Nat) (H : Int) (hW : 0 < W) (hH : 0 ≤ H) (t : List Sq) : t ∈ tilings W H ↔ Til W H t := by
  rw [til_mem W H hW hH]
  constructor
  · rintro ⟨T, hl⟩
    have hb : ∀ q ∈ t, inBox W H q := fun q hq => by
      have h1 := T.box q hq
      have h2 := T.over q hq q.f0.toNat (by omega) (by omega)
      rw [ht_zeros] at h2
      rw [List.length_replicate] at h1
      unfold inBox; omega
    refine ⟨⟨hb, T.apart, ?_⟩, hl⟩
    obtain ⟨h, rfl⟩ : ∃ h : Nat, H = h := ⟨H.toNat, by omega⟩
    refine area_of_covered W h t hb T.apart (fun a b h0 h1 h2 h3 => ?_)
    obtain ⟨a, rfl⟩ : ∃ c : Nat, a = c := ⟨a.toNat, by omega⟩
    exact T.full a b (by rw [List.length_replicate]; omega) (by rw [ht_zeros]; exact h2) h3
  · intro T
    refine ⟨⟨fun q hq => ?_, fun q hq c _ _ => ?_, T.fill.apart, fun c b hc h2 h3 => ?_⟩, T.lt⟩
    · have := T.fill.box q hq
      unfold inBox at this
      rw [List.length_replicate]; omega
    · have := T.fill.box q hq
      unfold inBox at this
      rw [ht_zeros]; omega
    · obtain ⟨h, rfl⟩ : ∃ h : Nat, H = h := ⟨H.toNat, by omega⟩
      rw [List.length_replicate] at hc
      rw [ht_zeros] at h2
      exact covered W h t T.fill.box T.fill.apart T.fill.area c b (by omega) (by omega) h2 h3
theorem tilL_iff (W H : Int) (hW : 0 < W) (hH : 0 ≤ H) (t : List Sq) : t ∈ tilings W.toNat H ↔ Til W H t := by
  rw [til_iff W.toNat H (by omega) hH, Int.toNat_of_nonneg (by omega)]
end Go.Proofs.Ytdfcljfajiihdaa.T

namespace Go.Proofs.Ytdfcljfajiihdaa.T
def minL : List (List Sq) → List Sq
  | [] => []
  | a :: l => l.foldl (fun b c => if lexB c b = true then c else b) a
def IsMin (L : List (List Sq)) (b : List Sq) : Prop := b ∈ L ∧ ∀ c ∈ L, lexB c b = false
theorem lexB_ntrans {a b c : List Sq} (h : lexB a b = false) (k : lexB b c = false) : lexB a c = false := by
  cases hc : lexB a c with
  | false => rfl
  | true =>
    by_cases e : b = c
    · subst e; rw [h] at hc; cases hc
    · rcases lexB_total e with h1 | h1
      · rw [k] at h1; cases h1
      · rw [lexB_trans hc h1] at h; cases h
theorem IsMin.unique {L M : List (List Sq)} {a b : List Sq} (h : IsMin L a) (k : IsMin M b) (e : ∀ x, x ∈ L ↔ x ∈ M) : a = b := by
  by_cases c : a = b
  · exact c
  · rcases lexB_total c with h1 | h1
    · rw [k.2 a ((e a).1 h.1)] at h1; cases h1
    · rw [h.2 b ((e b).2 k.1)] at h1; cases h1
def t2 (W H : Int) (l : List Sq) : List Sq := turnL W (turnL H l)
theorem Til.t2 {W H : Int} {l : List Sq} (g : Til W H l) : Til W H (t2 W H l) := g.turn.turn
def orb4 (W H : Int) (l : List Sq) : List (List Sq) := [l, mirL W l, t2 W H l, mirL W (t2 W H l)]
def orb8 (W : Int) (l : List Sq) : List (List Sq) :=
  [l, mirL W l, turnL W l, mirL W (turnL W l), turnL W (turnL W l), mirL W (turnL W (turnL W l)), turnL W (turnL W (turnL W l)), mirL W (turnL W (turnL W (turnL W l)))]
def first (W H : Int) (l : List Sq) : List Sq := if H < W then minL (orb4 W H l) else if W < H then minL (orb4 H W (turnL H l)) else minL (orb8 W l)
end Go.Proofs.Ytdfcljfajiihdaa.T

namespace Go.Proofs.Ytdfcljfajiihdaa.T
theorem lexB_asymm' (a b : List Sq) (h : lexB a b = true) : lexB b a = false := lexB_asymm h
theorem insG_len {α : Type} (lt : α → α → Bool) (z s : α) (out : List α) : (insG lt z s out).length = out.length + 1 := by
  have := (insG_perm lt z s out).length_eq
  simpa using this
theorem srtF_cons {α : Type} (lt : α → α → Bool) (z s : α) (o l : List α) : srtF lt z o (s :: l) = srtF lt z (insG lt z s o) l := rfl
theorem insK_map {α β : Type} (lt : β → β → Bool) (g : α → β) (z : α) (s : α) (out : List α) : ∀ k, insK lt (g z) (g s) (out.map g) k = insK (fun a b => lt (g a) (g b)) z s out k
  | 0 => rfl
  | k + 1 => by
    have e : (out.map g).getD k (g z) = g (out.getD k z) := by
      rw [List.getD_eq_getElem?_getD, List.getD_eq_getElem?_getD, List.getElem?_map]
      cases out[k]? <;> rfl
    simp only [insK, e, insK_map lt g z s out k]
theorem insG_map {α β : Type} (lt : β → β → Bool) (g : α → β) (z s : α) (out : List α) : insG lt (g z) (g s) (out.map g) = (insG (fun a b => lt (g a) (g b)) z s out).map g := by
  unfold insG
  rw [List.length_map, insK_map, List.map_append, List.map_cons, List.map_take, List.map_drop]
theorem srtF_map {α β : Type} (lt : β → β → Bool) (g : α → β) (z : α) : ∀ (l o : List α), srtF lt (g z) (o.map g) (l.map g) = (srtF (fun a b => lt (g a) (g b)) z o l).map g
  | [], o => rfl
  | a :: l, o => by rw [List.map_cons, srtF_cons, srtF_cons, insG_map, srtF_map lt g z l]
end Go.Proofs.Ytdfcljfajiihdaa.T

namespace Go.Proofs.Ytdfcljfajiihdaa.T
theorem flat_len {α β : Type} (g : α → List β) (b : Nat) : ∀ l : List α, (∀ a ∈ l, (g a).length ≤ b) → (l.flatMap g).length ≤ l.length * b
  | [], _ => by simp
  | a :: l, h => by
    rw [List.flatMap_cons, List.length_append, List.length_cons, Nat.add_mul, Nat.one_mul]
    have h1 := h a List.mem_cons_self
    have h2 := flat_len g b l (fun x hx => h x (List.mem_cons_of_mem _ hx))
    omega
theorem gen_count (h : Int) (M : Nat) (hM1 : 1 ≤ M) : ∀ (n : Nat) (f : List Int) (more : Nat), Fits f h → left h f < n → (∀ c, c < f.length → 0 ≤ ht f c) → min f.length h.toNat ≤ M → ((gen h n f).filter (fun t => decide (t.length ≤ more))).length ≤ M ^ more
  | 0, f, more, _, hn, _, _ => by omega
  | n + 1, f, more, F, hn, hpos, hM => by
    have L := low_spec f F.1
    have hl := runAt_le f (low f) (by have := L.lt; omega)
    simp only [gen]
    split
    · exact Nat.le_trans (List.length_filter_le _ _) (Nat.one_le_pow _ _ hM1)
    · rw [filter_flatMap']
      cases more with
      | zero =>
        rw [show ((List.range (room f h (low f))).flatMap fun i => List.filter (fun t => decide (t.length ≤ 0)) ((gen h n (place f (low f) (i + 1) (ht f (low f) + (i + 1 : Nat)))).map (⟨low f, ht f (low f), (i + 1 : Nat)⟩ :: ·))) = [] from ?_]
        · simp
        · rw [List.flatMap_eq_nil_iff]
          intro i _
          rw [List.filter_eq_nil_iff]
          intro t ht_
          obtain ⟨t', _, rfl⟩ := List.mem_map.1 ht_
          simp
      | succ more =>
        have hr : room f h (low f) ≤ M := by
          have := hpos _ L.lt
          unfold room
          omega
        refine Nat.le_trans (flat_len _ (M ^ more) _ (fun i hi => ?_)) ?_
        · have hi := List.mem_range.1 hi
          obtain ⟨F', hn'⟩ := step_fits F hi hn
          unfold room at hi
          have hx : low f + (i + 1) ≤ f.length := by omega
          rw [List.filter_map, List.length_map]
          have ih := gen_count h M hM1 n _ more F' hn' (fun c hc => by
            rw [ht_place _ _ _ _ hx]
            rw [place_length _ _ _ _ hx] at hc
            have := hpos _ L.lt
            split
            · omega
            · exact hpos c hc) (by rw [place_length _ _ _ _ hx]; exact hM)
          refine Nat.le_trans (Nat.le_of_eq ?_) ih
          congr 2
          funext t
          simp [Function.comp]
        · rw [List.length_range, Nat.pow_succ, Nat.mul_comm]
          exact Nat.mul_le_mul_left _ hr
theorem tilMost_count (W : Nat) (H : Int) (hW : 0 < W) (hH : 1 ≤ H) (more : Nat) : (tilMost W H more).length ≤ (min W H.toNat) ^ more := by
  have := gen_count H (min W H.toNat) (by omega) (W * H.toNat + 1) (List.replicate W 0) more (fits_zeros W H hW (by omega)) (by rw [left_zeros]; omega) (fun c _ => by rw [ht_zeros]; exact Int.le_refl _) (by rw [List.length_replicate]; exact Nat.le_refl _)
  unfold tilMost tilings
  refine Nat.le_trans (Nat.le_of_eq ?_) this
  congr 2
  funext t
  simp
theorem list_count (W : Nat) (H : Int) (hW : 0 < W) (hH : 0 < H) (hm : (W : Int) * H ≤ 16) : (tilings W H).length ≤ 4294967296 := by
  obtain ⟨h, rfl⟩ : ∃ h : Nat, H = h := ⟨H.toNat, by omega⟩
  have hm' : W * h ≤ 16 := by exact_mod_cast hm
  have h4 : min W h ≤ 4 := by
    rcases Nat.lt_or_ge 4 (min W h) with c | c
    · exfalso
      have : 5 * 5 ≤ W * h := Nat.mul_le_mul (by omega) (by omega)
      omega
    · exact c
  have e := tilMost_all W h hW (by omega)
  have c := tilMost_count W h hW (by omega) (W * h)
  rw [show ((W * h : Nat) : Int) = (W : Int) * h by simp, e, Int.toNat_natCast] at c
  have h5 : min W h ^ (W * h) ≤ 4 ^ 16 := Nat.le_trans (Nat.pow_le_pow_left h4 _) (Nat.pow_le_pow_right (by omega) hm')
  omega
end Go.Proofs.Ytdfcljfajiihdaa.T

namespace Go.Proofs.Ytdfcljfajiihdaa.P
open Go.RowKit Go.Proofs.YtdfcljfajiihdaaW.PrintWords Go.Proofs.YtdfcljfajiihdaaW.PrintLast Go.Proofs.YtdfcljfajiihdaaW.PrintMore
attribute [local go_sem] max2_int min2_int max_two min_two max_three min_three max_four min_four
set_option linter.unusedVariables false
set_option linter.unusedSimpArgs false
open Go.Proofs.Ytdfcljfajiihdaa.T Go.Proofs.Ytdfcljfajiihdaa.Aid Go.Proofs.Ytdfcljfajiihdaa.Gr Go.Proofs.Ytdfcljfajiihdaa.Pure
def spec_ctAll.f (a0 a1 : Int) : Option (List Ct) := if 1 ≤ a0 ∧ 1 ≤ a1 ∧ a0 * a1 ≤ 16 then some ((tilings a0.toNat a1).map (fun t => (⟨a0, a1, t⟩ : Ct))) else none
def cgx (a b : Int) (L : List (List Sq)) (Af : Nat → Option Addr) (cf : Nat → Nat) (j : Nat) : List Value := [.int .i64 a, .int .i64 b, .slice (Af j) (L.getD j []).length (cf j)]
theorem cgx_raw (a b : Int) (L : List (List Sq)) (Af : Nat → Option Addr) (cf : Nat → Nat) (j : Nat) : (cgx a b L Af cf j).length = 3 ∧ ∀ u ∈ cgx a b L Af cf j, u.oneCell' = true := by
  refine ⟨rfl, fun u hu => ?_⟩
  unfold cgx at hu
  rcases List.mem_cons.1 hu with rfl | hu
  · rfl
  · rcases List.mem_cons.1 hu with rfl | hu
    · rfl
    · rw [List.mem_singleton.1 hu]; rfl
theorem raw_of_S {w : World} {base : Nat} {ok : Nat → Prop} {v : Value} {a b : Int} {L : List (List Sq)} (h : Kd.S k37 37 w base ok v (L.map (fun t => (⟨a, b, t⟩ : Ct)))) :
    ∃ (Af : Nat → Option Addr) (cf f : Nat → Nat), (Kd.raw 3).R 37 w base ok v ((List.range L.length).map (cgx a b L Af cf)) ∧ ∀ j, j < L.length → Kd.R k56 56 w base (fun k => (ok k ∧ some k ≠ v.ownBlock) ∧ f k = j) (.slice (Af j) (L.getD j []).length (cf j)) (L.getD j []) := by
  obtain ⟨f, h0, inner, ho, hr⟩ := h
  have hsz : ((Kd.tag f k37)).sz = 3 := rfl
  rw [hsz] at ho hr
  have hall : ∀ j, ∃ p : Option Addr × Nat, j < L.length → (inner.drop (j * 3)).take 3 = [.int .i64 a, .int .i64 b, .slice p.1 (L.getD j []).length p.2] ∧ Kd.R k56 56 w base (fun k => (ok k ∧ some k ≠ v.ownBlock) ∧ f k = j) (.slice p.1 (L.getD j []).length p.2) (L.getD j []) := fun j => by
    by_cases hj : j < L.length
    · have hx : (L.map (fun t => (⟨a, b, t⟩ : Ct)))[j]? = some ⟨a, b, L.getD j []⟩ := by
        rw [List.getElem?_map, List.getElem?_eq_getElem hj, List.getD_eq_getElem?_getD, List.getElem?_eq_getElem hj]; rfl
      have hM := hr.2 j (⟨a, b, L.getD j []⟩, j) (Kd.zip_at hx)
      obtain ⟨v2, e, hR⟩ := k37_openM (show (k37).M w base (fun k => (ok k ∧ some k ≠ v.ownBlock) ∧ f k = j) ⟨a, b, L.getD j []⟩ _ from hM)
      obtain ⟨A, c, rfl⟩ := Kd.R_slice hR
      exact ⟨(A, c), fun _ => ⟨e, hR⟩⟩
    · exact ⟨(none, 0), fun h => absurd h hj⟩
  obtain ⟨p, hp⟩ := Classical.axiomOfChoice hall
  refine ⟨fun j => (p j).1, fun j => (p j).2, f, ⟨h0, inner, ?_, ?_, fun j q hq => ?_⟩, fun j hj => (hp j hj).2⟩
  · rw [List.length_zipIdx, List.length_map] at ho
    rw [List.length_map, List.length_range]; exact ho
  · have := hr.1
    rw [List.length_zipIdx, List.length_map] at this
    rw [List.length_map, List.length_range]; exact this
  · rw [List.getElem?_map] at hq
    obtain ⟨i, hi, rfl⟩ := Option.map_eq_some_iff.1 hq
    obtain ⟨hl, rfl⟩ := List.getElem?_eq_some_iff.1 hi
    rw [List.length_range] at hl
    rw [List.getElem_range]
    have e := (hp j hl).1
    have hg : (inner.drop (j * 3)).take 3 = cgx a b L (fun j => (p j).1) (fun j => (p j).2) j := e
    show (inner.drop (j * 3)).take 3 = _ ∧ ((inner.drop (j * 3)).take 3).length = 3 ∧ ∀ u ∈ (inner.drop (j * 3)).take 3, u.oneCell' = true
    rw [hg]
    exact ⟨rfl, cgx_raw _ _ _ _ _ _⟩
theorem raw_at {w : World} {A : Option Addr} {n : Nat} {idx : List Nat} {a b : Int} {L : List (List Sq)} {Af : Nat → Option Addr} {cf : Nat → Nat} (h : Kd.C (Kd.raw 3) w A n (idx.map (cgx a b L Af cf))) (i : Int) (h0 : 0 ≤ i) (h1 : i < n) (hn : n = idx.length) :
    ∃ ad, A = some ad ∧ w.cell? (ad.add (i.toNat * 3)) = some (.int .i64 a) ∧ w.cell? ⟨(ad.add (i.toNat * 3)).block, (ad.add (i.toNat * 3)).off + 1, none⟩ = some (.int .i64 b) ∧ w.cell? ⟨(ad.add (i.toNat * 3)).block, (ad.add (i.toNat * 3)).off + 2, none⟩ = some (.slice (Af (idx.getD i.toNat 0)) (L.getD (idx.getD i.toNat 0) []).length (cf (idx.getD i.toNat 0))) := by
  obtain ⟨ad, c, e, _, hK, hc0⟩ := Kd.C_get h (cgx a b L Af cf 0) i h0 h1
  have hc : ∀ j u, c[j]? = some u → w.cell? (ad.add (i.toNat * 3 + j)) = some u := hc0
  have hg : (idx.map (cgx a b L Af cf)).getD i.toNat (cgx a b L Af cf 0) = cgx a b L Af cf (idx.getD i.toNat 0) := by
    rw [List.getD_eq_getElem?_getD, List.getD_eq_getElem?_getD, List.getElem?_map]
    cases idx[i.toNat]? <;> rfl
  rw [hg] at hK
  have hcc : c = cgx a b L Af cf (idx.getD i.toNat 0) := hK.1
  subst hcc
  exact ⟨ad, e, hc 0 _ rfl, by rw [← add_field _ _ 1 (by omega)]; exact hc 1 _ rfl, by rw [← add_field _ _ 2 (by omega)]; exact hc 2 _ rfl⟩
theorem rawR_slice {w : World} {base : Nat} {ok : Nat → Prop} {v : Value} {xs : List (List Value)} (h : (Kd.raw 3).R 37 w base ok v xs) : ∃ A c, v = .slice A xs.length c := Kd.R_slice h
theorem srtI_drop (lt : Nat → Nat → Bool) (n : Nat) (o : List Nat) (i : Nat) (hi : i < n) : srtF lt 0 o ((List.range n).drop i) = srtF lt 0 (insG lt 0 i o) ((List.range n).drop (i + 1)) := by
  rw [List.drop_eq_getElem_cons (by rw [List.length_range]; exact hi), List.getElem_range]; rfl
theorem idx_srt (W : Nat) (H : Int) (L : List (List Sq)) (hL : L = (tilings W H).reverse) : (srtF (fun i j => lexB (L.getD i []) (L.getD j [])) 0 [] (List.range L.length)).map (fun j => L.getD j []) = tilings W H := by
  have h := srtF_map lexB (fun j => L.getD j []) 0 (List.range L.length) []
  have e : (List.range L.length).map (fun j => L.getD j []) = L := by
    refine List.ext_getElem (by simp) (fun i h1 h2 => ?_)
    simp [h2]
  rw [e] at h
  rw [← h]
  show srtG lexB _ L = _
  subst hL
  exact srtG_eq _ lexB_asymm' (fun a b c h k => lexB_ntrans h k) (List.reverse_perm (tilings W H)).symm (til_lex W H)
theorem idx_perm (lt : Nat → Nat → Bool) (n : Nat) : (srtF lt 0 [] (List.range n)).Perm (List.range n) := by have := srtF_perm lt 0 (List.range n) []; rwa [List.nil_append] at this
theorem R_slcr {w : World} {base e : Nat} {ok : Nat → Prop} {v : Value} {xs : List (List Value)} (h : (Kd.raw 3).R e w base ok v xs) : ∃ A n c, v = .slice A n c := by
  obtain ⟨A, c, e⟩ := Kd.R_slice h
  exact ⟨_, _, _, e⟩
theorem R_emptycr (W : World) (base : Nat) (hb : base ≤ W.heap.size) : (Kd.raw 3).R 37 (W.alloc (.cells #[] 37)) base (fun _ => True) (.slice (some ⟨W.heap.size, 0, none⟩) 0 0) [] :=
  ⟨fun k hk => trivial, [], World.ownsRow_lit (base := base) (e := 37) (size := 3) W #[] 0 hb (by simp [maxLen]) (by simp), Reps.none _ _⟩
theorem raw_M (w : World) (base : Nat) (ok : Nat → Prop) (a b : Int) (A : Option Addr) (n c : Nat) : (Kd.raw 3).M w base ok [.int .i64 a, .int .i64 b, .slice A n c] [.int .i64 a, .int .i64 b, .slice A n c] := ⟨rfl, rfl, fun u hu => by
  rcases List.mem_cons.1 hu with rfl | hu
  · rfl
  · rcases List.mem_cons.1 hu with rfl | hu
    · rfl
    · rw [List.mem_singleton.1 hu]; rfl⟩
theorem C_of_blkcr {W : World} {B : Nat} (a b : Int) (A : Option Addr) (n c : Nat) (h : W.heap[B]? = some (.cells #[.int .i64 a, .int .i64 b, .slice A n c] 37 (0, 0))) : Kd.C (Kd.raw 3) W (some ⟨B, 0, none⟩) 1 [[.int .i64 a, .int .i64 b, .slice A n c]] := by
  have hh : (Kd.raw 3).R 37 W 0 (fun _ => True) (.slice (some ⟨B, 0, none⟩) 1 1) [[.int .i64 a, .int .i64 b, .slice A n c]] :=
    ⟨fun k hk => trivial, [.int .i64 a, .int .i64 b, .slice A n c], ⟨by rfl, .inr ⟨B, 1, _, rfl, Nat.zero_le _, h, Nat.le_refl _, by simp [maxLen], by rfl, by rfl⟩⟩, Reps.c3 (raw_M W 0 _ a b A n c) (Reps.none _ _)⟩
  exact (Kd.R_reads' hh).2.2
theorem ct_prod_le {W H : Int} (h0 : 1 ≤ W) (h1 : 1 ≤ H) (h : W * H ≤ 16) : W ≤ 16 ∧ H ≤ 16 := by
  have e1 : W * 1 ≤ W * H := Int.mul_le_mul_of_nonneg_left h1 (by omega)
  have e2 : 1 * H ≤ W * H := Int.mul_le_mul_of_nonneg_right h0 (by omega)
  omega
theorem ct_madeZ (n : Nat) : madeCells (Value.int .i64 0).cells (n * 1) = ((List.replicate n (0 : Int)).map (Value.int .i64)).toArray := by
  unfold madeCells
  rw [Nat.mul_one]
  apply Array.ext
  · simp
  · intro i h1 h2
    have e : (Value.int .i64 0).cells = #[Value.int .i64 0] := rfl
    simp [e, Nat.mod_one]
theorem ct_row_of_blk {w : World} {g base : Nat} {ok : Nat → Prop} {l : List Int} (h : w.heap[g]? = some (.cells (l.map (Value.int .i64)).toArray 3 (0, 0))) (hb : base ≤ g) (ho : ok g) (hl : l.length ≤ 1000000) : Kd.R (Kd.int .i64) 3 w base ok (.slice (some ⟨g, 0, none⟩) l.length l.length) l := by
  have hs : (Kd.int .i64).sz = 1 := rfl
  refine ⟨fun k hk => ?_, l.map (Value.int .i64), ⟨by rw [hs]; simp, .inr ⟨g, l.length, _, rfl, hb, h, Nat.le_refl _, by simp only [maxLen]; omega, by rw [hs]; simp, by rw [hs]; simp; exact List.take_of_length_le (by simp)⟩⟩, by rw [hs]; simp, fun j p hj => ?_⟩
  · have : g = k := by simpa [Value.ownBlock] using hk
    subst this; exact ho
  · have hjl := (List.getElem?_eq_some_iff.1 hj).1
    have hp := (List.getElem?_eq_some_iff.1 hj).2
    rw [hs, Nat.mul_one]
    show (List.take 1 (List.drop j (l.map (Value.int .i64)))) = [.int .i64 p]
    rw [List.drop_eq_getElem_cons (by simpa using hjl)]
    simp [hp]
theorem ct_look_zeros (W : Nat) (H : Int) (hW : 0 < W) (hH : 0 < H) (m : Nat) : (lookP H (min (W : Int) H) (W * H.toNat + 1) (List.replicate W 0) [] m).map (fun t => (⟨W, H, srt t⟩ : Ct)) = (tilMost W H m).reverse.map (fun t => (⟨W, H, t⟩ : Ct)) := by
  rw [look_til W H m hW (by omega) (by omega)]
  refine List.map_congr_left (fun t ht => ?_)
  have h1 := (List.mem_filter.1 (List.mem_reverse.1 ht)).1
  rw [srt_id ((til_iff W H hW (by omega) t).1 h1).lt]
theorem ct_feLook_zeros (w0 : World) (OB : Nat) (W : Nat) (H : Int) (hW : 1 ≤ W ∧ W ≤ 100) (hH : 1 ≤ H ∧ H ≤ 100) (m : Nat) (hm : m ≤ 100000) (hl : (tilMost W H m).length ≤ 1000000000000) (vO vF : Value) (w : World)
    (hO : LO w0 OB vO [] w) (hF : Kd.R (Kd.int .i64) 3 w w0.heap.size (fun _ => True) vF (List.replicate W 0)) :
    Calls Try.prog 71 #[.int .i64 (W : Int), .int .i64 H, vF, .slice none 0 0, .int .i64 (m : Int), .pointer (some ⟨OB, 0, none⟩)] w (LookPost w0 OB vO ((tilMost W H m).reverse.map (fun t => (⟨W, H, t⟩ : Ct))) w) := by
  have hle : W * H.toNat ≤ 100 * 100 := Nat.mul_le_mul hW.2 (by omega)
  have h := spec_feLook_calls w0 OB H (by omega) W (by omega) (W * H.toNat + 1) (List.replicate W 0) [] m vO vF (.slice none 0 0) [] w hO hF (Kd.R_nil _ _ _ _ _) (by simp) (fits_zeros W H (by omega) (by omega)) (by rw [left_zeros]; omega) (fun c _ => by rw [ht_zeros]; exact Int.le_refl _) (by rw [left_zeros]; simp; omega) (by rw [left_zeros]; omega) (by omega)
    (by rw [look_til W H m (by omega) (by omega) (by omega)]; simpa using hl)
  rw [List.nil_append, ct_look_zeros W H (by omega) (by omega) m] at h
  exact h
set_option maxHeartbeats 8000000 in
set_option maxRecDepth 100000 in
theorem spec_ctAll.calls (a0 a1 : Int) (r : List Ct) (w : World) (h : spec_ctAll.f a0 a1 = some r) :
    Calls Try.prog 35 #[.int .i64 a0, .int .i64 a1] w fun e w' => ∃ v0_ : Value, e = .returned v0_ ∧ Kd.S k37 37 w' w.heap.size (fun _ => True) v0_ r ∧ Below w.heap.size w w' := by
  unfold spec_ctAll.f at h
  by_cases hr : 1 ≤ a0 ∧ 1 ≤ a1 ∧ a0 * a1 ≤ 16
  · rw [if_pos hr] at h
    have hp := ct_prod_le hr.1 hr.2.1 hr.2.2
    obtain ⟨W, hW⟩ : ∃ W : Nat, (W : Int) = a0 := ⟨a0.toNat, by omega⟩
    have hWn : a0.toNat = W := by omega
    rw [hWn] at h
    obtain ⟨i0, hi0, hz0, hz1, hz2⟩ := info_parts info3
    have hmk : ∀ W' : World, (Instr.makeSlice 22 (.int .i64 (W : Int)) (.int .i64 (W : Int))).run Try.prog W' = .ok (.slice (some ⟨W'.heap.size, 0, none⟩) W W) (W'.alloc (.cells ((List.replicate W (0 : Int)).map (Value.int .i64)).toArray 3)) := fun W' => by
      have := run_make W' 22 3 i0 _ Try.underlying22 hi0 hz0 .i64 .i64 (W : Int) (W : Int) (by omega) (Int.le_refl _) (by rw [hz2]; omega) (by omega)
      rw [hz1, Int.toNat_natCast, ct_madeZ] at this
      exact this
    clear hi0 hz0 hz1 hz2
    have hm16 : W * a1.toNat ≤ 16 := by
      have : ((W * a1.toNat : Nat) : Int) = a0 * a1 := by rw [Int.natCast_mul, hW, Int.toNat_of_nonneg (by omega)]
      omega
    obtain ⟨M, hM⟩ : ∃ M : Int, a0 * a1 = M := ⟨_, rfl⟩
    have hMm : ((W * a1.toNat : Nat) : Int) = M := by rw [Int.natCast_mul, hW, Int.toNat_of_nonneg (by omega)]; exact hM
    have hcnt := list_count W a1 (by omega) (by omega) (by rw [hW]; exact hr.2.2)
    have hall : tilMost W a1 ((W * a1.toNat : Nat) : Int) = tilings W a1 := by
      have h1 := tilMost_all W a1 (by omega) (by omega)
      rw [← h1]; congr 1; rw [Int.natCast_mul, Int.toNat_of_nonneg (by omega)]
    have HLK := Aside0.mk (fun (OB : Nat) => ct_feLook_zeros w OB W a1 (by omega) (by omega) (W * a1.toNat) (by omega) (by rw [hall]; omega))
    rw [hall, hMm, hW] at HLK
    rw [hW] at hmk
    obtain ⟨L, hL⟩ : ∃ L, (tilings W a1).reverse = L := ⟨_, rfl⟩
    rw [hL] at HLK
    have HTL : Aside0 (∀ t ∈ L, t.length ≤ 1000) := ⟨fun t ht => by
      rw [← hL] at ht
      have h1 := (til_len W a1 (by omega) (by omega) t (List.mem_reverse.1 ht)).2
      have h2 : ((W : Int) * a1) ≤ 16 := by rw [hW]; exact hr.2.2
      omega⟩
    obtain ⟨n, hn⟩ : ∃ n, L.length = n := ⟨_, rfl⟩
    have HN : Aside0 (L.length = n ∧ n ≤ 4294967296) := ⟨hn, by rw [← hn, ← hL, List.length_reverse]; omega⟩
    have HRES : Aside0 ((srtF (fun i j => lexB (L.getD i []) (L.getD j [])) 0 [] (List.range n)).map (fun j => (⟨a0, a1, L.getD j []⟩ : Ct)) = r) := ⟨by
      have h1 := idx_srt W a1 L hL.symm
      rw [hn] at h1
      rw [← Option.some.inj h, ← h1, List.map_map]; rfl⟩
    have HROW := Aside0.mk (fun (V : World) (hV : w.heap.size ≤ V.heap.size) => ct_row_of_blk (base := w.heap.size) (ok := fun _ => True) (l := List.replicate W (0 : Int)) (heap_alloc_new V _) hV trivial (by simp; omega))
    have hlr : (List.replicate W (0 : Int)).length = W := by simp
    rw [hlr] at HROW
    generalize hf : (List.replicate W (0 : Int)).map (Value.int .i64) = cells at hmk HROW
    have HB1 : Aside0 (Below w.heap.size w ((w.alloc (.cells #[.slice none 0 0] 53)).alloc (.cells cells.toArray 3))) := ⟨below_alloc (below_alloc (Below.refl _ _) _) _⟩
    have HLO : Aside0 (LO w w.heap.size (.slice none 0 0) [] ((w.alloc (.cells #[.slice none 0 0] 53)).alloc (.cells cells.toArray 3))) := ⟨⟨HB1.out, blk_alloc (heap_alloc_new w _) _, Nat.le_refl _, Kd.S_nil _ _ _ _ _⟩⟩
    have HRW := Aside0.mk (HROW.out (w.alloc (.cells #[.slice none 0 0] 53)) (by simp))
    have hsz1 : (w.alloc (.cells #[.slice none 0 0] 53)).heap.size = w.heap.size + 1 := by simp
    rw [hsz1] at HRW
    have HC0 := Aside0.mk (HLK.out w.heap.size _ _ _ HLO.out HRW.out)
    have hwM : wrap64 (a0 * a1) = M := by rw [w64 (by omega) (by omega)]; exact hM
    have hu60 := Try.underlying37
    clear hsz1 hlr hf hr hp hW hWn h hcnt hall hMm hm16 hL hn HLK HB1 HLO HRW HROW
    generalize hlt0 : (fun i j => lexB (L.getD i []) (L.getD j [])) = lt at HRES
    have HLT : Aside0 (∀ i j, lt i j = lexB (L.getD i []) (L.getD j [])) := ⟨fun i j => by rw [← hlt0]⟩
    clear hlt0
    have HWM := Aside0.mk hM
    clear hM
    go_enter Try.func35, Try.ntmps35
    go_wp2_with (go_at_call 71; refine HC0.out.mono ?_; rintro e w1 ⟨⟨v, rfl⟩, vO2, hO2, _, _⟩; obtain ⟨A0, c0, e2⟩ := Kd.S_slice hO2.row; rw [List.length_map, HN.out.1] at e2; subst e2; have HO2 := Aside0.mk hO2; have hcc := hO2.cell; clear hO2)
    obtain ⟨Af, cf, f, hraw, hrows⟩ := raw_of_S HO2.out.row
    rw [HN.out.1] at hraw hrows
    have HR0 := Aside0.mk hraw
    have HROWS := Aside0.mk hrows
    have HBW := Aside0.mk HO2.out.be
    clear hraw hrows HC0 HO2 hmk
    go_loopg [6, 21] n (fun kq v6 v21 wc => ∃ (i : Nat) (xi : Int) (out : List Nat) (xo : List (List Value)), i ≤ n ∧ n - i ≤ kq ∧ (i : Int) = xi ∧ v21 = .int .i64 xi ∧ Aside0 (xo = out.map (cgx a0 a1 L Af cf) ∧ xo.length = i ∧ srtF lt 0 out ((List.range n).drop i) = srtF lt 0 [] (List.range n)) ∧ Aside0 ((Kd.raw 3).R 37 wc w1.heap.size (fun _ => True) v6 xo) ∧ Aside0 (Below w1.heap.size w1 wc))
    case atStart => exact ⟨0, 0, [], [], by omega, by omega, rfl, rfl, ⟨rfl, rfl, rfl⟩, ⟨Kd.R_nil _ _ _ _ _⟩, ⟨Below.refl _ _⟩⟩
    case round =>
      obtain ⟨i, xi, out, xo, hi, hk, hxi, rfl, HV, HO, HB⟩ := hrel
      by_cases hlt : i < n
      · have b1 : decide (xi < (n : Int)) = true := decide_eq_true (by omega)
        have hgi : (List.range n).getD xi.toNat 0 = i := by
          rw [← hxi, Int.toNat_natCast, List.getD_eq_getElem?_getD, List.getElem?_range hlt]; rfl
        obtain ⟨ad, e1, h0, h1, h2⟩ := raw_at (Kd.R_reads' HR0.out).2.2 xi (by omega) (by simp; omega) (by simp)
        cases e1
        rw [hgi] at h2
        have HAI := HROWS.out i hlt
        have HTI : Aside0 ((L.getD i []).length ≤ 1000) := ⟨by
          rw [List.getD_eq_getElem?_getD]
          cases hx : L[i]? with
          | none => simp
          | some t => exact HTL.out t (List.mem_of_getElem? hx)⟩
        generalize hAi : Af i = Ai at h2 HAI
        generalize hci : cf i = ci at h2 HAI
        obtain ⟨ti, hti⟩ : ∃ ti, L.getD i [] = ti := ⟨_, rfl⟩
        rw [hti] at h2 HAI HTI
        obtain ⟨ni, hni⟩ : ∃ ni, ti.length = ni := ⟨_, rfl⟩
        rw [hni] at h2 HAI
        have HGI : Aside0 (cgx a0 a1 L Af cf i = [.int .i64 a0, .int .i64 a1, .slice Ai ni ci] ∧ L.getD i [] = ti ∧ ti.length = ni) := ⟨by unfold cgx; rw [hAi, hci, hti, hni], hti, hni⟩
        have HRI := Aside0.mk HAI
        clear HAI hAi hci hti hni hgi
        replace h0 := (HB.out.cell (World.block_lt_of_cell? w1 _ h0)).trans h0
        replace h1 := (HB.out.cell (World.block_lt_of_cell? w1 _ h1)).trans h1
        replace h2 := (HB.out.cell (World.block_lt_of_cell? w1 _ h2)).trans h2
        have q1 := eq_true (show 0 ≤ xi by omega)
        have q2 := eq_true (show xi < (n : Int) by omega)
        obtain ⟨A1, c1, e1⟩ := rawR_slice HO.out
        subst e1
        have HI := Aside0.mk (And.intro hi (And.intro hk (And.intro hxi hlt)))
        clear hi hk hxi hlt
        go_wp2_with (first | ((with_reducible refine gate_dst (N := 8) rfl ?_); refine box_event ?hg (N := 8) ?hd (cs := #[.int .i64 0, .int .i64 0, .slice none 0 0]) (t := 37) ?hr ?_; (case hd => rfl); (case hg => rfl); (case hr => first | (go_simp; done) | (go_simp; rfl)); intro gb hg w5 hbox hb; have HBX := Aside0.mk hbox; have HB5 := Aside0.mk hb; have HG := Aside0.mk hg; have hcz0 : w5.cell? ⟨gb, 0, none⟩ = some (.int .i64 0) := (blk_cell hbox 0).trans rfl; have hcz1 : w5.cell? ⟨gb, 1, none⟩ = some (.int .i64 0) := (blk_cell hbox 1).trans rfl; have hcz2 : w5.cell? ⟨gb, 2, none⟩ = some (.slice none 0 0) := (blk_cell hbox 2).trans rfl; have hfz0 := blk_frozen hbox 0; have hfz1 := blk_frozen hbox 1; have hfz2 := blk_frozen hbox 2; clear hb hbox hg))
        have GE : w1.heap.size ≤ gb := by rw [HG.out]; exact HB.out.size
        have HO5 := Kd.R_below (Kd.R_elderB HO.out gb (Nat.le_of_eq HG.out.symm)) HB5.out
        have HO6 : Aside0 ((Kd.raw 3).R 37 (((w5.setCell ⟨gb, 0, none⟩ (.int .i64 a0)).setCell ⟨gb, 1, none⟩ (.int .i64 a1)).setCell ⟨gb, 2, none⟩ (.slice Ai ni ci)) w1.heap.size (fun k_ => k_ ≠ gb) (.slice A1 xo.length c1) xo) := ⟨Kd.R_mono (Kd.R_far (p := ⟨gb, 2, none⟩) (Kd.R_far (p := ⟨gb, 1, none⟩) (Kd.R_far (p := ⟨gb, 0, none⟩) (Kd.R_mono HO5 (fun k_ hk => (⟨hk, hk.2⟩ : _ ∧ k_ ≠ gb))) (fun _ hk => hk.2) (.int .i64 a0)) (fun _ hk => hk.2) (.int .i64 a1)) (fun _ hk => hk.2) (.slice Ai ni ci)) (fun _ hk => hk.2)⟩
        have HX6 : Aside0 ((((w5.setCell ⟨gb, 0, none⟩ (.int .i64 a0)).setCell ⟨gb, 1, none⟩ (.int .i64 a1)).setCell ⟨gb, 2, none⟩ (.slice Ai ni ci)).heap[gb]? = some (.cells #[.int .i64 a0, .int .i64 a1, .slice Ai ni ci] 37 (0, 0))) := ⟨blk_put (cs := #[.int .i64 a0, .int .i64 a1, .slice none 0 0]) (blk_put (cs := #[.int .i64 a0, .int .i64 0, .slice none 0 0]) (blk_put (cs := #[.int .i64 0, .int .i64 0, .slice none 0 0]) HBX.out 0 _ rfl) 1 _ rfl) 2 _ rfl⟩
        have HB6 : Aside0 (Below w1.heap.size w1 (((w5.setCell ⟨gb, 0, none⟩ (.int .i64 a0)).setCell ⟨gb, 1, none⟩ (.int .i64 a1)).setCell ⟨gb, 2, none⟩ (.slice Ai ni ci))) := ⟨below_set (below_set (below_set (below_step HB.out HB5.out) GE) GE) GE⟩
        generalize (((w5.setCell ⟨gb, 0, none⟩ (.int .i64 a0)).setCell ⟨gb, 1, none⟩ (.int .i64 a1)).setCell ⟨gb, 2, none⟩ (.slice Ai ni ci)) = W6 at HO6 HX6 HB6 ⊢
        clear HBX HB5 HO5 hcz0 hcz1 hcz2 hfz0 hfz1 hfz2 h0 h1 h2 b1 q1 q2 HG HO HB
        go_loopg [9] xo.length (fun kq v9 wc => ∃ (j : Nat) (ji : Int), j ≤ xo.length ∧ j ≤ kq ∧ (j : Int) = ji ∧ v9 = .int .i64 ji ∧ Aside0 (insK lt 0 i out out.length = insK lt 0 i out j) ∧ Aside0 (Below W6.heap.size W6 wc))
        case atStart => exact ⟨xo.length, _, Nat.le_refl _, Nat.le_refl _, rfl, rfl, ⟨by rw [HV.out.1, List.length_map]⟩, ⟨Below.refl _ _⟩⟩
        case round =>
          obtain ⟨j, ji, hj, hjk, hji, rfl, HV2, HB7⟩ := hrel
          have HO7 := Aside0.mk (Kd.R_below HO6.out HB7.out)
          have HX7 := Aside0.mk (blk_below HX6.out HB7.out)
          have HJ := Aside0.mk (And.intro hj (And.intro hjk hji))
          have hol : xo.length ≤ 4294967296 := by have h1 := HV.out.2.1; have h2 := HI.out.1; have h3 := HN.out.2; omega
          obtain ⟨jp, hjp⟩ : ∃ jp : Int, ji - 1 = jp := ⟨_, rfl⟩
          have hwj : wrap64 (ji - 1) = jp := by rw [w64 (by omega) (by omega)]; exact hjp
          have HJP := Aside0.mk (And.intro hjp hwj)
          clear hj hjk hji hjp hwj
          go_upto_region 7 with (fail)
          go_cut [37] (fun v26 wc => ∃ b : Bool, v26 = .bool b ∧ Aside0 (if b = true then 0 < j ∧ insK lt 0 i out j = insK lt 0 i out (j - 1) else insK lt 0 i out j = j) ∧ Aside0 (Below wr.heap.size wr wc))
          case first => as_aux_lemma =>
            have hj1 := HJ.out
            rcases Nat.eq_zero_or_pos j with hz | hz
            · subst hz
              have z1 : decide ((0 : Int) < ji) = false := decide_eq_false (by omega)
              clear hj1
              refine wp_region_gr (by kernel_rfl) (by kernel_rfl) ?_
              repeat (go_big_quiet_step (fail))
              refine wpQuiet_nil ?_
              intro W2 hw'
              obtain ⟨⟨V2, hB2⟩, hw''⟩ := hw'
              replace hw'' : W2 = V2 := hw''
              subst hw''
              try go_wp2_with fail
              go_meet
              case rel => exact ⟨false, rfl, ⟨rfl⟩, ⟨hB2⟩⟩
            · have z1 : decide ((0 : Int) < ji) = true := decide_eq_true (by omega)
              have hjp := HJP.out.1
              have hwj := HJP.out.2
              have hxo := HV.out.1
              have HC7 := (Kd.R_reads' HO7.out).2.2
              rw [hxo] at HC7
              have hxl : (out.map (cgx a0 a1 L Af cf)).length = out.length := List.length_map _
              have hxl2 : xo.length = out.length := by rw [hxo, hxl]
              obtain ⟨ad2, e2, g0, g1, g2⟩ := raw_at HC7 jp (by omega) (by omega) hxl
              cases e2
              obtain ⟨p, hp⟩ : ∃ p, out.getD jp.toNat 0 = p := ⟨_, rfl⟩
              rw [hp] at g2
              have HP : Aside0 (out.getD (j - 1) 0 = p) := ⟨by rw [← hp]; congr 1; omega⟩
              have hpn : p < n := by
                have h1 := HV.out.2.2
                have hm : p ∈ out := by
                  rw [← hp, List.getD_eq_getElem?_getD, List.getElem?_eq_getElem (by omega)]
                  exact List.getElem_mem _
                have h2 : (srtF lt 0 out ((List.range n).drop i)).Perm (out ++ (List.range n).drop i) := srtF_perm lt 0 _ _
                rw [h1] at h2
                have h3 := (h2.symm.trans (idx_perm lt n)).mem_iff.1 (List.mem_append_left _ hm)
                exact List.mem_range.1 h3
              have HAP := HROWS.out p hpn
              have HTP : Aside0 ((L.getD p []).length ≤ 1000) := ⟨by
                rw [List.getD_eq_getElem?_getD]
                cases hx : L[p]? with
                | none => simp
                | some t => exact HTL.out t (List.mem_of_getElem? hx)⟩
              generalize Af p = Ap at g2 HAP
              generalize cf p = cp at g2 HAP
              have hltp := HLT.out i p
              rw [HGI.out.2.1] at hltp
              obtain ⟨tp, htp⟩ : ∃ tp, L.getD p [] = tp := ⟨_, rfl⟩
              rw [htp] at g2 HAP hltp HTP
              obtain ⟨np, hnp⟩ : ∃ np, tp.length = np := ⟨_, rfl⟩
              have q1 := eq_true (show 0 ≤ jp by omega)
              have q2 := eq_true (show jp < (xo.length : Int) by omega)
              have hBr := HB6.out.trans (HB7.out.mono HB6.out.size)
              have hRi := Kd.R_below HRI.out hBr
              have hRp := Kd.R_below HAP hBr
              obtain ⟨kc, hkc⟩ := ev_at (cuFirst_ev ti tp a0 a1 a0 a1 (by have := HTI.out; omega) (by have := HTP.out; omega))
              have HCL : Aside0 (∀ q : Gr wr, Calls Try.prog 59 #[.agg #[.int .i64 a0, .int .i64 a1, .slice Ai ni ci], .agg #[.int .i64 a0, .int .i64 a1, .slice Ap np cp]] q.W fun e w' => e = .returned (.bool (lt i p)) ∧ Below q.W.heap.size q.W w') := ⟨fun q => by
                have hRj := hRi
                rw [← HGI.out.2.2] at hRj
                have h1 := spec_cuFirst.calls kc a0 a1 Ai ci ti a0 a1 Ap cp tp (lexB ti tp) q.W (Kd.R_reads' (Kd.R_below hRj q.h)).2.2 (Kd.R_reads' hRj).2.1 (Kd.R_reads' (Kd.R_below hRp q.h)).2.2 (Kd.R_reads' hRp).2.1 hkc
                rw [HGI.out.2.2, hnp, ← hltp] at h1
                exact h1⟩
              rw [hnp] at g2
              have HBV : Aside0 (if lt i p = true then 0 < j ∧ insK lt 0 i out j = insK lt 0 i out (j - 1) else insK lt 0 i out j = j) := ⟨by
                have e : insK lt 0 i out j = if lt i p = true then insK lt 0 i out (j - 1) else j := by
                  obtain ⟨j', rfl⟩ : ∃ j', j = j' + 1 := ⟨j - 1, by omega⟩
                  have := HP.out
                  rw [Nat.add_sub_cancel] at this
                  rw [insK, this, Nat.add_sub_cancel]
                rw [e]
                split
                · exact ⟨hz, rfl⟩
                · rfl⟩
              clear hltp hBr hRi hRp hkc HAP htp hnp HC7 hxl hxl2 hxo hpn
              generalize lt i p = b at HCL HBV
              have l1 := blk_lt HX7.out
              have l2 := World.block_lt_of_cell? wr _ g0
              have x0 := fun p => cell_gr (p := p) l1 ((blk_cell HX7.out 0).trans rfl)
              have x1 := fun p => cell_gr (p := p) l1 ((blk_cell HX7.out 1).trans rfl)
              have x2 := fun p => cell_gr (p := p) l1 ((blk_cell HX7.out 2).trans rfl)
              have x3 := fun p => cell_gr (p := p) l2 g0
              have x4 := fun p => cell_gr (p := p) (World.block_lt_of_cell? wr _ g1) g1
              have x5 := fun p => cell_gr (p := p) (World.block_lt_of_cell? wr _ g2) g2
              clear hj1 hjp hp g0 g1 g2 l1 l2
              refine wp_region_gr (by kernel_rfl) (by kernel_rfl) ?_
              repeat (go_big_quiet_step (first | (go_at_call 59; refine Calls.gr_of (HCL.out _))))
              refine wpQuiet_nil ?_
              intro W2 hw'
              obtain ⟨⟨V2, hB2⟩, hw''⟩ := hw'
              replace hw'' : W2 = V2 := hw''
              subst hw''
              try go_wp2_with fail
              go_meet
              case rel => exact ⟨b, rfl, HBV, ⟨hB2⟩⟩
          case rest =>
            obtain ⟨b, rfl, HBV, HB8⟩ := hcut
            have HB9 := Aside0.mk (HB7.out.trans (HB8.out.mono HB7.out.size))
            cases b with
            | true =>
              have hd := HBV.out
              rw [if_pos rfl] at hd
              have HD := Aside0.mk hd
              have hwj := HJP.out.2
              clear hd
              go_wp2_with fail
              go_roundg (j - 1)
              case measure => have h1 := HD.out.1; have h2 := HJ.out.2.1; omega
              case rel => exact ⟨j - 1, jp, by have := HJ.out.1; omega, by omega, by have h1 := HD.out.1; have h2 := HJ.out.2.2; have h3 := HJP.out.1; omega, by first | rfl | rw [hwj], ⟨HV2.out.trans HD.out.2⟩, HB9⟩
            | false =>
              have hd := HBV.out
              rw [if_neg (by decide)] at hd
              have HD : Aside0 (insK lt 0 i out out.length = j) := ⟨HV2.out.trans hd⟩
              clear hd HBV HJP HV2 HB8 HO7 HX7 HB7
              go_upto_region 9 with (fail)
              obtain ⟨w5, rfl⟩ : ∃ w5 : World, w5 = wc := ⟨_, rfl⟩
              have HO8 := Aside0.mk (Kd.R_below HO6.out HB9.out)
              have HX8 := Aside0.mk (blk_below HX6.out HB9.out)
              have HJI : Aside0 (0 ≤ ji ∧ ji ≤ xo.length ∧ ji.toNat = j) := ⟨by have h1 := HJ.out.1; have h2 := HJ.out.2.2; omega⟩
              obtain ⟨i0, hi0, _, hsz, _⟩ := info_parts info37
              have hroom : xo.length ≤ c1 := (Kd.R_reads' HO8.out).2.1
              have hcutt := cut_to (P := Try.prog) 53 37 .i64 Try.underlying53 hi0 A1 xo.length c1 ji HJI.out.1 HJI.out.2.1 hroom
              have hcutf := cut_from (P := Try.prog) 53 37 .i64 Try.underlying53 hi0 3 hsz A1 xo.length c1 ji HJI.out.1 HJI.out.2.1
              have HTK := Aside0.mk (Kd.C_take (m := ji.toNat) (Kd.R_reads' HO8.out).2.2 (by have := HJI.out; omega))
              have hdr : Kd.C (Kd.raw 3) w5 (if c1 = ji.toNat then A1 else A1.map (·.add (ji.toNat * 3))) (xo.drop ji.toNat).length (xo.drop ji.toNat) := Kd.C_drop (m := ji.toNat) (c := c1) (Kd.R_reads' HO8.out).2.2 (by have := HJI.out; omega) hroom
              have hl1 : (xo.take ji.toNat).length = ji.toNat := by rw [List.length_take]; have := HJI.out; omega
              have hl2 : (xo.drop ji.toNat).length = xo.length - ji.toNat := List.length_drop
              rw [← hl1] at hcutt
              obtain ⟨AD, hAD⟩ : ∃ AD, (if c1 = ji.toNat then A1 else A1.map (·.add (ji.toNat * 3))) = AD := ⟨_, rfl⟩
              obtain ⟨cD, hcD⟩ : ∃ cD, c1 - ji.toNat = cD := ⟨_, rfl⟩
              rw [hAD] at hdr
              rw [hAD, hcD, ← hl2] at hcutf
              have HOL : Aside0 (xo.length ≤ 4294967296) := ⟨by have h1 := HV.out.2.1; have h2 := HI.out.1; have h3 := HN.out.2; omega⟩
              obtain ⟨sq, hsq⟩ : ∃ sq, xo.take ji.toNat = sq := ⟨_, rfl⟩
              obtain ⟨dq, hdq⟩ : ∃ dq, xo.drop ji.toNat = dq := ⟨_, rfl⟩
              have HSQ : Aside0 (sq.length ≤ 4294967296) := ⟨by rw [← hsq, List.length_take]; have := HOL.out; omega⟩
              have HDQ : Aside0 (dq.length ≤ 4294967296) := ⟨by rw [← hdq, List.length_drop]; have := HOL.out; omega⟩
              have HINS : Aside0 ((insG lt 0 i out).map (cgx a0 a1 L Af cf) = sq ++ [[.int .i64 a0, .int .i64 a1, .slice Ai ni ci]] ++ dq) := ⟨by
                unfold insG
                rw [HD.out, ← hsq, ← hdq, HJI.out.2.2, List.map_append, List.map_cons, List.map_take, List.map_drop, HGI.out.1, ← HV.out.1]; simp⟩
              have HSC5 := HTK
              rw [hsq] at hcutt HSC5
              rw [hdq] at hcutf hdr
              have HDC5 := Aside0.mk hdr
              have HP6 : Aside0 (∀ W, Below w5.heap.size w5 W → W.cell? ⟨gb, 0, none⟩ = some (.int .i64 a0) ∧ W.cell? ⟨gb, 1, none⟩ = some (.int .i64 a1) ∧ W.cell? ⟨gb, 2, none⟩ = some (.slice Ai ni ci)) := ⟨fun W hW => ⟨(blk_cell (blk_below HX8.out hW) 0).trans rfl, (blk_cell (blk_below HX8.out hW) 1).trans rfl, (blk_cell (blk_below HX8.out hW) 2).trans rfl⟩⟩
              have HB10 := Aside0.mk (HB6.out.trans (HB9.out.mono HB6.out.size))
              clear HTK hdr hl1 hl2 hsq hdq hAD hcD hi0 hsz hroom
              have q3 := eq_true HJI.out.1
              have q4 := eq_true HJI.out.2.1
              go_cut [10] (fun v7 wc => Aside0 ((Kd.raw 3).R 37 wc w5.heap.size (fun _ => True) v7 (sq ++ [[.int .i64 a0, .int .i64 a1, .slice Ai ni ci]])) ∧ Aside0 (Below w5.heap.size w5 wc))
              case first => as_aux_lemma =>
                obtain ⟨p50, p51, p52⟩ := HP6.out w5 (Below.refl _ _)
                obtain ⟨p5a, p5b, p5c⟩ := HP6.out (w5.alloc (.cells #[] 37)) (below_alloc (Below.refl _ _) _)
                go_region_law (first | (refine Kd.R_append_rows_step (Kd.raw 3) (w0 := w5) w5.heap.size (by simp [Region.wanted]) (.tmp 40) (.tmp 43) 53 37 (.agg #[.int .i64 0, .int .i64 0, .slice none 0 0]) 40 rfl Try.underlying53 info37 rfl (by decide) (by omega) (.slice (some ⟨w5.heap.size, 0, none⟩) 0 0) [] sq _ _ _ (fun _ => True) (fun _ => False) rfl rfl ?aO ?aR (fun _ _ h => h) (fun _ h => h.elim) (fun _ _ => trivial) ?aB ?aS ?aL ?_; (case aO => exact (by first | exact R_emptycr _ _ (by simp) | exact Kd.R_drew (R_emptycr _ _ (by simp)) | exact Kd.R_drew (Kd.R_alloc (R_emptycr _ _ (by simp)) _) | exact Kd.R_alloc (R_emptycr _ _ (by simp)) _)); (case aR => exact (show Kd.C (Kd.raw 3) _ A1 sq.length sq from by (with_reducible repeat (first | refine Kd.C_alloc ?_ _ | refine Kd.C_drew ?_)); exact HSC5.out)); (case aB => exact (by repeat (first | exact Below.refl _ _ | apply below_alloc | apply below_drew))); (case aS => exact (by simp; try omega)); (case aL => exact (by have := HSQ.out; simp; omega)); intro v118 w6 ho hb hg hat; obtain ⟨A6, n6, c6, e6⟩ := R_slcr ho; subst e6; rw [List.nil_append] at ho; have HR6 := Aside0.mk ho; have HB6 := Aside0.mk hb; obtain ⟨p60, p61, p62⟩ := HP6.out _ hb; (first | (have hq6 := blk_grown (w1 := w6) (heap_alloc_new (w5.drew.alloc (.cells #[] 37)) (.cells #[.int .i64 a0, .int .i64 a1, .slice Ai ni ci] 37)) hg (by first | (simp [Value.ownBlock]; done) | (intro h_; injection h_ with h_; omega))) | skip); clear ho hb hg hat) | (refine Kd.R_append_step (Kd.raw 3) (w0 := w5) w5.heap.size (by simp [Region.wanted]) (.tmp 44) (.tmp 46) 53 37 (.agg #[.int .i64 0, .int .i64 0, .slice none 0 0]) 40 rfl Try.underlying53 info37 rfl (by decide) (by omega) _ sq [.int .i64 a0, .int .i64 a1, .slice Ai ni ci] [.int .i64 a0, .int .i64 a1, .slice Ai ni ci] (fun _ => True) (fun _ => False) rfl rfl (raw_M _ _ _ _ _ _ _ _) (fun _ h => h.elim) (fun _ _ => trivial) HR6.out HB6.out HB6.out.size ?aL ?_; (case aL => exact (by have := HSQ.out; omega)); intro v127 w7 ho hb hg hat; obtain ⟨A7, n7, c7, e7⟩ := R_slcr ho; subst e7; have HR7 := Aside0.mk ho; have HB7 := Aside0.mk hb; clear ho hb hg hat) | (refine Kd.R_append_rows_step (Kd.raw 3) (w0 := w5) w5.heap.size (by simp [Region.wanted]) (.tmp 44) (.tmp 46) 53 37 (.agg #[.int .i64 0, .int .i64 0, .slice none 0 0]) 40 rfl Try.underlying53 info37 rfl (by decide) (by omega) _ sq [[.int .i64 a0, .int .i64 a1, .slice Ai ni ci]] _ _ _ (fun _ => True) (fun _ => False) rfl rfl HR6.out (show Kd.C (Kd.raw 3) w6 _ 1 [[.int .i64 a0, .int .i64 a1, .slice Ai ni ci]] from C_of_blkcr a0 a1 Ai ni ci (by first | exact hq6 | simpa using hq6)) (fun _ _ h => h) (fun _ h => h.elim) (fun _ _ => trivial) HB6.out HB6.out.size ?aL ?_; (case aL => exact (by have := HSQ.out; omega)); intro v127 w7 ho hb hg hat; obtain ⟨A7, n7, c7, e7⟩ := R_slcr ho; subst e7; have HR7 := Aside0.mk ho; have HB7 := Aside0.mk hb; clear ho hb hg hat) | (refine Kd.R_append_rows_step (Kd.raw 3) (w0 := w5) w5.heap.size (by simp [Region.wanted]) (.tmp 40) (.tmp 43) 53 37 (.agg #[.int .i64 0, .int .i64 0, .slice none 0 0]) 40 rfl Try.underlying53 info37 rfl (by decide) (by omega) (.slice (some ⟨w5.heap.size + 1, 0, none⟩) 0 0) [] sq _ _ _ (fun _ => True) (fun _ => False) rfl rfl ?aO ?aR (fun _ _ h => h) (fun _ h => h.elim) (fun _ _ => trivial) ?aB ?aS ?aL ?_; (case aO => exact (by have h := R_emptycr (w5.alloc (.cells #[.int .i64 a0, .int .i64 a1, .slice Ai ni ci] 37)) w5.heap.size (below_alloc (Below.refl _ _) _).size; rw [show (w5.alloc (.cells #[.int .i64 a0, .int .i64 a1, .slice Ai ni ci] 37)).heap.size = w5.heap.size + 1 from by simp] at h; first | exact Kd.R_drew h | exact h)); (case aR => exact (show Kd.C (Kd.raw 3) _ A1 sq.length sq from by (with_reducible repeat (first | refine Kd.C_alloc ?_ _ | refine Kd.C_drew ?_)); exact HSC5.out)); (case aB => exact (by repeat (first | exact Below.refl _ _ | apply below_alloc | apply below_drew))); (case aS => exact (by simp; try omega)); (case aL => exact (by have := HSQ.out; simp; omega)); intro v118 w6 ho hb hg hat; obtain ⟨A6, n6, c6, e6⟩ := R_slcr ho; subst e6; rw [List.nil_append] at ho; have HR6 := Aside0.mk ho; have HB6 := Aside0.mk hb; obtain ⟨p60, p61, p62⟩ := HP6.out _ hb; have hq6 := blk_grown (w1 := w6) (blk_alloc (heap_alloc_new w5.drew (.cells #[.int .i64 a0, .int .i64 a1, .slice Ai ni ci] 37)) _) hg (by first | (simp [Value.ownBlock]; done) | (intro h_; injection h_ with h_; omega)); clear ho hb hg hat))
                all_goals
                  go_wp2_with fail
                  go_meet
                  case rel => exact ⟨HR7, HB7⟩
              case rest =>
                obtain ⟨HR7, HB7⟩ := hcut
                obtain ⟨A7, n7, c7, e7⟩ := R_slcr HR7.out
                subst e7
                have HD7 := Aside0.mk (Kd.C_below HDC5.out HB7.out)
                have hw3 : wrap64 (xi + 1) = ((i + 1 : Nat) : Int) := by
                  have h1 := HI.out
                  have h2 := HN.out.2
                  rw [w64 (by omega) (by omega)]; omega
                have HNX : Aside0 (sq ++ [([.int .i64 a0, .int .i64 a1, .slice Ai ni ci] : List Value)] ++ dq = (insG lt 0 i out).map (cgx a0 a1 L Af cf) ∧ (sq ++ [([.int .i64 a0, .int .i64 a1, .slice Ai ni ci] : List Value)] ++ dq).length = i + 1 ∧ srtF lt 0 (insG lt 0 i out) ((List.range n).drop (i + 1)) = srtF lt 0 [] (List.range n)) := ⟨by
                  have h1 := HV.out
                  refine ⟨HINS.out.symm, by rw [← HINS.out, List.length_map, insG_len, ← h1.2.1, h1.1, List.length_map], ?_⟩
                  rw [← h1.2.2, srtI_drop _ _ _ _ HI.out.2.2.2]⟩
                go_wp2_with (first | ((with_reducible refine gate_builtin (b := .append) (xs := #[.tmp 48, .tmp 51]) rfl ?_); at_builtin; refine Kd.R_append_rows (Kd.raw 3) (w0 := w5) w5.heap.size rfl (.tmp 48) (.tmp 51) 53 37 (.agg #[(.int .i64 0), (.int .i64 0), (.slice none 0 0)]) 40 rfl Try.underlying53 info37 rfl (by decide) (by omega) _ (sq ++ [([.int .i64 a0, .int .i64 a1, .slice Ai ni ci] : List Value)]) dq _ _ _ (fun _ => True) (fun _ => False) rfl rfl HR7.out HD7.out (fun _ _ h => h) (fun _ h => h.elim) (fun _ _ => trivial) HB7.out HB7.out.size (by have h1 := HSQ.out; have h2 := HDQ.out; rw [List.length_append, List.length_singleton]; omega) ?_; intro v41 w6 ho hb hg hat; have HO9 := Aside0.mk ho; have HB11 := Aside0.mk hb; clear ho hb hg hat))
                go_roundg (n - (i + 1))
                case measure => have := HI.out; omega
                case rel => exact ⟨i + 1, _, insG lt 0 i out, _, by have := HI.out; omega, Nat.le_refl _, rfl, by first | rfl | rw [hw3], HNX, ⟨Kd.R_lower HO9.out HB10.out.size⟩, ⟨HB10.out.trans (HB11.out.mono HB10.out.size)⟩⟩
      · have b1 : decide (xi < (n : Int)) = false := decide_eq_false (by omega)
        obtain rfl : i = n := by omega
        have hE : out = srtF lt 0 [] (List.range i) := by
          have e2 := HV.out.2.2
          rw [List.drop_of_length_le (by simp)] at e2
          exact e2
        have HE := Aside0.mk hE
        have hof := HO.out
        rw [HV.out.1] at hof
        have HOF := Aside0.mk hof
        clear hof
        clear hE
        go_wp2_with fail
        go_ret
        have hp := idx_perm lt i
        rw [← HE.out] at hp
        refine ⟨_, rfl, ?_, HBW.out.trans (HB.out.mono HBW.out.size)⟩
        have hS := S_of_raw (d := k37) (e := 37) (base := w.heap.size) (ok := fun _ => True) (x := fun j => (⟨a0, a1, L.getD j []⟩ : Ct)) (fun k => if k < w1.heap.size then f k else i) (Kd.R_lower HOF.out HBW.out.size) (fun j hj => ?_) (hp.nodup_iff.2 List.nodup_range) (fun _ _ => trivial) (fun k hk hmem => ?_)
        · rw [HE.out, HRES.out] at hS; exact hS
        · have hjn : j < i := List.mem_range.1 (hp.mem_iff.1 hj)
          have h1 := HROWS.out j hjn
          exact k37_mkM _ _ _ (⟨a0, a1, L.getD j []⟩ : Ct) (Kd.R_mono (Kd.R_below (Kd.R_bound h1) HB.out) (fun k hk => ⟨trivial, by rw [if_pos hk.2.2.1]; exact hk.1.2⟩))
        · have h1 := Kd.R_base HOF.out k hk
          rw [if_neg (by omega)] at hmem
          have := List.mem_range.1 (hp.mem_iff.1 hmem)
          omega
  · rw [if_neg hr] at h; cases h
end Go.Proofs.Ytdfcljfajiihdaa.P

namespace Go.Proofs.Ytdfcljfajiihdaa.P
open Go.RowKit Go.Proofs.YtdfcljfajiihdaaW.PrintWords Go.Proofs.YtdfcljfajiihdaaW.PrintLast Go.Proofs.YtdfcljfajiihdaaW.PrintMore
attribute [local go_sem] max2_int min2_int max_two min_two max_three min_three max_four min_four
set_option linter.unusedVariables false
set_option linter.unusedSimpArgs false
def spec_cuCorners.l0 : Nat → Int → Int → Int → List (S56) → Int → Int → Option (Int)
  | 0, _, _, _, _, _, _ => none
  | k + 1, x1, x2, x7, x11, x12, x13 => if x13 < x12 then (if 0 ≤ x13 then (if x13 < (x11.length : Int) then (if x1 = ((rd_T56 x11 x13).f0) then (if x2 = ((rd_T56 x11 x13).f1) then (spec_cuCorners.l0 k x1 x2 (wrap64 (x7 + 1)) x11 x12 (wrap64 (x13 + 1))) else (if x2 = (wrap64 (((rd_T56 x11 x13).f1) + ((rd_T56 x11 x13).f2))) then (spec_cuCorners.l0 k x1 x2 (wrap64 (x7 + 1)) x11 x12 (wrap64 (x13 + 1))) else (spec_cuCorners.l0 k x1 x2 x7 x11 x12 (wrap64 (x13 + 1))))) else (if x1 = (wrap64 (((rd_T56 x11 x13).f0) + ((rd_T56 x11 x13).f2))) then (if x2 = ((rd_T56 x11 x13).f1) then (spec_cuCorners.l0 k x1 x2 (wrap64 (x7 + 1)) x11 x12 (wrap64 (x13 + 1))) else (if x2 = (wrap64 (((rd_T56 x11 x13).f1) + ((rd_T56 x11 x13).f2))) then (spec_cuCorners.l0 k x1 x2 (wrap64 (x7 + 1)) x11 x12 (wrap64 (x13 + 1))) else (spec_cuCorners.l0 k x1 x2 x7 x11 x12 (wrap64 (x13 + 1))))) else (spec_cuCorners.l0 k x1 x2 x7 x11 x12 (wrap64 (x13 + 1))))) else (none)) else (none)) else (some x7)
def spec_cuCorners.f (k : Nat) (a0_0 : Int) (a0_1 : Int) (l0_2 : List (S56)) (a1 : Int) (a2 : Int) : Option (Int) := spec_cuCorners.l0 k a1 a2 0 l0_2 (l0_2.length : Int) 0
set_option maxHeartbeats 8000000 in
set_option maxRecDepth 100000 in
theorem spec_cuCorners.calls (k : Nat) (a0_0 : Int) (a0_1 : Int) (A0_2 : Option Addr) (c0_2 : Nat) (l0_2 : List (S56)) (a1 : Int) (a2 : Int) (r : Int) (w : World) (hr0_2 : Kd.C k56 w A0_2 l0_2.length l0_2) (hc0_2 : l0_2.length ≤ c0_2) (h : spec_cuCorners.f k a0_0 a0_1 l0_2 a1 a2 = some r) :
    Calls Try.prog 36 #[.agg #[.int .i64 a0_0, .int .i64 a0_1, .slice A0_2 l0_2.length c0_2], .int .i64 a1, .int .i64 a2] w fun e w' => e = .returned (.int .i64 r) ∧ Below w.heap.size w w' := by
  have hu37 := Try.underlying37
  have hu56 := Try.underlying56
  have HR0_2 := Aside0.mk hr0_2
  have HC0_2 := Aside0.mk hc0_2
  clear hr0_2 hc0_2
  have HB := Aside0.mk (Below.refl w.heap.size w)
  have H : (spec_cuCorners.l0 k a1 a2 0 l0_2 (l0_2.length : Int) 0) = some r := h
  clear h
  have H' := Aside0.mk H
  clear H
  go_enter Try.func36, Try.ntmps36
  go_wp2_with (first | ((with_reducible refine gate_dst (N := 3) rfl ?_); refine box_event ?hg (N := 3) ?hd (cs := #[.int .i64 a0_0, .int .i64 a0_1, .slice A0_2 l0_2.length c0_2]) (t := 37) ?hr ?_; (case hd => rfl); (case hg => rfl); (case hr => first | (go_simp; done) | (go_simp; rfl)); intro gb101 hg w4 hbox hb; have n0_ := Aside0.mk (below_step (by repeat (first | (with_reducible first | exact HB.out | apply below_alloc | apply pw_below_drewN | apply below_drew1) | exact HB.out)) hb); have n1_ := Aside0.mk (hbox); have n2_ := Aside0.mk ((by rw [hg]; exact (below_size (by repeat (first | (with_reducible first | exact HB.out | apply below_alloc | apply pw_below_drewN | apply below_drew1) | exact HB.out))) : w.heap.size ≤ gb101)); have n3_ := Aside0.mk ((by rw [hg]; exact (below_size (by repeat (first | (with_reducible first | exact HB.out | apply below_alloc | apply pw_below_drewN | apply below_drew1) | exact HB.out))) : w.heap.size ≤ gb101)); clear HB; have HB := n0_; have BK101 := n1_; have GW101 := n2_; have GE101 := n3_; clear n0_ n1_ n2_ n3_; clear hb hbox hg; have hcz5_0 : w4.cell? ⟨gb101, 0, none⟩ = some (.int .i64 a0_0) := (blk_cell BK101.out 0).trans rfl; have hcz5_1 : w4.cell? ⟨gb101, 1, none⟩ = some (.int .i64 a0_1) := (blk_cell BK101.out 1).trans rfl; have hcz5_2 : w4.cell? ⟨gb101, 2, none⟩ = some (.slice A0_2 l0_2.length c0_2) := (blk_cell BK101.out 2).trans rfl; have hfz5_0 := blk_frozen BK101.out 0; have hfz5_1 := blk_frozen BK101.out 1; have hfz5_2 := blk_frozen BK101.out 2))
  go_loopg [7, 13] k (fun kq v7 v13 w' => ∃ (x7_1 : Int) (x13_1 : Int), v7 = .int .i64 x7_1 ∧ v13 = .int .i64 x13_1 ∧ Aside0 (spec_cuCorners.l0 kq a1 a2 x7_1 l0_2 (l0_2.length : Int) x13_1 = some r) ∧ Aside0 (kq ≤ k) ∧ Aside0 (w'.heap[gb101]? = some (.cells #[.int .i64 a0_0, .int .i64 a0_1, (.slice A0_2 l0_2.length c0_2)] 37 (0, 0))) ∧ Aside0 (Below w.heap.size w w'))
  case atStart => exact ⟨(0), (0), (by first | rfl | (simp; done) | (simp [*]; done)), (by first | rfl | (simp; done) | (simp [*]; done)), H', ⟨Nat.le_refl _⟩, ⟨by (with_reducible repeat (first | refine blk_drewN ?_ _ | refine blk_drew ?_ | refine blk_alloc ?_ _)); exact BK101.out⟩, ⟨by repeat (first | (with_reducible first | exact HB.out | apply below_alloc | apply pw_below_drewN | apply below_drew1 | refine below_set ?_ GE101.out) | exact HB.out)⟩⟩
  case round =>
    clear H'
    try clear p2
    try clear c3
    try clear hcz5_0
    try clear hcz5_1
    try clear hcz5_2
    try clear hfz5_0
    try clear hfz5_1
    try clear hfz5_2
    obtain ⟨x7_1, x13_1, rfl, rfl, HA, HK1, BK101, HB⟩ := hrel
    cases gk with
    | zero => exact absurd HA.out (by simp [spec_cuCorners.l0])
    | succ k1 =>
      have H := HA.out
      clear HA
      simp only [spec_cuCorners.l0] at H
      by_cases c6 : x13_1 < (l0_2.length : Int)
      · rw [if_pos c6] at H
        have c6b0 : decide (x13_1 < (l0_2.length : Int)) = true := decide_eq_true c6
        clear c6
        by_cases c7 : 0 ≤ x13_1
        · rw [if_pos c7] at H
          have c7b0 : decide (0 ≤ x13_1) = true := decide_eq_true c7
          clear c7
          by_cases c8 : x13_1 < (l0_2.length : Int)
          · rw [if_pos c8] at H
            have c8b0 : decide (x13_1 < (l0_2.length : Int)) = true := decide_eq_true c8
            clear c8
            by_cases c9 : a1 = ((rd_T56 l0_2 x13_1).f0)
            · rw [if_pos c9] at H
              have c9b0 : (a1 == ((rd_T56 l0_2 x13_1).f0)) = true := beq_iff_eq.mpr c9
              have c9b1 : (a1 != ((rd_T56 l0_2 x13_1).f0)) = false := bne_eq_false_iff_eq.mpr c9
              clear c9
              by_cases c10 : a2 = ((rd_T56 l0_2 x13_1).f1)
              · rw [if_pos c10] at H
                have c10b0 : (a2 == ((rd_T56 l0_2 x13_1).f1)) = true := beq_iff_eq.mpr c10
                have c10b1 : (a2 != ((rd_T56 l0_2 x13_1).f1)) = false := bne_eq_false_iff_eq.mpr c10
                clear c10
                have H' := Aside0.mk H
                clear H
                have p102 : 0 ≤ (x13_1 : Int) := of_decide_eq_true (by first | (with_reducible assumption) | assumption)
                have q102 : x13_1 < (l0_2.length : Int) := of_decide_eq_true (by first | (with_reducible assumption) | assumption)
                obtain ⟨ad102, e102, hx102_0, hx102_1, hx102_2⟩ := at_T56 HR0_2.out x13_1 p102 q102
                cases e102
                replace hx102_0 := (HB.out.cell (World.block_lt_of_cell? w _ hx102_0)).trans hx102_0
                replace hx102_1 := (HB.out.cell (World.block_lt_of_cell? w _ hx102_1)).trans hx102_1
                replace hx102_2 := (HB.out.cell (World.block_lt_of_cell? w _ hx102_2)).trans hx102_2
                replace p102 := eq_true p102
                replace q102 := eq_true q102
                go_wp2_with (first | ((with_reducible refine gate_dst (N := 9) rfl ?_); refine box_event ?hg (N := 9) ?hd (cs := #[.int .i64 0, .int .i64 0, .int .i64 0]) (t := 56) ?hr ?_; (case hd => rfl); (case hg => rfl); (case hr => first | (go_simp; done) | (go_simp; rfl)); intro gb103 hg w11 hbox hb; have n0_ := Aside0.mk (blk_below (g := gb101) (o := .cells #[.int .i64 a0_0, .int .i64 a0_1, .slice (some ad102) l0_2.length c0_2] 37 (0, 0)) (by (with_reducible repeat (first | refine blk_drewN ?_ _ | refine blk_drew ?_ | refine blk_alloc ?_ _)); exact BK101.out) hb); have n1_ := Aside0.mk (below_step (by repeat (first | (with_reducible first | exact HB.out | apply below_alloc | apply pw_below_drewN | apply below_drew1 | refine below_set ?_ GE101.out) | exact HB.out)) hb); have n2_ := Aside0.mk (hbox); have n3_ := Aside0.mk ((by rw [hg]; exact (below_size (by repeat (first | (with_reducible first | exact HB.out | apply below_alloc | apply pw_below_drewN | apply below_drew1 | refine below_set ?_ GE101.out) | exact HB.out))) : w.heap.size ≤ gb103)); have n4_ := Aside0.mk ((by rw [hg]; exact (below_size (by repeat (first | (with_reducible first | exact HB.out | apply below_alloc | apply pw_below_drewN | apply below_drew1 | refine below_set ?_ GE101.out) | exact HB.out))) : w.heap.size ≤ gb103)); have n5_ := Aside0.mk ((by rw [hg]; exact Nat.ne_of_lt (blk_lt (g := gb101) (o := .cells #[.int .i64 a0_0, .int .i64 a0_1, .slice (some ad102) l0_2.length c0_2] 37 (0, 0)) (by (with_reducible repeat (first | refine blk_drewN ?_ _ | refine blk_drew ?_ | refine blk_alloc ?_ _)); exact BK101.out)) : gb101 ≠ gb103)); have n6_ := Aside0.mk ((by rw [hg]; exact Nat.ne_of_gt (blk_lt (g := gb101) (o := .cells #[.int .i64 a0_0, .int .i64 a0_1, .slice (some ad102) l0_2.length c0_2] 37 (0, 0)) (by (with_reducible repeat (first | refine blk_drewN ?_ _ | refine blk_drew ?_ | refine blk_alloc ?_ _)); exact BK101.out)) : gb103 ≠ gb101)); clear BK101; clear HB; have BK101 := n0_; have HB := n1_; have BK103 := n2_; have GW103 := n3_; have GE103 := n4_; have NB101_103 := n5_; have NB103_101 := n6_; clear n0_ n1_ n2_ n3_ n4_ n5_ n6_; clear hb hbox hg; have hnb12 := NB103_101.out; have hnc12 := NB101_103.out; have hcz13_0 : w11.cell? ⟨gb103, 0, none⟩ = some (.int .i64 0) := (blk_cell BK103.out 0).trans rfl; have hcz13_1 : w11.cell? ⟨gb103, 1, none⟩ = some (.int .i64 0) := (blk_cell BK103.out 1).trans rfl; have hcz13_2 : w11.cell? ⟨gb103, 2, none⟩ = some (.int .i64 0) := (blk_cell BK103.out 2).trans rfl; have hfz13_0 := blk_frozen BK103.out 0; have hfz13_1 := blk_frozen BK103.out 1; have hfz13_2 := blk_frozen BK103.out 2))
                go_roundg k1
                case measure => have := HK1.out; omega
                case rel => exact ⟨(wrap64 (x7_1 + 1)), (wrap64 (x13_1 + 1)), (by first | rfl | (simp; done) | (simp [*]; done)), (by first | rfl | (simp; done) | (simp [*]; done)), H', ⟨by have := HK1.out; omega⟩, ⟨by (with_reducible repeat (first | refine blk_drewN ?_ _ | refine blk_drew ?_ | refine blk_alloc ?_ _)); refine blk_far ?_ NB101_103.out _; (with_reducible repeat (first | refine blk_drewN ?_ _ | refine blk_drew ?_ | refine blk_alloc ?_ _)); refine blk_far ?_ NB101_103.out _; (with_reducible repeat (first | refine blk_drewN ?_ _ | refine blk_drew ?_ | refine blk_alloc ?_ _)); refine blk_far ?_ NB101_103.out _; (with_reducible repeat (first | refine blk_drewN ?_ _ | refine blk_drew ?_ | refine blk_alloc ?_ _)); exact BK101.out⟩, ⟨by repeat (first | (with_reducible first | exact HB.out | apply below_alloc | apply pw_below_drewN | apply below_drew1 | refine below_set ?_ GE101.out | refine below_set ?_ GE103.out) | exact HB.out)⟩⟩
              · rw [if_neg c10] at H
                have c10b0 : (a2 == ((rd_T56 l0_2 x13_1).f1)) = false := beq_eq_false_iff_ne.mpr c10
                have c10b1 : (a2 != ((rd_T56 l0_2 x13_1).f1)) = true := bne_iff_ne.mpr c10
                by_cases c14 : a2 = (wrap64 (((rd_T56 l0_2 x13_1).f1) + ((rd_T56 l0_2 x13_1).f2)))
                · rw [if_pos c14] at H
                  have c14b0 : (a2 == (wrap64 (((rd_T56 l0_2 x13_1).f1) + ((rd_T56 l0_2 x13_1).f2)))) = true := beq_iff_eq.mpr c14
                  have c14b1 : (a2 != (wrap64 (((rd_T56 l0_2 x13_1).f1) + ((rd_T56 l0_2 x13_1).f2)))) = false := bne_eq_false_iff_eq.mpr c14
                  clear c14
                  have H' := Aside0.mk H
                  clear H
                  have p102 : 0 ≤ (x13_1 : Int) := of_decide_eq_true (by first | (with_reducible assumption) | assumption)
                  have q102 : x13_1 < (l0_2.length : Int) := of_decide_eq_true (by first | (with_reducible assumption) | assumption)
                  obtain ⟨ad102, e102, hx102_0, hx102_1, hx102_2⟩ := at_T56 HR0_2.out x13_1 p102 q102
                  cases e102
                  replace hx102_0 := (HB.out.cell (World.block_lt_of_cell? w _ hx102_0)).trans hx102_0
                  replace hx102_1 := (HB.out.cell (World.block_lt_of_cell? w _ hx102_1)).trans hx102_1
                  replace hx102_2 := (HB.out.cell (World.block_lt_of_cell? w _ hx102_2)).trans hx102_2
                  replace p102 := eq_true p102
                  replace q102 := eq_true q102
                  go_wp2_with (first | ((with_reducible refine gate_dst (N := 9) rfl ?_); refine box_event ?hg (N := 9) ?hd (cs := #[.int .i64 0, .int .i64 0, .int .i64 0]) (t := 56) ?hr ?_; (case hd => rfl); (case hg => rfl); (case hr => first | (go_simp; done) | (go_simp; rfl)); intro gb103 hg w15 hbox hb; have n0_ := Aside0.mk (blk_below (g := gb101) (o := .cells #[.int .i64 a0_0, .int .i64 a0_1, .slice (some ad102) l0_2.length c0_2] 37 (0, 0)) (by (with_reducible repeat (first | refine blk_drewN ?_ _ | refine blk_drew ?_ | refine blk_alloc ?_ _)); exact BK101.out) hb); have n1_ := Aside0.mk (below_step (by repeat (first | (with_reducible first | exact HB.out | apply below_alloc | apply pw_below_drewN | apply below_drew1 | refine below_set ?_ GE101.out) | exact HB.out)) hb); have n2_ := Aside0.mk (hbox); have n3_ := Aside0.mk ((by rw [hg]; exact (below_size (by repeat (first | (with_reducible first | exact HB.out | apply below_alloc | apply pw_below_drewN | apply below_drew1 | refine below_set ?_ GE101.out) | exact HB.out))) : w.heap.size ≤ gb103)); have n4_ := Aside0.mk ((by rw [hg]; exact (below_size (by repeat (first | (with_reducible first | exact HB.out | apply below_alloc | apply pw_below_drewN | apply below_drew1 | refine below_set ?_ GE101.out) | exact HB.out))) : w.heap.size ≤ gb103)); have n5_ := Aside0.mk ((by rw [hg]; exact Nat.ne_of_lt (blk_lt (g := gb101) (o := .cells #[.int .i64 a0_0, .int .i64 a0_1, .slice (some ad102) l0_2.length c0_2] 37 (0, 0)) (by (with_reducible repeat (first | refine blk_drewN ?_ _ | refine blk_drew ?_ | refine blk_alloc ?_ _)); exact BK101.out)) : gb101 ≠ gb103)); have n6_ := Aside0.mk ((by rw [hg]; exact Nat.ne_of_gt (blk_lt (g := gb101) (o := .cells #[.int .i64 a0_0, .int .i64 a0_1, .slice (some ad102) l0_2.length c0_2] 37 (0, 0)) (by (with_reducible repeat (first | refine blk_drewN ?_ _ | refine blk_drew ?_ | refine blk_alloc ?_ _)); exact BK101.out)) : gb103 ≠ gb101)); clear BK101; clear HB; have BK101 := n0_; have HB := n1_; have BK103 := n2_; have GW103 := n3_; have GE103 := n4_; have NB101_103 := n5_; have NB103_101 := n6_; clear n0_ n1_ n2_ n3_ n4_ n5_ n6_; clear hb hbox hg; have hnb16 := NB103_101.out; have hnc16 := NB101_103.out; have hcz17_0 : w15.cell? ⟨gb103, 0, none⟩ = some (.int .i64 0) := (blk_cell BK103.out 0).trans rfl; have hcz17_1 : w15.cell? ⟨gb103, 1, none⟩ = some (.int .i64 0) := (blk_cell BK103.out 1).trans rfl; have hcz17_2 : w15.cell? ⟨gb103, 2, none⟩ = some (.int .i64 0) := (blk_cell BK103.out 2).trans rfl; have hfz17_0 := blk_frozen BK103.out 0; have hfz17_1 := blk_frozen BK103.out 1; have hfz17_2 := blk_frozen BK103.out 2))
                  go_roundg k1
                  case measure => have := HK1.out; omega
                  case rel => exact ⟨(wrap64 (x7_1 + 1)), (wrap64 (x13_1 + 1)), (by first | rfl | (simp; done) | (simp [*]; done)), (by first | rfl | (simp; done) | (simp [*]; done)), H', ⟨by have := HK1.out; omega⟩, ⟨by (with_reducible repeat (first | refine blk_drewN ?_ _ | refine blk_drew ?_ | refine blk_alloc ?_ _)); refine blk_far ?_ NB101_103.out _; (with_reducible repeat (first | refine blk_drewN ?_ _ | refine blk_drew ?_ | refine blk_alloc ?_ _)); refine blk_far ?_ NB101_103.out _; (with_reducible repeat (first | refine blk_drewN ?_ _ | refine blk_drew ?_ | refine blk_alloc ?_ _)); refine blk_far ?_ NB101_103.out _; (with_reducible repeat (first | refine blk_drewN ?_ _ | refine blk_drew ?_ | refine blk_alloc ?_ _)); exact BK101.out⟩, ⟨by repeat (first | (with_reducible first | exact HB.out | apply below_alloc | apply pw_below_drewN | apply below_drew1 | refine below_set ?_ GE101.out | refine below_set ?_ GE103.out) | exact HB.out)⟩⟩
                · rw [if_neg c14] at H
                  have c14b0 : (a2 == (wrap64 (((rd_T56 l0_2 x13_1).f1) + ((rd_T56 l0_2 x13_1).f2)))) = false := beq_eq_false_iff_ne.mpr c14
                  have c14b1 : (a2 != (wrap64 (((rd_T56 l0_2 x13_1).f1) + ((rd_T56 l0_2 x13_1).f2)))) = true := bne_iff_ne.mpr c14
                  have H' := Aside0.mk H
                  clear H
                  have p102 : 0 ≤ (x13_1 : Int) := of_decide_eq_true (by first | (with_reducible assumption) | assumption)
                  have q102 : x13_1 < (l0_2.length : Int) := of_decide_eq_true (by first | (with_reducible assumption) | assumption)
                  obtain ⟨ad102, e102, hx102_0, hx102_1, hx102_2⟩ := at_T56 HR0_2.out x13_1 p102 q102
                  cases e102
                  replace hx102_0 := (HB.out.cell (World.block_lt_of_cell? w _ hx102_0)).trans hx102_0
                  replace hx102_1 := (HB.out.cell (World.block_lt_of_cell? w _ hx102_1)).trans hx102_1
                  replace hx102_2 := (HB.out.cell (World.block_lt_of_cell? w _ hx102_2)).trans hx102_2
                  replace p102 := eq_true p102
                  replace q102 := eq_true q102
                  go_wp2_with (first | ((with_reducible refine gate_dst (N := 9) rfl ?_); refine box_event ?hg (N := 9) ?hd (cs := #[.int .i64 0, .int .i64 0, .int .i64 0]) (t := 56) ?hr ?_; (case hd => rfl); (case hg => rfl); (case hr => first | (go_simp; done) | (go_simp; rfl)); intro gb103 hg w18 hbox hb; have n0_ := Aside0.mk (blk_below (g := gb101) (o := .cells #[.int .i64 a0_0, .int .i64 a0_1, .slice (some ad102) l0_2.length c0_2] 37 (0, 0)) (by (with_reducible repeat (first | refine blk_drewN ?_ _ | refine blk_drew ?_ | refine blk_alloc ?_ _)); exact BK101.out) hb); have n1_ := Aside0.mk (below_step (by repeat (first | (with_reducible first | exact HB.out | apply below_alloc | apply pw_below_drewN | apply below_drew1 | refine below_set ?_ GE101.out) | exact HB.out)) hb); have n2_ := Aside0.mk (hbox); have n3_ := Aside0.mk ((by rw [hg]; exact (below_size (by repeat (first | (with_reducible first | exact HB.out | apply below_alloc | apply pw_below_drewN | apply below_drew1 | refine below_set ?_ GE101.out) | exact HB.out))) : w.heap.size ≤ gb103)); have n4_ := Aside0.mk ((by rw [hg]; exact (below_size (by repeat (first | (with_reducible first | exact HB.out | apply below_alloc | apply pw_below_drewN | apply below_drew1 | refine below_set ?_ GE101.out) | exact HB.out))) : w.heap.size ≤ gb103)); have n5_ := Aside0.mk ((by rw [hg]; exact Nat.ne_of_lt (blk_lt (g := gb101) (o := .cells #[.int .i64 a0_0, .int .i64 a0_1, .slice (some ad102) l0_2.length c0_2] 37 (0, 0)) (by (with_reducible repeat (first | refine blk_drewN ?_ _ | refine blk_drew ?_ | refine blk_alloc ?_ _)); exact BK101.out)) : gb101 ≠ gb103)); have n6_ := Aside0.mk ((by rw [hg]; exact Nat.ne_of_gt (blk_lt (g := gb101) (o := .cells #[.int .i64 a0_0, .int .i64 a0_1, .slice (some ad102) l0_2.length c0_2] 37 (0, 0)) (by (with_reducible repeat (first | refine blk_drewN ?_ _ | refine blk_drew ?_ | refine blk_alloc ?_ _)); exact BK101.out)) : gb103 ≠ gb101)); clear BK101; clear HB; have BK101 := n0_; have HB := n1_; have BK103 := n2_; have GW103 := n3_; have GE103 := n4_; have NB101_103 := n5_; have NB103_101 := n6_; clear n0_ n1_ n2_ n3_ n4_ n5_ n6_; clear hb hbox hg; have hnb19 := NB103_101.out; have hnc19 := NB101_103.out; have hcz20_0 : w18.cell? ⟨gb103, 0, none⟩ = some (.int .i64 0) := (blk_cell BK103.out 0).trans rfl; have hcz20_1 : w18.cell? ⟨gb103, 1, none⟩ = some (.int .i64 0) := (blk_cell BK103.out 1).trans rfl; have hcz20_2 : w18.cell? ⟨gb103, 2, none⟩ = some (.int .i64 0) := (blk_cell BK103.out 2).trans rfl; have hfz20_0 := blk_frozen BK103.out 0; have hfz20_1 := blk_frozen BK103.out 1; have hfz20_2 := blk_frozen BK103.out 2))
                  go_roundg k1
                  case measure => have := HK1.out; omega
                  case rel => exact ⟨(x7_1), (wrap64 (x13_1 + 1)), (by first | rfl | (simp; done) | (simp [*]; done)), (by first | rfl | (simp; done) | (simp [*]; done)), H', ⟨by have := HK1.out; omega⟩, ⟨by (with_reducible repeat (first | refine blk_drewN ?_ _ | refine blk_drew ?_ | refine blk_alloc ?_ _)); refine blk_far ?_ NB101_103.out _; (with_reducible repeat (first | refine blk_drewN ?_ _ | refine blk_drew ?_ | refine blk_alloc ?_ _)); refine blk_far ?_ NB101_103.out _; (with_reducible repeat (first | refine blk_drewN ?_ _ | refine blk_drew ?_ | refine blk_alloc ?_ _)); refine blk_far ?_ NB101_103.out _; (with_reducible repeat (first | refine blk_drewN ?_ _ | refine blk_drew ?_ | refine blk_alloc ?_ _)); exact BK101.out⟩, ⟨by repeat (first | (with_reducible first | exact HB.out | apply below_alloc | apply pw_below_drewN | apply below_drew1 | refine below_set ?_ GE101.out | refine below_set ?_ GE103.out) | exact HB.out)⟩⟩
            · rw [if_neg c9] at H
              have c9b0 : (a1 == ((rd_T56 l0_2 x13_1).f0)) = false := beq_eq_false_iff_ne.mpr c9
              have c9b1 : (a1 != ((rd_T56 l0_2 x13_1).f0)) = true := bne_iff_ne.mpr c9
              by_cases c21 : a1 = (wrap64 (((rd_T56 l0_2 x13_1).f0) + ((rd_T56 l0_2 x13_1).f2)))
              · rw [if_pos c21] at H
                have c21b0 : (a1 == (wrap64 (((rd_T56 l0_2 x13_1).f0) + ((rd_T56 l0_2 x13_1).f2)))) = true := beq_iff_eq.mpr c21
                have c21b1 : (a1 != (wrap64 (((rd_T56 l0_2 x13_1).f0) + ((rd_T56 l0_2 x13_1).f2)))) = false := bne_eq_false_iff_eq.mpr c21
                clear c21
                by_cases c22 : a2 = ((rd_T56 l0_2 x13_1).f1)
                · rw [if_pos c22] at H
                  have c22b0 : (a2 == ((rd_T56 l0_2 x13_1).f1)) = true := beq_iff_eq.mpr c22
                  have c22b1 : (a2 != ((rd_T56 l0_2 x13_1).f1)) = false := bne_eq_false_iff_eq.mpr c22
                  clear c22
                  have H' := Aside0.mk H
                  clear H
                  have p102 : 0 ≤ (x13_1 : Int) := of_decide_eq_true (by first | (with_reducible assumption) | assumption)
                  have q102 : x13_1 < (l0_2.length : Int) := of_decide_eq_true (by first | (with_reducible assumption) | assumption)
                  obtain ⟨ad102, e102, hx102_0, hx102_1, hx102_2⟩ := at_T56 HR0_2.out x13_1 p102 q102
                  cases e102
                  replace hx102_0 := (HB.out.cell (World.block_lt_of_cell? w _ hx102_0)).trans hx102_0
                  replace hx102_1 := (HB.out.cell (World.block_lt_of_cell? w _ hx102_1)).trans hx102_1
                  replace hx102_2 := (HB.out.cell (World.block_lt_of_cell? w _ hx102_2)).trans hx102_2
                  replace p102 := eq_true p102
                  replace q102 := eq_true q102
                  go_wp2_with (first | ((with_reducible refine gate_dst (N := 9) rfl ?_); refine box_event ?hg (N := 9) ?hd (cs := #[.int .i64 0, .int .i64 0, .int .i64 0]) (t := 56) ?hr ?_; (case hd => rfl); (case hg => rfl); (case hr => first | (go_simp; done) | (go_simp; rfl)); intro gb103 hg w23 hbox hb; have n0_ := Aside0.mk (blk_below (g := gb101) (o := .cells #[.int .i64 a0_0, .int .i64 a0_1, .slice (some ad102) l0_2.length c0_2] 37 (0, 0)) (by (with_reducible repeat (first | refine blk_drewN ?_ _ | refine blk_drew ?_ | refine blk_alloc ?_ _)); exact BK101.out) hb); have n1_ := Aside0.mk (below_step (by repeat (first | (with_reducible first | exact HB.out | apply below_alloc | apply pw_below_drewN | apply below_drew1 | refine below_set ?_ GE101.out) | exact HB.out)) hb); have n2_ := Aside0.mk (hbox); have n3_ := Aside0.mk ((by rw [hg]; exact (below_size (by repeat (first | (with_reducible first | exact HB.out | apply below_alloc | apply pw_below_drewN | apply below_drew1 | refine below_set ?_ GE101.out) | exact HB.out))) : w.heap.size ≤ gb103)); have n4_ := Aside0.mk ((by rw [hg]; exact (below_size (by repeat (first | (with_reducible first | exact HB.out | apply below_alloc | apply pw_below_drewN | apply below_drew1 | refine below_set ?_ GE101.out) | exact HB.out))) : w.heap.size ≤ gb103)); have n5_ := Aside0.mk ((by rw [hg]; exact Nat.ne_of_lt (blk_lt (g := gb101) (o := .cells #[.int .i64 a0_0, .int .i64 a0_1, .slice (some ad102) l0_2.length c0_2] 37 (0, 0)) (by (with_reducible repeat (first | refine blk_drewN ?_ _ | refine blk_drew ?_ | refine blk_alloc ?_ _)); exact BK101.out)) : gb101 ≠ gb103)); have n6_ := Aside0.mk ((by rw [hg]; exact Nat.ne_of_gt (blk_lt (g := gb101) (o := .cells #[.int .i64 a0_0, .int .i64 a0_1, .slice (some ad102) l0_2.length c0_2] 37 (0, 0)) (by (with_reducible repeat (first | refine blk_drewN ?_ _ | refine blk_drew ?_ | refine blk_alloc ?_ _)); exact BK101.out)) : gb103 ≠ gb101)); clear BK101; clear HB; have BK101 := n0_; have HB := n1_; have BK103 := n2_; have GW103 := n3_; have GE103 := n4_; have NB101_103 := n5_; have NB103_101 := n6_; clear n0_ n1_ n2_ n3_ n4_ n5_ n6_; clear hb hbox hg; have hnb24 := NB103_101.out; have hnc24 := NB101_103.out; have hcz25_0 : w23.cell? ⟨gb103, 0, none⟩ = some (.int .i64 0) := (blk_cell BK103.out 0).trans rfl; have hcz25_1 : w23.cell? ⟨gb103, 1, none⟩ = some (.int .i64 0) := (blk_cell BK103.out 1).trans rfl; have hcz25_2 : w23.cell? ⟨gb103, 2, none⟩ = some (.int .i64 0) := (blk_cell BK103.out 2).trans rfl; have hfz25_0 := blk_frozen BK103.out 0; have hfz25_1 := blk_frozen BK103.out 1; have hfz25_2 := blk_frozen BK103.out 2))
                  go_roundg k1
                  case measure => have := HK1.out; omega
                  case rel => exact ⟨(wrap64 (x7_1 + 1)), (wrap64 (x13_1 + 1)), (by first | rfl | (simp; done) | (simp [*]; done)), (by first | rfl | (simp; done) | (simp [*]; done)), H', ⟨by have := HK1.out; omega⟩, ⟨by (with_reducible repeat (first | refine blk_drewN ?_ _ | refine blk_drew ?_ | refine blk_alloc ?_ _)); refine blk_far ?_ NB101_103.out _; (with_reducible repeat (first | refine blk_drewN ?_ _ | refine blk_drew ?_ | refine blk_alloc ?_ _)); refine blk_far ?_ NB101_103.out _; (with_reducible repeat (first | refine blk_drewN ?_ _ | refine blk_drew ?_ | refine blk_alloc ?_ _)); refine blk_far ?_ NB101_103.out _; (with_reducible repeat (first | refine blk_drewN ?_ _ | refine blk_drew ?_ | refine blk_alloc ?_ _)); exact BK101.out⟩, ⟨by repeat (first | (with_reducible first | exact HB.out | apply below_alloc | apply pw_below_drewN | apply below_drew1 | refine below_set ?_ GE101.out | refine below_set ?_ GE103.out) | exact HB.out)⟩⟩
                · rw [if_neg c22] at H
                  have c22b0 : (a2 == ((rd_T56 l0_2 x13_1).f1)) = false := beq_eq_false_iff_ne.mpr c22
                  have c22b1 : (a2 != ((rd_T56 l0_2 x13_1).f1)) = true := bne_iff_ne.mpr c22
                  by_cases c26 : a2 = (wrap64 (((rd_T56 l0_2 x13_1).f1) + ((rd_T56 l0_2 x13_1).f2)))
                  · rw [if_pos c26] at H
                    have c26b0 : (a2 == (wrap64 (((rd_T56 l0_2 x13_1).f1) + ((rd_T56 l0_2 x13_1).f2)))) = true := beq_iff_eq.mpr c26
                    have c26b1 : (a2 != (wrap64 (((rd_T56 l0_2 x13_1).f1) + ((rd_T56 l0_2 x13_1).f2)))) = false := bne_eq_false_iff_eq.mpr c26
                    clear c26
                    have H' := Aside0.mk H
                    clear H
                    have p102 : 0 ≤ (x13_1 : Int) := of_decide_eq_true (by first | (with_reducible assumption) | assumption)
                    have q102 : x13_1 < (l0_2.length : Int) := of_decide_eq_true (by first | (with_reducible assumption) | assumption)
                    obtain ⟨ad102, e102, hx102_0, hx102_1, hx102_2⟩ := at_T56 HR0_2.out x13_1 p102 q102
                    cases e102
                    replace hx102_0 := (HB.out.cell (World.block_lt_of_cell? w _ hx102_0)).trans hx102_0
                    replace hx102_1 := (HB.out.cell (World.block_lt_of_cell? w _ hx102_1)).trans hx102_1
                    replace hx102_2 := (HB.out.cell (World.block_lt_of_cell? w _ hx102_2)).trans hx102_2
                    replace p102 := eq_true p102
                    replace q102 := eq_true q102
                    go_wp2_with (first | ((with_reducible refine gate_dst (N := 9) rfl ?_); refine box_event ?hg (N := 9) ?hd (cs := #[.int .i64 0, .int .i64 0, .int .i64 0]) (t := 56) ?hr ?_; (case hd => rfl); (case hg => rfl); (case hr => first | (go_simp; done) | (go_simp; rfl)); intro gb103 hg w27 hbox hb; have n0_ := Aside0.mk (blk_below (g := gb101) (o := .cells #[.int .i64 a0_0, .int .i64 a0_1, .slice (some ad102) l0_2.length c0_2] 37 (0, 0)) (by (with_reducible repeat (first | refine blk_drewN ?_ _ | refine blk_drew ?_ | refine blk_alloc ?_ _)); exact BK101.out) hb); have n1_ := Aside0.mk (below_step (by repeat (first | (with_reducible first | exact HB.out | apply below_alloc | apply pw_below_drewN | apply below_drew1 | refine below_set ?_ GE101.out) | exact HB.out)) hb); have n2_ := Aside0.mk (hbox); have n3_ := Aside0.mk ((by rw [hg]; exact (below_size (by repeat (first | (with_reducible first | exact HB.out | apply below_alloc | apply pw_below_drewN | apply below_drew1 | refine below_set ?_ GE101.out) | exact HB.out))) : w.heap.size ≤ gb103)); have n4_ := Aside0.mk ((by rw [hg]; exact (below_size (by repeat (first | (with_reducible first | exact HB.out | apply below_alloc | apply pw_below_drewN | apply below_drew1 | refine below_set ?_ GE101.out) | exact HB.out))) : w.heap.size ≤ gb103)); have n5_ := Aside0.mk ((by rw [hg]; exact Nat.ne_of_lt (blk_lt (g := gb101) (o := .cells #[.int .i64 a0_0, .int .i64 a0_1, .slice (some ad102) l0_2.length c0_2] 37 (0, 0)) (by (with_reducible repeat (first | refine blk_drewN ?_ _ | refine blk_drew ?_ | refine blk_alloc ?_ _)); exact BK101.out)) : gb101 ≠ gb103)); have n6_ := Aside0.mk ((by rw [hg]; exact Nat.ne_of_gt (blk_lt (g := gb101) (o := .cells #[.int .i64 a0_0, .int .i64 a0_1, .slice (some ad102) l0_2.length c0_2] 37 (0, 0)) (by (with_reducible repeat (first | refine blk_drewN ?_ _ | refine blk_drew ?_ | refine blk_alloc ?_ _)); exact BK101.out)) : gb103 ≠ gb101)); clear BK101; clear HB; have BK101 := n0_; have HB := n1_; have BK103 := n2_; have GW103 := n3_; have GE103 := n4_; have NB101_103 := n5_; have NB103_101 := n6_; clear n0_ n1_ n2_ n3_ n4_ n5_ n6_; clear hb hbox hg; have hnb28 := NB103_101.out; have hnc28 := NB101_103.out; have hcz29_0 : w27.cell? ⟨gb103, 0, none⟩ = some (.int .i64 0) := (blk_cell BK103.out 0).trans rfl; have hcz29_1 : w27.cell? ⟨gb103, 1, none⟩ = some (.int .i64 0) := (blk_cell BK103.out 1).trans rfl; have hcz29_2 : w27.cell? ⟨gb103, 2, none⟩ = some (.int .i64 0) := (blk_cell BK103.out 2).trans rfl; have hfz29_0 := blk_frozen BK103.out 0; have hfz29_1 := blk_frozen BK103.out 1; have hfz29_2 := blk_frozen BK103.out 2))
                    go_roundg k1
                    case measure => have := HK1.out; omega
                    case rel => exact ⟨(wrap64 (x7_1 + 1)), (wrap64 (x13_1 + 1)), (by first | rfl | (simp; done) | (simp [*]; done)), (by first | rfl | (simp; done) | (simp [*]; done)), H', ⟨by have := HK1.out; omega⟩, ⟨by (with_reducible repeat (first | refine blk_drewN ?_ _ | refine blk_drew ?_ | refine blk_alloc ?_ _)); refine blk_far ?_ NB101_103.out _; (with_reducible repeat (first | refine blk_drewN ?_ _ | refine blk_drew ?_ | refine blk_alloc ?_ _)); refine blk_far ?_ NB101_103.out _; (with_reducible repeat (first | refine blk_drewN ?_ _ | refine blk_drew ?_ | refine blk_alloc ?_ _)); refine blk_far ?_ NB101_103.out _; (with_reducible repeat (first | refine blk_drewN ?_ _ | refine blk_drew ?_ | refine blk_alloc ?_ _)); exact BK101.out⟩, ⟨by repeat (first | (with_reducible first | exact HB.out | apply below_alloc | apply pw_below_drewN | apply below_drew1 | refine below_set ?_ GE101.out | refine below_set ?_ GE103.out) | exact HB.out)⟩⟩
                  · rw [if_neg c26] at H
                    have c26b0 : (a2 == (wrap64 (((rd_T56 l0_2 x13_1).f1) + ((rd_T56 l0_2 x13_1).f2)))) = false := beq_eq_false_iff_ne.mpr c26
                    have c26b1 : (a2 != (wrap64 (((rd_T56 l0_2 x13_1).f1) + ((rd_T56 l0_2 x13_1).f2)))) = true := bne_iff_ne.mpr c26
                    have H' := Aside0.mk H
                    clear H
                    have p102 : 0 ≤ (x13_1 : Int) := of_decide_eq_true (by first | (with_reducible assumption) | assumption)
                    have q102 : x13_1 < (l0_2.length : Int) := of_decide_eq_true (by first | (with_reducible assumption) | assumption)
                    obtain ⟨ad102, e102, hx102_0, hx102_1, hx102_2⟩ := at_T56 HR0_2.out x13_1 p102 q102
                    cases e102
                    replace hx102_0 := (HB.out.cell (World.block_lt_of_cell? w _ hx102_0)).trans hx102_0
                    replace hx102_1 := (HB.out.cell (World.block_lt_of_cell? w _ hx102_1)).trans hx102_1
                    replace hx102_2 := (HB.out.cell (World.block_lt_of_cell? w _ hx102_2)).trans hx102_2
                    replace p102 := eq_true p102
                    replace q102 := eq_true q102
                    go_wp2_with (first | ((with_reducible refine gate_dst (N := 9) rfl ?_); refine box_event ?hg (N := 9) ?hd (cs := #[.int .i64 0, .int .i64 0, .int .i64 0]) (t := 56) ?hr ?_; (case hd => rfl); (case hg => rfl); (case hr => first | (go_simp; done) | (go_simp; rfl)); intro gb103 hg w30 hbox hb; have n0_ := Aside0.mk (blk_below (g := gb101) (o := .cells #[.int .i64 a0_0, .int .i64 a0_1, .slice (some ad102) l0_2.length c0_2] 37 (0, 0)) (by (with_reducible repeat (first | refine blk_drewN ?_ _ | refine blk_drew ?_ | refine blk_alloc ?_ _)); exact BK101.out) hb); have n1_ := Aside0.mk (below_step (by repeat (first | (with_reducible first | exact HB.out | apply below_alloc | apply pw_below_drewN | apply below_drew1 | refine below_set ?_ GE101.out) | exact HB.out)) hb); have n2_ := Aside0.mk (hbox); have n3_ := Aside0.mk ((by rw [hg]; exact (below_size (by repeat (first | (with_reducible first | exact HB.out | apply below_alloc | apply pw_below_drewN | apply below_drew1 | refine below_set ?_ GE101.out) | exact HB.out))) : w.heap.size ≤ gb103)); have n4_ := Aside0.mk ((by rw [hg]; exact (below_size (by repeat (first | (with_reducible first | exact HB.out | apply below_alloc | apply pw_below_drewN | apply below_drew1 | refine below_set ?_ GE101.out) | exact HB.out))) : w.heap.size ≤ gb103)); have n5_ := Aside0.mk ((by rw [hg]; exact Nat.ne_of_lt (blk_lt (g := gb101) (o := .cells #[.int .i64 a0_0, .int .i64 a0_1, .slice (some ad102) l0_2.length c0_2] 37 (0, 0)) (by (with_reducible repeat (first | refine blk_drewN ?_ _ | refine blk_drew ?_ | refine blk_alloc ?_ _)); exact BK101.out)) : gb101 ≠ gb103)); have n6_ := Aside0.mk ((by rw [hg]; exact Nat.ne_of_gt (blk_lt (g := gb101) (o := .cells #[.int .i64 a0_0, .int .i64 a0_1, .slice (some ad102) l0_2.length c0_2] 37 (0, 0)) (by (with_reducible repeat (first | refine blk_drewN ?_ _ | refine blk_drew ?_ | refine blk_alloc ?_ _)); exact BK101.out)) : gb103 ≠ gb101)); clear BK101; clear HB; have BK101 := n0_; have HB := n1_; have BK103 := n2_; have GW103 := n3_; have GE103 := n4_; have NB101_103 := n5_; have NB103_101 := n6_; clear n0_ n1_ n2_ n3_ n4_ n5_ n6_; clear hb hbox hg; have hnb31 := NB103_101.out; have hnc31 := NB101_103.out; have hcz32_0 : w30.cell? ⟨gb103, 0, none⟩ = some (.int .i64 0) := (blk_cell BK103.out 0).trans rfl; have hcz32_1 : w30.cell? ⟨gb103, 1, none⟩ = some (.int .i64 0) := (blk_cell BK103.out 1).trans rfl; have hcz32_2 : w30.cell? ⟨gb103, 2, none⟩ = some (.int .i64 0) := (blk_cell BK103.out 2).trans rfl; have hfz32_0 := blk_frozen BK103.out 0; have hfz32_1 := blk_frozen BK103.out 1; have hfz32_2 := blk_frozen BK103.out 2))
                    go_roundg k1
                    case measure => have := HK1.out; omega
                    case rel => exact ⟨(x7_1), (wrap64 (x13_1 + 1)), (by first | rfl | (simp; done) | (simp [*]; done)), (by first | rfl | (simp; done) | (simp [*]; done)), H', ⟨by have := HK1.out; omega⟩, ⟨by (with_reducible repeat (first | refine blk_drewN ?_ _ | refine blk_drew ?_ | refine blk_alloc ?_ _)); refine blk_far ?_ NB101_103.out _; (with_reducible repeat (first | refine blk_drewN ?_ _ | refine blk_drew ?_ | refine blk_alloc ?_ _)); refine blk_far ?_ NB101_103.out _; (with_reducible repeat (first | refine blk_drewN ?_ _ | refine blk_drew ?_ | refine blk_alloc ?_ _)); refine blk_far ?_ NB101_103.out _; (with_reducible repeat (first | refine blk_drewN ?_ _ | refine blk_drew ?_ | refine blk_alloc ?_ _)); exact BK101.out⟩, ⟨by repeat (first | (with_reducible first | exact HB.out | apply below_alloc | apply pw_below_drewN | apply below_drew1 | refine below_set ?_ GE101.out | refine below_set ?_ GE103.out) | exact HB.out)⟩⟩
              · rw [if_neg c21] at H
                have c21b0 : (a1 == (wrap64 (((rd_T56 l0_2 x13_1).f0) + ((rd_T56 l0_2 x13_1).f2)))) = false := beq_eq_false_iff_ne.mpr c21
                have c21b1 : (a1 != (wrap64 (((rd_T56 l0_2 x13_1).f0) + ((rd_T56 l0_2 x13_1).f2)))) = true := bne_iff_ne.mpr c21
                have H' := Aside0.mk H
                clear H
                have p102 : 0 ≤ (x13_1 : Int) := of_decide_eq_true (by first | (with_reducible assumption) | assumption)
                have q102 : x13_1 < (l0_2.length : Int) := of_decide_eq_true (by first | (with_reducible assumption) | assumption)
                obtain ⟨ad102, e102, hx102_0, hx102_1, hx102_2⟩ := at_T56 HR0_2.out x13_1 p102 q102
                cases e102
                replace hx102_0 := (HB.out.cell (World.block_lt_of_cell? w _ hx102_0)).trans hx102_0
                replace hx102_1 := (HB.out.cell (World.block_lt_of_cell? w _ hx102_1)).trans hx102_1
                replace hx102_2 := (HB.out.cell (World.block_lt_of_cell? w _ hx102_2)).trans hx102_2
                replace p102 := eq_true p102
                replace q102 := eq_true q102
                go_wp2_with (first | ((with_reducible refine gate_dst (N := 9) rfl ?_); refine box_event ?hg (N := 9) ?hd (cs := #[.int .i64 0, .int .i64 0, .int .i64 0]) (t := 56) ?hr ?_; (case hd => rfl); (case hg => rfl); (case hr => first | (go_simp; done) | (go_simp; rfl)); intro gb103 hg w33 hbox hb; have n0_ := Aside0.mk (blk_below (g := gb101) (o := .cells #[.int .i64 a0_0, .int .i64 a0_1, .slice (some ad102) l0_2.length c0_2] 37 (0, 0)) (by (with_reducible repeat (first | refine blk_drewN ?_ _ | refine blk_drew ?_ | refine blk_alloc ?_ _)); exact BK101.out) hb); have n1_ := Aside0.mk (below_step (by repeat (first | (with_reducible first | exact HB.out | apply below_alloc | apply pw_below_drewN | apply below_drew1 | refine below_set ?_ GE101.out) | exact HB.out)) hb); have n2_ := Aside0.mk (hbox); have n3_ := Aside0.mk ((by rw [hg]; exact (below_size (by repeat (first | (with_reducible first | exact HB.out | apply below_alloc | apply pw_below_drewN | apply below_drew1 | refine below_set ?_ GE101.out) | exact HB.out))) : w.heap.size ≤ gb103)); have n4_ := Aside0.mk ((by rw [hg]; exact (below_size (by repeat (first | (with_reducible first | exact HB.out | apply below_alloc | apply pw_below_drewN | apply below_drew1 | refine below_set ?_ GE101.out) | exact HB.out))) : w.heap.size ≤ gb103)); have n5_ := Aside0.mk ((by rw [hg]; exact Nat.ne_of_lt (blk_lt (g := gb101) (o := .cells #[.int .i64 a0_0, .int .i64 a0_1, .slice (some ad102) l0_2.length c0_2] 37 (0, 0)) (by (with_reducible repeat (first | refine blk_drewN ?_ _ | refine blk_drew ?_ | refine blk_alloc ?_ _)); exact BK101.out)) : gb101 ≠ gb103)); have n6_ := Aside0.mk ((by rw [hg]; exact Nat.ne_of_gt (blk_lt (g := gb101) (o := .cells #[.int .i64 a0_0, .int .i64 a0_1, .slice (some ad102) l0_2.length c0_2] 37 (0, 0)) (by (with_reducible repeat (first | refine blk_drewN ?_ _ | refine blk_drew ?_ | refine blk_alloc ?_ _)); exact BK101.out)) : gb103 ≠ gb101)); clear BK101; clear HB; have BK101 := n0_; have HB := n1_; have BK103 := n2_; have GW103 := n3_; have GE103 := n4_; have NB101_103 := n5_; have NB103_101 := n6_; clear n0_ n1_ n2_ n3_ n4_ n5_ n6_; clear hb hbox hg; have hnb34 := NB103_101.out; have hnc34 := NB101_103.out; have hcz35_0 : w33.cell? ⟨gb103, 0, none⟩ = some (.int .i64 0) := (blk_cell BK103.out 0).trans rfl; have hcz35_1 : w33.cell? ⟨gb103, 1, none⟩ = some (.int .i64 0) := (blk_cell BK103.out 1).trans rfl; have hcz35_2 : w33.cell? ⟨gb103, 2, none⟩ = some (.int .i64 0) := (blk_cell BK103.out 2).trans rfl; have hfz35_0 := blk_frozen BK103.out 0; have hfz35_1 := blk_frozen BK103.out 1; have hfz35_2 := blk_frozen BK103.out 2))
                go_roundg k1
                case measure => have := HK1.out; omega
                case rel => exact ⟨(x7_1), (wrap64 (x13_1 + 1)), (by first | rfl | (simp; done) | (simp [*]; done)), (by first | rfl | (simp; done) | (simp [*]; done)), H', ⟨by have := HK1.out; omega⟩, ⟨by (with_reducible repeat (first | refine blk_drewN ?_ _ | refine blk_drew ?_ | refine blk_alloc ?_ _)); refine blk_far ?_ NB101_103.out _; (with_reducible repeat (first | refine blk_drewN ?_ _ | refine blk_drew ?_ | refine blk_alloc ?_ _)); refine blk_far ?_ NB101_103.out _; (with_reducible repeat (first | refine blk_drewN ?_ _ | refine blk_drew ?_ | refine blk_alloc ?_ _)); refine blk_far ?_ NB101_103.out _; (with_reducible repeat (first | refine blk_drewN ?_ _ | refine blk_drew ?_ | refine blk_alloc ?_ _)); exact BK101.out⟩, ⟨by repeat (first | (with_reducible first | exact HB.out | apply below_alloc | apply pw_below_drewN | apply below_drew1 | refine below_set ?_ GE101.out | refine below_set ?_ GE103.out) | exact HB.out)⟩⟩
          · rw [if_neg c8] at H
            exact absurd H (by simp)
        · rw [if_neg c7] at H
          exact absurd H (by simp)
      · rw [if_neg c6] at H
        have c6b0 : decide (x13_1 < (l0_2.length : Int)) = false := decide_eq_false c6
        clear c6
        obtain rfl := Option.some.inj H
        go_wp2
        go_ret
        exact ⟨by first | rfl | (simp [errW_none, errW_some] <;> rfl) | (simp [*, errW_none, errW_some] <;> rfl), by repeat (first | (with_reducible first | exact HB.out | apply below_alloc | apply pw_below_drewN | apply below_drew1 | refine below_set ?_ GE101.out) | exact HB.out)⟩
end Go.Proofs.Ytdfcljfajiihdaa.P

namespace Go.Proofs.Ytdfcljfajiihdaa.P
open Go.RowKit Go.Proofs.YtdfcljfajiihdaaW.PrintWords Go.Proofs.YtdfcljfajiihdaaW.PrintLast Go.Proofs.YtdfcljfajiihdaaW.PrintMore
attribute [local go_sem] max2_int min2_int max_two min_two max_three min_three max_four min_four
set_option linter.unusedVariables false
set_option linter.unusedSimpArgs false
def impl_bit.f (a0 : Bool) : Option (Int) := if a0 = true then (some 1) else (some 0)
set_option maxHeartbeats 8000000 in
set_option maxRecDepth 100000 in
theorem impl_bit.calls (a0 : Bool) (r : Int) (w : World) (h : impl_bit.f a0 = some r) :
    Calls Try.prog 73 #[.bool a0] w fun e w' => e = .returned (.int .i64 r) ∧ Drawn0 w w' := by
  have H : (if a0 = true then (some 1) else (some 0)) = some r := h
  clear h
  by_cases c2 : a0 = true
  · subst c2
    have H1 : (some 1) = some r := by rw [if_pos rfl] at H; exact H
    clear H
    have H := H1
    clear H1
    obtain rfl := Option.some.inj H
    go_enter Try.func73, Try.ntmps73
    go_wp2
    go_ret
    exact ⟨by first | rfl | (simp; done) | (simp [*]; done), by repeat (first | exact Drawn0.refl _ | apply Drawn0.step)⟩
  · replace c2 := Bool.eq_false_iff.mpr c2
    subst c2
    have H1 : (some 0) = some r := by rw [if_neg (show ¬ (false = true) by decide)] at H; exact H
    clear H
    have H := H1
    clear H1
    obtain rfl := Option.some.inj H
    go_enter Try.func73, Try.ntmps73
    go_wp2
    go_ret
    exact ⟨by first | rfl | (simp; done) | (simp [*]; done), by repeat (first | exact Drawn0.refl _ | apply Drawn0.step)⟩
end Go.Proofs.Ytdfcljfajiihdaa.P
