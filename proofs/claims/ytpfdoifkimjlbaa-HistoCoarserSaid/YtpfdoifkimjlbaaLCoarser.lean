/- THE STATEMENT HistoCoarser: counting and then dropping one bound is counting without that bound; at most 200 bounds and steps. No condition. -/
import Derived.Test.YtpfdoifkimjlbaaRows
import Derived.WalkKit
import Derived.ProofKit
import Derived.OpenShut
import Derived.Below
import Derived.Carry
import Derived.ChangeOld
import Derived.Lib.SmallJoins
import Derived.Test.YtpfdoifkimjlbaaO
import Derived.Test.YtpfdoifkimjlbaaU
import Derived.Test.YtpfdoifkimjlbaaS4
import Derived.Test.YtpfdoifkimjlbaaHC
set_option linter.unusedSimpArgs false
set_option linter.unusedVariables false
namespace Go.Proofs.Ytpfdoifkimjlbaa.histoCoarser
open Go.ChangeShapes Go.WideShapes Go.ChangeAt Go.RowKit Go.Joins
open H M
theorem own : ownKnob Try.prog.godebug = none := by kernel_rfl
theorem laidOut : laidOutB Try.prog = true := by kernel_rfl

set_option maxHeartbeats 4000000 in
set_option maxRecDepth 100000 in
theorem walk (a0 : Option Addr) (n0 c0 b0 : Nat) (l0 : List Int) (a1 : Option Addr) (n1 c1 b1 : Nat) (f1 : Nat → Nat → Int) (a2 : Int) (w : World) (w0 : Ints w b0 a0 n0 c0 l0) (q0 : n0 ≤ c0 ∧ c0 ≤ maxLen) (w1 : Recs w b1 a1 n1 2 (fun _ => .i64) f1) (q1 : n1 ≤ c1 ∧ c1 ≤ maxLen) (w2 : (Lit.int .u8 a2).wf = true) :
    Calls Try.prog 11 #[.slice a0 n0 c0, .slice a1 n1 c1, .int .u8 a2] w fun e w' => e = .returned (.bool true) ∧ Below w.heap.size w w' := by

  by_cases g0 : 200 < n0
  · have g0' : (200 : Int) < n0 := by omega
    have hm := q0
    unfold maxLen at hm
    clear w0 w1 w2
    go_enter Try.func11, Try.ntmps11
    have B1 : Hid (Below w.heap.size w w) := Below.refl _ _
    go_wp2_with fail
    refine (works_any _).mono ?_
    rintro e w9 ⟨rfl, hb9⟩
    have B9 := hb_trans' B1 hb9 (Below.size B1)
    clear hb9
    go_wp2
    go_ret
    exact ⟨rfl, B9.out⟩
  have g0' : ¬ (200 : Int) < n0 := by omega
  by_cases g1 : 200 < n1
  · have g1' : (200 : Int) < n1 := by omega
    have hm := q1
    unfold maxLen at hm
    clear w0 w1 w2
    go_enter Try.func11, Try.ntmps11
    have B1 : Hid (Below w.heap.size w w) := Below.refl _ _
    go_wp2_with fail
    refine (works_any _).mono ?_
    rintro e w9 ⟨rfl, hb9⟩
    have B9 := hb_trans' B1 hb9 (Below.size B1)
    clear hb9
    go_wp2
    go_ret
    exact ⟨rfl, B9.out⟩
  have g1' : ¬ (200 : Int) < n1 := by omega
  have hq : n0 ≤ maxLen := by omega
  have HN := Lib.hid (new_any w0 hq)
  have HL := Lib.hid w0.1
  have hq1 := q1
  unfold maxLen at hq1
  have r2 := wf_u8 w2
  by_cases g2 : n0 = 0
  · subst g2
    clear w0 w1 w2 HN HL
    go_enter Try.func11, Try.ntmps11
    have B1 : Hid (Below w.heap.size w w) := Below.refl _ _
    go_wp2_with fail
    refine (works_any _).mono ?_
    rintro e w9 ⟨rfl, hb9⟩
    have B9 := hb_trans' B1 hb9 (Below.size B1)
    clear hb9
    go_wp2
    go_ret
    exact ⟨rfl, B9.out⟩
  have g2b : ((n0 : Int) == 0) = false := by simpa using g2
  by_cases hf : fitsB l0 = true
  · have HN : Hid (Calls Try.prog 18 #[.slice a0 n0 c0] w (GivesH w (some (l0, List.replicate (l0.length + 1) 0)) 0)) := by
      have := HN.out; rwa [show new l0 = some (l0, List.replicate (l0.length + 1) 0) by rw [new, if_pos hf], show newE l0 = 0 by rw [newE, if_pos hf]] at this
    obtain ⟨kk, hkk⟩ : ∃ kk : Nat, a2 % (n0 : Int) = kk := Int.eq_ofNat_of_zero_le (Int.emod_nonneg _ (by omega))
    have hkl : kk < n0 := by have := Int.emod_lt_of_pos a2 (show (0:Int) < n0 by omega); omega
    have htm : a2.tmod n0 = kk := by rw [Int.tmod_eq_emod_of_nonneg r2.1]; exact hkk
    have hl0 := w0.1
    have HNe : Hid (∀ W b a n c, Ints W b a n c (l0.eraseIdx kk) → n ≤ maxLen → Calls Try.prog 18 #[.slice a n c] W (GivesH W (some (l0.eraseIdx kk, coC (List.replicate (l0.length + 1) 0) kk)) 0)) := by
      intro W b a n c h hn
      have := new_any h hn
      have hf2 := fits_erase hf w0.2.1 (k := kk) (by omega)
      rwa [show new (l0.eraseIdx kk) = some (l0.eraseIdx kk, coC (List.replicate (l0.length + 1) 0) kk) by
        rw [new, if_pos hf2, coC_zero _ _ (by omega), List.length_eraseIdx, if_pos (by omega), Nat.sub_add_cancel (by omega)], show newE (l0.eraseIdx kk) = 0 by rw [newE, if_pos hf2]] at this
    have W1 := Lib.hid w1
    have W0 := Lib.hid w0
    have HL0 := Lib.hid hl0
    have hmn : n0 ≤ 200 := by omega
    have hmm : n1 ≤ 200 := by omega
    clear hf w0 w1 w2 q0 q1 hq hkk hl0 hmm HL
    have i00 : (0 : Int) ≤ a2 := r2.1
    have i01 : a2 ≤ 255 := r2.2
    go_enter Try.func11, Try.ntmps11
    go_wp2_with fail
    refine HN.out.mono ?_
    rintro e v1 ⟨v, rfl, hP, hb⟩
    obtain ⟨p, rfl⟩ := hP.some_ptr
    have B1 := Lib.hid hb
    have P1 := Lib.hid hP
    clear hP hb HN
    go_wp2_with fail
    go_loopw [10, 11] (fun r i wr => ∃ (j m : Nat), i = .int .i64 j ∧ j ≤ n0 ∧ Hid (wr.ownsRow v1.heap.size 2 1 r m ((cut l0 kk j).map (Value.int .i64))) ∧ Hid (Below v1.heap.size v1 wr)) (fun _ i _ => n0 - (intOf i).toNat)
    case atStart => exact ⟨0, 0, rfl, Nat.zero_le _, World.ownsRow_nil _ _ _ _, Below.refl _ _⟩
    case round =>
      obtain ⟨j, m, rfl, hj, Q2, Q3⟩ := hrel
      by_cases hlt : j < n0
      · by_cases hjk : j = kk
        · subst hjk
          have hjb : ((j : Int) != (j : Int)) = false := by simp
          rw [← cut_skip l0 j (by rw [HL0.out]; exact hlt)] at Q2
          go_wp2
          go_roundw
          case rel => exact ⟨j + 1, m, by go_num, by omega, Q2, Q3⟩
          case measure => simp [intOf]; omega
        · have hjb : ((j : Int) != (kk : Int)) = true := by simp; omega
          obtain ⟨a', c', rfl⟩ := own_slice Q2.out
          obtain ⟨off, ha, hc⟩ := (W0.out.below (hb_trans' B1 Q3.out (Below.size B1)).out).2.2.2 (by omega)
          have hcj := hc j hlt
          have i0 : (0 : Int) ≤ j := by omega
          have i1 : (j : Int) < n0 := by omega
          have CM := Lib.hid (cut_more l0 kk j (by rw [HL0.out]; exact hlt) hjk)
          have CN := cut_len l0 kk j (by rw [HL0.out]; exact hj)
          have hnl : (cut l0 kk j).length = m := by have := Q2.out.1; simpa using this
          obtain ⟨x, hx⟩ : ∃ x, l0.getD j 0 = x := ⟨_, rfl⟩
          rw [hx] at hcj CM
          have OWN : Hid (∀ o, (wr.alloc o).ownsRow v1.heap.size 2 1 (.slice a' m c') m ((cut l0 kk j).map (Value.int .i64))) := fun o => World.ownsRow.alloc Q2.out o
          have NEWS : Hid (∀ j u, ([.int .i64 x] : List Value)[j]? = some u → (wr.alloc (.cells #[.int .i64 x] 2)).cell? ((⟨wr.heap.size, 0, none⟩ : Addr).add j) = some u) := one_news (Bk.new wr 2 [.int .i64 x])
          have ONE : Hid (∀ u ∈ ([.int .i64 x] : List Value), u.oneCell' = true) := by intro u hu; simp at hu; subst hu; rfl
          have NB : Hid (∀ b0, b0 < v1.heap.size → some b0 ≠ (Value.slice a' m c').ownBlock) := fun b0 hb0 e => by have := (Q2.out.lt b0 e.symm).1; omega
          have m1 : m + 1 ≤ 2000 := by omega
          have m2 : Hid (m + 1 ≤ maxLen) := by unfold maxLen; show _ ≤ _; omega
          have sz := Below.size Q3
          obtain ⟨i0', hi0, hz0, hz1, hz2⟩ := info_parts info2
          subst ha
          clear hc hx
          go_wp2_with (at_builtin; refine wpList_append_lies _ (by rfl) (.tmp 53) (.tmp 58) 22 (by rfl) v1.heap.size 2 i0' (.int .i64 0) 1 8 Try.underlying22 hi0 hz0 hz1 hz2 rfl (by decide) (.slice a' m c') m ((cut l0 kk j).map (Value.int .i64)) (by simp [Act.eval, Act.put]) (OWN.out _) ⟨wr.heap.size, 0, none⟩ 1 1 [.int .i64 x] (by simp [Act.eval, Act.put]) rfl NEWS.out ONE.out (by decide) m2.out (by omega) (by simp; omega) (wr.heap.size + 1) (by simp) ?_)
          intro g cap w1 hown hgrow hat hlt1
          have hb1 : Below v1.heap.size wr w1 := by
            refine ⟨hgrow.os, hgrow.tape, hgrow.output, Nat.le_trans (by simp) hgrow.size, fun b0 hb0 => ?_⟩
            exact (hgrow.block b0 (by first | omega | (simp; omega)) (NB.out b0 hb0)).trans (Below.heap_alloc _ _ _ (by omega))
          have R2 : Hid (w1.ownsRow v1.heap.size 2 1 (.slice (some ⟨g, 0, none⟩) (m + 1) cap) (m + 1) ((cut l0 kk (j + 1)).map (Value.int .i64))) := by
            rw [CM.out, List.map_append]; exact hown
          have R3 : Hid (Below v1.heap.size v1 w1) := Q3.out.trans hb1
          clear hown hgrow hat hlt1 hb1 Q2 Q3 hcj CM NB OWN NEWS ONE CN hnl
          go_wp2
          go_roundw
          case rel => exact ⟨j + 1, m + 1, by go_num, by omega, R2, R3⟩
          case measure => simp [intOf]; omega
      · obtain rfl : j = n0 := by omega
        rw [show cut l0 kk j = l0.eraseIdx kk by rw [← HL0.out, cut_all]] at Q2
        obtain ⟨b4, a4, c4, rfl, i4, g4⟩ := Ints.of_own Q2.out (fun z hz => W0.out.2.1 z (List.mem_of_mem_eraseIdx hz))
        have hm : m = j - 1 := by rw [← i4.1, List.length_eraseIdx, if_pos (by rw [HL0.out]; exact hkl), HL0.out]
        have m1 : m ≤ 200 := by omega
        obtain ⟨wL, hwL⟩ : ∃ wL, wL = wr := ⟨_, rfl⟩
        subst hwL
        have R4 : Hid (Row wL 2 b4 a4 m c4 (l0.eraseIdx kk)) := ⟨i4, fun h => (g4 h).2⟩
        have G4 : Hid (0 < m → v1.heap.size ≤ b4) := fun h => (g4 h).1
        have G5 : Hid (0 < m → b4 < wL.heap.size) := fun h => i4.lt h
        have HNx := Lib.hid (HNe.out _ _ _ _ _ i4 (by unfold maxLen; omega))
        have P2 := Lib.hid (P1.out.below Q3.out)
        have s1L := Below.size Q3
        have BL := hb_trans' B1 Q3.out (Below.size B1)
        clear i4 g4 Q2 Q3 HNe P1 hm hlt hj
        go_wp2_with fail
        refine HNx.out.mono ?_
        rintro e v2 ⟨u, rfl, hP, hb⟩
        obtain ⟨q, rfl⟩ := hP.some_ptr
        have s2L := hb.size
        have P3 := Lib.hid (P2.out.below hb)
        have R5 := Lib.hid (R4.out.below hb)
        have U3 := Lib.hid hP
        have B3 := hb_trans' BL hb (Below.size BL)
        have s01 := Below.size B1
        clear hP hb HNx P2 R4 BL B1
        go_wp2_with fail
        go_loopw [14] (fun i wr => ∃ (k : Nat) (C : List Int), i = .int .i64 k ∧ k ≤ n1 ∧ Hid (PHo wr w.heap.size v1.heap.size (.pointer (some ⟨p, 0, none⟩)) (some (l0, C))) ∧ Hid (PHo wr wL.heap.size v2.heap.size (.pointer (some ⟨q, 0, none⟩)) (some (l0.eraseIdx kk, coC C kk))) ∧ Hid (Row wr 2 b4 a4 m c4 (l0.eraseIdx kk)) ∧ Hid (Below w.heap.size w wr)) (fun i _ => n1 - (intOf i).toNat)
        case atStart => exact ⟨0, _, rfl, Nat.zero_le _, P3, U3, R5, B3⟩
        case round =>
          obtain ⟨k, C, rfl, hk, HP, HU, HW, HB⟩ := hrel
          clear P3 U3 R5 B3
          by_cases hlt : k < n1
          · have hR := W1.out.below (by decide) HB.out
            obtain ⟨off, ha, hc⟩ := hR.2 (by omega)
            have hx := hc k 0 hlt (by decide)
            have ht := hc k 1 hlt (by decide)
            have wx := wf_in64 (hR.1 k 0 hlt (by decide))
            have wt := wf_in64 (hR.1 k 1 hlt (by decide))
            rw [Nat.add_zero] at hx
            rw [← Nat.add_assoc] at ht
            have i0 : (0 : Int) ≤ k := by omega
            have i1 : (k : Int) < n1 := by omega
            have HXT : Hid (∀ W, Below w.heap.size w W → W.cell? ⟨b1, off + k * 2, none⟩ = some (.int .i64 (f1 k 0)) ∧ W.cell? ⟨b1, off + k * 2 + 1, none⟩ = some (.int .i64 (f1 k 1))) := by
              intro W hW
              obtain ⟨off2, ha2, hc2⟩ := (W1.out.below (by decide) hW).2 (by omega)
              have ho2 : off2 = off := by rw [ha] at ha2; injection ha2 with ha2; injection ha2 with _ ha2; exact ha2.symm
              subst ho2
              exact ⟨hc2 k 0 hlt (by decide), hc2 k 1 hlt (by decide)⟩
            obtain ⟨x, hx2⟩ : ∃ x, f1 k 0 = x := ⟨_, rfl⟩
            obtain ⟨t, ht2⟩ : ∃ t, f1 k 1 = t := ⟨_, rfl⟩
            rw [hx2] at hx wx HXT
            rw [ht2] at ht wt HXT
            subst ha
            obtain ⟨ce, C', cs1, cs2⟩ := co_step HP.out.1 (k := kk) (by rw [HL0.out]; exact hkl) x t
            have HA := hadd_any (w := wr.drew) (HP.out.below (Below.drew (Below.refl _ _))) x t wt
            have HA2 : Hid (∀ W, PHo W wL.heap.size v2.heap.size (.pointer (some ⟨q, 0, none⟩)) (some (l0.eraseIdx kk, coC C kk)) → Calls Try.prog 20 #[.pointer (some ⟨q, 0, none⟩), .int .i64 x, .int .i64 t] W (Step W wL.heap.size v2.heap.size (.pointer (some ⟨q, 0, none⟩)) (some (l0.eraseIdx kk, coC C' kk)) (addE (some (l0, C)) x t))) := by
              intro W hW
              have := hadd_any hW x t wt
              rwa [cs2, ce] at this
            rw [cs1] at HA
            obtain ⟨ne, hne⟩ : ∃ ne, addE (some (l0, C)) x t = ne := ⟨_, rfl⟩
            rw [hne] at HA HA2
            have HA := Lib.hid HA
            have HU' := Lib.hid (HU.out.below (Below.drew (Below.refl _ _)))
            have HW' := Lib.hid (HW.out.below (Below.drew (Below.refl _ _)))
            have hb1 : b1 < wr.heap.size := World.block_lt_of_cell? wr _ hx
            clear hc hx2 ht2 hR wt ce cs1 cs2 hne
            go_wp2_with fail
            go_region_held3 (fun w' => w'.cell? ⟨b1, off + k * 2, none⟩ = some (.int .i64 x) ∧ w'.cell? ⟨b1, off + k * 2 + 1, none⟩ = some (.int .i64 t)) (go_keep)
              (first
                | (go_at_call 20; refine HA.out.mono ?_; rintro e w3 ⟨rfl, hP3, hm3⟩; have HP3 := Lib.hid hP3; have HB3 := Mod.hb (Below.drew HB.out) hm3 (Nat.le_refl _) HB.out.size; have HU3 := Lib.hid (HU'.out.mod hm3 (.inr s1L)); have HW3 := Lib.hid (HW'.out.mod hm3 (fun h => .inr (G4.out h))); have hxt := HXT.out _ HB3.out; have hx := hxt.1; have ht := hxt.2; clear hP3 hm3 HA HP HB HU HU' HW HW' hxt)
                | (go_at_call 20; go_must (refine (HA2.out _ HU3.out).mono ?_; rintro e w4 ⟨rfl, hR4, hm4⟩; have HU4 := Lib.hid hR4; have HB4 := Mod.hb HB3 hm4 (by omega) HB3.out.size; have HP4 := Lib.hid (HP3.out.mod hm4 (.inl s1L)); have HW4 := Lib.hid (HW3.out.mod hm4 (fun h => .inl (G5.out h))); have hxt := HXT.out _ HB4.out; have hx := hxt.1; have ht := hxt.2; clear hR4 hm4 HP3 HB3 HU3 HW3 hxt)))
            all_goals go_wp2
            all_goals go_roundw
            case rel => exact ⟨k + 1, C', by go_num, by omega, HP4, HU4, HW4, HB4⟩
            case measure => simp [intOf]; omega
          · obtain rfl : k = n1 := by omega
            have F := HP.out.1
            have hkB : kk < l0.length := by rw [HL0.out]; exact hkl
            have CO := coarse_str HP.out (kk : Int) (by unfold In64; omega)
            rw [show coS (some (l0, C)) (kk : Int) = some (l0.eraseIdx kk, coC C kk) by rw [coS, if_neg (by omega)]; simp, show coE (some (l0, C)) (kk : Int) = 0 by rw [coE, if_neg (by omega)]] at CO
            have CO := Lib.hid CO
            have FC := fine_co F hkB
            have hsum : (coC C kk).sum = C.sum := coC_sum (by rw [F.len]; omega)
            have HS := Lib.hid hsum
            have hlC : (coC C kk).length = m + 1 := by rw [FC.len, ← HW.out.1.1]
            have hlB : (l0.eraseIdx kk).length = m := HW.out.1.1
            have HLC := Lib.hid hlC
            have HLB := Lib.hid hlB
            clear hlt hsum hlC hlB F FC hkB
            go_wp2_with fail
            refine CO.out.mono ?_
            rintro e w3 ⟨⟨rr, rfl, hP, hb⟩, -⟩
            have PR := Lib.hid hP
            have HP := Lib.hid (HP.out.below hb)
            have HU := Lib.hid (HU.out.below hb)
            have HW := Lib.hid (HW.out.below hb)
            have HB := hb_trans' HB hb (Below.size HB)
            clear hP hb CO
            go_wp2_with fail
            refine (counts_any PR.out).mono ?_
            rintro e w4 ⟨b5, a5, n5, c5, rfl, hi5, hb, -⟩
            have hn5 : n5 = m + 1 := by rw [← hi5.1]; exact HLC.out
            subst hn5
            have I5 := Lib.hid hi5
            have PR := Lib.hid (PR.out.below hb)
            have HP := Lib.hid (HP.out.below hb)
            have HU := Lib.hid (HU.out.below hb)
            have HW := Lib.hid (HW.out.below hb)
            have HB := hb_trans' HB hb (Below.size HB)
            clear hi5 hb
            go_wp2_with fail
            refine (counts_any HU.out).mono ?_
            rintro e w5 ⟨b6, a6, n6, c6, rfl, hi6, hb, -⟩
            have hn6 : n6 = m + 1 := by rw [← hi6.1]; exact HLC.out
            subst hn6
            have SA := Lib.hid (same_any (I5.out.below hb) hi6 (by omega) (by omega))
            have PR := Lib.hid (PR.out.below hb)
            have HP := Lib.hid (HP.out.below hb)
            have HW := Lib.hid (HW.out.below hb)
            have HB := hb_trans' HB hb (Below.size HB)
            clear hi6 hb I5
            go_wp2_with fail
            refine SA.out.mono ?_
            rintro e w6 ⟨rfl, d1, rfl⟩
            have hb : Below w5.heap.size w5 (w5.drewN d1) := (hb_drewN' (Lib.hid (Below.refl _ _)) d1).out
            have PR := Lib.hid (PR.out.below hb)
            have HP := Lib.hid (HP.out.below hb)
            have HU := Lib.hid (HU.out)
            have HW := Lib.hid (HW.out.below hb)
            have HB := hb_trans' HB hb (Below.size HB)
            clear hb SA
            simp only [counts, decide_true]
            go_wp2_with fail
            refine (bounds_any PR.out).mono ?_
            rintro e w7 ⟨b7, a7, n7, c7, rfl, hi7, hb, -⟩
            have hn7 : n7 = m := by rw [← hi7.1]; exact HLB.out
            subst hn7
            have PR := Lib.hid (PR.out.below hb)
            have HP := Lib.hid (HP.out.below hb)
            have SA := Lib.hid (same_any hi7 (HW.out.below hb).1 (by omega) (by omega))
            have HB := hb_trans' HB hb (Below.size HB)
            clear hi7 hb HW
            go_wp2_with fail
            refine SA.out.mono ?_
            rintro e w8 ⟨rfl, d2, rfl⟩
            have hb : Below w7.heap.size w7 (w7.drewN d2) := (hb_drewN' (Lib.hid (Below.refl _ _)) d2).out
            have PR := Lib.hid (PR.out.below hb)
            have HP := Lib.hid (HP.out.below hb)
            have HB := hb_trans' HB hb (Below.size HB)
            clear hb SA
            simp only [bounds, decide_true]
            go_wp2_with fail
            refine (total_any PR.out).mono ?_
            rintro e w9 ⟨rfl, rfl⟩
            go_wp2_with fail
            refine (total_any HP.out).mono ?_
            rintro e w9 ⟨rfl, rfl⟩
            simp only [total]
            rw [HS.out]
            have HB5 := HB
            go_wp2_with fail
            refine (works_any _).mono ?_
            rintro e w9 ⟨rfl, hb9⟩
            have B9 := hb_trans' HB5 hb9 (Below.size HB5)
            clear hb9
            go_wp2
            go_ret
            exact ⟨rfl, B9.out⟩
  · have HN : Hid (Calls Try.prog 18 #[.slice a0 n0 c0] w (GivesH w none 2)) := by
      have := HN.out; rwa [show new l0 = none by rw [new, if_neg hf], show newE l0 = 2 by rw [newE, if_neg hf]] at this
    have hmn : n0 ≤ 200 := by omega
    clear hf w0 w1 w2 q0 q1 hq
    go_enter Try.func11, Try.ntmps11
    go_wp2_with fail
    refine HN.out.mono ?_
    rintro e w1 ⟨v, rfl, hP, hb⟩
    have B1 := Lib.hid hb
    clear hP hb HN
    go_wp2_with fail
    refine (works_any _).mono ?_
    rintro e w9 ⟨rfl, hb9⟩
    have B9 := hb_trans' B1 hb9 (Below.size B1)
    clear hb9
    go_wp2
    go_ret
    exact ⟨rfl, B9.out⟩

set_option maxRecDepth 100000 in
theorem lifted (os : Os) (started : os.Started) (H : Type) (enc : TypeId × Value → H) :
    ReturnsInHanded {} Try.checked os 11 .any (Rows.histoCoarserSpec.pre6 enc Try.prog Try.f11 Rows.histoCoarserRow.domain false) (Rows.histoCoarserSpec.post enc Try.prog Try.f11 false true false false) := by
  refine returnsInHanded_of_change (C := Try.checked) own started (by kernel_rfl) Try.func11
    (ChangeSpec.witness6 (enc := enc) (C := Try.checked) false ⟨#[], #[.slice none 0 0, .slice none 0 0, .int .u8 0], []⟩ 8 (by kernel_rfl) (by kernel_rfl) (by kernel_rfl) (by kernel_rfl)) ?_
  intro W base args ds gs before hval0 hW hcnd _
  have hval : ∀ (j : Nat) t v, Try.f11.params[j]? = some t → args[j]? = some v → Value.okWide Try.prog W .any base t v := hval0
  have hW' := hW
  obtain ⟨p, q, hA0, hV, rfl, hfz, hnd⟩ := hW
  have hA : DataW.TrodAll enc Try.prog W 0 (fun _ => true) true Try.f11.params.toList args.toList ds p := hA0
  rw [Try.params11] at hA hval
  obtain ⟨v0, vs0, d0, ds0, p0, q0, hargs, rfl, rfl, h0, r0⟩ := trodAll_cons hA
  obtain ⟨v1, vs1, d1, ds1, p1, q1, rfl, rfl, rfl, h1, r1⟩ := trodAll_cons r0
  obtain ⟨v2, vs2, d2, ds2, p2, q2, rfl, rfl, rfl, h2, r2⟩ := trodAll_cons r1
  obtain ⟨rfl, rfl, rfl⟩ := trodAll_nil r2
  obtain rfl : args = #[v0, v1, v2] := by cases args; simp_all
  obtain ⟨rfl, rfl⟩ := trodVars_none hV
  have k0 := h0
  have lt0 : ∀ x ∈ p0, x.block < W.heap.size := by obtain ⟨m, hm⟩ := k0; exact DataW.trod_lt m _ _ _ hm
  have k1 := h1
  have lt1 : ∀ x ∈ p1, x.block < W.heap.size := by obtain ⟨m, hm⟩ := k1; exact DataW.trod_lt m _ _ _ hm
  have k2 := h2
  have lt2 : ∀ x ∈ p2, x.block < W.heap.size := by obtain ⟨m, hm⟩ := k2; exact DataW.trod_lt m _ _ _ hm
  obtain ⟨a0, n0, c0, b0, l0, rfl, w0, x0, y0⟩ := opn_ints Try.underlying22 Try.underlying2 (by kernel_rfl) (hval 0 22 v0 rfl rfl) h0
  obtain ⟨a1, n1, c1, b1, f1, rfl, w1, x1, y1⟩ := opn_recs (kd := fun _ => .i64) Try.underlying23 Try.underlying40 (by kernel_rfl) (by kernel_rfl) (by decide) (by
    intro j f hj
    have hjl : j < 2 := by simpa using (Array.getElem?_eq_some_iff.1 hj).1
    match j, hjl, hj with
    | 0, _, hj => simp at hj; subst hj; exact Try.underlying2
    | 1, _, hj => simp at hj; subst hj; exact Try.underlying2
    ) (hval 1 23 v1 rfl rfl) h1
  obtain ⟨a2, rfl, dd2, pp2, w2⟩ := open_int Try.underlying5 (hval 2 5 v2 rfl rfl) h2
  clear hA0 hval0
  refine (walk a0 n0 c0 b0 l0 a1 n1 c1 b1 f1 a2 W w0 ⟨x0, y0⟩ w1 ⟨x1, y1⟩ w2).mono fun e W' ⟨he, bel⟩ => ?_
  subst he
  exact ⟨_, rfl, _, _, _, [], _, [], hW', trodAll_mk1 (shut_bool Try.underlying4 _), (trodAll_cons_mk (Below.trod laidOut (by kernel_rfl) (of_decide_eq_true (by kernel_rfl)) k0 bel lt0) (trodAll_cons_mk (Below.trod laidOut (by kernel_rfl) (of_decide_eq_true (by kernel_rfl)) k1 bel lt1) (trodAll_cons_mk (Below.trod laidOut (by kernel_rfl) (of_decide_eq_true (by kernel_rfl)) k2 bel lt2) trodAll_mk0))), rfl, bel.frame _, fun h => by cases h⟩

theorem over : Rows.histoCoarserRow.holds Try.pinned (OpenSpec.ofChange Rows.histoCoarserSpec) :=
  OpenClaim.holds_of_wide 11 Try.f11 rfl rfl rfl rfl rfl rfl rfl ⟨rfl, rfl, rfl, rfl, rfl⟩ rfl rfl rfl rfl rfl (by kernel_rfl) Try.func11 (by kernel_rfl)
    (of_decide_eq_true (by kernel_rfl)) (by unfold Func.isWrapper; first | (rw [if_pos (by decide +kernel)]; kernel_rfl) | (rw [if_neg (by decide +kernel)]; exact ⟨rfl, rfl⟩))
    (fun os started H enc _ => lifted os started H enc)

/-- The statement. -/
theorem proved : Rows.HistoCoarserSaid :=
  over
#print axioms proved
end Go.Proofs.Ytpfdoifkimjlbaa.histoCoarser
