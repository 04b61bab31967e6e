/- THE STATEMENT HistoOrder: the order of what is counted makes no difference, nor whether it is counted in one histogram or in two that are merged; at most 200 bounds and steps. No condition. -/
import Derived.Test.YtpfdoifkimjlbaaRows
import Derived.WalkKit
import Derived.ProofKit
import Derived.OpenShut
import Derived.Below
import Derived.Carry
import Derived.ChangeOld
import Derived.Lib.SmallJoins
import Derived.Test.YtpfdoifkimjlbaaO
import Derived.Test.YtpfdoifkimjlbaaU
import Derived.Test.YtpfdoifkimjlbaaHO
set_option linter.unusedSimpArgs false
set_option linter.unusedVariables false
namespace Go.Proofs.Ytpfdoifkimjlbaa.histoOrder
open Go.ChangeShapes Go.WideShapes Go.ChangeAt Go.RowKit Go.Joins
open H M
theorem own : ownKnob Try.prog.godebug = none := by kernel_rfl
theorem laidOut : laidOutB Try.prog = true := by kernel_rfl

set_option maxHeartbeats 4000000 in
set_option maxRecDepth 100000 in
theorem walk (a0 : Option Addr) (n0 c0 b0 : Nat) (l0 : List Int) (a1 : Option Addr) (n1 c1 b1 : Nat) (f1 : Nat → Nat → Int) (a2 : Int) (w : World) (w0 : Ints w b0 a0 n0 c0 l0) (q0 : n0 ≤ c0 ∧ c0 ≤ maxLen) (w1 : Recs w b1 a1 n1 2 (fun _ => .i64) f1) (q1 : n1 ≤ c1 ∧ c1 ≤ maxLen) (w2 : (Lit.int .u8 a2).wf = true) :
    Calls Try.prog 12 #[.slice a0 n0 c0, .slice a1 n1 c1, .int .u8 a2] w fun e w' => e = .returned (.bool true) ∧ Below w.heap.size w w' := by

  by_cases g0 : 200 < n0
  · have g0' : (200 : Int) < n0 := by omega
    have hm := q0
    unfold maxLen at hm
    clear w0 w1 w2
    go_enter Try.func12, Try.ntmps12
    have B1 : Hid (Below w.heap.size w w) := Below.refl _ _
    go_wp2_with fail
    refine (works_any _).mono ?_
    rintro e w9 ⟨rfl, hb9⟩
    have B9 := hb_trans' B1 hb9 (Below.size B1)
    clear hb9
    go_wp2
    go_ret
    exact ⟨rfl, B9.out⟩
  have g0' : ¬ (200 : Int) < n0 := by omega
  by_cases g1 : 200 < n1
  · have g1' : (200 : Int) < n1 := by omega
    have hm := q1
    unfold maxLen at hm
    clear w0 w1 w2
    go_enter Try.func12, Try.ntmps12
    have B1 : Hid (Below w.heap.size w w) := Below.refl _ _
    go_wp2_with fail
    refine (works_any _).mono ?_
    rintro e w9 ⟨rfl, hb9⟩
    have B9 := hb_trans' B1 hb9 (Below.size B1)
    clear hb9
    go_wp2
    go_ret
    exact ⟨rfl, B9.out⟩
  have g1' : ¬ (200 : Int) < n1 := by omega
  have hq : n0 ≤ maxLen := by omega
  have HN := Lib.hid (new_any w0 hq)
  have HL := Lib.hid w0.1
  have hq1 := q1
  unfold maxLen at hq1
  have r2 := wf_u8 w2
  by_cases hf : fitsB l0 = true
  · have HN : Hid (Calls Try.prog 18 #[.slice a0 n0 c0] w (GivesH w (some (l0, List.replicate (l0.length + 1) 0)) 0)) := by
      have := HN.out; rwa [show new l0 = some (l0, List.replicate (l0.length + 1) 0) by rw [new, if_pos hf], show newE l0 = 0 by rw [newE, if_pos hf]] at this
    have W1 := Lib.hid w1
    have hmn : n0 ≤ 200 := by omega
    have HMM : Hid (n1 ≤ 200) := by show _ ≤ _; omega
    have HL0 := Lib.hid w0.1
    clear hf w0 w1 w2 q0 q1 hq HL
    go_enter Try.func12, Try.ntmps12
    go_wp2_with fail
    refine HN.out.mono ?_
    rintro e v1 ⟨v, rfl, hP, hb⟩
    obtain ⟨p, rfl⟩ := hP.some_ptr
    have B1 := Lib.hid hb
    have s1 := hb.size
    have P1 := Lib.hid hP
    clear hP hb HN
    go_wp2_with fail
    refine (copy_any P1.out).mono ?_
    rintro e v2 ⟨ub, rfl, hP, hb⟩
    have B2 := hb_trans' B1 hb s1
    have s2 := hb.size
    have P1 := Lib.hid (P1.out.below hb)
    have P2 := Lib.hid hP
    clear hP hb B1
    go_wp2_with fail
    refine (copy_any P1.out).mono ?_
    rintro e v3 ⟨uc, rfl, hP, hb⟩
    have B3 := hb_trans' B2 hb (by omega)
    have s3 := hb.size
    have P1 := Lib.hid (P1.out.below hb)
    have P2 := Lib.hid (P2.out.below hb)
    have P3 := Lib.hid hP
    clear hP hb B2
    go_wp2_with fail
    refine (copy_any P1.out).mono ?_
    rintro e v4 ⟨ud, rfl, hP, hb⟩
    have B4 := hb_trans' B3 hb (by omega)
    have s4 := hb.size
    have P1 := Lib.hid (P1.out.below hb)
    have P2 := Lib.hid (P2.out.below hb)
    have P3 := Lib.hid (P3.out.below hb)
    have P4 := Lib.hid hP
    clear hP hb B3
    have NS : Hid (w.heap.size ≤ v1.heap.size ∧ v1.heap.size ≤ v2.heap.size ∧ v2.heap.size ≤ v3.heap.size ∧ v3.heap.size ≤ v4.heap.size) := ⟨s1, s2, s3, s4⟩
    clear s1 s2 s3 s4
    go_wp2_with fail
    go_loopw [12] (fun i wr => ∃ (k : Nat) (A Bb Cc Dd : List Int), i = .int .i64 k ∧ k ≤ n1 ∧ Hid (PHo wr w.heap.size v1.heap.size (.pointer (some ⟨p, 0, none⟩)) (some (l0, A))) ∧ Hid (PHo wr v1.heap.size v2.heap.size ub (some (l0, Bb))) ∧ Hid (PHo wr v2.heap.size v3.heap.size uc (some (l0, Cc))) ∧ Hid (PHo wr v3.heap.size v4.heap.size ud (some (l0, Dd))) ∧ Hid (Below w.heap.size w wr) ∧ Hid (v4.heap.size ≤ wr.heap.size) ∧ Hid (A.sum ≤ k * 1099511627776 ∧ Bb.sum ≤ k * 1099511627776 ∧ Cc.sum ≤ k * 1099511627776 ∧ Dd.sum ≤ k * 1099511627776) ∧ Hid (Tal l0 A (vA l0 f1) k ∧ Tal l0 Bb (vB l0 f1 n1) k ∧ Tal l0 Cc (vC l0 f1 a2) k ∧ Tal l0 Dd (vD l0 f1 a2) k)) (fun i _ => n1 - (intOf i).toNat)
    case atStart => exact ⟨0, _, _, _, _, rfl, Nat.zero_le _, P1, P2, P3, P4, B4, Nat.le_refl _, (by show _ ∧ _; rw [sum_rep]; omega), ⟨tal_zero _ _, tal_zero _ _, tal_zero _ _, tal_zero _ _⟩⟩
    case round =>
      obtain ⟨k, A, Bb, Cc, Dd, rfl, hk, HA, HB, HC, HD, HW, HZ, HS, HT⟩ := hrel
      clear P1 P2 P3 P4 B4
      by_cases hlt : k < n1
      · have hR := W1.out.below (by decide) HW.out
        obtain ⟨off, ha, hc⟩ := hR.2 (by omega)
        have hx := hc k 0 hlt (by decide)
        have ht := hc k 1 hlt (by decide)
        have hx2 := hc (n1 - 1 - k) 0 (by omega) (by decide)
        have ht2 := hc (n1 - 1 - k) 1 (by omega) (by decide)
        have wx := wf_in64 (hR.1 k 0 hlt (by decide))
        have wt := wf_in64 (hR.1 k 1 hlt (by decide))
        have wx2 := wf_in64 (hR.1 (n1 - 1 - k) 0 (by omega) (by decide))
        have wt2 := wf_in64 (hR.1 (n1 - 1 - k) 1 (by omega) (by decide))
        rw [Nat.add_zero] at hx hx2
        rw [← Nat.add_assoc] at ht ht2
        have i0 : (0 : Int) ≤ k := by omega
        have i1 : (k : Int) < n1 := by omega
        obtain ⟨r, hr⟩ : ∃ r, n1 - 1 - k = r := ⟨_, rfl⟩
        have j1 : (n1 : Int) - 1 - k = r := by omega
        have j2 : (r : Int) < n1 := by omega
        obtain ⟨x, ex⟩ : ∃ x, f1 k 0 = x := ⟨_, rfl⟩
        obtain ⟨t, et⟩ : ∃ t, f1 k 1 = t := ⟨_, rfl⟩
        rw [hr] at hx2 ht2 wx2 wt2
        obtain ⟨x2, ex2⟩ : ∃ x, f1 r 0 = x := ⟨_, rfl⟩
        obtain ⟨t2, et2⟩ : ∃ t, f1 r 1 = t := ⟨_, rfl⟩
        rw [ex] at hx wx
        rw [et] at ht wt
        rw [ex2] at hx2 wx2
        rw [et2] at ht2 wt2
        obtain ⟨tt, htt⟩ : ∃ tt, min t 1099511627776 = tt := ⟨_, rfl⟩
        obtain ⟨tt2, htt2⟩ : ∃ tt, min t2 1099511627776 = tt := ⟨_, rfl⟩
        have hb1 : b1 < wr.heap.size := World.block_lt_of_cell? wr _ hx
        subst ha
        have hm1 := HMM.out
        have hs := HS.out
        have bt : In64 tt := by unfold In64 at *; omega
        have bt2 : In64 tt2 := by unfold In64 at *; omega
        obtain ⟨A', eA, sA, tA⟩ := tal_add HA.out.1 HT.out.1 (x := x) (t := tt) hs.1 (by omega) (by omega) (fun j => by simp only [vA, ex, et, htt])
        obtain ⟨B', eB, sB, tB⟩ := tal_add HB.out.1 HT.out.2.1 (x := x2) (t := tt2) hs.2.1 (by omega) (by omega) (fun j => by simp only [vB, hr, vA, ex2, et2, htt2])
        have tC : Hid ((k : Int) < a2 → ∃ C', addS (some (l0, Cc)) x tt = some (l0, C') ∧ C'.sum ≤ (k : Int) * 1099511627776 + 1099511627776 ∧ Tal l0 C' (vC l0 f1 a2) (k + 1)) := fun hcut =>
          tal_add HC.out.1 HT.out.2.2.1 hs.2.2.1 (by omega) (by omega) (fun j => by simp only [vC, if_pos hcut, vA, ex, et, htt])
        have tC' : Hid (¬ (k : Int) < a2 → Tal l0 Cc (vC l0 f1 a2) (k + 1)) := fun hcut => tal_skip HT.out.2.2.1 (fun j => by simp only [vC, if_neg hcut])
        have tD : Hid (¬ (k : Int) < a2 → ∃ C', addS (some (l0, Dd)) x tt = some (l0, C') ∧ C'.sum ≤ (k : Int) * 1099511627776 + 1099511627776 ∧ Tal l0 C' (vD l0 f1 a2) (k + 1)) := fun hcut =>
          tal_add HD.out.1 HT.out.2.2.2 hs.2.2.2 (by omega) (by omega) (fun j => by simp only [vD, if_neg hcut, vA, ex, et, htt])
        have tD' : Hid ((k : Int) < a2 → Tal l0 Dd (vD l0 f1 a2) (k + 1)) := fun hcut => tal_skip HT.out.2.2.2 (fun j => by simp only [vD, if_pos hcut])
        have BT := Lib.hid bt
        have TA := Lib.hid (And.intro sA tA)
        have TB := Lib.hid (And.intro sB tB)
        have BW : Below wr.heap.size wr ((wr.alloc (.cells #[.int .i64 x, .int .i64 tt] 40)).alloc (.cells #[.int .i64 x2, .int .i64 tt2] 40)) := ((Below.refl _ _).alloc (Nat.le_refl _) _).alloc (by simp) _
        have Z1 : Hid (Bk ((wr.alloc (.cells #[.int .i64 x, .int .i64 tt] 40)).alloc (.cells #[.int .i64 x2, .int .i64 tt2] 40)) wr.heap.size 40 [.int .i64 x, .int .i64 tt]) := Bk.alloc (Bk.new' rfl) _
        have Z2 : Hid (Bk ((wr.alloc (.cells #[.int .i64 x, .int .i64 tt] 40)).alloc (.cells #[.int .i64 x2, .int .i64 tt2] 40)) (wr.heap.size + 1) 40 [.int .i64 x2, .int .i64 tt2]) := Bk.new' (by simp)
        have KA := hadd_any (HA.out.below BW) x tt bt
        rw [eA] at KA
        have KA := Lib.hid KA
        have KB : Hid (∀ W, PHo W v1.heap.size v2.heap.size ub (some (l0, Bb)) → Calls Try.prog 20 #[ub, .int .i64 x2, .int .i64 tt2] W (Step W v1.heap.size v2.heap.size ub (some (l0, B')) (addE (some (l0, Bb)) x2 tt2))) := fun W h => by
          have := hadd_any h x2 tt2 bt2
          rwa [eB] at this
        have HB1 := Lib.hid (HB.out.below BW)
        have HC1 := Lib.hid (HC.out.below BW)
        have HD1 := Lib.hid (HD.out.below BW)
        have HW1 := hb_trans' HW BW (Below.size HW)
        have HZ1 : Hid (v4.heap.size ≤ (((wr.alloc (.cells #[.int .i64 x, .int .i64 tt] 40)).alloc (.cells #[.int .i64 x2, .int .i64 tt2] 40))).heap.size) := Nat.le_trans HZ.out BW.size
        clear eA eB sA tA sB tB bt bt2 BW hs hm1 HA HB HC HD HT wx wt wx2 wt2
        clear hc hR hr ex et ex2 et2
        go_wp2_with fail
        have ns := NS.out
        have hz := HZ.out
        refine KA.out.mono ?_
        rintro e w3 ⟨rfl, hP, hm⟩
        have HA := Lib.hid hP
        have HB := Lib.hid (HB1.out.mod hm (.inr (Nat.le_refl _)))
        have HC := Lib.hid (HC1.out.mod hm (.inr (by omega)))
        have HD := Lib.hid (HD1.out.mod hm (.inr (by omega)))
        have Z1 := Lib.hid (Z1.out.mod hm (.inr (by omega)))
        have Z2 := Lib.hid (Z2.out.mod hm (.inr (by omega)))
        have HW2 := Mod.hb HW1.out hm (Nat.le_refl _) HW1.out.size
        have HZ2 : Hid (v4.heap.size ≤ w3.heap.size) := Nat.le_trans HZ1.out hm.size
        have y1 : w3.cell? ⟨wr.heap.size + 1, 0, none⟩ = some (.int .i64 x2) := Z2.out.cell 0
        have y2 : w3.cell? ⟨wr.heap.size + 1, 1, none⟩ = some (.int .i64 tt2) := Z2.out.cell 1
        have KB := Lib.hid (KB.out _ HB.out)
        clear hP hm KA HB1 HC1 HD1 HW1 HZ1 hx ht hx2 ht2 Z2
        clear HB hb1
        go_wp2_with fail
        refine KB.out.mono ?_
        rintro e w4 ⟨rfl, hP, hm⟩
        have HA := Lib.hid (HA.out.mod hm (.inl (Nat.le_refl _)))
        have HB := Lib.hid hP
        have HC := Lib.hid (HC.out.mod hm (.inr (Nat.le_refl _)))
        have HD := Lib.hid (HD.out.mod hm (.inr (by omega)))
        have Z1 := Lib.hid (Z1.out.mod hm (.inr (by omega)))
        have HW3 := Mod.hb HW2.out hm (by omega) HW2.out.size
        have HZ3 : Hid (v4.heap.size ≤ w4.heap.size) := Nat.le_trans HZ2.out hm.size
        have y1 : w4.cell? ⟨wr.heap.size, 0, none⟩ = some (.int .i64 x) := Z1.out.cell 0
        have y2 : w4.cell? ⟨wr.heap.size, 1, none⟩ = some (.int .i64 tt) := Z1.out.cell 1
        clear hP hm KB HW2 HZ2 Z1
        by_cases hcut : (k : Int) < a2
        · obtain ⟨C', eC, sC, tC⟩ := tC.out hcut
          have tD := Lib.hid (tD'.out hcut)
          have KC := hadd_any HC.out x tt BT.out
          rw [eC] at KC
          have KC := Lib.hid KC
          have TC := Lib.hid (And.intro sC tC)
          clear eC sC tC tD' tC'
          go_wp2_with fail
          refine KC.out.mono ?_
          rintro e w5 ⟨rfl, hP, hm⟩
          have HA := Lib.hid (HA.out.mod hm (.inl (by omega)))
          have HB := Lib.hid (HB.out.mod hm (.inl (Nat.le_refl _)))
          have HC := Lib.hid hP
          have HD := Lib.hid (HD.out.mod hm (.inr (Nat.le_refl _)))
          have HW4 := Mod.hb HW3.out hm (by omega) HW3.out.size
          have HZ4 : Hid (v4.heap.size ≤ w5.heap.size) := Nat.le_trans HZ3.out hm.size
          have HS2 : Hid (A'.sum ≤ ((k + 1 : Nat) : Int) * 1099511627776 ∧ B'.sum ≤ ((k + 1 : Nat) : Int) * 1099511627776 ∧ C'.sum ≤ ((k + 1 : Nat) : Int) * 1099511627776 ∧ Dd.sum ≤ ((k + 1 : Nat) : Int) * 1099511627776) := by
            have e1 := TA.out.1; have e2 := TB.out.1; have e3 := TC.out.1; have e4 := HS.out.2.2.2
            show _ ∧ _; omega
          have HT2 : Hid (Tal l0 A' (vA l0 f1) (k + 1) ∧ Tal l0 B' (vB l0 f1 n1) (k + 1) ∧ Tal l0 C' (vC l0 f1 a2) (k + 1) ∧ Tal l0 Dd (vD l0 f1 a2) (k + 1)) := ⟨TA.out.2, TB.out.2, TC.out.2, tD.out⟩
          clear hP hm KC y1 y2 TA TB TC tD HS HW3 HZ3
          go_wp2
          go_roundw
          case rel => exact ⟨k + 1, A', B', C', Dd, by go_num, by omega, HA, HB, HC, HD, HW4, HZ4, HS2, HT2⟩
          case measure => simp [intOf]; omega
        · obtain ⟨D', eD, sD, tD⟩ := tD.out (by omega)
          have tC := Lib.hid (tC'.out (by omega))
          have KD := hadd_any HD.out x tt BT.out
          rw [eD] at KD
          have KD := Lib.hid KD
          have TD := Lib.hid (And.intro sD tD)
          clear eD sD tD tD' tC'
          go_wp2_with fail
          refine KD.out.mono ?_
          rintro e w5 ⟨rfl, hP, hm⟩
          have HA := Lib.hid (HA.out.mod hm (.inl (by omega)))
          have HB := Lib.hid (HB.out.mod hm (.inl (by omega)))
          have HC := Lib.hid (HC.out.mod hm (.inl (Nat.le_refl _)))
          have HD := Lib.hid hP
          have HW4 := Mod.hb HW3.out hm (by omega) HW3.out.size
          have HZ4 : Hid (v4.heap.size ≤ w5.heap.size) := Nat.le_trans HZ3.out hm.size
          have HS2 : Hid (A'.sum ≤ ((k + 1 : Nat) : Int) * 1099511627776 ∧ B'.sum ≤ ((k + 1 : Nat) : Int) * 1099511627776 ∧ Cc.sum ≤ ((k + 1 : Nat) : Int) * 1099511627776 ∧ D'.sum ≤ ((k + 1 : Nat) : Int) * 1099511627776) := by
            have e1 := TA.out.1; have e2 := TB.out.1; have e3 := TD.out.1; have e4 := HS.out.2.2.1
            show _ ∧ _; omega
          have HT2 : Hid (Tal l0 A' (vA l0 f1) (k + 1) ∧ Tal l0 B' (vB l0 f1 n1) (k + 1) ∧ Tal l0 Cc (vC l0 f1 a2) (k + 1) ∧ Tal l0 D' (vD l0 f1 a2) (k + 1)) := ⟨TA.out.2, TB.out.2, tC.out, TD.out.2⟩
          clear hP hm KD y1 y2 TA TB TD tC HS HW3 HZ3
          go_wp2
          go_roundw
          case rel => exact ⟨k + 1, A', B', Cc, D', by go_num, by omega, HA, HB, HC, HD, HW4, HZ4, HS2, HT2⟩
          case measure => simp [intOf]; omega
      · obtain rfl : k = n1 := by omega
        have hm1 := HMM.out
        have hs := HS.out
        have ns := NS.out
        have e1 : A = Bb := back HA.out.1.len HB.out.1.len HT.out.1 HT.out.2.1
        have e2 : A = both Cc Dd := parted HA.out.1.len HC.out.1.len HT.out.1 HT.out.2.2.1 HT.out.2.2.2
        have CM := merge_any HC.out HD.out
        rw [show mergeE (some (l0, Cc)) (some (l0, Dd)) = 0 by simp only [mergeE, if_true]; rw [if_neg (by omega)], show mergeS (some (l0, Cc)) (some (l0, Dd)) = some (l0, A) by simp only [mergeS, if_true]; rw [if_neg (by omega), e2]] at CM
        rw [← e1] at HB
        have CM := Lib.hid CM
        have hlA : A.length = n0 + 1 := by rw [HA.out.1.len, HL0.out]
        have HLA := Lib.hid hlA
        clear hs e1 e2 hlA HS HT HC HD hm1
        go_wp2_with fail
        refine CM.out.mono ?_
        rintro e w3 ⟨rfl, hP, hm⟩
        have HA := Lib.hid (HA.out.mod hm (.inl (by omega)))
        have HB := Lib.hid (HB.out.mod hm (.inl (Nat.le_refl _)))
        have HC := Lib.hid hP
        have HW := Mod.hb HW.out hm (by omega) HW.out.size
        clear hP hm CM
        go_wp2_with fail
        refine (counts_any HA.out).mono ?_
        rintro e w4 ⟨b5, a5, n5, c5, rfl, hi5, hb, -⟩
        have hn5 : n5 = n0 + 1 := by rw [← hi5.1]; exact HLA.out
        subst hn5
        have I5 := Lib.hid hi5
        have HA := Lib.hid (HA.out.below hb)
        have HB := Lib.hid (HB.out.below hb)
        have HC := Lib.hid (HC.out.below hb)
        have HW := hb_trans' HW hb (Below.size HW)
        clear hi5 hb
        go_wp2_with fail
        refine (counts_any HB.out).mono ?_
        rintro e w5 ⟨b6, a6, n6, c6, rfl, hi6, hb, -⟩
        have hn6 : n6 = n0 + 1 := by rw [← hi6.1]; exact HLA.out
        subst hn6
        have I6 := Lib.hid hi6
        have HA := Lib.hid (HA.out.below hb)
        have HB := Lib.hid (HB.out.below hb)
        have HC := Lib.hid (HC.out.below hb)
        have HW := hb_trans' HW hb (Below.size HW)
        clear hi6
        have SA := Lib.hid (same_any (I5.out.below hb) I6.out (by omega) (by omega))
        clear hb I5 I6
        go_wp2_with fail
        refine SA.out.mono ?_
        rintro e w6 ⟨rfl, d1, rfl⟩
        have hb := (hb_drewN' (Lib.hid (Below.refl w5.heap.size w5)) d1).out
        have HA := Lib.hid (HA.out.below hb)
        have HB := Lib.hid (HB.out.below hb)
        have HC := Lib.hid (HC.out.below hb)
        have HW := hb_trans' HW hb (Below.size HW)
        clear hb SA
        simp only [counts, decide_true]
        go_wp2_with fail
        refine (counts_any HA.out).mono ?_
        rintro e w7 ⟨b7, a7, n7, c7, rfl, hi7, hb, -⟩
        have hn7 : n7 = n0 + 1 := by rw [← hi7.1]; exact HLA.out
        subst hn7
        have I7 := Lib.hid hi7
        have HA := Lib.hid (HA.out.below hb)
        have HB := Lib.hid (HB.out.below hb)
        have HC := Lib.hid (HC.out.below hb)
        have HW := hb_trans' HW hb (Below.size HW)
        clear hi7 hb
        go_wp2_with fail
        refine (counts_any HC.out).mono ?_
        rintro e w8 ⟨b8, a8, n8, c8, rfl, hi8, hb, -⟩
        have hn8 : n8 = n0 + 1 := by rw [← hi8.1]; exact HLA.out
        subst hn8
        have I8 := Lib.hid hi8
        have HA := Lib.hid (HA.out.below hb)
        have HB := Lib.hid (HB.out.below hb)
        have HC := Lib.hid (HC.out.below hb)
        have HW := hb_trans' HW hb (Below.size HW)
        clear hi8
        have SA := Lib.hid (same_any (I7.out.below hb) I8.out (by omega) (by omega))
        clear hb I7 I8
        go_wp2_with fail
        refine SA.out.mono ?_
        rintro e w9 ⟨rfl, d2, rfl⟩
        have hb := (hb_drewN' (Lib.hid (Below.refl w8.heap.size w8)) d2).out
        have HB5 := hb_trans' HW hb (Below.size HW)
        clear hb SA
        simp only [counts, decide_true]
        go_wp2_with fail
        refine (works_any _).mono ?_
        rintro e w9 ⟨rfl, hb9⟩
        have B9 := hb_trans' HB5 hb9 (Below.size HB5)
        clear hb9
        go_wp2
        go_ret
        exact ⟨rfl, B9.out⟩
  · have HN : Hid (Calls Try.prog 18 #[.slice a0 n0 c0] w (GivesH w none 2)) := by
      have := HN.out; rwa [show new l0 = none by rw [new, if_neg hf], show newE l0 = 2 by rw [newE, if_neg hf]] at this
    have hmn : n0 ≤ 200 := by omega
    clear hf w0 w1 w2 q0 q1 hq
    go_enter Try.func12, Try.ntmps12
    go_wp2_with fail
    refine HN.out.mono ?_
    rintro e w1 ⟨v, rfl, hP, hb⟩
    have B1 := Lib.hid hb
    clear hP hb HN
    go_wp2_with fail
    refine (works_any _).mono ?_
    rintro e w9 ⟨rfl, hb9⟩
    have B9 := hb_trans' B1 hb9 (Below.size B1)
    clear hb9
    go_wp2
    go_ret
    exact ⟨rfl, B9.out⟩

set_option maxRecDepth 100000 in
theorem lifted (os : Os) (started : os.Started) (H : Type) (enc : TypeId × Value → H) :
    ReturnsInHanded {} Try.checked os 12 .any (Rows.histoOrderSpec.pre6 enc Try.prog Try.f12 Rows.histoOrderRow.domain false) (Rows.histoOrderSpec.post enc Try.prog Try.f12 false true false false) := by
  refine returnsInHanded_of_change (C := Try.checked) own started (by kernel_rfl) Try.func12
    (ChangeSpec.witness6 (enc := enc) (C := Try.checked) false ⟨#[], #[.slice none 0 0, .slice none 0 0, .int .u8 0], []⟩ 8 (by kernel_rfl) (by kernel_rfl) (by kernel_rfl) (by kernel_rfl)) ?_
  intro W base args ds gs before hval0 hW hcnd _
  have hval : ∀ (j : Nat) t v, Try.f12.params[j]? = some t → args[j]? = some v → Value.okWide Try.prog W .any base t v := hval0
  have hW' := hW
  obtain ⟨p, q, hA0, hV, rfl, hfz, hnd⟩ := hW
  have hA : DataW.TrodAll enc Try.prog W 0 (fun _ => true) true Try.f12.params.toList args.toList ds p := hA0
  rw [Try.params12] at hA hval
  obtain ⟨v0, vs0, d0, ds0, p0, q0, hargs, rfl, rfl, h0, r0⟩ := trodAll_cons hA
  obtain ⟨v1, vs1, d1, ds1, p1, q1, rfl, rfl, rfl, h1, r1⟩ := trodAll_cons r0
  obtain ⟨v2, vs2, d2, ds2, p2, q2, rfl, rfl, rfl, h2, r2⟩ := trodAll_cons r1
  obtain ⟨rfl, rfl, rfl⟩ := trodAll_nil r2
  obtain rfl : args = #[v0, v1, v2] := by cases args; simp_all
  obtain ⟨rfl, rfl⟩ := trodVars_none hV
  have k0 := h0
  have lt0 : ∀ x ∈ p0, x.block < W.heap.size := by obtain ⟨m, hm⟩ := k0; exact DataW.trod_lt m _ _ _ hm
  have k1 := h1
  have lt1 : ∀ x ∈ p1, x.block < W.heap.size := by obtain ⟨m, hm⟩ := k1; exact DataW.trod_lt m _ _ _ hm
  have k2 := h2
  have lt2 : ∀ x ∈ p2, x.block < W.heap.size := by obtain ⟨m, hm⟩ := k2; exact DataW.trod_lt m _ _ _ hm
  obtain ⟨a0, n0, c0, b0, l0, rfl, w0, x0, y0⟩ := opn_ints Try.underlying22 Try.underlying2 (by kernel_rfl) (hval 0 22 v0 rfl rfl) h0
  obtain ⟨a1, n1, c1, b1, f1, rfl, w1, x1, y1⟩ := opn_recs (kd := fun _ => .i64) Try.underlying23 Try.underlying40 (by kernel_rfl) (by kernel_rfl) (by decide) (by
    intro j f hj
    have hjl : j < 2 := by simpa using (Array.getElem?_eq_some_iff.1 hj).1
    match j, hjl, hj with
    | 0, _, hj => simp at hj; subst hj; exact Try.underlying2
    | 1, _, hj => simp at hj; subst hj; exact Try.underlying2
    ) (hval 1 23 v1 rfl rfl) h1
  obtain ⟨a2, rfl, dd2, pp2, w2⟩ := open_int Try.underlying5 (hval 2 5 v2 rfl rfl) h2
  clear hA0 hval0
  refine (walk a0 n0 c0 b0 l0 a1 n1 c1 b1 f1 a2 W w0 ⟨x0, y0⟩ w1 ⟨x1, y1⟩ w2).mono fun e W' ⟨he, bel⟩ => ?_
  subst he
  exact ⟨_, rfl, _, _, _, [], _, [], hW', trodAll_mk1 (shut_bool Try.underlying4 _), (trodAll_cons_mk (Below.trod laidOut (by kernel_rfl) (of_decide_eq_true (by kernel_rfl)) k0 bel lt0) (trodAll_cons_mk (Below.trod laidOut (by kernel_rfl) (of_decide_eq_true (by kernel_rfl)) k1 bel lt1) (trodAll_cons_mk (Below.trod laidOut (by kernel_rfl) (of_decide_eq_true (by kernel_rfl)) k2 bel lt2) trodAll_mk0))), rfl, bel.frame _, fun h => by cases h⟩

theorem over : Rows.histoOrderRow.holds Try.pinned (OpenSpec.ofChange Rows.histoOrderSpec) :=
  OpenClaim.holds_of_wide 12 Try.f12 rfl rfl rfl rfl rfl rfl rfl ⟨rfl, rfl, rfl, rfl, rfl⟩ rfl rfl rfl rfl rfl (by kernel_rfl) Try.func12 (by kernel_rfl)
    (of_decide_eq_true (by kernel_rfl)) (by unfold Func.isWrapper; first | (rw [if_pos (by decide +kernel)]; kernel_rfl) | (rw [if_neg (by decide +kernel)]; exact ⟨rfl, rfl⟩))
    (fun os started H enc _ => lifted os started H enc)

/-- The statement. -/
theorem proved : Rows.HistoOrderSaid :=
  over
#print axioms proved
end Go.Proofs.Ytpfdoifkimjlbaa.histoOrder
