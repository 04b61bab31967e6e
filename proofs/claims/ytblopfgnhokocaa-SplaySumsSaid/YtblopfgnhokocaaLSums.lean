/- THE STATEMENT SplaySums: sums are exact: nodes of the greatest and of the smallest value and one of any value, joined in any order; up to 15 nodes of each kind. No condition. -/
import Derived.Test.YtblopfgnhokocaaRows
import Derived.WalkKit
import Derived.ProofKit
import Derived.OpenShut
import Derived.Below
import Derived.Carry
import Derived.ChangeOld
import Derived.Lib.SmallJoins
import Derived.Test.YtblopfgnhokocaaO
import Derived.Test.YtblopfgnhokocaaS4
import Derived.Deep.RegionHeld3
set_option linter.unusedSimpArgs false
set_option linter.unusedVariables false
namespace Go.Proofs.Ytblopfgnhokocaa.splaySums
open Go.ChangeShapes Go.WideShapes Go.ChangeAt Go.RowKit Go.Joins
open P
theorem own : ownKnob Try.prog.godebug = none := by kernel_rfl
theorem laidOut : laidOutB Try.prog = true := by kernel_rfl

set_option maxHeartbeats 4000000 in
set_option maxRecDepth 100000 in
theorem walk (a0 : Int) (a1 : Int) (a2 : Int) (a3 : Bool) (w : World) (w0 : (Lit.int .u8 a0).wf = true) (w1 : (Lit.int .u8 a1).wf = true) (w2 : (Lit.int .i64 a2).wf = true) :
    Calls Try.prog 5 #[.int .u8 a0, .int .u8 a1, .int .i64 a2, .bool a3] w fun e w' => e = .returned (.bool true) ∧ Below w.heap.size w w' := by
  obtain ⟨hu0, hu1⟩ := wf_u8 w0
  obtain ⟨ht0, ht1⟩ := wf_u8 w1
  have hv := wf_in64 w2
  obtain ⟨n, hn⟩ : ∃ n : Nat, (a0 % 16 : Int) = n := ⟨(a0 % 16).toNat, by omega⟩
  obtain ⟨t, rfl⟩ : ∃ t : Nat, a1 = t := ⟨a1.toNat, by omega⟩
  have hn15 : n ≤ 15 := by omega
  obtain ⟨m, hm⟩ : ∃ m, 2 * n + 2 = m := ⟨_, rfl⟩
  have HVN := Lib.hid (Vs.new n)
  have HCN := Lib.hid (Ch.new (N := m) (t := t) (by omega))
  have HN := Lib.hid (new_any m w (by unfold In64; omega))
  rw [show newS m = some (newL m, List.replicate m 0) by unfold newS; rw [if_pos (by omega)]; rfl, show newE m = 0 by unfold newE; rw [if_pos (by omega)]] at HN
  rw [hm] at HVN
  obtain ⟨L0, hL0⟩ : ∃ L0, newL m = L0 := ⟨_, rfl⟩
  obtain ⟨V0, hV0⟩ : ∃ V0 : List Int, List.replicate m 0 = V0 := ⟨_, rfl⟩
  rw [hL0] at HN HCN
  rw [hV0] at HN HVN
  have NE := Lib.hid hn
  have ME := Lib.hid hm
  have HA := Lib.hid hv
  have hmn : (m : Int) = 2 * (n : Int) + 2 := by omega
  have MN := Lib.hid hmn
  clear w0 w1 w2 hL0 hV0 hn hm hv hmn
  go_enter Try.func5, Try.ntmps5
  go_wp2_with fail
  rw [NE.out, ← MN.out]
  refine HN.out.mono ?_
  rintro e w1 ⟨v, rfl, hP, hb⟩
  obtain ⟨p, rfl⟩ := hP.some_ptr
  have B1 := Lib.hid hb
  obtain ⟨lo, hlo⟩ : ∃ lo, w.heap.size = lo := ⟨_, rfl⟩
  obtain ⟨hi, hhi⟩ : ∃ hi, w1.heap.size = hi := ⟨_, rfl⟩
  have LO := Lib.hid hlo
  rw [hhi, hlo] at hP
  have P1 := Lib.hid hP
  have s1 : hi ≤ w1.heap.size := by omega
  clear hP hb hhi HN hlo
  go_wp2_with fail
  go_loopw [12] (fun k_ wr => ∃ (k : Nat) (V : List Int), k_ = .int .i64 k ∧ k ≤ n ∧ Hid (Vs n k V) ∧ Hid (PSo wr lo hi (.pointer (some ⟨p, 0, none⟩)) (some (L0, V))) ∧ Hid (Below w.heap.size w wr) ∧ hi ≤ wr.heap.size) (fun k_ _ => n - (intOf k_).toNat)
  case atStart => exact ⟨0, V0, rfl, Nat.zero_le _, HVN, P1, B1, s1⟩
  case round =>
    obtain ⟨k, V, rfl, hk, HV, P2, B2, s2⟩ := hrel
    clear P1 B1 s1 HVN
    by_cases hlt : k < n
    · have i1 : (k : Int) < n := by omega
      have HK : Hid (k < V.length ∧ n + k < (V.set k 9223372036854775807).length) := by
        have := HV.out.len
        exact ⟨by omega, by simp; omega⟩
      have FS := Lib.hid (HV.out.step hlt)
      have hnk : ((n + k : Nat) : Int) = (n : Int) + k := by omega
      have HC2 : Hid (∀ W V', n + k < V'.length → PSo W lo hi (.pointer (some ⟨p, 0, none⟩)) (some (L0, V')) → Calls Try.prog 24 #[(.pointer (some ⟨p, 0, none⟩)), .int .i64 ((n : Int) + k), .int .i64 (-9223372036854775808)] W (Sp W lo hi (.pointer (some ⟨p, 0, none⟩)) (some (L0, V'.set (n + k) (-9223372036854775808))) (.int .i64 0))) := by
        intro W V' hl hW
        have := set40 hW (n + k) (-9223372036854775808) ⟨by decide, by decide⟩ hl
        rwa [hnk] at this
      clear hnk HV
      go_wp2_with fail
      refine (set40 P2.out k 9223372036854775807 ⟨by decide, by decide⟩ HK.out.1).mono ?_
      rintro e w3 ⟨rfl, hP, hm⟩
      have P3 := Lib.hid hP
      have B3 : Hid (Below w.heap.size w w3) := Mod.below B2.out hm (by rw [LO.out]; exact Nat.le_refl _) B2.out.size
      have s3 : hi ≤ w3.heap.size := Nat.le_trans s2 hm.size
      clear hP hm P2 B2 s2 
      go_wp2_with fail
      refine (HC2.out _ _ HK.out.2 P3.out).mono ?_
      rintro e w4 ⟨rfl, hP, hm⟩
      have P4 := Lib.hid hP
      have B4 : Hid (Below w.heap.size w w4) := Mod.below B3.out hm (by rw [LO.out]; exact Nat.le_refl _) B3.out.size
      have s4 : hi ≤ w4.heap.size := Nat.le_trans s3 hm.size
      clear hP hm P3 B3 s3 
      clear HC2
      go_wp2
      go_roundw
      case rel => exact ⟨k + 1, _, by go_num, by omega, FS, P4, B4, s4⟩
      case measure => simp [intOf]; omega
    · obtain rfl : k = n := by omega
      have HVL : Hid (2 * k < V.length) := by have := HV.out.len; show _ < _; omega
      have hnk : ((2 * k : Nat) : Int) = 2 * (k : Int) := by omega
      have FL := Lib.hid (fun z => HV.out.last a2 z)
      have HC2 : Hid (∀ W, PSo W lo hi (.pointer (some ⟨p, 0, none⟩)) (some (L0, V)) → Calls Try.prog 24 #[(.pointer (some ⟨p, 0, none⟩)), .int .i64 (2 * (k : Int)), .int .i64 a2] W (Sp W lo hi (.pointer (some ⟨p, 0, none⟩)) (some (L0, V.set (2 * k) a2)) (.int .i64 0))) := by
        intro W hW
        have := set40 hW (2 * k) a2 HA.out HVL.out
        rwa [hnk] at this
      obtain ⟨V2, hV2⟩ : ∃ V2, V.set (2 * k) a2 = V2 := ⟨_, rfl⟩
      rw [hV2] at FL HC2
      have L2 : Hid (V2.length = m) := by have := (FL.out 0).1; show _ = _; rw [this, ME.out]
      have S2 : Hid (sumN V2 (List.range m) = a2 - k) := by have := (FL.out 0).2.1; rw [ME.out] at this; exact this
      have S3 : Hid (∀ z, sumN (V2.set (2 * k + 1) z) (List.range m) = a2 - k + z) := by intro z; have := (FL.out z).2.2; rw [ME.out] at this; exact this
      clear hnk HVL hV2 HV FL hlt
      go_wp2_with fail
      refine (HC2.out _ P2.out).mono ?_
      rintro e w3 ⟨rfl, hP, hm⟩
      have P3 := Lib.hid hP
      have B3 : Hid (Below w.heap.size w w3) := Mod.below B2.out hm (by rw [LO.out]; exact Nat.le_refl _) B2.out.size
      have s3 : hi ≤ w3.heap.size := Nat.le_trans s2 hm.size
      clear hP hm P2 B2 s2 
      clear HC2
      go_wp2_with fail
      rw [← MN.out]
      have hm1 : 1 ≤ m := by have := ME.out; omega
      have hm32 : m ≤ 32 := by have := ME.out; omega
      have m0 : (m : Int) ≠ 0 := by omega
      have t0 : (0 : Int) ≤ (t : Int) := by omega
      go_loopw [14] (fun q_ wr => ∃ (q : Nat) (L : List (List Nat)), q_ = .int .i64 q ∧ 1 ≤ q ∧ q ≤ m ∧ Hid (Ch m t q L) ∧ Hid (PSo wr lo hi (.pointer (some ⟨p, 0, none⟩)) (some (L, V2))) ∧ Hid (Below w.heap.size w wr) ∧ hi ≤ wr.heap.size) (fun q_ _ => m - (intOf q_).toNat)
      case atStart => exact ⟨1, L0, rfl, Nat.le_refl _, hm1, HCN, P3, B3, s3⟩
      case round =>
        obtain ⟨q, L, rfl, hq1, hqm, HC, P4, B4, s4⟩ := hrel
        clear P3 B3 s3 HCN
        by_cases hqlt : q < m
        · have i1 : (q : Int) < m := by omega
          obtain ⟨ha, hb, hnm, hch⟩ := HC.out.step hq1 hqlt
          obtain ⟨a, hae⟩ : ∃ a, (q - 1 + t) % m = a := ⟨_, rfl⟩
          obtain ⟨b, hbe⟩ : ∃ b, (q + t) % m = b := ⟨_, rfl⟩
          rw [hae, hbe] at hch hnm
          rw [hae] at ha
          rw [hbe] at hb
          have hai : ((q : Int) - 1 + t) % (m : Int) = (a : Int) := by rw [← hae, show ((q : Int) - 1 + t) = ((q - 1 + t : Nat) : Int) by omega]; rfl
          have hbi : ((q : Int) + t) % (m : Int) = (b : Int) := by rw [← hbe]; rfl
          have A1 := Lib.hid hai
          have A2 := Lib.hid hbi
          have AB : Hid (a < V2.length ∧ b < V2.length) := ⟨by rw [L2.out]; exact ha, by rw [L2.out]; exact hb⟩
          have NM := Lib.hid hnm
          have CH := Lib.hid hch
          clear hae hbe hai hbi hch hnm ha hb HC
          go_wp2_with fail
          go_region
          go_wp2_with fail
          rw [A1.out, A2.out]
          have P4 := Lib.hid (P4.out.below (Below.drew (Below.refl _ _)))
          have B4 : Hid (Below w.heap.size w wr.drew) := Below.drew B4.out
          have s4 : hi ≤ wr.drew.heap.size := s4
          refine (join40 P4.out a b AB.out.1 AB.out.2 NM.out).mono ?_
          rintro e w5 ⟨rfl, hP, hm⟩
          have P5 := Lib.hid hP
          have B5 : Hid (Below w.heap.size w w5) := Mod.below B4.out hm (by rw [LO.out]; exact Nat.le_refl _) B4.out.size
          have s5 : hi ≤ w5.heap.size := Nat.le_trans s4 hm.size
          clear hP hm P4 B4 s4 
          go_wp2
          go_roundw
          case rel => exact ⟨q + 1, _, by go_num, by omega, by omega, CH, P5, B5, s5⟩
          case measure => simp [intOf]; omega
        · obtain rfl : q = m := by omega
          have hx0 : 0 < q := by omega
          have hx1 : 2 * k + 1 < q := by have := ME.out; omega
          have e0 : sumN V2 (lst L 0) = a2 - k := (sumN_perm (HC.out.full hm1 hx0)).trans S2.out
          have e1 : ∀ z, sumN (V2.set (2 * k + 1) z) (lst L (2 * k + 1)) = a2 - k + z := fun z => (sumN_perm (HC.out.full hm1 hx1)).trans (S3.out z)
          have HS0 : Hid (∀ W, PSo W lo hi (.pointer (some ⟨p, 0, none⟩)) (some (L, V2)) → Calls Try.prog 25 #[(.pointer (some ⟨p, 0, none⟩)), .int .i64 0] W (Sp W lo hi (.pointer (some ⟨p, 0, none⟩)) (some (L, V2)) (.tuple #[.int .i64 (sumV (a2 - k)), .int .i64 (sumE (a2 - k))]))) := by
            intro W hW
            have := sum40 hW 0 (by rw [L2.out]; exact hx0)
            rwa [e0] at this
          have hk1 : ((2 * k + 1 : Nat) : Int) = 2 * (k : Int) + 1 := by omega
          have HT : Hid (∀ z, In64 z → ∀ W, PSo W lo hi (.pointer (some ⟨p, 0, none⟩)) (some (L, V2)) → Calls Try.prog 24 #[(.pointer (some ⟨p, 0, none⟩)), .int .i64 (2 * (k : Int) + 1), .int .i64 z] W (Sp W lo hi (.pointer (some ⟨p, 0, none⟩)) (some (L, V2.set (2 * k + 1) z)) (.int .i64 0))) := by
            intro z hz W hW
            have := set40 hW (2 * k + 1) z hz (by rw [L2.out]; exact hx1)
            rwa [hk1] at this
          have HS1 : Hid (∀ z W, PSo W lo hi (.pointer (some ⟨p, 0, none⟩)) (some (L, V2.set (2 * k + 1) z)) → Calls Try.prog 25 #[(.pointer (some ⟨p, 0, none⟩)), .int .i64 (2 * (k : Int) + 1)] W (Sp W lo hi (.pointer (some ⟨p, 0, none⟩)) (some (L, V2.set (2 * k + 1) z)) (.tuple #[.int .i64 (sumV (a2 - k + z)), .int .i64 (sumE (a2 - k + z))]))) := by
            intro z W hW
            have := sum40 hW (2 * k + 1) (by rw [List.length_set, L2.out]; exact hx1)
            rwa [e1, hk1] at this
          obtain ⟨ha0, ha1⟩ := HA.out
          have K15 := hn15
          clear e0 e1 hk1 hx0 hx1 HC S2 S3 L2
          by_cases c1 : a2 < -9223372036854775808 + (k : Int)
          · have HR0 : Hid (sumV (a2 - k) = 0 ∧ sumE (a2 - k) = 7) := sum_out (by unfold In64; omega)
            have b1 : decide (a2 < -9223372036854775808 + (k : Int)) = true := decide_eq_true c1
            go_wp2_with fail
            refine (HS0.out _ P4.out).mono ?_
            rintro e w5 ⟨rfl, hP, hm⟩
            have P5 := Lib.hid hP
            have B5 : Hid (Below w.heap.size w w5) := Mod.below B4.out hm (by rw [LO.out]; exact Nat.le_refl _) B4.out.size
            have s5 : hi ≤ w5.heap.size := Nat.le_trans s4 hm.size
            clear hP hm P4 B4 s4 
            rw [HR0.out.1, HR0.out.2]
            clear HS0 HR0
            cases a3 with
            | false =>
              have b2 : decide (a2 ≤ (k : Int)) = true := decide_eq_true (by omega)
              have HSR : Hid (sumV (a2 - k + 9223372036854775807) = a2 - k + 9223372036854775807 ∧ sumE (a2 - k + 9223372036854775807) = 0) := sum_in (by unfold In64; omega)
              have bq : ((a2 - (k : Int) + 9223372036854775807) == (a2 + (9223372036854775807 - (k : Int)))) = true := by simp; omega
              have HT := Lib.hid (HT.out 9223372036854775807 ⟨by decide, by decide⟩)
              go_wp2_with fail
              refine (HT.out _ P5.out).mono ?_
              rintro e w6 ⟨rfl, hP, hm⟩
              have P6 := Lib.hid hP
              have B6 : Hid (Below w.heap.size w w6) := Mod.below B5.out hm (by rw [LO.out]; exact Nat.le_refl _) B5.out.size
              have s6 : hi ≤ w6.heap.size := Nat.le_trans s5 hm.size
              clear hP hm P5 B5 s5 
              go_wp2_with fail
              refine (HS1.out _ _ P6.out).mono ?_
              rintro e w7 ⟨rfl, hP, hm⟩
              have P7 := Lib.hid hP
              have B7 : Hid (Below w.heap.size w w7) := Mod.below B6.out hm (by rw [LO.out]; exact Nat.le_refl _) B6.out.size
              have s7 : hi ≤ w7.heap.size := Nat.le_trans s6 hm.size
              clear hP hm P6 B6 s6 
              rw [HSR.out.1, HSR.out.2]
              go_wp2_with fail
              refine (works_any _).mono ?_
              rintro e w99 ⟨rfl, hb99⟩
              have B99 := hb_trans' B7 hb99 B7.out.size
              clear hb99
              go_wp2
              go_ret
              exact ⟨rfl, B99.out⟩
            | true =>
              have b0 : decide (a2 ≤ (k : Int)) = true := decide_eq_true (by omega)
              have b2 : decide ((k : Int) ≤ a2) = false := decide_eq_false (by omega)
              have HSR : Hid (sumV (a2 - k + (-9223372036854775808)) = 0 ∧ sumE (a2 - k + (-9223372036854775808)) = 7) := sum_out (by unfold In64; omega)
              have HT := Lib.hid (HT.out (-9223372036854775808) ⟨by decide, by decide⟩)
              go_wp2_with fail
              refine (HT.out _ P5.out).mono ?_
              rintro e w6 ⟨rfl, hP, hm⟩
              have P6 := Lib.hid hP
              have B6 : Hid (Below w.heap.size w w6) := Mod.below B5.out hm (by rw [LO.out]; exact Nat.le_refl _) B5.out.size
              have s6 : hi ≤ w6.heap.size := Nat.le_trans s5 hm.size
              clear hP hm P5 B5 s5 
              go_wp2_with fail
              refine (HS1.out _ _ P6.out).mono ?_
              rintro e w7 ⟨rfl, hP, hm⟩
              have P7 := Lib.hid hP
              have B7 : Hid (Below w.heap.size w w7) := Mod.below B6.out hm (by rw [LO.out]; exact Nat.le_refl _) B6.out.size
              have s7 : hi ≤ w7.heap.size := Nat.le_trans s6 hm.size
              clear hP hm P6 B6 s6 
              rw [HSR.out.1, HSR.out.2]
              go_wp2_with fail
              refine (works_any _).mono ?_
              rintro e w99 ⟨rfl, hb99⟩
              have B99 := hb_trans' B7 hb99 B7.out.size
              clear hb99
              go_wp2
              go_ret
              exact ⟨rfl, B99.out⟩
          · have HR0 : Hid (sumV (a2 - k) = (a2 - k) ∧ sumE (a2 - k) = 0) := sum_in (by unfold In64; omega)
            have b1 : decide (a2 < -9223372036854775808 + (k : Int)) = false := decide_eq_false c1
            go_wp2_with fail
            refine (HS0.out _ P4.out).mono ?_
            rintro e w5 ⟨rfl, hP, hm⟩
            have P5 := Lib.hid hP
            have B5 : Hid (Below w.heap.size w w5) := Mod.below B4.out hm (by rw [LO.out]; exact Nat.le_refl _) B4.out.size
            have s5 : hi ≤ w5.heap.size := Nat.le_trans s4 hm.size
            clear hP hm P4 B4 s4 
            rw [HR0.out.1, HR0.out.2]
            clear HS0 HR0
            cases a3 with
            | false =>
              by_cases c2 : a2 ≤ (k : Int)
              · have b2 : decide (a2 ≤ (k : Int)) = true := decide_eq_true c2
                have HSR : Hid (sumV (a2 - k + 9223372036854775807) = a2 - k + 9223372036854775807 ∧ sumE (a2 - k + 9223372036854775807) = 0) := sum_in (by unfold In64; omega)
                have HT := Lib.hid (HT.out 9223372036854775807 ⟨by decide, by decide⟩)
                go_wp2_with fail
                refine (HT.out _ P5.out).mono ?_
                rintro e w6 ⟨rfl, hP, hm⟩
                have P6 := Lib.hid hP
                have B6 : Hid (Below w.heap.size w w6) := Mod.below B5.out hm (by rw [LO.out]; exact Nat.le_refl _) B5.out.size
                have s6 : hi ≤ w6.heap.size := Nat.le_trans s5 hm.size
                clear hP hm P5 B5 s5 
                go_wp2_with fail
                refine (HS1.out _ _ P6.out).mono ?_
                rintro e w7 ⟨rfl, hP, hm⟩
                have P7 := Lib.hid hP
                have B7 : Hid (Below w.heap.size w w7) := Mod.below B6.out hm (by rw [LO.out]; exact Nat.le_refl _) B6.out.size
                have s7 : hi ≤ w7.heap.size := Nat.le_trans s6 hm.size
                clear hP hm P6 B6 s6 
                rw [HSR.out.1, HSR.out.2]
                go_wp2_with fail
                refine (works_any _).mono ?_
                rintro e w99 ⟨rfl, hb99⟩
                have B99 := hb_trans' B7 hb99 B7.out.size
                clear hb99
                go_wp2
                go_ret
                exact ⟨rfl, B99.out⟩
              · have b2 : decide (a2 ≤ (k : Int)) = false := decide_eq_false c2
                have HSR : Hid (sumV (a2 - k + 9223372036854775807) = 0 ∧ sumE (a2 - k + 9223372036854775807) = 7) := sum_out (by unfold In64; omega)
                have HT := Lib.hid (HT.out 9223372036854775807 ⟨by decide, by decide⟩)
                go_wp2_with fail
                refine (HT.out _ P5.out).mono ?_
                rintro e w6 ⟨rfl, hP, hm⟩
                have P6 := Lib.hid hP
                have B6 : Hid (Below w.heap.size w w6) := Mod.below B5.out hm (by rw [LO.out]; exact Nat.le_refl _) B5.out.size
                have s6 : hi ≤ w6.heap.size := Nat.le_trans s5 hm.size
                clear hP hm P5 B5 s5 
                go_wp2_with fail
                refine (HS1.out _ _ P6.out).mono ?_
                rintro e w7 ⟨rfl, hP, hm⟩
                have P7 := Lib.hid hP
                have B7 : Hid (Below w.heap.size w w7) := Mod.below B6.out hm (by rw [LO.out]; exact Nat.le_refl _) B6.out.size
                have s7 : hi ≤ w7.heap.size := Nat.le_trans s6 hm.size
                clear hP hm P6 B6 s6 
                rw [HSR.out.1, HSR.out.2]
                go_wp2_with fail
                refine (works_any _).mono ?_
                rintro e w99 ⟨rfl, hb99⟩
                have B99 := hb_trans' B7 hb99 B7.out.size
                clear hb99
                go_wp2
                go_ret
                exact ⟨rfl, B99.out⟩
            | true =>
              by_cases c2 : (k : Int) ≤ a2
              · have b2 : decide ((k : Int) ≤ a2) = true := decide_eq_true c2
                have HSR : Hid (sumV (a2 - k + (-9223372036854775808)) = a2 - k + (-9223372036854775808) ∧ sumE (a2 - k + (-9223372036854775808)) = 0) := sum_in (by unfold In64; omega)
                have HT := Lib.hid (HT.out (-9223372036854775808) ⟨by decide, by decide⟩)
                go_wp2_with fail
                refine (HT.out _ P5.out).mono ?_
                rintro e w6 ⟨rfl, hP, hm⟩
                have P6 := Lib.hid hP
                have B6 : Hid (Below w.heap.size w w6) := Mod.below B5.out hm (by rw [LO.out]; exact Nat.le_refl _) B5.out.size
                have s6 : hi ≤ w6.heap.size := Nat.le_trans s5 hm.size
                clear hP hm P5 B5 s5 
                go_wp2_with fail
                refine (HS1.out _ _ P6.out).mono ?_
                rintro e w7 ⟨rfl, hP, hm⟩
                have P7 := Lib.hid hP
                have B7 : Hid (Below w.heap.size w w7) := Mod.below B6.out hm (by rw [LO.out]; exact Nat.le_refl _) B6.out.size
                have s7 : hi ≤ w7.heap.size := Nat.le_trans s6 hm.size
                clear hP hm P6 B6 s6 
                rw [HSR.out.1, HSR.out.2]
                go_wp2_with fail
                refine (works_any _).mono ?_
                rintro e w99 ⟨rfl, hb99⟩
                have B99 := hb_trans' B7 hb99 B7.out.size
                clear hb99
                go_wp2
                go_ret
                exact ⟨rfl, B99.out⟩
              · have b2 : decide ((k : Int) ≤ a2) = false := decide_eq_false c2
                have HSR : Hid (sumV (a2 - k + (-9223372036854775808)) = 0 ∧ sumE (a2 - k + (-9223372036854775808)) = 7) := sum_out (by unfold In64; omega)
                have HT := Lib.hid (HT.out (-9223372036854775808) ⟨by decide, by decide⟩)
                go_wp2_with fail
                refine (HT.out _ P5.out).mono ?_
                rintro e w6 ⟨rfl, hP, hm⟩
                have P6 := Lib.hid hP
                have B6 : Hid (Below w.heap.size w w6) := Mod.below B5.out hm (by rw [LO.out]; exact Nat.le_refl _) B5.out.size
                have s6 : hi ≤ w6.heap.size := Nat.le_trans s5 hm.size
                clear hP hm P5 B5 s5 
                go_wp2_with fail
                refine (HS1.out _ _ P6.out).mono ?_
                rintro e w7 ⟨rfl, hP, hm⟩
                have P7 := Lib.hid hP
                have B7 : Hid (Below w.heap.size w w7) := Mod.below B6.out hm (by rw [LO.out]; exact Nat.le_refl _) B6.out.size
                have s7 : hi ≤ w7.heap.size := Nat.le_trans s6 hm.size
                clear hP hm P6 B6 s6 
                rw [HSR.out.1, HSR.out.2]
                go_wp2_with fail
                refine (works_any _).mono ?_
                rintro e w99 ⟨rfl, hb99⟩
                have B99 := hb_trans' B7 hb99 B7.out.size
                clear hb99
                go_wp2
                go_ret
                exact ⟨rfl, B99.out⟩

set_option maxRecDepth 100000 in
theorem lifted (os : Os) (started : os.Started) (H : Type) (enc : TypeId × Value → H) :
    ReturnsInHanded {} Try.checked os 5 .any (Rows.splaySumsSpec.pre6 enc Try.prog Try.f5 Rows.splaySumsRow.domain false) (Rows.splaySumsSpec.post enc Try.prog Try.f5 false true false false) := by
  refine returnsInHanded_of_change (C := Try.checked) own started (by kernel_rfl) Try.func5
    (ChangeSpec.witness6 (enc := enc) (C := Try.checked) false ⟨#[], #[.int .u8 0, .int .u8 0, .int .i64 0, .bool false], []⟩ 8 (by kernel_rfl) (by kernel_rfl) (by kernel_rfl) (by kernel_rfl)) ?_
  intro W base args ds gs before hval0 hW hcnd _
  have hval : ∀ (j : Nat) t v, Try.f5.params[j]? = some t → args[j]? = some v → Value.okWide Try.prog W .any base t v := hval0
  have hW' := hW
  obtain ⟨p, q, hA0, hV, rfl, hfz, hnd⟩ := hW
  have hA : DataW.TrodAll enc Try.prog W 0 (fun _ => true) true Try.f5.params.toList args.toList ds p := hA0
  rw [Try.params5] at hA hval
  obtain ⟨v0, vs0, d0, ds0, p0, q0, hargs, rfl, rfl, h0, r0⟩ := trodAll_cons hA
  obtain ⟨v1, vs1, d1, ds1, p1, q1, rfl, rfl, rfl, h1, r1⟩ := trodAll_cons r0
  obtain ⟨v2, vs2, d2, ds2, p2, q2, rfl, rfl, rfl, h2, r2⟩ := trodAll_cons r1
  obtain ⟨v3, vs3, d3, ds3, p3, q3, rfl, rfl, rfl, h3, r3⟩ := trodAll_cons r2
  obtain ⟨rfl, rfl, rfl⟩ := trodAll_nil r3
  obtain rfl : args = #[v0, v1, v2, v3] := by cases args; simp_all
  obtain ⟨rfl, rfl⟩ := trodVars_none hV
  have k0 := h0
  have lt0 : ∀ x ∈ p0, x.block < W.heap.size := by obtain ⟨m, hm⟩ := k0; exact DataW.trod_lt m _ _ _ hm
  have k1 := h1
  have lt1 : ∀ x ∈ p1, x.block < W.heap.size := by obtain ⟨m, hm⟩ := k1; exact DataW.trod_lt m _ _ _ hm
  have k2 := h2
  have lt2 : ∀ x ∈ p2, x.block < W.heap.size := by obtain ⟨m, hm⟩ := k2; exact DataW.trod_lt m _ _ _ hm
  have k3 := h3
  have lt3 : ∀ x ∈ p3, x.block < W.heap.size := by obtain ⟨m, hm⟩ := k3; exact DataW.trod_lt m _ _ _ hm
  obtain ⟨a0, rfl, dd0, pp0, w0⟩ := open_int Try.underlying5 (hval 0 5 v0 rfl rfl) h0
  obtain ⟨a1, rfl, dd1, pp1, w1⟩ := open_int Try.underlying5 (hval 1 5 v1 rfl rfl) h1
  obtain ⟨a2, rfl, dd2, pp2, w2⟩ := open_int Try.underlying2 (hval 2 2 v2 rfl rfl) h2
  obtain ⟨a3, rfl, dd3, pp3⟩ := open_bool Try.underlying4 (hval 3 4 v3 rfl rfl) h3
  clear hA0 hval0
  refine (walk a0 a1 a2 a3 W w0 w1 w2).mono fun e W' ⟨he, bel⟩ => ?_
  subst he
  exact ⟨_, rfl, _, _, _, [], _, [], hW', trodAll_mk1 (shut_bool Try.underlying4 _), (trodAll_cons_mk (Below.trod laidOut (by kernel_rfl) (of_decide_eq_true (by kernel_rfl)) k0 bel lt0) (trodAll_cons_mk (Below.trod laidOut (by kernel_rfl) (of_decide_eq_true (by kernel_rfl)) k1 bel lt1) (trodAll_cons_mk (Below.trod laidOut (by kernel_rfl) (of_decide_eq_true (by kernel_rfl)) k2 bel lt2) (trodAll_cons_mk (Below.trod laidOut (by kernel_rfl) (of_decide_eq_true (by kernel_rfl)) k3 bel lt3) trodAll_mk0)))), rfl, bel.frame _, fun h => by cases h⟩

theorem over : Rows.splaySumsRow.holds Try.pinned (OpenSpec.ofChange Rows.splaySumsSpec) :=
  OpenClaim.holds_of_wide 5 Try.f5 rfl rfl rfl rfl rfl rfl rfl ⟨rfl, rfl, rfl, rfl, rfl⟩ rfl rfl rfl rfl rfl (by kernel_rfl) Try.func5 (by kernel_rfl)
    (of_decide_eq_true (by kernel_rfl)) (by unfold Func.isWrapper; first | (rw [if_pos (by decide +kernel)]; kernel_rfl) | (rw [if_neg (by decide +kernel)]; exact ⟨rfl, rfl⟩))
    (fun os started H enc _ => lifted os started H enc)

/-- The statement. -/
theorem proved : Rows.SplaySumsSaid :=
  over
#print axioms proved
end Go.Proofs.Ytblopfgnhokocaa.splaySums
