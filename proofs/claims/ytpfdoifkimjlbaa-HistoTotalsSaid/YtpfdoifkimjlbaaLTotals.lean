/- THE STATEMENT HistoTotals: the counts add up to the total, which is the sum of what was counted, without what was refused; at most 200 bounds and steps. No condition. -/
import Derived.Test.YtpfdoifkimjlbaaRows
import Derived.WalkKit
import Derived.ProofKit
import Derived.OpenShut
import Derived.Below
import Derived.Carry
import Derived.ChangeOld
import Derived.Lib.SmallJoins
import Derived.Test.YtpfdoifkimjlbaaO
import Derived.Test.YtpfdoifkimjlbaaT
import Derived.StillTailTactics
set_option linter.unusedSimpArgs false
set_option linter.unusedVariables false
namespace Go.Proofs.Ytpfdoifkimjlbaa.histoTotals
open Go.ChangeShapes Go.WideShapes Go.ChangeAt Go.RowKit Go.Joins
open H M
theorem own : ownKnob Try.prog.godebug = none := by kernel_rfl
theorem laidOut : laidOutB Try.prog = true := by kernel_rfl

set_option maxHeartbeats 4000000 in
set_option maxRecDepth 100000 in
theorem walk (a0 : Option Addr) (n0 c0 b0 : Nat) (l0 : List Int) (a1 : Option Addr) (n1 c1 b1 : Nat) (f1 : Nat → Nat → Int) (w : World) (w0 : Ints w b0 a0 n0 c0 l0) (q0 : n0 ≤ c0 ∧ c0 ≤ maxLen) (w1 : Recs w b1 a1 n1 2 (fun _ => .i64) f1) (q1 : n1 ≤ c1 ∧ c1 ≤ maxLen) :
    Calls Try.prog 5 #[.slice a0 n0 c0, .slice a1 n1 c1] w fun e w' => e = .returned (.bool true) ∧ Below w.heap.size w w' := by

  by_cases g0 : 200 < n0
  · have g0' : (200 : Int) < n0 := by omega
    have hm := q0
    unfold maxLen at hm
    clear w0 w1
    go_enter Try.func5, Try.ntmps5
    have B1 : Hid (Below w.heap.size w w) := Below.refl _ _
    go_wp2_with fail
    refine (works_any _).mono ?_
    rintro e w9 ⟨rfl, hb9⟩
    have B9 := hb_trans' B1 hb9 (Below.size B1)
    clear hb9
    go_wp2
    go_ret
    exact ⟨rfl, B9.out⟩
  have g0' : ¬ (200 : Int) < n0 := by omega
  by_cases g1 : 200 < n1
  · have g1' : (200 : Int) < n1 := by omega
    have hm := q1
    unfold maxLen at hm
    clear w0 w1
    go_enter Try.func5, Try.ntmps5
    have B1 : Hid (Below w.heap.size w w) := Below.refl _ _
    go_wp2_with fail
    refine (works_any _).mono ?_
    rintro e w9 ⟨rfl, hb9⟩
    have B9 := hb_trans' B1 hb9 (Below.size B1)
    clear hb9
    go_wp2
    go_ret
    exact ⟨rfl, B9.out⟩
  have g1' : ¬ (200 : Int) < n1 := by omega
  have hq : n0 ≤ maxLen := by omega
  have HN := Lib.hid (new_any w0 hq)
  have HL := Lib.hid w0.1
  by_cases hf : fitsB l0 = true
  · have HN : Hid (Calls Try.prog 18 #[.slice a0 n0 c0] w (GivesH w (some (l0, List.replicate (l0.length + 1) 0)) 0)) := by
      have := HN.out; rwa [show new l0 = some (l0, List.replicate (l0.length + 1) 0) by rw [new, if_pos hf], show newE l0 = 0 by rw [newE, if_pos hf]] at this
    have W1 := Lib.hid w1
    clear hf w0 w1 q0 q1 hq
    go_enter Try.func5, Try.ntmps5
    go_wp2_with fail
    refine HN.out.mono ?_
    rintro e v1 ⟨v, rfl, hP, hb⟩
    obtain ⟨p, rfl⟩ := hP.some_ptr
    have B1 := Lib.hid hb
    have P1 := Lib.hid hP
    clear hP hb HN
    go_wp2_with fail
    go_loopw [7, 8] (fun s i wr => ∃ (k : Nat) (C : List Int), i = .int .i64 k ∧ k ≤ n1 ∧ s = .int .i64 C.sum ∧ Hid (PHo wr w.heap.size v1.heap.size (.pointer (some ⟨p, 0, none⟩)) (some (l0, C))) ∧ Hid (Below w.heap.size w wr)) (fun _ i _ => n1 - (intOf i).toNat)
    case atStart => exact ⟨0, _, rfl, Nat.zero_le _, by rw [sum_rep], P1, B1⟩
    case round =>
      obtain ⟨k, C, rfl, hk, rfl, HP, HB⟩ := hrel
      clear P1 B1
      have gt := HP.out.1.tot
      by_cases hlt : k < n1
      · skip
        have hR := W1.out.below (by decide) HB.out
        obtain ⟨off, ha, hc⟩ := hR.2 (by omega)
        have hx := hc k 0 hlt (by decide)
        have ht := hc k 1 hlt (by decide)
        have wx := wf_in64 (hR.1 k 0 hlt (by decide))
        have wt := wf_in64 (hR.1 k 1 hlt (by decide))
        rw [Nat.add_zero] at hx
        rw [← Nat.add_assoc] at ht
        have i0 : (0 : Int) ≤ k := by omega
        have i1 : (k : Int) < n1 := by omega
        obtain ⟨x, hx2⟩ : ∃ x, f1 k 0 = x := ⟨_, rfl⟩
        obtain ⟨t, ht2⟩ : ∃ t, f1 k 1 = t := ⟨_, rfl⟩
        rw [hx2] at hx wx
        rw [ht2] at ht wt
        subst ha
        have HA := hadd_any (w := wr.drew) (HP.out.below (Below.drew (Below.refl _ _))) x t wt
        have sB := Below.size HB
        have HT2 := Lib.hid ht2
        clear hc hx2 ht2 hR
        by_cases h0 : t < 0
        · rw [show addS (some (l0, C)) x t = some (l0, C) by simp [addS, h0], show addE (some (l0, C)) x t = 2 by simp [addE, h0]] at HA
          have HA := Lib.hid HA
          go_wp2_with fail
          go_still_tail 11, (by kernel_rfl)
          repeat still_step
          go_wp2_with fail
          refine HA.out.mono ?_
          rintro e w3 ⟨rfl, hP3, hm3⟩
          have HP2 := Lib.hid hP3
          have HB2 := Mod.hb (Below.drew HB.out) hm3 (Nat.le_refl _) sB
          have hR := W1.out.below (by decide) HB2.out
          obtain ⟨off2, ha2, hc⟩ := hR.2 (by omega)
          have ho2 : off2 = off := by injection ha2 with ha2; injection ha2 with _ ha2; exact ha2.symm
          subst ho2
          have ht := hc k 1 hlt (by decide)
          rw [← Nat.add_assoc] at ht
          rw [HT2.out] at ht
          clear hP3 hm3 HA HP HB sB hR hc ha2
          have j1 : ¬ 0 ≤ t := by omega
          go_wp2
          go_roundw
          case rel => exact ⟨k + 1, C, by go_num, by omega, rfl, HP2, HB2⟩
          case measure => simp [intOf]; omega
        · by_cases h3 : 9223372036854775807 - C.sum < t
          · rw [show addS (some (l0, C)) x t = some (l0, C) by simp [addS, h0, h3], show addE (some (l0, C)) x t = 7 by simp [addE, h0, h3]] at HA
            have HA := Lib.hid HA
            obtain ⟨S, hS⟩ : ∃ S, C.sum = S := ⟨_, rfl⟩
            have HS := Lib.hid hS
            rw [hS] at gt h3 ⊢
            clear hS
            go_wp2_with fail
            go_still_tail 11, (by kernel_rfl)
            repeat still_step
            go_wp2_with fail
            refine HA.out.mono ?_
            rintro e w3 ⟨rfl, hP3, hm3⟩
            have HP2 := Lib.hid hP3
            have HB2 := Mod.hb (Below.drew HB.out) hm3 (Nat.le_refl _) sB
            have hR := W1.out.below (by decide) HB2.out
            obtain ⟨off2, ha2, hc⟩ := hR.2 (by omega)
            have ho2 : off2 = off := by injection ha2 with ha2; injection ha2 with _ ha2; exact ha2.symm
            subst ho2
            have ht := hc k 1 hlt (by decide)
            rw [← Nat.add_assoc] at ht
            rw [HT2.out] at ht
            clear hP3 hm3 HA HP HB sB hR hc ha2
            have j2 : ¬ t ≤ 9223372036854775807 - S := by omega
            go_wp2
            go_roundw
            case rel => exact ⟨k + 1, C, by go_num, by omega, by rw [HS.out], HP2, HB2⟩
            case measure => simp [intOf]; omega
          · rw [show addS (some (l0, C)) x t = some (l0, C.set (cnt l0 x) (C.getD (cnt l0 x) 0 + t)) by simp [addS, h0, h3], show addE (some (l0, C)) x t = 0 by simp [addE, h0, h3]] at HA
            have HA := Lib.hid HA
            have hcl := cnt_le l0 x
            have hln := HP.out.1.len
            have HS2 : Hid ((C.set (cnt l0 x) (C.getD (cnt l0 x) 0 + t)).sum = C.sum + t) := by
              show _ = _
              rw [H.sum_set _ _ _ (by omega)]; omega
            obtain ⟨C', hC'⟩ : ∃ C', C.set (cnt l0 x) (C.getD (cnt l0 x) 0 + t) = C' := ⟨_, rfl⟩
            rw [hC'] at HA HS2
            obtain ⟨S, hS⟩ : ∃ S, C.sum = S := ⟨_, rfl⟩
            rw [hS] at gt h3 HS2 ⊢
            have j2 : t ≤ 9223372036854775807 - S := by omega
            clear hcl hln hC' hS
            go_wp2_with fail
            go_still_tail 11, (by kernel_rfl)
            repeat still_step
            go_wp2_with fail
            refine HA.out.mono ?_
            rintro e w3 ⟨rfl, hP3, hm3⟩
            have HP2 := Lib.hid hP3
            have HB2 := Mod.hb (Below.drew HB.out) hm3 (Nat.le_refl _) sB
            have hR := W1.out.below (by decide) HB2.out
            obtain ⟨off2, ha2, hc⟩ := hR.2 (by omega)
            have ho2 : off2 = off := by injection ha2 with ha2; injection ha2 with _ ha2; exact ha2.symm
            subst ho2
            have ht := hc k 1 hlt (by decide)
            rw [← Nat.add_assoc] at ht
            rw [HT2.out] at ht
            clear hP3 hm3 HA HP HB sB hR hc ha2
            go_wp2
            go_roundw
            case rel => exact ⟨k + 1, C', by go_num, by omega, by rw [HS2.out], HP2, HB2⟩
            case measure => simp [intOf]; omega
      · obtain rfl : k = n1 := by omega
        have HCt : Hid (Calls Try.prog 21 #[.pointer (some ⟨p, 0, none⟩)] wr (GivesInts wr C)) := counts_any HP.out
        have GG := Lib.hid HP.out.1
        have hCl : C.length = n0 + 1 := by rw [← HL.out]; exact HP.out.1.len
        have HCl := Lib.hid hCl
        clear hCl
        go_wp2_with fail
        refine HCt.out.mono ?_
        rintro e w5 ⟨b', a', n', c', rfl, hi, hb, -⟩
        have HB5 := hb_trans' HB hb (Below.size HB)
        have HT5 : Hid (∀ W, Below w5.heap.size w5 W → Calls Try.prog 22 #[.pointer (some ⟨p, 0, none⟩)] W fun e w' => e = .returned (.int .i64 C.sum) ∧ W = w') := fun W hW => total_any (lo := w.heap.size) (hi := v1.heap.size) (o := some (l0, C)) ((HP.out.below hb).below hW)
        have hn' : n' = n0 + 1 := by rw [← hi.1]; exact HCl.out
        subst hn'
        have HI := Lib.hid hi
        obtain ⟨S, hS⟩ : ∃ S, C.sum = S := ⟨_, rfl⟩
        have HSS := Lib.hid hS
        rw [hS] at HT5 gt ⊢
        clear hi hb HP HB HCt hS
        go_wp2_with fail
        go_loop [11, 13] (fun s i => ∃ j : Nat, i = .int .i64 j ∧ j ≤ n0 + 1 ∧ s = .int .i64 (C.take j).sum) (fun _ i => n0 + 1 - (intOf i).toNat)
        case atStart => exact ⟨0, rfl, Nat.zero_le _, rfl⟩
        case round =>
          obtain ⟨j, rfl, hj, rfl⟩ := hrel
          by_cases hlt2 : j < n0 + 1
          · obtain ⟨off, ha, hc⟩ := HI.out.2.2.2 (by omega)
            have hcj := hc j hlt2
            have st := H.sum_take C j (by rw [HCl.out]; exact hlt2)
            have t1 := H.sum_take_le GG.out.pos (j + 1)
            have t2 := getD_nonneg GG.out.pos j
            have i0 : (0 : Int) ≤ j := by omega
            have i1 : (j : Int) < ((n0 + 1 : Nat) : Int) := by omega
            obtain ⟨y, hy⟩ : ∃ y, C.getD j 0 = y := ⟨_, rfl⟩
            obtain ⟨s, hs2⟩ : ∃ s, (C.take j).sum = s := ⟨_, rfl⟩
            rw [hy] at hcj st t2
            rw [hs2] at st
            rw [HSS.out] at t1
            have bd : 0 ≤ s + y ∧ s + y ≤ 9223372036854775807 := by omega
            rw [hs2]
            have ST := Lib.hid st
            subst ha
            clear st t1 hy hc hs2
            go_wp2
            go_round
            case rel => exact ⟨j + 1, by go_num, by omega, by rw [ST.out]⟩
            case measure => simp [intOf]; omega
          · obtain rfl : j = n0 + 1 := by omega
            rw [← HCl.out, List.take_length, HSS.out, HCl.out]
            go_wp2_with fail
            refine (HT5.out _ (Below.refl _ _)).mono ?_
            rintro e w6 ⟨rfl, rfl⟩
            go_wp2_with fail
            refine (works_any _).mono ?_
            rintro e w9 ⟨rfl, hb9⟩
            have B9 := hb_trans' HB5 hb9 (Below.size HB5)
            clear hb9
            go_wp2
            go_ret
            exact ⟨rfl, B9.out⟩
  · have HN : Hid (Calls Try.prog 18 #[.slice a0 n0 c0] w (GivesH w none 2)) := by
      have := HN.out; rwa [show new l0 = none by rw [new, if_neg hf], show newE l0 = 2 by rw [newE, if_neg hf]] at this
    clear hf w0 w1 q0 q1 hq
    go_enter Try.func5, Try.ntmps5
    go_wp2_with fail
    refine HN.out.mono ?_
    rintro e w1 ⟨v, rfl, hP, hb⟩
    have B1 := Lib.hid hb
    clear hP hb HN
    go_wp2_with fail
    refine (works_any _).mono ?_
    rintro e w9 ⟨rfl, hb9⟩
    have B9 := hb_trans' B1 hb9 (Below.size B1)
    clear hb9
    go_wp2
    go_ret
    exact ⟨rfl, B9.out⟩

set_option maxRecDepth 100000 in
theorem lifted (os : Os) (started : os.Started) (H : Type) (enc : TypeId × Value → H) :
    ReturnsInHanded {} Try.checked os 5 .any (Rows.histoTotalsSpec.pre6 enc Try.prog Try.f5 Rows.histoTotalsRow.domain false) (Rows.histoTotalsSpec.post enc Try.prog Try.f5 false true false false) := by
  refine returnsInHanded_of_change (C := Try.checked) own started (by kernel_rfl) Try.func5
    (ChangeSpec.witness6 (enc := enc) (C := Try.checked) false ⟨#[], #[.slice none 0 0, .slice none 0 0], []⟩ 8 (by kernel_rfl) (by kernel_rfl) (by kernel_rfl) (by kernel_rfl)) ?_
  intro W base args ds gs before hval0 hW hcnd _
  have hval : ∀ (j : Nat) t v, Try.f5.params[j]? = some t → args[j]? = some v → Value.okWide Try.prog W .any base t v := hval0
  have hW' := hW
  obtain ⟨p, q, hA0, hV, rfl, hfz, hnd⟩ := hW
  have hA : DataW.TrodAll enc Try.prog W 0 (fun _ => true) true Try.f5.params.toList args.toList ds p := hA0
  rw [Try.params5] at hA hval
  obtain ⟨v0, vs0, d0, ds0, p0, q0, hargs, rfl, rfl, h0, r0⟩ := trodAll_cons hA
  obtain ⟨v1, vs1, d1, ds1, p1, q1, rfl, rfl, rfl, h1, r1⟩ := trodAll_cons r0
  obtain ⟨rfl, rfl, rfl⟩ := trodAll_nil r1
  obtain rfl : args = #[v0, v1] := by cases args; simp_all
  obtain ⟨rfl, rfl⟩ := trodVars_none hV
  have k0 := h0
  have lt0 : ∀ x ∈ p0, x.block < W.heap.size := by obtain ⟨m, hm⟩ := k0; exact DataW.trod_lt m _ _ _ hm
  have k1 := h1
  have lt1 : ∀ x ∈ p1, x.block < W.heap.size := by obtain ⟨m, hm⟩ := k1; exact DataW.trod_lt m _ _ _ hm
  obtain ⟨a0, n0, c0, b0, l0, rfl, w0, x0, y0⟩ := opn_ints Try.underlying22 Try.underlying2 (by kernel_rfl) (hval 0 22 v0 rfl rfl) h0
  obtain ⟨a1, n1, c1, b1, f1, rfl, w1, x1, y1⟩ := opn_recs (kd := fun _ => .i64) Try.underlying23 Try.underlying40 (by kernel_rfl) (by kernel_rfl) (by decide) (by
    intro j f hj
    have hjl : j < 2 := by simpa using (Array.getElem?_eq_some_iff.1 hj).1
    match j, hjl, hj with
    | 0, _, hj => simp at hj; subst hj; exact Try.underlying2
    | 1, _, hj => simp at hj; subst hj; exact Try.underlying2
    ) (hval 1 23 v1 rfl rfl) h1
  clear hA0 hval0
  refine (walk a0 n0 c0 b0 l0 a1 n1 c1 b1 f1 W w0 ⟨x0, y0⟩ w1 ⟨x1, y1⟩).mono fun e W' ⟨he, bel⟩ => ?_
  subst he
  exact ⟨_, rfl, _, _, _, [], _, [], hW', trodAll_mk1 (shut_bool Try.underlying4 _), (trodAll_cons_mk (Below.trod laidOut (by kernel_rfl) (of_decide_eq_true (by kernel_rfl)) k0 bel lt0) (trodAll_cons_mk (Below.trod laidOut (by kernel_rfl) (of_decide_eq_true (by kernel_rfl)) k1 bel lt1) trodAll_mk0)), rfl, bel.frame _, fun h => by cases h⟩

theorem over : Rows.histoTotalsRow.holds Try.pinned (OpenSpec.ofChange Rows.histoTotalsSpec) :=
  OpenClaim.holds_of_wide 5 Try.f5 rfl rfl rfl rfl rfl rfl rfl ⟨rfl, rfl, rfl, rfl, rfl⟩ rfl rfl rfl rfl rfl (by kernel_rfl) Try.func5 (by kernel_rfl)
    (of_decide_eq_true (by kernel_rfl)) (by unfold Func.isWrapper; first | (rw [if_pos (by decide +kernel)]; kernel_rfl) | (rw [if_neg (by decide +kernel)]; exact ⟨rfl, rfl⟩))
    (fun os started H enc _ => lifted os started H enc)

/-- The statement. -/
theorem proved : Rows.HistoTotalsSaid :=
  over
#print axioms proved
end Go.Proofs.Ytpfdoifkimjlbaa.histoTotals
