/- THE STATEMENT CheckedRanks: comparing orders any three fractions with positive denominators, and reducing keeps what they are worth, in lowest terms. No condition. -/
import Derived.Test.YtgcflohlmbdoiaaRows
import Derived.WalkKit
import Derived.ProofKit
import Derived.OpenShut
import Derived.Below
import Derived.Carry
import Derived.ChangeOld
import Derived.Lib.SmallJoins
import Derived.Test.YtgcflohlmbdoiaaRT
namespace Go.Proofs.Ytgcflohlmbdoiaa.checkedRanks
open Go.ChangeShapes Go.WideShapes Go.ChangeAt Go.RowKit Go.Joins
open M
set_option linter.unusedSimpArgs false
set_option linter.unusedVariables false

theorem bd64 {a : Int} (h : (Lit.int .i64 a).wf = true) : -9223372036854775808 ≤ a ∧ a ≤ 9223372036854775807 := by
  simp [Lit.wf, IntKind.min, IntKind.max, IntKind.signed, IntKind.bits] at h
  omega
theorem twins_any (a b c d : Int) (w : World) (h0 : -9223372036854775808 ≤ a) (h1 : a ≤ 9223372036854775807) (h2 : 1 ≤ b) (h3 : b ≤ 9223372036854775807)
    (h4 : -9223372036854775808 ≤ c) (h5 : c ≤ 9223372036854775807) (h6 : 1 ≤ d) (h7 : d ≤ 9223372036854775807) :
    Calls Try.prog 28 #[.agg #[.int .i64 a, .int .i64 b], .agg #[.int .i64 c, .int .i64 d]] w fun e w' => e = .returned (.bool true) ∧ Below w.heap.size w w' := by
  obtain ⟨g, hg, hp, hq, cp⟩ := red_facts a b h2
  obtain ⟨k, hk, hr, hs, cr⟩ := red_facts c d h6
  have e1 := red_bounds hg hp hq h2 h0 h1 h3
  have e2 := red_bounds hk hr hs h6 h4 h5 h7
  have C1 := Lib.hid (fun w => reduce_ok a b w h0 h1 (by omega) h3 (by omega) (rfit_pos h2 h0 h1 h3))
  have C2 := Lib.hid (fun w => reduce_ok c d w h4 h5 (by omega) h7 (by omega) (rfit_pos h6 h4 h5 h7))
  have C3 := Lib.hid (fun w => compare_any a b c d w h0 h1 h2 h3 h4 h5 h6 h7)
  have C4 := Lib.hid (fun w => compare_any a b (rN a b) (rD a b) w h0 h1 h2 h3 e1.2.2.1 e1.2.2.2 e1.1 e1.2.1)
  have z : sn (a * rD a b - rN a b * b) = 0 := by rw [cmp_own hp hq]; rfl
  rw [z] at C4
  have iff := cmp_eq2 hg hk hp hq hr hs e1.1 e2.1 cp cr
  rw [← sn_zero_iff] at iff
  refine twins_go a b c d (rN a b) (rD a b) (rN c d) (rD c d) (sn (a * d - c * b)) (decide (sn (a * d - c * b) = 0)) w e1.1 e2.1 C1 C2 C3 C4 ?_ ?_ ?_
  · intro j hj h8 h9
    refine no_divisor cp hj h8 ?_
    rw [Int.tmod_eq_emod_of_nonneg (by omega)]; exact h9
  · rw [Bool.eq_iff_iff]; simp
  · show _ ↔ _
    rw [decide_eq_true_iff]; exact iff.symm

theorem own : ownKnob Try.prog.godebug = none := by kernel_rfl
theorem laidOut : laidOutB Try.prog = true := by kernel_rfl
theorem cells32 : Try.prog.cellsOf 32 = 2 := by kernel_rfl

set_option maxRecDepth 100000 in
set_option maxHeartbeats 8000000 in
theorem walk (a0 b0 : Int) (a1 b1 : Int) (a2 b2 : Int) (w : World) (w0 : (Lit.int .i64 a0).wf = true ∧ (Lit.int .i64 b0).wf = true) (w1 : (Lit.int .i64 a1).wf = true ∧ (Lit.int .i64 b1).wf = true) (w2 : (Lit.int .i64 a2).wf = true ∧ (Lit.int .i64 b2).wf = true) :
    Calls Try.prog 11 #[.agg #[.int .i64 a0, .int .i64 b0], .agg #[.int .i64 a1, .int .i64 b1], .agg #[.int .i64 a2, .int .i64 b2]] w fun e w' => e = .returned (.bool true) ∧ Below w.heap.size w w' := by

  have f0 := bd64 w0.1
  have f1 := bd64 w0.2
  have f2 := bd64 w1.1
  have f3 := bd64 w1.2
  have f4 := bd64 w2.1
  have f5 := bd64 w2.2
  by_cases hc : b0 < 1 ∨ b1 < 1 ∨ b2 < 1
  · have fin : ∀ (w9 : World) o o' o'', Below (((w.alloc o).alloc o').alloc o'').heap.size (((w.alloc o).alloc o').alloc o'') w9 → Below w.heap.size w w9 := fun w9 o o' o'' h => Below.trans ((((Below.refl _ _).alloc (Nat.le_refl _) _).alloc (by simp) _).alloc (by simp; omega) _) (h.mono (by simp; omega))
    have FIN := Lib.hid fin
    clear fin
    by_cases h0 : b0 < 1
    · clear hc
      go_enter Try.func11, Try.ntmps11
      go_wp2_with fail
      refine (works_any _).mono ?_
      rintro e v3 ⟨rfl, hb3⟩
      go_wp2
      go_ret
      exact ⟨rfl, FIN.out _ _ _ _ hb3⟩
    · by_cases h1 : b1 < 1
      · clear hc
        go_enter Try.func11, Try.ntmps11
        go_wp2_with fail
        refine (works_any _).mono ?_
        rintro e v3 ⟨rfl, hb3⟩
        go_wp2
        go_ret
        exact ⟨rfl, FIN.out _ _ _ _ hb3⟩
      · have h2 : b2 < 1 := by omega
        clear hc
        go_enter Try.func11, Try.ntmps11
        go_wp2_with fail
        refine (works_any _).mono ?_
        rintro e v3 ⟨rfl, hb3⟩
        go_wp2
        go_ret
        exact ⟨rfl, FIN.out _ _ _ _ hb3⟩
  · have g0 : 1 ≤ b0 := by omega
    have g1 : 1 ≤ b1 := by omega
    have g2 : 1 ≤ b2 := by omega
    clear hc
    obtain ⟨X, hX⟩ : ∃ X, sn (a0 * b1 - a1 * b0) = X := ⟨_, rfl⟩
    obtain ⟨Z, hZ⟩ : ∃ Z, sn (a1 * b2 - a2 * b1) = Z := ⟨_, rfl⟩
    obtain ⟨V, hV⟩ : ∃ V, sn (a0 * b2 - a2 * b0) = V := ⟨_, rfl⟩
    have hY : sn (a1 * b0 - a0 * b1) = -X := by rw [← hX, ← sn_neg', Int.neg_sub]
    have hXb := sn_bd (a0 * b1 - a1 * b0)
    have T1 : X ≤ 0 → Z ≤ 0 → V ≤ 0 := by
      intro x z
      rw [← hX, sn_le] at x
      rw [← hZ, sn_le] at z
      rw [← hV, sn_le]
      exact cmp_trans g0 g1 g2 x z
    have T2 : 0 ≤ X → 0 ≤ Z → 0 ≤ V := by
      intro x z
      rw [← hX, sn_ge] at x
      rw [← hZ, sn_ge] at z
      rw [← hV, sn_ge]
      exact cmp_trans' g0 g1 g2 x z
    have X1 : -1 ≤ X ∧ X ≤ 1 := by rw [← hX]; exact hXb
    have C1 := Lib.hid (fun w => compare_any a0 b0 a1 b1 w f0.1 f0.2 g0 f1.2 f2.1 f2.2 g1 f3.2)
    have C2 := Lib.hid (fun w => compare_any a1 b1 a0 b0 w f2.1 f2.2 g1 f3.2 f0.1 f0.2 g0 f1.2)
    have C3 := Lib.hid (fun w => compare_any a1 b1 a2 b2 w f2.1 f2.2 g1 f3.2 f4.1 f4.2 g2 f5.2)
    have C4 := Lib.hid (fun w => compare_any a0 b0 a2 b2 w f0.1 f0.2 g0 f1.2 f4.1 f4.2 g2 f5.2)
    rw [hX] at C1
    rw [hY] at C2
    rw [hZ] at C3
    rw [hV] at C4
    have D1 := Lib.hid (fun w => twins_any a0 b0 a1 b1 w f0.1 f0.2 g0 f1.2 f2.1 f2.2 g1 f3.2)
    have D2 := Lib.hid (fun w => twins_any a1 b1 a2 b2 w f2.1 f2.2 g1 f3.2 f4.1 f4.2 g2 f5.2)
    clear hX hY hZ hV hXb
    have X2 : X = -1 ∨ X = 0 ∨ X = 1 := by omega
    clear X1
    go_enter Try.func11, Try.ntmps11
    go_wp2_with fail
    refine (C1.out _).mono ?_
    rintro e v1 ⟨rfl, hb1⟩
    have k0 := ck_below hb1 (show (((w.alloc (.cells #[.int .i64 a0, .int .i64 b0] 32)).alloc (.cells #[.int .i64 a1, .int .i64 b1] 32)).alloc (.cells #[.int .i64 a2, .int .i64 b2] 32)).cell? ⟨w.heap.size, 0, none⟩ = some (.int .i64 a0) by simp [go_sem])
    have k1 := ck_below hb1 (show (((w.alloc (.cells #[.int .i64 a0, .int .i64 b0] 32)).alloc (.cells #[.int .i64 a1, .int .i64 b1] 32)).alloc (.cells #[.int .i64 a2, .int .i64 b2] 32)).cell? ⟨w.heap.size, 1, none⟩ = some (.int .i64 b0) by simp [go_sem])
    have k2 := ck_below hb1 (show (((w.alloc (.cells #[.int .i64 a0, .int .i64 b0] 32)).alloc (.cells #[.int .i64 a1, .int .i64 b1] 32)).alloc (.cells #[.int .i64 a2, .int .i64 b2] 32)).cell? ⟨w.heap.size + 1, 0, none⟩ = some (.int .i64 a1) by simp [go_sem])
    have k3 := ck_below hb1 (show (((w.alloc (.cells #[.int .i64 a0, .int .i64 b0] 32)).alloc (.cells #[.int .i64 a1, .int .i64 b1] 32)).alloc (.cells #[.int .i64 a2, .int .i64 b2] 32)).cell? ⟨w.heap.size + 1, 1, none⟩ = some (.int .i64 b1) by simp [go_sem])
    have k4 := ck_below hb1 (show (((w.alloc (.cells #[.int .i64 a0, .int .i64 b0] 32)).alloc (.cells #[.int .i64 a1, .int .i64 b1] 32)).alloc (.cells #[.int .i64 a2, .int .i64 b2] 32)).cell? ⟨w.heap.size + 2, 0, none⟩ = some (.int .i64 a2) by simp [go_sem])
    have k5 := ck_below hb1 (show (((w.alloc (.cells #[.int .i64 a0, .int .i64 b0] 32)).alloc (.cells #[.int .i64 a1, .int .i64 b1] 32)).alloc (.cells #[.int .i64 a2, .int .i64 b2] 32)).cell? ⟨w.heap.size + 2, 1, none⟩ = some (.int .i64 b2) by simp [go_sem])
    have s1 := hb1.size
    simp at s1
    have y0 : w.heap.size < v1.heap.size := by omega
    have y1 : w.heap.size + 1 < v1.heap.size := by omega
    have y2 : w.heap.size + 2 < v1.heap.size := by omega
    have H1 : Hid (Below w.heap.size w v1) := hb_trans (hb_alloc (hb_alloc (hb_alloc (hb_refl _ _) (Nat.le_refl _) _) (by simp) _) (by simp; omega) _) hb1 (by simp; omega)
    clear hb1
    go_wp2_with fail
    refine (C2.out _).mono ?_
    rintro e v2 ⟨rfl, hb2⟩
    have s2 := hb2.size
    have n20 := ck_below hb2 k0
    have n21 := ck_below hb2 k1
    have n22 := ck_below hb2 k2
    have n23 := ck_below hb2 k3
    have n24 := ck_below hb2 k4
    have n25 := ck_below hb2 k5
    have y20 : w.heap.size < v2.heap.size := by omega
    have y21 : w.heap.size + 1 < v2.heap.size := by omega
    have y22 : w.heap.size + 2 < v2.heap.size := by omega
    have H2 : Hid (Below w.heap.size w v2) := hb_trans H1 hb2 (Below.size H1)
    clear hb2 H1 k0 k1 k2 k3 k4 k5
    go_wp2_with fail
    refine (C3.out _).mono ?_
    rintro e v3 ⟨rfl, hb3⟩
    have s3 := hb3.size
    have n30 := ck_below hb3 n20
    have n31 := ck_below hb3 n21
    have n32 := ck_below hb3 n22
    have n33 := ck_below hb3 n23
    have n34 := ck_below hb3 n24
    have n35 := ck_below hb3 n25
    have y30 : w.heap.size < v3.heap.size := by omega
    have y31 : w.heap.size + 1 < v3.heap.size := by omega
    have y32 : w.heap.size + 2 < v3.heap.size := by omega
    have H3 : Hid (Below w.heap.size w v3) := hb_trans H2 hb3 (Below.size H2)
    clear hb3 H2 n20 n21 n22 n23 n24 n25
    go_wp2_with fail
    refine (C4.out _).mono ?_
    rintro e v4 ⟨rfl, hb4⟩
    have s4 := hb4.size
    have n40 := ck_below hb4 n30
    have n41 := ck_below hb4 n31
    have n42 := ck_below hb4 n32
    have n43 := ck_below hb4 n33
    have n44 := ck_below hb4 n34
    have n45 := ck_below hb4 n35
    have y40 : w.heap.size < v4.heap.size := by omega
    have y41 : w.heap.size + 1 < v4.heap.size := by omega
    have y42 : w.heap.size + 2 < v4.heap.size := by omega
    have H4 : Hid (Below w.heap.size w v4) := hb_trans H3 hb4 (Below.size H3)
    clear hb4 H3 n30 n31 n32 n33 n34 n35
    have xn : (X != - -X) = false := by simp
    have F1 : ¬ (X ≤ 0 ∧ Z ≤ 0 ∧ 0 < V) := fun h => by have := T1 h.1 h.2.1; omega
    have F2 : ¬ (0 ≤ X ∧ 0 ≤ Z ∧ V < 0) := fun h => by have := T2 h.1 h.2.1; omega
    clear T1 T2
    rcases X2 with rfl | rfl | rfl
    all_goals
      rcases Int.lt_trichotomy Z 0 with hz | rfl | hz
    all_goals
      rcases Int.lt_trichotomy V 0 with hv | rfl | hv
    all_goals try (exfalso; omega)
    all_goals
      clear F1 F2
      go_wp2_with fail
      refine (D1.out _).mono ?_
      rintro e v5 ⟨rfl, hb5⟩
      have s5 := hb5.size
      have n50 := ck_below hb5 n40
      have n51 := ck_below hb5 n41
      have n52 := ck_below hb5 n42
      have n53 := ck_below hb5 n43
      have n54 := ck_below hb5 n44
      have n55 := ck_below hb5 n45
      have y50 : w.heap.size < v5.heap.size := by omega
      have y51 : w.heap.size + 1 < v5.heap.size := by omega
      have y52 : w.heap.size + 2 < v5.heap.size := by omega
      have H5 : Hid (Below w.heap.size w v5) := hb_trans H4 hb5 (Below.size H4)
      clear hb5 H4 n40 n41 n42 n43 n44 n45
      go_wp2_with fail
      refine (D2.out _).mono ?_
      rintro e v6 ⟨rfl, hb6⟩
      have H6 : Hid (Below w.heap.size w v6) := hb_trans H5 hb6 (Below.size H5)
      clear hb6 H5
      go_wp2_with fail
      refine (works_any _).mono ?_
      rintro e v7 ⟨rfl, hb7⟩
      have H7 : Hid (Below w.heap.size w v7) := hb_trans H6 hb7 (Below.size H6)
      clear hb7 H6
      go_wp2
      go_ret
      exact ⟨rfl, H7.out⟩

set_option maxRecDepth 100000 in
theorem lifted (os : Os) (started : os.Started) (H : Type) (enc : TypeId × Value → H) :
    ReturnsInHanded {} Try.checked os 11 .any (Rows.checkedRanksSpec.pre6 enc Try.prog Try.f11 Rows.checkedRanksRow.domain false) (Rows.checkedRanksSpec.post enc Try.prog Try.f11 false true false false) := by
  refine returnsInHanded_of_change (C := Try.checked) own started (by kernel_rfl) Try.func11
    (ChangeSpec.witness6 (enc := enc) (C := Try.checked) false ⟨#[], #[.agg #[.int .i64 0, .int .i64 0], .agg #[.int .i64 0, .int .i64 0], .agg #[.int .i64 0, .int .i64 0]], []⟩ 8 (by kernel_rfl) (by kernel_rfl) (by kernel_rfl) (by kernel_rfl)) ?_
  intro W base args ds gs before hval0 hW hcnd _
  have hval : ∀ (j : Nat) t v, Try.f11.params[j]? = some t → args[j]? = some v → Value.okWide Try.prog W .any base t v := hval0
  have hW' := hW
  obtain ⟨p, q, hA0, hV, rfl, hfz, hnd⟩ := hW
  have hA : DataW.TrodAll enc Try.prog W 0 (fun _ => true) true Try.f11.params.toList args.toList ds p := hA0
  rw [Try.params11] at hA hval
  obtain ⟨v0, vs0, d0, ds0, p0, q0, hargs, rfl, rfl, h0, r0⟩ := trodAll_cons hA
  obtain ⟨v1, vs1, d1, ds1, p1, q1, rfl, rfl, rfl, h1, r1⟩ := trodAll_cons r0
  obtain ⟨v2, vs2, d2, ds2, p2, q2, rfl, rfl, rfl, h2, r2⟩ := trodAll_cons r1
  obtain ⟨rfl, rfl, rfl⟩ := trodAll_nil r2
  obtain rfl : args = #[v0, v1, v2] := by cases args; simp_all
  obtain ⟨rfl, rfl⟩ := trodVars_none hV
  have k0 := h0
  have lt0 : ∀ x ∈ p0, x.block < W.heap.size := by obtain ⟨m, hm⟩ := k0; exact DataW.trod_lt m _ _ _ hm
  have k1 := h1
  have lt1 : ∀ x ∈ p1, x.block < W.heap.size := by obtain ⟨m, hm⟩ := k1; exact DataW.trod_lt m _ _ _ hm
  have k2 := h2
  have lt2 : ∀ x ∈ p2, x.block < W.heap.size := by obtain ⟨m, hm⟩ := k2; exact DataW.trod_lt m _ _ _ hm
  obtain ⟨a0, b0, rfl, w0⟩ : ∃ a b : Int, v0 = .agg #[.int .i64 a, .int .i64 b] ∧ (Lit.int .i64 a).wf = true ∧ (Lit.int .i64 b).wf = true := by
    obtain ⟨e0, e1, y0, y1, m, hv, -, -, hy0, hy1⟩ := open_agg2 Try.underlying32 (by kernel_rfl) cells32 (hval 0 32 v0 rfl rfl) h0
    obtain ⟨a, f0, -, wa⟩ := DataW.trod_int Try.underlying2 hy0
    obtain ⟨b, f1, -, wb⟩ := DataW.trod_int Try.underlying2 hy1
    simp at f0 f1
    subst f0 f1
    exact ⟨a, b, hv, wa, wb⟩
  obtain ⟨a1, b1, rfl, w1⟩ : ∃ a b : Int, v1 = .agg #[.int .i64 a, .int .i64 b] ∧ (Lit.int .i64 a).wf = true ∧ (Lit.int .i64 b).wf = true := by
    obtain ⟨e0, e1, y0, y1, m, hv, -, -, hy0, hy1⟩ := open_agg2 Try.underlying32 (by kernel_rfl) cells32 (hval 1 32 v1 rfl rfl) h1
    obtain ⟨a, f0, -, wa⟩ := DataW.trod_int Try.underlying2 hy0
    obtain ⟨b, f1, -, wb⟩ := DataW.trod_int Try.underlying2 hy1
    simp at f0 f1
    subst f0 f1
    exact ⟨a, b, hv, wa, wb⟩
  obtain ⟨a2, b2, rfl, w2⟩ : ∃ a b : Int, v2 = .agg #[.int .i64 a, .int .i64 b] ∧ (Lit.int .i64 a).wf = true ∧ (Lit.int .i64 b).wf = true := by
    obtain ⟨e0, e1, y0, y1, m, hv, -, -, hy0, hy1⟩ := open_agg2 Try.underlying32 (by kernel_rfl) cells32 (hval 2 32 v2 rfl rfl) h2
    obtain ⟨a, f0, -, wa⟩ := DataW.trod_int Try.underlying2 hy0
    obtain ⟨b, f1, -, wb⟩ := DataW.trod_int Try.underlying2 hy1
    simp at f0 f1
    subst f0 f1
    exact ⟨a, b, hv, wa, wb⟩
  clear hA0 hval0
  refine (walk a0 b0 a1 b1 a2 b2 W w0 w1 w2).mono fun e W' ⟨he, bel⟩ => ?_
  subst he
  exact ⟨_, rfl, _, _, _, [], _, [], hW', trodAll_mk1 (shut_bool Try.underlying4 _), (trodAll_cons_mk (Below.trod laidOut (by kernel_rfl) (of_decide_eq_true (by kernel_rfl)) k0 bel lt0) (trodAll_cons_mk (Below.trod laidOut (by kernel_rfl) (of_decide_eq_true (by kernel_rfl)) k1 bel lt1) (trodAll_cons_mk (Below.trod laidOut (by kernel_rfl) (of_decide_eq_true (by kernel_rfl)) k2 bel lt2) trodAll_mk0))), rfl, bel.frame _, fun h => by cases h⟩

theorem over : Rows.checkedRanksRow.holds Try.pinned (OpenSpec.ofChange Rows.checkedRanksSpec) :=
  OpenClaim.holds_of_wide 11 Try.f11 rfl rfl rfl rfl rfl rfl rfl ⟨rfl, rfl, rfl, rfl, rfl⟩ rfl rfl rfl rfl rfl (by kernel_rfl) Try.func11 (by kernel_rfl)
    (of_decide_eq_true (by kernel_rfl)) (by unfold Func.isWrapper; first | (rw [if_pos (by decide +kernel)]; kernel_rfl) | (rw [if_neg (by decide +kernel)]; exact ⟨rfl, rfl⟩))
    (fun os started H enc _ => lifted os started H enc)

/-- The statement. -/
theorem proved : Rows.CheckedRanksSaid :=
  over
#print axioms proved
end Go.Proofs.Ytgcflohlmbdoiaa.checkedRanks
