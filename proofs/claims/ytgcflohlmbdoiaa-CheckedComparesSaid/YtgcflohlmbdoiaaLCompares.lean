/- THE STATEMENT CheckedCompares: for any two fractions the order of the two is that of the document; the arguments stay as they were. No condition. -/
import Derived.Test.YtgcflohlmbdoiaaRows
import Derived.WalkKit
import Derived.ProofKit
import Derived.OpenShut
import Derived.Below
import Derived.Carry
import Derived.ChangeOld
import Derived.Lib.SmallJoins
import Derived.Test.YtgcflohlmbdoiaaLW
namespace Go.Proofs.Ytgcflohlmbdoiaa.checkedCompares
open Go.ChangeShapes Go.WideShapes Go.ChangeAt Go.RowKit Go.Joins
open M
set_option linter.unusedSimpArgs false
set_option linter.unusedVariables false

theorem bd64 {a : Int} (h : (Lit.int .i64 a).wf = true) : -9223372036854775808 ≤ a ∧ a ≤ 9223372036854775807 := by
  simp [Lit.wf, IntKind.min, IntKind.max, IntKind.signed, IntKind.bits] at h
  omega

theorem own : ownKnob Try.prog.godebug = none := by kernel_rfl
theorem laidOut : laidOutB Try.prog = true := by kernel_rfl
theorem cells32 : Try.prog.cellsOf 32 = 2 := by kernel_rfl

theorem walk (a0 b0 : Int) (a1 b1 : Int) (w : World) (w0 : (Lit.int .i64 a0).wf = true ∧ (Lit.int .i64 b0).wf = true) (w1 : (Lit.int .i64 a1).wf = true ∧ (Lit.int .i64 b1).wf = true) :
    Calls Try.prog 10 #[.agg #[.int .i64 a0, .int .i64 b0], .agg #[.int .i64 a1, .int .i64 b1]] w fun e w' => e = .returned (.bool true) ∧ Below w.heap.size w w' := by
  have f0 := bd64 w0.1
  have f1 := bd64 w0.2
  have f2 := bd64 w1.1
  have f3 := bd64 w1.2
  by_cases hc : b0 < 1 ∨ b1 < 1
  · have HC := Lib.hid hc
    clear hc
    go_enter Try.func10, Try.ntmps10
    go_wp2_with fail
    refine (compare_arg a0 b0 a1 b1 _ HC.out).mono ?_
    rintro e v1 ⟨rfl, hb1⟩
    have s1 := hb1.size
    simp at s1
    have k0 := ck_below hb1 (show ((w.alloc (.cells #[.int .i64 a0, .int .i64 b0] 32)).alloc (.cells #[.int .i64 a1, .int .i64 b1] 32)).cell? ⟨w.heap.size, 0, none⟩ = some (.int .i64 a0) by simp [go_sem])
    have k1 := ck_below hb1 (show ((w.alloc (.cells #[.int .i64 a0, .int .i64 b0] 32)).alloc (.cells #[.int .i64 a1, .int .i64 b1] 32)).cell? ⟨w.heap.size, 1, none⟩ = some (.int .i64 b0) by simp [go_sem])
    have k2 := ck_below hb1 (show ((w.alloc (.cells #[.int .i64 a0, .int .i64 b0] 32)).alloc (.cells #[.int .i64 a1, .int .i64 b1] 32)).cell? ⟨w.heap.size + 1, 0, none⟩ = some (.int .i64 a1) by simp [go_sem])
    have k3 := ck_below hb1 (show ((w.alloc (.cells #[.int .i64 a0, .int .i64 b0] 32)).alloc (.cells #[.int .i64 a1, .int .i64 b1] 32)).cell? ⟨w.heap.size + 1, 1, none⟩ = some (.int .i64 b1) by simp [go_sem])
    have y0 : w.heap.size < v1.heap.size := by omega
    have y1 : w.heap.size + 1 < v1.heap.size := by omega
    have H1 : Hid (Below w.heap.size w v1) := hb_trans (hb_alloc (hb_alloc (hb_refl _ _) (Nat.le_refl _) _) (by simp) _) hb1 (by simp; omega)
    clear hb1
    go_wp2_with fail
    refine (rcompare_arg a0 b0 a1 b1 _ HC.out).mono ?_
    rintro e v2 ⟨rfl, hb2⟩
    have H2 : Hid (Below w.heap.size w v2) := hb_trans H1 hb2 (Below.size H1)
    clear hb2 H1
    go_wp2_with fail
    refine (works_any _).mono ?_
    rintro e v3 ⟨rfl, hb3⟩
    have H3 : Hid (Below w.heap.size w v3) := hb_trans H2 hb3 (Below.size H2)
    clear hb3 H2
    go_wp2
    go_ret
    exact ⟨rfl, H3.out⟩
  · obtain ⟨s, hs⟩ : ∃ s, sn (a0 * b1 - a1 * b0) = s := ⟨_, rfl⟩
    have C1 := Lib.hid (fun w => compare_any a0 b0 a1 b1 w f0.1 f0.2 (by omega) f1.2 f2.1 f2.2 (by omega) f3.2)
    have C2 := Lib.hid (fun w => rcompare_any a0 b0 a1 b1 w f0.1 f0.2 (by omega) f1.2 f2.1 f2.2 (by omega) f3.2)
    rw [hs] at C1 C2
    clear hs hc
    go_enter Try.func10, Try.ntmps10
    go_wp2_with fail
    refine (C1.out _).mono ?_
    rintro e v1 ⟨rfl, hb1⟩
    have s1 := hb1.size
    simp at s1
    have k0 := ck_below hb1 (show ((w.alloc (.cells #[.int .i64 a0, .int .i64 b0] 32)).alloc (.cells #[.int .i64 a1, .int .i64 b1] 32)).cell? ⟨w.heap.size, 0, none⟩ = some (.int .i64 a0) by simp [go_sem])
    have k1 := ck_below hb1 (show ((w.alloc (.cells #[.int .i64 a0, .int .i64 b0] 32)).alloc (.cells #[.int .i64 a1, .int .i64 b1] 32)).cell? ⟨w.heap.size, 1, none⟩ = some (.int .i64 b0) by simp [go_sem])
    have k2 := ck_below hb1 (show ((w.alloc (.cells #[.int .i64 a0, .int .i64 b0] 32)).alloc (.cells #[.int .i64 a1, .int .i64 b1] 32)).cell? ⟨w.heap.size + 1, 0, none⟩ = some (.int .i64 a1) by simp [go_sem])
    have k3 := ck_below hb1 (show ((w.alloc (.cells #[.int .i64 a0, .int .i64 b0] 32)).alloc (.cells #[.int .i64 a1, .int .i64 b1] 32)).cell? ⟨w.heap.size + 1, 1, none⟩ = some (.int .i64 b1) by simp [go_sem])
    have y0 : w.heap.size < v1.heap.size := by omega
    have y1 : w.heap.size + 1 < v1.heap.size := by omega
    have H1 : Hid (Below w.heap.size w v1) := hb_trans (hb_alloc (hb_alloc (hb_refl _ _) (Nat.le_refl _) _) (by simp) _) hb1 (by simp; omega)
    clear hb1
    go_wp2_with fail
    refine (C2.out _).mono ?_
    rintro e v2 ⟨rfl, hb2⟩
    have H2 : Hid (Below w.heap.size w v2) := hb_trans H1 hb2 (Below.size H1)
    clear hb2 H1
    go_wp2_with fail
    refine (works_any _).mono ?_
    rintro e v3 ⟨rfl, hb3⟩
    have H3 : Hid (Below w.heap.size w v3) := hb_trans H2 hb3 (Below.size H2)
    clear hb3 H2
    go_wp2
    go_ret
    exact ⟨rfl, H3.out⟩

set_option maxRecDepth 100000 in
theorem lifted (os : Os) (started : os.Started) (H : Type) (enc : TypeId × Value → H) :
    ReturnsInHanded {} Try.checked os 10 .any (Rows.checkedComparesSpec.pre6 enc Try.prog Try.f10 Rows.checkedComparesRow.domain false) (Rows.checkedComparesSpec.post enc Try.prog Try.f10 false true false false) := by
  refine returnsInHanded_of_change (C := Try.checked) own started (by kernel_rfl) Try.func10
    (ChangeSpec.witness6 (enc := enc) (C := Try.checked) false ⟨#[], #[.agg #[.int .i64 0, .int .i64 0], .agg #[.int .i64 0, .int .i64 0]], []⟩ 8 (by kernel_rfl) (by kernel_rfl) (by kernel_rfl) (by kernel_rfl)) ?_
  intro W base args ds gs before hval0 hW hcnd _
  have hval : ∀ (j : Nat) t v, Try.f10.params[j]? = some t → args[j]? = some v → Value.okWide Try.prog W .any base t v := hval0
  have hW' := hW
  obtain ⟨p, q, hA0, hV, rfl, hfz, hnd⟩ := hW
  have hA : DataW.TrodAll enc Try.prog W 0 (fun _ => true) true Try.f10.params.toList args.toList ds p := hA0
  rw [Try.params10] at hA hval
  obtain ⟨v0, vs0, d0, ds0, p0, q0, hargs, rfl, rfl, h0, r0⟩ := trodAll_cons hA
  obtain ⟨v1, vs1, d1, ds1, p1, q1, rfl, rfl, rfl, h1, r1⟩ := trodAll_cons r0
  obtain ⟨rfl, rfl, rfl⟩ := trodAll_nil r1
  obtain rfl : args = #[v0, v1] := by cases args; simp_all
  obtain ⟨rfl, rfl⟩ := trodVars_none hV
  have k0 := h0
  have lt0 : ∀ x ∈ p0, x.block < W.heap.size := by obtain ⟨m, hm⟩ := k0; exact DataW.trod_lt m _ _ _ hm
  have k1 := h1
  have lt1 : ∀ x ∈ p1, x.block < W.heap.size := by obtain ⟨m, hm⟩ := k1; exact DataW.trod_lt m _ _ _ hm
  obtain ⟨a0, b0, rfl, w0⟩ : ∃ a b : Int, v0 = .agg #[.int .i64 a, .int .i64 b] ∧ (Lit.int .i64 a).wf = true ∧ (Lit.int .i64 b).wf = true := by
    obtain ⟨e0, e1, y0, y1, m, hv, -, -, hy0, hy1⟩ := open_agg2 Try.underlying32 (by kernel_rfl) cells32 (hval 0 32 v0 rfl rfl) h0
    obtain ⟨a, f0, -, wa⟩ := DataW.trod_int Try.underlying2 hy0
    obtain ⟨b, f1, -, wb⟩ := DataW.trod_int Try.underlying2 hy1
    simp at f0 f1
    subst f0 f1
    exact ⟨a, b, hv, wa, wb⟩
  obtain ⟨a1, b1, rfl, w1⟩ : ∃ a b : Int, v1 = .agg #[.int .i64 a, .int .i64 b] ∧ (Lit.int .i64 a).wf = true ∧ (Lit.int .i64 b).wf = true := by
    obtain ⟨e0, e1, y0, y1, m, hv, -, -, hy0, hy1⟩ := open_agg2 Try.underlying32 (by kernel_rfl) cells32 (hval 1 32 v1 rfl rfl) h1
    obtain ⟨a, f0, -, wa⟩ := DataW.trod_int Try.underlying2 hy0
    obtain ⟨b, f1, -, wb⟩ := DataW.trod_int Try.underlying2 hy1
    simp at f0 f1
    subst f0 f1
    exact ⟨a, b, hv, wa, wb⟩
  clear hA0 hval0
  refine (walk a0 b0 a1 b1 W w0 w1).mono fun e W' ⟨he, bel⟩ => ?_
  subst he
  exact ⟨_, rfl, _, _, _, [], _, [], hW', trodAll_mk1 (shut_bool Try.underlying4 _), (trodAll_cons_mk (Below.trod laidOut (by kernel_rfl) (of_decide_eq_true (by kernel_rfl)) k0 bel lt0) (trodAll_cons_mk (Below.trod laidOut (by kernel_rfl) (of_decide_eq_true (by kernel_rfl)) k1 bel lt1) trodAll_mk0)), rfl, bel.frame _, fun h => by cases h⟩

theorem over : Rows.checkedComparesRow.holds Try.pinned (OpenSpec.ofChange Rows.checkedComparesSpec) :=
  OpenClaim.holds_of_wide 10 Try.f10 rfl rfl rfl rfl rfl rfl rfl ⟨rfl, rfl, rfl, rfl, rfl⟩ rfl rfl rfl rfl rfl (by kernel_rfl) Try.func10 (by kernel_rfl)
    (of_decide_eq_true (by kernel_rfl)) (by unfold Func.isWrapper; first | (rw [if_pos (by decide +kernel)]; kernel_rfl) | (rw [if_neg (by decide +kernel)]; exact ⟨rfl, rfl⟩))
    (fun os started H enc _ => lifted os started H enc)

/-- The statement. -/
theorem proved : Rows.CheckedComparesSaid :=
  over
#print axioms proved
end Go.Proofs.Ytgcflohlmbdoiaa.checkedCompares
