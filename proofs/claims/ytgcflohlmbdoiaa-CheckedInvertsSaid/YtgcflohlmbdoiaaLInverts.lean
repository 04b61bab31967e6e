/- THE STATEMENT CheckedInverts: for any two numbers a difference takes back a sum and a quotient a product, where these fit; the arguments stay as they were. No condition. -/
import Derived.Test.YtgcflohlmbdoiaaRows
import Derived.WalkKit
import Derived.ProofKit
import Derived.OpenShut
import Derived.Below
import Derived.Carry
import Derived.ChangeOld
import Derived.Lib.SmallJoins
import Derived.Test.YtgcflohlmbdoiaaLW
namespace Go.Proofs.Ytgcflohlmbdoiaa.checkedInverts
open Go.ChangeShapes Go.WideShapes Go.ChangeAt Go.RowKit Go.Joins
open M
set_option linter.unusedSimpArgs false
set_option linter.unusedVariables false

theorem bd64 {a : Int} (h : (Lit.int .i64 a).wf = true) : -9223372036854775808 ≤ a ∧ a ≤ 9223372036854775807 := by
  simp [Lit.wf, IntKind.min, IntKind.max, IntKind.signed, IntKind.bits] at h
  omega

theorem own : ownKnob Try.prog.godebug = none := by kernel_rfl
theorem laidOut : laidOutB Try.prog = true := by kernel_rfl


theorem inv_div {a b : Int} (h : 1 ≤ b) : a * b * 1 / b = a := by rw [Int.mul_one]; exact Int.mul_ediv_cancel _ (by omega)

theorem walk (a0 : Int) (a1 : Int) (w : World) (w0 : (Lit.int .i64 a0).wf = true) (w1 : (Lit.int .i64 a1).wf = true) :
    Calls Try.prog 9 #[.int .i64 a0, .int .i64 a1] w fun e w' => e = .returned (.bool true) ∧ Below w.heap.size w w' := by
  have b0 := bd64 w0
  have b1 := bd64 w1
  by_cases hA : -9223372036854775808 ≤ a0 + a1 ∧ a0 + a1 ≤ 9223372036854775807
  · have ca := fun w => add_any a0 a1 w b0.1 b0.2 b1.1 b1.2
    have cs := fun w => sub_any (a0 + a1) a1 w hA.1 hA.2 b1.1 b1.2
    rw [Int.add_sub_cancel, vo_in b0.1 b0.2, eo_in b0.1 b0.2] at cs
    rw [vo_in hA.1 hA.2, eo_in hA.1 hA.2] at ca
    obtain ⟨c, hc⟩ : ∃ c, a0 + a1 = c := ⟨_, rfl⟩
    rw [hc] at ca cs
    have CA := Lib.hid ca
    have CS := Lib.hid cs
    clear ca cs hc hA
    by_cases hM : -9223372036854775808 ≤ a0 * a1 ∧ a0 * a1 ≤ 9223372036854775807
    · have cm := fun w => mul_any a0 a1 w b0.1 b0.2 b1.1 b1.2
      rw [vo_in hM.1 hM.2, eo_in hM.1 hM.2] at cm
      by_cases hb : 1 ≤ a1
      · have cd := fun w => muldiv_any (a0 * a1) 1 a1 w hM.1 hM.2 (by decide) (by decide) hb b1.2
        rw [inv_div hb, vo_in b0.1 b0.2, eo_in b0.1 b0.2] at cd
        obtain ⟨p, hp⟩ : ∃ p, a0 * a1 = p := ⟨_, rfl⟩
        rw [hp] at cm cd
        have CM := Lib.hid cm
        have CD := Lib.hid cd
        clear cm cd hp hM
        go_enter Try.func9, Try.ntmps9
        go_wp2_with fail
        refine (CA.out _).mono ?_
        rintro e w' ⟨rfl, rfl⟩
        go_wp2_with fail
        refine (CS.out _).mono ?_
        rintro e w' ⟨rfl, rfl⟩
        go_wp2_with fail
        refine (CM.out _).mono ?_
        rintro e v1 ⟨rfl, hb1⟩
        have H1 : Hid (Below w.heap.size w v1) := hb1
        clear hb1
        go_wp2_with fail
        refine (CD.out _).mono ?_
        rintro e v2 ⟨rfl, hb2⟩
        have H2 : Hid (Below w.heap.size w v2) := hb_trans H1 hb2 (Below.size H1)
        clear hb2 H1
        go_wp2_with fail
        refine (works_any _).mono ?_
        rintro e v3 ⟨rfl, hb3⟩
        have H3 : Hid (Below w.heap.size w v3) := hb_trans H2 hb3 (Below.size H2)
        clear hb3 H2
        go_wp2
        go_ret
        exact ⟨rfl, H3.out⟩
      · obtain ⟨p, hp⟩ : ∃ p, a0 * a1 = p := ⟨_, rfl⟩
        rw [hp] at cm
        have CM := Lib.hid cm
        clear cm hp hM
        go_enter Try.func9, Try.ntmps9
        go_wp2_with fail
        refine (CA.out _).mono ?_
        rintro e w' ⟨rfl, rfl⟩
        go_wp2_with fail
        refine (CS.out _).mono ?_
        rintro e w' ⟨rfl, rfl⟩
        go_wp2_with fail
        refine (CM.out _).mono ?_
        rintro e v1 ⟨rfl, hb1⟩
        have H1 : Hid (Below w.heap.size w v1) := hb1
        clear hb1
        go_wp2_with fail
        refine (works_any _).mono ?_
        rintro e v2 ⟨rfl, hb2⟩
        have H2 : Hid (Below w.heap.size w v2) := hb_trans H1 hb2 (Below.size H1)
        clear hb2 H1
        go_wp2
        go_ret
        exact ⟨rfl, H2.out⟩
    · have cm := fun w => mul_any a0 a1 w b0.1 b0.2 b1.1 b1.2
      rw [vo_out (by omega), eo_out (by omega)] at cm
      have CM := Lib.hid cm
      clear cm hM
      go_enter Try.func9, Try.ntmps9
      go_wp2_with fail
      refine (CA.out _).mono ?_
      rintro e w' ⟨rfl, rfl⟩
      go_wp2_with fail
      refine (CS.out _).mono ?_
      rintro e w' ⟨rfl, rfl⟩
      go_wp2_with fail
      refine (CM.out _).mono ?_
      rintro e v1 ⟨rfl, hb1⟩
      have H1 : Hid (Below w.heap.size w v1) := hb1
      clear hb1
      go_wp2_with fail
      refine (works_any _).mono ?_
      rintro e v2 ⟨rfl, hb2⟩
      have H2 : Hid (Below w.heap.size w v2) := hb_trans H1 hb2 (Below.size H1)
      clear hb2 H1
      go_wp2
      go_ret
      exact ⟨rfl, H2.out⟩
  · have ca := fun w => add_any a0 a1 w b0.1 b0.2 b1.1 b1.2
    rw [vo_out (by omega), eo_out (by omega)] at ca
    have CA := Lib.hid ca
    clear ca hA
    by_cases hM : -9223372036854775808 ≤ a0 * a1 ∧ a0 * a1 ≤ 9223372036854775807
    · have cm := fun w => mul_any a0 a1 w b0.1 b0.2 b1.1 b1.2
      rw [vo_in hM.1 hM.2, eo_in hM.1 hM.2] at cm
      by_cases hb : 1 ≤ a1
      · have cd := fun w => muldiv_any (a0 * a1) 1 a1 w hM.1 hM.2 (by decide) (by decide) hb b1.2
        rw [inv_div hb, vo_in b0.1 b0.2, eo_in b0.1 b0.2] at cd
        obtain ⟨p, hp⟩ : ∃ p, a0 * a1 = p := ⟨_, rfl⟩
        rw [hp] at cm cd
        have CM := Lib.hid cm
        have CD := Lib.hid cd
        clear cm cd hp hM
        go_enter Try.func9, Try.ntmps9
        go_wp2_with fail
        refine (CA.out _).mono ?_
        rintro e w' ⟨rfl, rfl⟩
        go_wp2_with fail
        refine (CM.out _).mono ?_
        rintro e v1 ⟨rfl, hb1⟩
        have H1 : Hid (Below w.heap.size w v1) := hb1
        clear hb1
        go_wp2_with fail
        refine (CD.out _).mono ?_
        rintro e v2 ⟨rfl, hb2⟩
        have H2 : Hid (Below w.heap.size w v2) := hb_trans H1 hb2 (Below.size H1)
        clear hb2 H1
        go_wp2_with fail
        refine (works_any _).mono ?_
        rintro e v3 ⟨rfl, hb3⟩
        have H3 : Hid (Below w.heap.size w v3) := hb_trans H2 hb3 (Below.size H2)
        clear hb3 H2
        go_wp2
        go_ret
        exact ⟨rfl, H3.out⟩
      · obtain ⟨p, hp⟩ : ∃ p, a0 * a1 = p := ⟨_, rfl⟩
        rw [hp] at cm
        have CM := Lib.hid cm
        clear cm hp hM
        go_enter Try.func9, Try.ntmps9
        go_wp2_with fail
        refine (CA.out _).mono ?_
        rintro e w' ⟨rfl, rfl⟩
        go_wp2_with fail
        refine (CM.out _).mono ?_
        rintro e v1 ⟨rfl, hb1⟩
        have H1 : Hid (Below w.heap.size w v1) := hb1
        clear hb1
        go_wp2_with fail
        refine (works_any _).mono ?_
        rintro e v2 ⟨rfl, hb2⟩
        have H2 : Hid (Below w.heap.size w v2) := hb_trans H1 hb2 (Below.size H1)
        clear hb2 H1
        go_wp2
        go_ret
        exact ⟨rfl, H2.out⟩
    · have cm := fun w => mul_any a0 a1 w b0.1 b0.2 b1.1 b1.2
      rw [vo_out (by omega), eo_out (by omega)] at cm
      have CM := Lib.hid cm
      clear cm hM
      go_enter Try.func9, Try.ntmps9
      go_wp2_with fail
      refine (CA.out _).mono ?_
      rintro e w' ⟨rfl, rfl⟩
      go_wp2_with fail
      refine (CM.out _).mono ?_
      rintro e v1 ⟨rfl, hb1⟩
      have H1 : Hid (Below w.heap.size w v1) := hb1
      clear hb1
      go_wp2_with fail
      refine (works_any _).mono ?_
      rintro e v2 ⟨rfl, hb2⟩
      have H2 : Hid (Below w.heap.size w v2) := hb_trans H1 hb2 (Below.size H1)
      clear hb2 H1
      go_wp2
      go_ret
      exact ⟨rfl, H2.out⟩

set_option maxRecDepth 100000 in
theorem lifted (os : Os) (started : os.Started) (H : Type) (enc : TypeId × Value → H) :
    ReturnsInHanded {} Try.checked os 9 .any (Rows.checkedInvertsSpec.pre6 enc Try.prog Try.f9 Rows.checkedInvertsRow.domain false) (Rows.checkedInvertsSpec.post enc Try.prog Try.f9 false true false false) := by
  refine returnsInHanded_of_change (C := Try.checked) own started (by kernel_rfl) Try.func9
    (ChangeSpec.witness6 (enc := enc) (C := Try.checked) false ⟨#[], #[.int .i64 0, .int .i64 0], []⟩ 8 (by kernel_rfl) (by kernel_rfl) (by kernel_rfl) (by kernel_rfl)) ?_
  intro W base args ds gs before hval0 hW hcnd _
  have hval : ∀ (j : Nat) t v, Try.f9.params[j]? = some t → args[j]? = some v → Value.okWide Try.prog W .any base t v := hval0
  have hW' := hW
  obtain ⟨p, q, hA0, hV, rfl, hfz, hnd⟩ := hW
  have hA : DataW.TrodAll enc Try.prog W 0 (fun _ => true) true Try.f9.params.toList args.toList ds p := hA0
  rw [Try.params9] at hA hval
  obtain ⟨v0, vs0, d0, ds0, p0, q0, hargs, rfl, rfl, h0, r0⟩ := trodAll_cons hA
  obtain ⟨v1, vs1, d1, ds1, p1, q1, rfl, rfl, rfl, h1, r1⟩ := trodAll_cons r0
  obtain ⟨rfl, rfl, rfl⟩ := trodAll_nil r1
  obtain rfl : args = #[v0, v1] := by cases args; simp_all
  obtain ⟨rfl, rfl⟩ := trodVars_none hV
  have k0 := h0
  have lt0 : ∀ x ∈ p0, x.block < W.heap.size := by obtain ⟨m, hm⟩ := k0; exact DataW.trod_lt m _ _ _ hm
  have k1 := h1
  have lt1 : ∀ x ∈ p1, x.block < W.heap.size := by obtain ⟨m, hm⟩ := k1; exact DataW.trod_lt m _ _ _ hm
  obtain ⟨a0, rfl, dd0, pp0, w0⟩ := open_int Try.underlying2 (hval 0 2 v0 rfl rfl) h0
  obtain ⟨a1, rfl, dd1, pp1, w1⟩ := open_int Try.underlying2 (hval 1 2 v1 rfl rfl) h1
  clear hA0 hval0
  refine (walk a0 a1 W w0 w1).mono fun e W' ⟨he, bel⟩ => ?_
  subst he
  exact ⟨_, rfl, _, _, _, [], _, [], hW', trodAll_mk1 (shut_bool Try.underlying4 _), (trodAll_cons_mk (Below.trod laidOut (by kernel_rfl) (of_decide_eq_true (by kernel_rfl)) k0 bel lt0) (trodAll_cons_mk (Below.trod laidOut (by kernel_rfl) (of_decide_eq_true (by kernel_rfl)) k1 bel lt1) trodAll_mk0)), rfl, bel.frame _, fun h => by cases h⟩

theorem over : Rows.checkedInvertsRow.holds Try.pinned (OpenSpec.ofChange Rows.checkedInvertsSpec) :=
  OpenClaim.holds_of_wide 9 Try.f9 rfl rfl rfl rfl rfl rfl rfl ⟨rfl, rfl, rfl, rfl, rfl⟩ rfl rfl rfl rfl rfl (by kernel_rfl) Try.func9 (by kernel_rfl)
    (of_decide_eq_true (by kernel_rfl)) (by unfold Func.isWrapper; first | (rw [if_pos (by decide +kernel)]; kernel_rfl) | (rw [if_neg (by decide +kernel)]; exact ⟨rfl, rfl⟩))
    (fun os started H enc _ => lifted os started H enc)

/-- The statement. -/
theorem proved : Rows.CheckedInvertsSaid :=
  over
#print axioms proved
end Go.Proofs.Ytgcflohlmbdoiaa.checkedInverts
