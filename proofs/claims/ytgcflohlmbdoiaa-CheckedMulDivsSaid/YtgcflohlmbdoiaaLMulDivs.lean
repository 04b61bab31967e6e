/- THE STATEMENT CheckedMulDivs: for any three numbers the quotient of a product is that of the document; the arguments stay as they were. No condition. -/
import Derived.Test.YtgcflohlmbdoiaaRows
import Derived.WalkKit
import Derived.ProofKit
import Derived.OpenShut
import Derived.Below
import Derived.Test.YtgcflohlmbdoiaaLW
namespace Go.Proofs.Ytgcflohlmbdoiaa.checkedMulDivs
open Go.ChangeShapes Go.WideShapes Go.ChangeAt Go.RowKit
open M
set_option linter.unusedSimpArgs false

theorem bd64 {a : Int} (h : (Lit.int .i64 a).wf = true) : -9223372036854775808 ≤ a ∧ a ≤ 9223372036854775807 := by
  simp [Lit.wf, IntKind.min, IntKind.max, IntKind.signed, IntKind.bits] at h
  omega
set_option linter.unusedVariables false    
theorem own : ownKnob Try.prog.godebug = none := by kernel_rfl

theorem walk (a0 : Int) (a1 : Int) (a2 : Int) (w0 : (Lit.int .i64 a0).wf = true) (w1 : (Lit.int .i64 a1).wf = true) (w2 : (Lit.int .i64 a2).wf = true) (w : World) :
    Calls Try.prog 4 #[.int .i64 a0, .int .i64 a1, .int .i64 a2] w fun e w' => e = .returned (.bool true) ∧ Below w.heap.size w w' := by
  have b0 := bd64 w0
  have b1 := bd64 w1
  have b2 := bd64 w2
  by_cases hc : a2 < 1
  · skip
    go_enter Try.func4, Try.ntmps4
    go_wp2_with fail
    refine (muldiv_arg a0 a1 a2 _ hc).mono ?_
    rintro e w' ⟨rfl, rfl⟩
    go_wp2_with fail
    refine (rmuldiv_arg a0 a1 a2 _ hc).mono ?_
    rintro e v1 ⟨rfl, hb1⟩
    have H1 : Hid (Below w.heap.size w v1) := hb1
    clear hb1
    go_wp2_with fail
    refine (works_any _).mono ?_
    rintro e v2 ⟨rfl, hb2⟩
    have H2 : Hid (Below w.heap.size w v2) := hb_trans H1 hb2 (Below.size H1)
    clear hb2 H1
    go_wp2
    go_ret
    exact ⟨rfl, H2.out⟩
  · skip
    go_enter Try.func4, Try.ntmps4
    go_wp2_with fail
    refine (muldiv_any a0 a1 a2 _ b0.1 b0.2 b1.1 b1.2 (by omega) b2.2).mono ?_
    rintro e v1 ⟨rfl, hb1⟩
    have H1 : Hid (Below w.heap.size w v1) := hb1
    clear hb1
    go_wp2_with fail
    refine (rmuldiv_any a0 a1 a2 _ b0.1 b0.2 b1.1 b1.2 (by omega) b2.2).mono ?_
    rintro e v2 ⟨rfl, hb2⟩
    have H2 : Hid (Below w.heap.size w v2) := hb_trans H1 hb2 (Below.size H1)
    clear hb2 H1
    go_wp2_with fail
    refine (works_any _).mono ?_
    rintro e v3 ⟨rfl, hb3⟩
    have H3 : Hid (Below w.heap.size w v3) := hb_trans H2 hb3 (Below.size H2)
    clear hb3 H2
    go_wp2
    go_ret
    exact ⟨rfl, H3.out⟩

set_option maxRecDepth 100000 in
theorem lifted (os : Os) (started : os.Started) (H : Type) (enc : TypeId × Value → H) :
    ReturnsInHanded {} Try.checked os 4 .any (Rows.checkedMulDivsSpec.pre6 enc Try.prog Try.f4 Rows.checkedMulDivsRow.domain false) (Rows.checkedMulDivsSpec.post enc Try.prog Try.f4 false true false false) := by
  refine returnsInHanded_of_change (C := Try.checked) own started (by kernel_rfl) Try.func4
    (ChangeSpec.witness6 (enc := enc) (C := Try.checked) false ⟨#[], #[.int .i64 0, .int .i64 0, .int .i64 0], []⟩ 8 (by kernel_rfl) (by kernel_rfl) (by kernel_rfl) (by kernel_rfl)) ?_
  intro W base args ds gs before hval0 hW hcnd _
  have hval : ∀ (j : Nat) t v, Try.f4.params[j]? = some t → args[j]? = some v → Value.okWide Try.prog W .any base t v := hval0
  have hW' := hW
  obtain ⟨p, q, hA0, hV, rfl, hfz, hnd⟩ := hW
  have hA : DataW.TrodAll enc Try.prog W 0 (fun _ => true) true Try.f4.params.toList args.toList ds p := hA0
  rw [Try.params4] at hA hval
  obtain ⟨v0, vs0, d0, ds0, p0, q0, hargs, rfl, rfl, h0, r0⟩ := trodAll_cons hA
  obtain ⟨v1, vs1, d1, ds1, p1, q1, rfl, rfl, rfl, h1, r1⟩ := trodAll_cons r0
  obtain ⟨v2, vs2, d2, ds2, p2, q2, rfl, rfl, rfl, h2, r2⟩ := trodAll_cons r1
  obtain ⟨rfl, rfl, rfl⟩ := trodAll_nil r2
  obtain rfl : args = #[v0, v1, v2] := by cases args; simp_all
  obtain ⟨rfl, rfl⟩ := trodVars_none hV
  obtain ⟨a0, rfl, rfl, rfl, w0⟩ := open_int Try.underlying2 (hval 0 2 v0 rfl rfl) h0
  obtain ⟨a1, rfl, rfl, rfl, w1⟩ := open_int Try.underlying2 (hval 1 2 v1 rfl rfl) h1
  obtain ⟨a2, rfl, rfl, rfl, w2⟩ := open_int Try.underlying2 (hval 2 2 v2 rfl rfl) h2
  clear hA0 hval0
  simp only [List.append_nil] at hW'
  refine (walk a0 a1 a2 w0 w1 w2 W).mono fun e W' ⟨he, hg⟩ => ?_
  subst he
  exact ⟨_, rfl, _, _, _, [], _, [], hW', trodAll_mk1 (shut_bool Try.underlying4 _), (trodAll_cons_mk (shut_int Try.underlying2 w0) (trodAll_cons_mk (shut_int Try.underlying2 w1) (trodAll_cons_mk (shut_int Try.underlying2 w2) trodAll_mk0))), rfl, hg.frame _, fun h => by cases h⟩

theorem over : Rows.checkedMulDivsRow.holds Try.pinned (OpenSpec.ofChange Rows.checkedMulDivsSpec) :=
  OpenClaim.holds_of_wide 4 Try.f4 rfl rfl rfl rfl rfl rfl rfl ⟨rfl, rfl, rfl, rfl, rfl⟩ rfl rfl rfl rfl rfl (by kernel_rfl) Try.func4 (by kernel_rfl)
    (of_decide_eq_true (by kernel_rfl)) (by unfold Func.isWrapper; first | (rw [if_pos (by decide +kernel)]; kernel_rfl) | (rw [if_neg (by decide +kernel)]; exact ⟨rfl, rfl⟩))
    (fun os started H enc _ => lifted os started H enc)

/-- The statement. -/
theorem proved : Rows.CheckedMulDivsSaid :=
  over
#print axioms proved
end Go.Proofs.Ytgcflohlmbdoiaa.checkedMulDivs
