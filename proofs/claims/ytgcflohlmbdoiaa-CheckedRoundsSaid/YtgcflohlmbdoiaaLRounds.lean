/- THE STATEMENT CheckedRounds: for any three numbers what a quotient leaves is from 0 to c - 1, and a number times c, divided by c, is the number; the arguments stay as they were. No condition. -/
import Derived.Test.YtgcflohlmbdoiaaRows
import Derived.WalkKit
import Derived.ProofKit
import Derived.OpenShut
import Derived.Below
import Derived.Carry
import Derived.ChangeOld
import Derived.Lib.SmallJoins
import Derived.Test.YtgcflohlmbdoiaaLW
namespace Go.Proofs.Ytgcflohlmbdoiaa.checkedRounds
open Go.ChangeShapes Go.WideShapes Go.ChangeAt Go.RowKit Go.Joins
open M
set_option linter.unusedSimpArgs false
set_option linter.unusedVariables false

theorem bd64 {a : Int} (h : (Lit.int .i64 a).wf = true) : -9223372036854775808 ≤ a ∧ a ≤ 9223372036854775807 := by
  simp [Lit.wf, IntKind.min, IntKind.max, IntKind.signed, IntKind.bits] at h
  omega

theorem own : ownKnob Try.prog.godebug = none := by kernel_rfl
theorem laidOut : laidOutB Try.prog = true := by kernel_rfl


theorem rem_of {p q c : Int} (hc : 0 < c) (hq : p / c = q) : 0 ≤ p - q * c ∧ p - q * c < c := by
  have e := Int.mul_ediv_add_emod p c
  have r0 := Int.emod_nonneg p (show c ≠ 0 by omega)
  have r1 := Int.emod_lt_of_pos p hc
  subst hq
  rw [Int.mul_comm] at e
  omega

theorem walk (a0 : Int) (a1 : Int) (a2 : Int) (w : World) (w0 : (Lit.int .i64 a0).wf = true) (w1 : (Lit.int .i64 a1).wf = true) (w2 : (Lit.int .i64 a2).wf = true) :
    Calls Try.prog 7 #[.int .i64 a0, .int .i64 a1, .int .i64 a2] w fun e w' => e = .returned (.bool true) ∧ Below w.heap.size w w' := by
  have b0 := bd64 w0
  have b1 := bd64 w1
  have b2 := bd64 w2
  by_cases hc : a2 < 1
  · skip
    go_enter Try.func7, Try.ntmps7
    go_wp2_with fail
    refine (works_any _).mono ?_
    rintro e v1 ⟨rfl, hb1⟩
    have H1 : Hid (Below w.heap.size w v1) := hb1
    clear hb1
    go_wp2
    go_ret
    exact ⟨rfl, H1.out⟩
  · have c0 : 1 ≤ a2 := by omega
    have ca := fun w => muldiv_any a0 a2 a2 w b0.1 b0.2 b2.1 b2.2 c0 b2.2
    rw [Int.mul_ediv_cancel _ (by omega), vo_in b0.1 b0.2, eo_in b0.1 b0.2] at ca
    have cq := fun w => muldiv_any a0 a1 a2 w b0.1 b0.2 b1.1 b1.2 c0 b2.2
    have cp := fun w => mul_any a0 a1 w b0.1 b0.2 b1.1 b1.2
    have CA := Lib.hid ca
    obtain ⟨P, hP⟩ : ∃ P, a0 * a1 = P := ⟨_, rfl⟩
    rw [hP] at cp cq
    obtain ⟨Q, hQ⟩ : ∃ Q, P / a2 = Q := ⟨_, rfl⟩
    rw [hQ] at cq
    have HR := rem_of (show 0 < a2 by omega) hQ
    clear ca hP hQ
    by_cases hF : -9223372036854775808 ≤ Q ∧ Q ≤ 9223372036854775807
    · rw [vo_in hF.1 hF.2, eo_in hF.1 hF.2] at cq
      have cm := fun w => mul_any Q a2 w hF.1 hF.2 b2.1 b2.2
      have CQ := Lib.hid cq
      obtain ⟨M, hM⟩ : ∃ M, Q * a2 = M := ⟨_, rfl⟩
      rw [hM] at cm HR
      clear hM cq
      by_cases hG : -9223372036854775808 ≤ P ∧ P ≤ 9223372036854775807
      · rw [vo_in hG.1 hG.2, eo_in hG.1 hG.2] at cp
        have CP := Lib.hid cp
        clear cp
        by_cases hH : -9223372036854775808 ≤ M ∧ M ≤ 9223372036854775807
        · rw [vo_in hH.1 hH.2, eo_in hH.1 hH.2] at cm
          have CM := Lib.hid cm
          have cs := fun w => sub_any P M w hG.1 hG.2 hH.1 hH.2
          rw [vo_in (by omega) (by omega), eo_in (by omega) (by omega)] at cs
          obtain ⟨D, hD⟩ : ∃ D, P - M = D := ⟨_, rfl⟩
          rw [hD] at cs HR
          obtain ⟨r0, r1⟩ := HR
          have CS := Lib.hid cs
          clear cs hD cm
          go_enter Try.func7, Try.ntmps7
          go_wp2_with fail
          refine (CA.out _).mono ?_
          rintro e v1 ⟨rfl, hb1⟩
          have H1 : Hid (Below w.heap.size w v1) := hb1
          clear hb1
          go_wp2_with fail
          refine (CQ.out _).mono ?_
          rintro e v2 ⟨rfl, hb2⟩
          have H2 : Hid (Below w.heap.size w v2) := hb_trans H1 hb2 (Below.size H1)
          clear hb2 H1
          go_wp2_with fail
          refine (CP.out _).mono ?_
          rintro e v3 ⟨rfl, hb3⟩
          have H3 : Hid (Below w.heap.size w v3) := hb_trans H2 hb3 (Below.size H2)
          clear hb3 H2
          go_wp2_with fail
          refine (CM.out _).mono ?_
          rintro e v4 ⟨rfl, hb4⟩
          have H4 : Hid (Below w.heap.size w v4) := hb_trans H3 hb4 (Below.size H3)
          clear hb4 H3
          go_wp2_with fail
          refine (CS.out _).mono ?_
          rintro e w' ⟨rfl, rfl⟩
          go_wp2_with fail
          refine (works_any _).mono ?_
          rintro e v5 ⟨rfl, hb5⟩
          have H5 : Hid (Below w.heap.size w v5) := hb_trans H4 hb5 (Below.size H4)
          clear hb5 H4
          go_wp2
          go_ret
          exact ⟨rfl, H5.out⟩
        · rw [vo_out (by omega), eo_out (by omega)] at cm
          have CM := Lib.hid cm
          clear cm HR
          go_enter Try.func7, Try.ntmps7
          go_wp2_with fail
          refine (CA.out _).mono ?_
          rintro e v1 ⟨rfl, hb1⟩
          have H1 : Hid (Below w.heap.size w v1) := hb1
          clear hb1
          go_wp2_with fail
          refine (CQ.out _).mono ?_
          rintro e v2 ⟨rfl, hb2⟩
          have H2 : Hid (Below w.heap.size w v2) := hb_trans H1 hb2 (Below.size H1)
          clear hb2 H1
          go_wp2_with fail
          refine (CP.out _).mono ?_
          rintro e v3 ⟨rfl, hb3⟩
          have H3 : Hid (Below w.heap.size w v3) := hb_trans H2 hb3 (Below.size H2)
          clear hb3 H2
          go_wp2_with fail
          refine (CM.out _).mono ?_
          rintro e v4 ⟨rfl, hb4⟩
          have H4 : Hid (Below w.heap.size w v4) := hb_trans H3 hb4 (Below.size H3)
          clear hb4 H3
          go_wp2_with fail
          refine (works_any _).mono ?_
          rintro e v5 ⟨rfl, hb5⟩
          have H5 : Hid (Below w.heap.size w v5) := hb_trans H4 hb5 (Below.size H4)
          clear hb5 H4
          go_wp2
          go_ret
          exact ⟨rfl, H5.out⟩
      · rw [vo_out (by omega), eo_out (by omega)] at cp
        have CP := Lib.hid cp
        obtain ⟨m, hm⟩ : ∃ m, vo M = m := ⟨_, rfl⟩
        obtain ⟨k, hk⟩ : ∃ k, eo M = k := ⟨_, rfl⟩
        rw [hm, hk] at cm
        have CM := Lib.hid cm
        clear cp cm hm hk HR
        go_enter Try.func7, Try.ntmps7
        go_wp2_with fail
        refine (CA.out _).mono ?_
        rintro e v1 ⟨rfl, hb1⟩
        have H1 : Hid (Below w.heap.size w v1) := hb1
        clear hb1
        go_wp2_with fail
        refine (CQ.out _).mono ?_
        rintro e v2 ⟨rfl, hb2⟩
        have H2 : Hid (Below w.heap.size w v2) := hb_trans H1 hb2 (Below.size H1)
        clear hb2 H1
        go_wp2_with fail
        refine (CP.out _).mono ?_
        rintro e v3 ⟨rfl, hb3⟩
        have H3 : Hid (Below w.heap.size w v3) := hb_trans H2 hb3 (Below.size H2)
        clear hb3 H2
        go_wp2_with fail
        refine (CM.out _).mono ?_
        rintro e v4 ⟨rfl, hb4⟩
        have H4 : Hid (Below w.heap.size w v4) := hb_trans H3 hb4 (Below.size H3)
        clear hb4 H3
        go_wp2_with fail
        refine (works_any _).mono ?_
        rintro e v5 ⟨rfl, hb5⟩
        have H5 : Hid (Below w.heap.size w v5) := hb_trans H4 hb5 (Below.size H4)
        clear hb5 H4
        go_wp2
        go_ret
        exact ⟨rfl, H5.out⟩
    · rw [vo_out (by omega), eo_out (by omega)] at cq
      have CQ := Lib.hid cq
      have cm := fun w => mul_any 0 a2 w (by decide) (by decide) b2.1 b2.2
      obtain ⟨m, hm⟩ : ∃ m, vo (0 * a2) = m := ⟨_, rfl⟩
      obtain ⟨k, hk⟩ : ∃ k, eo (0 * a2) = k := ⟨_, rfl⟩
      rw [hm, hk] at cm
      have CM := Lib.hid cm
      obtain ⟨p, hp⟩ : ∃ p, vo P = p := ⟨_, rfl⟩
      obtain ⟨g, hg⟩ : ∃ g, eo P = g := ⟨_, rfl⟩
      rw [hp, hg] at cp
      have CP := Lib.hid cp
      clear cq cp cm hm hk hp hg HR
      go_enter Try.func7, Try.ntmps7
      go_wp2_with fail
      refine (CA.out _).mono ?_
      rintro e v1 ⟨rfl, hb1⟩
      have H1 : Hid (Below w.heap.size w v1) := hb1
      clear hb1
      go_wp2_with fail
      refine (CQ.out _).mono ?_
      rintro e v2 ⟨rfl, hb2⟩
      have H2 : Hid (Below w.heap.size w v2) := hb_trans H1 hb2 (Below.size H1)
      clear hb2 H1
      go_wp2_with fail
      refine (CP.out _).mono ?_
      rintro e v3 ⟨rfl, hb3⟩
      have H3 : Hid (Below w.heap.size w v3) := hb_trans H2 hb3 (Below.size H2)
      clear hb3 H2
      go_wp2_with fail
      refine (CM.out _).mono ?_
      rintro e v4 ⟨rfl, hb4⟩
      have H4 : Hid (Below w.heap.size w v4) := hb_trans H3 hb4 (Below.size H3)
      clear hb4 H3
      go_wp2_with fail
      refine (works_any _).mono ?_
      rintro e v5 ⟨rfl, hb5⟩
      have H5 : Hid (Below w.heap.size w v5) := hb_trans H4 hb5 (Below.size H4)
      clear hb5 H4
      go_wp2
      go_ret
      exact ⟨rfl, H5.out⟩

set_option maxRecDepth 100000 in
theorem lifted (os : Os) (started : os.Started) (H : Type) (enc : TypeId × Value → H) :
    ReturnsInHanded {} Try.checked os 7 .any (Rows.checkedRoundsSpec.pre6 enc Try.prog Try.f7 Rows.checkedRoundsRow.domain false) (Rows.checkedRoundsSpec.post enc Try.prog Try.f7 false true false false) := by
  refine returnsInHanded_of_change (C := Try.checked) own started (by kernel_rfl) Try.func7
    (ChangeSpec.witness6 (enc := enc) (C := Try.checked) false ⟨#[], #[.int .i64 0, .int .i64 0, .int .i64 0], []⟩ 8 (by kernel_rfl) (by kernel_rfl) (by kernel_rfl) (by kernel_rfl)) ?_
  intro W base args ds gs before hval0 hW hcnd _
  have hval : ∀ (j : Nat) t v, Try.f7.params[j]? = some t → args[j]? = some v → Value.okWide Try.prog W .any base t v := hval0
  have hW' := hW
  obtain ⟨p, q, hA0, hV, rfl, hfz, hnd⟩ := hW
  have hA : DataW.TrodAll enc Try.prog W 0 (fun _ => true) true Try.f7.params.toList args.toList ds p := hA0
  rw [Try.params7] at hA hval
  obtain ⟨v0, vs0, d0, ds0, p0, q0, hargs, rfl, rfl, h0, r0⟩ := trodAll_cons hA
  obtain ⟨v1, vs1, d1, ds1, p1, q1, rfl, rfl, rfl, h1, r1⟩ := trodAll_cons r0
  obtain ⟨v2, vs2, d2, ds2, p2, q2, rfl, rfl, rfl, h2, r2⟩ := trodAll_cons r1
  obtain ⟨rfl, rfl, rfl⟩ := trodAll_nil r2
  obtain rfl : args = #[v0, v1, v2] := by cases args; simp_all
  obtain ⟨rfl, rfl⟩ := trodVars_none hV
  have k0 := h0
  have lt0 : ∀ x ∈ p0, x.block < W.heap.size := by obtain ⟨m, hm⟩ := k0; exact DataW.trod_lt m _ _ _ hm
  have k1 := h1
  have lt1 : ∀ x ∈ p1, x.block < W.heap.size := by obtain ⟨m, hm⟩ := k1; exact DataW.trod_lt m _ _ _ hm
  have k2 := h2
  have lt2 : ∀ x ∈ p2, x.block < W.heap.size := by obtain ⟨m, hm⟩ := k2; exact DataW.trod_lt m _ _ _ hm
  obtain ⟨a0, rfl, dd0, pp0, w0⟩ := open_int Try.underlying2 (hval 0 2 v0 rfl rfl) h0
  obtain ⟨a1, rfl, dd1, pp1, w1⟩ := open_int Try.underlying2 (hval 1 2 v1 rfl rfl) h1
  obtain ⟨a2, rfl, dd2, pp2, w2⟩ := open_int Try.underlying2 (hval 2 2 v2 rfl rfl) h2
  clear hA0 hval0
  refine (walk a0 a1 a2 W w0 w1 w2).mono fun e W' ⟨he, bel⟩ => ?_
  subst he
  exact ⟨_, rfl, _, _, _, [], _, [], hW', trodAll_mk1 (shut_bool Try.underlying4 _), (trodAll_cons_mk (Below.trod laidOut (by kernel_rfl) (of_decide_eq_true (by kernel_rfl)) k0 bel lt0) (trodAll_cons_mk (Below.trod laidOut (by kernel_rfl) (of_decide_eq_true (by kernel_rfl)) k1 bel lt1) (trodAll_cons_mk (Below.trod laidOut (by kernel_rfl) (of_decide_eq_true (by kernel_rfl)) k2 bel lt2) trodAll_mk0))), rfl, bel.frame _, fun h => by cases h⟩

theorem over : Rows.checkedRoundsRow.holds Try.pinned (OpenSpec.ofChange Rows.checkedRoundsSpec) :=
  OpenClaim.holds_of_wide 7 Try.f7 rfl rfl rfl rfl rfl rfl rfl ⟨rfl, rfl, rfl, rfl, rfl⟩ rfl rfl rfl rfl rfl (by kernel_rfl) Try.func7 (by kernel_rfl)
    (of_decide_eq_true (by kernel_rfl)) (by unfold Func.isWrapper; first | (rw [if_pos (by decide +kernel)]; kernel_rfl) | (rw [if_neg (by decide +kernel)]; exact ⟨rfl, rfl⟩))
    (fun os started H enc _ => lifted os started H enc)

/-- The statement. -/
theorem proved : Rows.CheckedRoundsSaid :=
  over
#print axioms proved
end Go.Proofs.Ytgcflohlmbdoiaa.checkedRounds
