/- THE STATEMENT CheckedKnown: the examples of the chapter and the limits hold. No condition. -/
import Derived.Test.YtgcflohlmbdoiaaRows
import Derived.WalkKit
import Derived.ProofKit
import Derived.OpenShut
import Derived.Below
import Derived.Carry
import Derived.ChangeOld
import Derived.Lib.SmallJoins
import Derived.Test.YtgcflohlmbdoiaaLW
namespace Go.Proofs.Ytgcflohlmbdoiaa.checkedKnown
open Go.ChangeShapes Go.WideShapes Go.ChangeAt Go.RowKit Go.Joins
open M
set_option linter.unusedSimpArgs false
set_option linter.unusedVariables false

theorem own : ownKnob Try.prog.godebug = none := by kernel_rfl
theorem laidOut : laidOutB Try.prog = true := by kernel_rfl

theorem k1 (w : World) : Calls Try.prog 20 #[.int .i64 9223372036854775807, .int .i64 1] w fun e w' => e = .returned (.tuple #[.int .i64 0, .int .i64 7]) ∧ w = w' :=
  add_any 9223372036854775807 1 w (by decide) (by decide) (by decide) (by decide)

theorem k2 (w : World) : Calls Try.prog 20 #[.int .i64 9223372036854775807, .int .i64 (-9223372036854775808)] w fun e w' => e = .returned (.tuple #[.int .i64 (-1), .int .i64 0]) ∧ w = w' :=
  add_any 9223372036854775807 (-9223372036854775808) w (by decide) (by decide) (by decide) (by decide)

theorem k3 (w : World) : Calls Try.prog 22 #[.int .i64 (-1), .int .i64 (-9223372036854775808)] w fun e w' => e = .returned (.tuple #[.int .i64 9223372036854775807, .int .i64 0]) ∧ w = w' :=
  sub_any (-1) (-9223372036854775808) w (by decide) (by decide) (by decide) (by decide)

theorem k4 (w : World) : Calls Try.prog 22 #[.int .i64 0, .int .i64 (-9223372036854775808)] w fun e w' => e = .returned (.tuple #[.int .i64 0, .int .i64 7]) ∧ w = w' :=
  sub_any 0 (-9223372036854775808) w (by decide) (by decide) (by decide) (by decide)

theorem k5 (w : World) : Calls Try.prog 21 #[.int .i64 (-9223372036854775808), .int .i64 (-1)] w fun e w' => e = .returned (.tuple #[.int .i64 0, .int .i64 7]) ∧ Below w.heap.size w w' :=
  mul_any (-9223372036854775808) (-1) w (by decide) (by decide) (by decide) (by decide)

theorem k6 (w : World) : Calls Try.prog 21 #[.int .i64 (-9223372036854775808), .int .i64 1] w fun e w' => e = .returned (.tuple #[.int .i64 (-9223372036854775808), .int .i64 0]) ∧ Below w.heap.size w w' :=
  mul_any (-9223372036854775808) 1 w (by decide) (by decide) (by decide) (by decide)

theorem k7 (w : World) : Calls Try.prog 13 #[.slice none 0 0] w fun e w' => e = .returned (.tuple #[.int .i64 0, .int .i64 0]) ∧ w = w' :=
  sum_none none 0 w

theorem k8 (w : World) : Calls Try.prog 16 #[.int .i64 (-7), .int .i64 1, .int .i64 2] w fun e w' => e = .returned (.tuple #[.int .i64 (-4), .int .i64 0]) ∧ Below w.heap.size w w' :=
  muldiv_any (-7) 1 2 w (by decide) (by decide) (by decide) (by decide) (by decide) (by decide)

theorem k9 (w : World) : Calls Try.prog 16 #[.int .i64 1, .int .i64 1, .int .i64 0] w fun e w' => e = .returned (.tuple #[.int .i64 0, .int .i64 2]) ∧ w = w' :=
  muldiv_arg 1 1 0 w (by decide)

theorem k10 (w : World) : Calls Try.prog 16 #[.int .i64 (-9223372036854775808), .int .i64 (-9223372036854775808), .int .i64 9223372036854775807] w fun e w' => e = .returned (.tuple #[.int .i64 0, .int .i64 7]) ∧ Below w.heap.size w w' :=
  muldiv_any (-9223372036854775808) (-9223372036854775808) 9223372036854775807 w (by decide) (by decide) (by decide) (by decide) (by decide) (by decide)

theorem k11 (w : World) : Calls Try.prog 16 #[.int .i64 (-9223372036854775808), .int .i64 1, .int .i64 1] w fun e w' => e = .returned (.tuple #[.int .i64 (-9223372036854775808), .int .i64 0]) ∧ Below w.heap.size w w' :=
  muldiv_any (-9223372036854775808) 1 1 w (by decide) (by decide) (by decide) (by decide) (by decide) (by decide)

theorem k12 (w : World) : Calls Try.prog 18 #[.int .i64 0, .int .i64 (-5)] w fun e w' => e = .returned (.tuple #[.agg #[.int .i64 0, .int .i64 1], .int .i64 0]) ∧ Below w.heap.size w w' :=
  reduce_ok 0 (-5) w (by decide) (by decide) (by decide) (by decide) (by decide) (by decide)

theorem k13 (w : World) : Calls Try.prog 18 #[.int .i64 (-9223372036854775808), .int .i64 (-1)] w fun e w' => e = .returned (.tuple #[.agg #[.int .i64 0, .int .i64 0], .int .i64 7]) ∧ Below w.heap.size w w' :=
  reduce_over (-9223372036854775808) (-1) w (by decide) (by decide) (by decide) (by decide) (by decide) (by decide)

theorem k14 (w : World) : Calls Try.prog 18 #[.int .i64 4611686018427387904, .int .i64 (-9223372036854775808)] w fun e w' => e = .returned (.tuple #[.agg #[.int .i64 (-1), .int .i64 2], .int .i64 0]) ∧ Below w.heap.size w w' :=
  reduce_ok 4611686018427387904 (-9223372036854775808) w (by decide) (by decide) (by decide) (by decide) (by decide) (by decide)

theorem k15 (w : World) : Calls Try.prog 18 #[.int .i64 3, .int .i64 0] w fun e w' => e = .returned (.tuple #[.agg #[.int .i64 0, .int .i64 0], .int .i64 2]) ∧ Below w.heap.size w w' :=
  reduce_zero 3 w

theorem k16 (w : World) : Calls Try.prog 26 #[.agg #[.int .i64 1, .int .i64 2], .agg #[.int .i64 2, .int .i64 4]] w fun e w' => e = .returned (.tuple #[.int .i64 0, .int .i64 0]) ∧ Below w.heap.size w w' :=
  compare_any 1 2 2 4 w (by decide) (by decide) (by decide) (by decide) (by decide) (by decide) (by decide) (by decide)

theorem k17 (w : World) : Calls Try.prog 26 #[.agg #[.int .i64 (-1), .int .i64 3], .agg #[.int .i64 1, .int .i64 (-3)]] w fun e w' => e = .returned (.tuple #[.int .i64 0, .int .i64 2]) ∧ Below w.heap.size w w' :=
  compare_arg (-1) 3 1 (-3) w (by decide)

theorem k18 (w : World) : Calls Try.prog 26 #[.agg #[.int .i64 9223372036854775807, .int .i64 9223372036854775806], .agg #[.int .i64 9223372036854775806, .int .i64 9223372036854775805]] w fun e w' => e = .returned (.tuple #[.int .i64 (-1), .int .i64 0]) ∧ Below w.heap.size w w' :=
  compare_any 9223372036854775807 9223372036854775806 9223372036854775806 9223372036854775805 w (by decide) (by decide) (by decide) (by decide) (by decide) (by decide) (by decide) (by decide)

set_option maxRecDepth 100000 in
theorem walk  (w : World)  :
    Calls Try.prog 12 #[] w fun e w' => e = .returned (.bool true) ∧ Below w.heap.size w w' := by
  go_enter Try.func12, Try.ntmps12
  go_wp2_with fail
  refine (k1 _).mono ?_
  rintro e w' ⟨rfl, rfl⟩
  go_wp2_with fail
  refine (k2 _).mono ?_
  rintro e w' ⟨rfl, rfl⟩
  go_wp2_with fail
  refine (k3 _).mono ?_
  rintro e w' ⟨rfl, rfl⟩
  go_wp2_with fail
  refine (k4 _).mono ?_
  rintro e w' ⟨rfl, rfl⟩
  go_wp2_with fail
  refine (k5 _).mono ?_
  rintro e v1 ⟨rfl, hb1⟩
  have H1 : Hid (Below w.heap.size w v1) := hb1
  clear hb1
  go_wp2_with fail
  refine (k6 _).mono ?_
  rintro e v2 ⟨rfl, hb2⟩
  have H2 : Hid (Below w.heap.size w v2) := hb_trans H1 hb2 (Below.size H1)
  clear hb2 H1
  go_wp2_with fail
  refine (k7 _).mono ?_
  rintro e w' ⟨rfl, rfl⟩
  go_wp2_with fail
  refine (k8 _).mono ?_
  rintro e v3 ⟨rfl, hb3⟩
  have H3 : Hid (Below w.heap.size w v3) := hb_trans H2 hb3 (Below.size H2)
  clear hb3 H2
  go_wp2_with fail
  refine (k9 _).mono ?_
  rintro e w' ⟨rfl, rfl⟩
  go_wp2_with fail
  refine (k10 _).mono ?_
  rintro e v4 ⟨rfl, hb4⟩
  have H4 : Hid (Below w.heap.size w v4) := hb_trans H3 hb4 (Below.size H3)
  clear hb4 H3
  go_wp2_with fail
  refine (k11 _).mono ?_
  rintro e v5 ⟨rfl, hb5⟩
  have H5 : Hid (Below w.heap.size w v5) := hb_trans H4 hb5 (Below.size H4)
  clear hb5 H4
  go_wp2_with fail
  refine (k12 _).mono ?_
  rintro e v6 ⟨rfl, hb6⟩
  have H6 : Hid (Below w.heap.size w v6) := hb_trans H5 hb6 (Below.size H5)
  clear hb6
  go_wp2_with fail
  refine (k13 _).mono ?_
  rintro e v7 ⟨rfl, hb7⟩
  have H7 : Hid (Below w.heap.size w v7) := hb_trans (hb_alloc H6 (Below.size H6) _) hb7 (by have := Below.size H6; simp; omega)
  have y7 : v6.heap.size < v7.heap.size := by have := hb7.size; simp at this; omega
  have f6a := ck_below hb7 (show (v6.alloc (Obj.cells #[.int .i64 0, .int .i64 1] 32)).cell? ⟨v6.heap.size, 0, none⟩ = some (.int .i64 0) by simp [go_sem])
  have f6b := ck_below hb7 (show (v6.alloc (Obj.cells #[.int .i64 0, .int .i64 1] 32)).cell? ⟨v6.heap.size, 1, none⟩ = some (.int .i64 1) by simp [go_sem])
  clear hb7
  go_wp2_with fail
  refine (k14 _).mono ?_
  rintro e v8 ⟨rfl, hb8⟩
  have H8 : Hid (Below w.heap.size w v8) := hb_trans (hb_alloc H7 (Below.size H7) _) hb8 (by have := Below.size H7; simp; omega)
  have y8 : v7.heap.size < v8.heap.size := by have := hb8.size; simp at this; omega
  have f7a := ck_below hb8 (show (v7.alloc (Obj.cells #[.int .i64 0, .int .i64 0] 32)).cell? ⟨v7.heap.size, 0, none⟩ = some (.int .i64 0) by simp [go_sem])
  have f7b := ck_below hb8 (show (v7.alloc (Obj.cells #[.int .i64 0, .int .i64 0] 32)).cell? ⟨v7.heap.size, 1, none⟩ = some (.int .i64 0) by simp [go_sem])
  have f6a := ck_below hb8 (ck_alloc f6a _)
  have f6b := ck_below hb8 (ck_alloc f6b _)
  clear hb8
  go_wp2_with fail
  refine (k15 _).mono ?_
  rintro e v9 ⟨rfl, hb9⟩
  have H9 : Hid (Below w.heap.size w v9) := hb_trans (hb_alloc H8 (Below.size H8) _) hb9 (by have := Below.size H8; simp; omega)
  have y9 : v8.heap.size < v9.heap.size := by have := hb9.size; simp at this; omega
  have f8a := ck_below hb9 (show (v8.alloc (Obj.cells #[.int .i64 (-1), .int .i64 2] 32)).cell? ⟨v8.heap.size, 0, none⟩ = some (.int .i64 (-1)) by simp [go_sem])
  have f8b := ck_below hb9 (show (v8.alloc (Obj.cells #[.int .i64 (-1), .int .i64 2] 32)).cell? ⟨v8.heap.size, 1, none⟩ = some (.int .i64 2) by simp [go_sem])
  have f6a := ck_below hb9 (ck_alloc f6a _)
  have f6b := ck_below hb9 (ck_alloc f6b _)
  have f7a := ck_below hb9 (ck_alloc f7a _)
  have f7b := ck_below hb9 (ck_alloc f7b _)
  clear hb9
  have z6 : v6.heap.size < v9.heap.size := by omega
  have z7 : v7.heap.size < v9.heap.size := by omega
  have y10 := Below.size H9
  go_wp2_with fail
  refine (k16 _).mono ?_
  rintro e v10 ⟨rfl, hb10⟩
  have H10 : Hid (Below w.heap.size w v10) := hb_trans (hb_alloc H9 (Below.size H9) _) hb10 (by have := Below.size H9; simp; omega)
  clear hb10
  go_wp2_with fail
  refine (k17 _).mono ?_
  rintro e v11 ⟨rfl, hb11⟩
  have H11 : Hid (Below w.heap.size w v11) := hb_trans H10 hb11 (Below.size H10)
  clear hb11
  go_wp2_with fail
  refine (k18 _).mono ?_
  rintro e v12 ⟨rfl, hb12⟩
  have H12 : Hid (Below w.heap.size w v12) := hb_trans H11 hb12 (Below.size H11)
  clear hb12
  go_wp2_with fail
  refine (works_any _).mono ?_
  rintro e v13 ⟨rfl, hb13⟩
  have H13 : Hid (Below w.heap.size w v13) := hb_trans H12 hb13 (Below.size H12)
  clear hb13
  go_wp2
  go_ret
  exact ⟨rfl, H13.out⟩

set_option maxRecDepth 100000 in
theorem lifted (os : Os) (started : os.Started) (H : Type) (enc : TypeId × Value → H) :
    ReturnsInHanded {} Try.checked os 12 .any (Rows.checkedKnownSpec.pre6 enc Try.prog Try.f12 Rows.checkedKnownRow.domain false) (Rows.checkedKnownSpec.post enc Try.prog Try.f12 false true false false) := by
  refine returnsInHanded_of_change (C := Try.checked) own started (by kernel_rfl) Try.func12
    (ChangeSpec.witness6 (enc := enc) (C := Try.checked) false ⟨#[], #[], []⟩ 8 (by kernel_rfl) (by kernel_rfl) (by kernel_rfl) (by kernel_rfl)) ?_
  intro W base args ds gs before hval0 hW hcnd _
  have hval : ∀ (j : Nat) t v, Try.f12.params[j]? = some t → args[j]? = some v → Value.okWide Try.prog W .any base t v := hval0
  have hW' := hW
  obtain ⟨p, q, hA0, hV, rfl, hfz, hnd⟩ := hW
  have hA : DataW.TrodAll enc Try.prog W 0 (fun _ => true) true Try.f12.params.toList args.toList ds p := hA0
  rw [Try.params12] at hA hval
  obtain ⟨rfl, rfl, rfl⟩ := trodAll_none hA
  obtain ⟨rfl, rfl⟩ := trodVars_none hV
  clear hA0 hval0
  refine (walk  W ).mono fun e W' ⟨he, bel⟩ => ?_
  subst he
  exact ⟨_, rfl, _, _, _, [], _, [], hW', trodAll_mk1 (shut_bool Try.underlying4 _), rfl, rfl, bel.frame _, fun h => by cases h⟩

theorem over : Rows.checkedKnownRow.holds Try.pinned (OpenSpec.ofChange Rows.checkedKnownSpec) :=
  OpenClaim.holds_of_wide 12 Try.f12 rfl rfl rfl rfl rfl rfl rfl ⟨rfl, rfl, rfl, rfl, rfl⟩ rfl rfl rfl rfl rfl (by kernel_rfl) Try.func12 (by kernel_rfl)
    (of_decide_eq_true (by kernel_rfl)) (by unfold Func.isWrapper; first | (rw [if_pos (by decide +kernel)]; kernel_rfl) | (rw [if_neg (by decide +kernel)]; exact ⟨rfl, rfl⟩))
    (fun os started H enc _ => lifted os started H enc)

/-- The statement. -/
theorem proved : Rows.CheckedKnownSaid :=
  over
#print axioms proved
end Go.Proofs.Ytgcflohlmbdoiaa.checkedKnown
