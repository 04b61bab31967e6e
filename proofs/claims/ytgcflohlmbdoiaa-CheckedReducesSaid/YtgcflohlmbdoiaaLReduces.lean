/- THE STATEMENT CheckedReduces: for any two numbers the fraction in lowest terms is that of the document; the arguments stay as they were. No condition. -/
import Derived.Test.YtgcflohlmbdoiaaRows
import Derived.WalkKit
import Derived.ProofKit
import Derived.OpenShut
import Derived.Below
import Derived.Test.YtgcflohlmbdoiaaLW
namespace Go.Proofs.Ytgcflohlmbdoiaa.checkedReduces
open Go.ChangeShapes Go.WideShapes Go.ChangeAt Go.RowKit
open M
set_option linter.unusedSimpArgs false

theorem bd64 {a : Int} (h : (Lit.int .i64 a).wf = true) : -9223372036854775808 ≤ a ∧ a ≤ 9223372036854775807 := by
  simp [Lit.wf, IntKind.min, IntKind.max, IntKind.signed, IntKind.bits] at h
  omega
set_option linter.unusedVariables false    
theorem own : ownKnob Try.prog.godebug = none := by kernel_rfl

theorem walk (a0 : Int) (a1 : Int) (w0 : (Lit.int .i64 a0).wf = true) (w1 : (Lit.int .i64 a1).wf = true) (w : World) :
    Calls Try.prog 5 #[.int .i64 a0, .int .i64 a1] w fun e w' => e = .returned (.bool true) ∧ Below w.heap.size w w' := by
  have b0 := bd64 w0
  have b1 := bd64 w1
  by_cases hd : a1 = 0
  · subst hd
    go_enter Try.func5, Try.ntmps5
    go_wp2_with fail
    refine (reduce_zero a0 _).mono ?_
    rintro e v1 ⟨rfl, hb1⟩
    have H1 : Hid (Below w.heap.size w v1) := hb1
    have s1 := hb1.size
    clear hb1
    go_wp2_with fail
    refine (rreduce_zero a0 _).mono ?_
    rintro e v2 ⟨rfl, hb2⟩
    have s2 := hb2.size
    simp at s2
    have s3 : v1.heap.size < v2.heap.size := by omega
    have c0 := ck_below hb2 (show (v1.alloc (Obj.cells #[.int .i64 (0), .int .i64 (0)] 32)).cell? ⟨v1.heap.size, 0, none⟩ = some (.int .i64 (0)) by simp [go_sem])
    have c1 := ck_below hb2 (show (v1.alloc (Obj.cells #[.int .i64 (0), .int .i64 (0)] 32)).cell? ⟨v1.heap.size, 1, none⟩ = some (.int .i64 (0)) by simp [go_sem])
    have H2 : Hid (Below w.heap.size w v2) := hb_trans (hb_alloc H1 s1 _) hb2 (by simp; omega)
    have s4 := Below.size H2
    clear hb2 H1
    go_wp2_with fail
    refine (works_any _).mono ?_
    rintro e v3 ⟨rfl, hb3⟩
    have H3 : Hid (Below w.heap.size w v3) := hb_trans (hb_alloc H2 s4 _) hb3 (by simp; omega)
    clear hb3 H2
    go_wp2
    go_ret
    exact ⟨rfl, H3.out⟩
  · by_cases hf : rfit a0 a1 = true
    · obtain ⟨p, hp⟩ : ∃ p, rN a0 a1 = p := ⟨_, rfl⟩
      obtain ⟨q, hq⟩ : ∃ q, rD a0 a1 = q := ⟨_, rfl⟩
      have C1 := Lib.hid (fun w => reduce_ok a0 a1 w b0.1 b0.2 b1.1 b1.2 hd hf)
      have C2 := Lib.hid (fun w => rreduce_ok a0 a1 w b0.1 b0.2 b1.1 b1.2 hd hf)
      rw [hp, hq] at C1 C2
      clear hp hq hf
      go_enter Try.func5, Try.ntmps5
      go_wp2_with fail
      refine (C1.out _).mono ?_
      rintro e v1 ⟨rfl, hb1⟩
      have H1 : Hid (Below w.heap.size w v1) := hb1
      have s1 := hb1.size
      clear hb1
      go_wp2_with fail
      refine (C2.out _).mono ?_
      rintro e v2 ⟨rfl, hb2⟩
      have s2 := hb2.size
      simp at s2
      have s3 : v1.heap.size < v2.heap.size := by omega
      have c0 := ck_below hb2 (show (v1.alloc (Obj.cells #[.int .i64 (p), .int .i64 (q)] 32)).cell? ⟨v1.heap.size, 0, none⟩ = some (.int .i64 (p)) by simp [go_sem])
      have c1 := ck_below hb2 (show (v1.alloc (Obj.cells #[.int .i64 (p), .int .i64 (q)] 32)).cell? ⟨v1.heap.size, 1, none⟩ = some (.int .i64 (q)) by simp [go_sem])
      have H2 : Hid (Below w.heap.size w v2) := hb_trans (hb_alloc H1 s1 _) hb2 (by simp; omega)
      have s4 := Below.size H2
      clear hb2 H1
      go_wp2_with fail
      refine (works_any _).mono ?_
      rintro e v3 ⟨rfl, hb3⟩
      have H3 : Hid (Below w.heap.size w v3) := hb_trans (hb_alloc H2 s4 _) hb3 (by simp; omega)
      clear hb3 H2
      go_wp2
      go_ret
      exact ⟨rfl, H3.out⟩
    · have hg : rfit a0 a1 = false := by simpa using hf
      have C1 := Lib.hid (fun w => reduce_over a0 a1 w b0.1 b0.2 b1.1 b1.2 hd hg)
      have C2 := Lib.hid (fun w => rreduce_over a0 a1 w b0.1 b0.2 b1.1 b1.2 hd hg)
      clear hg hf
      go_enter Try.func5, Try.ntmps5
      go_wp2_with fail
      refine (C1.out _).mono ?_
      rintro e v1 ⟨rfl, hb1⟩
      have H1 : Hid (Below w.heap.size w v1) := hb1
      have s1 := hb1.size
      clear hb1
      go_wp2_with fail
      refine (C2.out _).mono ?_
      rintro e v2 ⟨rfl, hb2⟩
      have s2 := hb2.size
      simp at s2
      have s3 : v1.heap.size < v2.heap.size := by omega
      have c0 := ck_below hb2 (show (v1.alloc (Obj.cells #[.int .i64 (0), .int .i64 (0)] 32)).cell? ⟨v1.heap.size, 0, none⟩ = some (.int .i64 (0)) by simp [go_sem])
      have c1 := ck_below hb2 (show (v1.alloc (Obj.cells #[.int .i64 (0), .int .i64 (0)] 32)).cell? ⟨v1.heap.size, 1, none⟩ = some (.int .i64 (0)) by simp [go_sem])
      have H2 : Hid (Below w.heap.size w v2) := hb_trans (hb_alloc H1 s1 _) hb2 (by simp; omega)
      have s4 := Below.size H2
      clear hb2 H1
      go_wp2_with fail
      refine (works_any _).mono ?_
      rintro e v3 ⟨rfl, hb3⟩
      have H3 : Hid (Below w.heap.size w v3) := hb_trans (hb_alloc H2 s4 _) hb3 (by simp; omega)
      clear hb3 H2
      go_wp2
      go_ret
      exact ⟨rfl, H3.out⟩

set_option maxRecDepth 100000 in
theorem lifted (os : Os) (started : os.Started) (H : Type) (enc : TypeId × Value → H) :
    ReturnsInHanded {} Try.checked os 5 .any (Rows.checkedReducesSpec.pre6 enc Try.prog Try.f5 Rows.checkedReducesRow.domain false) (Rows.checkedReducesSpec.post enc Try.prog Try.f5 false true false false) := by
  refine returnsInHanded_of_change (C := Try.checked) own started (by kernel_rfl) Try.func5
    (ChangeSpec.witness6 (enc := enc) (C := Try.checked) false ⟨#[], #[.int .i64 0, .int .i64 0], []⟩ 8 (by kernel_rfl) (by kernel_rfl) (by kernel_rfl) (by kernel_rfl)) ?_
  intro W base args ds gs before hval0 hW hcnd _
  have hval : ∀ (j : Nat) t v, Try.f5.params[j]? = some t → args[j]? = some v → Value.okWide Try.prog W .any base t v := hval0
  have hW' := hW
  obtain ⟨p, q, hA0, hV, rfl, hfz, hnd⟩ := hW
  have hA : DataW.TrodAll enc Try.prog W 0 (fun _ => true) true Try.f5.params.toList args.toList ds p := hA0
  rw [Try.params5] at hA hval
  obtain ⟨v0, vs0, d0, ds0, p0, q0, hargs, rfl, rfl, h0, r0⟩ := trodAll_cons hA
  obtain ⟨v1, vs1, d1, ds1, p1, q1, rfl, rfl, rfl, h1, r1⟩ := trodAll_cons r0
  obtain ⟨rfl, rfl, rfl⟩ := trodAll_nil r1
  obtain rfl : args = #[v0, v1] := by cases args; simp_all
  obtain ⟨rfl, rfl⟩ := trodVars_none hV
  obtain ⟨a0, rfl, rfl, rfl, w0⟩ := open_int Try.underlying2 (hval 0 2 v0 rfl rfl) h0
  obtain ⟨a1, rfl, rfl, rfl, w1⟩ := open_int Try.underlying2 (hval 1 2 v1 rfl rfl) h1
  clear hA0 hval0
  simp only [List.append_nil] at hW'
  refine (walk a0 a1 w0 w1 W).mono fun e W' ⟨he, hg⟩ => ?_
  subst he
  exact ⟨_, rfl, _, _, _, [], _, [], hW', trodAll_mk1 (shut_bool Try.underlying4 _), (trodAll_cons_mk (shut_int Try.underlying2 w0) (trodAll_cons_mk (shut_int Try.underlying2 w1) trodAll_mk0)), rfl, hg.frame _, fun h => by cases h⟩

theorem over : Rows.checkedReducesRow.holds Try.pinned (OpenSpec.ofChange Rows.checkedReducesSpec) :=
  OpenClaim.holds_of_wide 5 Try.f5 rfl rfl rfl rfl rfl rfl rfl ⟨rfl, rfl, rfl, rfl, rfl⟩ rfl rfl rfl rfl rfl (by kernel_rfl) Try.func5 (by kernel_rfl)
    (of_decide_eq_true (by kernel_rfl)) (by unfold Func.isWrapper; first | (rw [if_pos (by decide +kernel)]; kernel_rfl) | (rw [if_neg (by decide +kernel)]; exact ⟨rfl, rfl⟩))
    (fun os started H enc _ => lifted os started H enc)

/-- The statement. -/
theorem proved : Rows.CheckedReducesSaid :=
  over
#print axioms proved
end Go.Proofs.Ytgcflohlmbdoiaa.checkedReduces
