/- THE STATEMENT HistoQuantiles: quantiles are those of the document, of any fraction; at most 200 bounds and steps. No condition. -/
import Derived.Test.YtpfdoifkimjlbaaRows
import Derived.WalkKit
import Derived.ProofKit
import Derived.OpenShut
import Derived.Below
import Derived.Carry
import Derived.ChangeOld
import Derived.Lib.SmallJoins
import Derived.Test.YtpfdoifkimjlbaaO
import Derived.Test.YtpfdoifkimjlbaaU
import Derived.Test.YtpfdoifkimjlbaaO2
set_option linter.unusedSimpArgs false
set_option linter.unusedVariables false
namespace Go.Proofs.Ytpfdoifkimjlbaa.histoQuantiles
open Go.ChangeShapes Go.WideShapes Go.ChangeAt Go.RowKit Go.Joins
open H M
theorem own : ownKnob Try.prog.godebug = none := by kernel_rfl
theorem laidOut : laidOutB Try.prog = true := by kernel_rfl

set_option maxHeartbeats 4000000 in
set_option maxRecDepth 100000 in
theorem walk (a0 : Option Addr) (n0 c0 b0 : Nat) (l0 : List Int) (a1 : Option Addr) (n1 c1 b1 : Nat) (f1 : Nat → Nat → Int) (a2 z2 : Int) (w : World) (w0 : Ints w b0 a0 n0 c0 l0) (q0 : n0 ≤ c0 ∧ c0 ≤ maxLen) (w1 : Recs w b1 a1 n1 2 (fun _ => .i64) f1) (q1 : n1 ≤ c1 ∧ c1 ≤ maxLen) (w2 : (Lit.int .i64 a2).wf = true ∧ (Lit.int .i64 z2).wf = true) :
    Calls Try.prog 3 #[.slice a0 n0 c0, .slice a1 n1 c1, .agg #[.int .i64 a2, .int .i64 z2]] w fun e w' => e = .returned (.bool true) ∧ Below w.heap.size w w' := by

  by_cases g0 : 200 < n0
  · have g0' : (200 : Int) < n0 := by omega
    have hm := q0
    unfold maxLen at hm
    clear w0 w1 w2
    have B1 : Hid (∀ o, Below w.heap.size w (w.alloc o)) := fun o => (Below.refl _ _).alloc (Nat.le_refl _) _
    have BS : Hid (∀ o, w.heap.size ≤ (w.alloc o).heap.size) := fun o => by simp
    go_enter Try.func3, Try.ntmps3
    go_wp2_with fail
    refine (works_any _).mono ?_
    rintro e w9 ⟨rfl, hb9⟩
    have B9 := Lib.hid ((B1.out _).trans (hb9.mono (BS.out _)))
    clear hb9
    go_wp2
    go_ret
    exact ⟨rfl, B9.out⟩
  have g0' : ¬ (200 : Int) < n0 := by omega
  by_cases g1 : 200 < n1
  · have g1' : (200 : Int) < n1 := by omega
    have hm := q1
    unfold maxLen at hm
    clear w0 w1 w2
    have B1 : Hid (∀ o, Below w.heap.size w (w.alloc o)) := fun o => (Below.refl _ _).alloc (Nat.le_refl _) _
    have BS : Hid (∀ o, w.heap.size ≤ (w.alloc o).heap.size) := fun o => by simp
    go_enter Try.func3, Try.ntmps3
    go_wp2_with fail
    refine (works_any _).mono ?_
    rintro e w9 ⟨rfl, hb9⟩
    have B9 := Lib.hid ((B1.out _).trans (hb9.mono (BS.out _)))
    clear hb9
    go_wp2
    go_ret
    exact ⟨rfl, B9.out⟩
  have g1' : ¬ (200 : Int) < n1 := by omega
  have hq : n0 ≤ maxLen := by omega
  have hq1 : n1 ≤ maxLen := by omega
  have BF := Lib.hid (fun o => show Below w.heap.size w (w.alloc o) from (Below.refl _ _).alloc (Nat.le_refl _) _)
  have HF := Lib.hid (fun o => filled_any (c1 := c1) (w0.below (BF.out o)) hq (w1.below (by decide) (BF.out o)) hq1)
  have WA := wf_in64 w2.1
  have WZ := wf_in64 w2.2
  have WAZ := Lib.hid (And.intro WA WZ)
  obtain ⟨o, ho⟩ : ∃ o, fill (new l0) f1 n1 = o := ⟨_, rfl⟩
  rw [ho] at HF
  unfold maxLen at q0 q1
  clear w0 w1 w2 hq hq1 ho WA WZ
  go_enter Try.func3, Try.ntmps3
  go_wp2_with fail
  refine (HF.out _).mono ?_
  rintro e w1 ⟨v, u, m, rfl, s1, s2, hP, hR, hb⟩
  have P1 := Lib.hid hP
  have R1 := Lib.hid hR
  have k0 := ckb hb (show (w.alloc (.cells #[.int .i64 a2, .int .i64 z2] 24)).cell? ⟨w.heap.size, 0, none⟩ = some (.int .i64 a2) by simp [go_sem])
  have k1 := ckb hb (show (w.alloc (.cells #[.int .i64 a2, .int .i64 z2] 24)).cell? ⟨w.heap.size, 1, none⟩ = some (.int .i64 z2) by simp [go_sem])
  have B1 : Hid (Below w.heap.size w w1) := (BF.out _).trans (hb.mono (by simp))
  have y0 : w.heap.size < w1.heap.size := by have := hb.size; simp at this; omega
  clear hP hR hb HF s1 s2
  go_wp2_with fail
  refine (quant_any P1.out a2 z2 WAZ.out.1 WAZ.out.2).mono ?_
  rintro e w2 ⟨rfl, hb⟩
  have R2 := Lib.hid (R1.out.below hb)
  have B2 := hb_trans' B1 hb (Below.size B1)
  have k0 := ckb hb k0
  have k1 := ckb hb k1
  have y0 : w.heap.size < w2.heap.size := Nat.lt_of_lt_of_le y0 hb.size
  obtain ⟨qv, hqv⟩ : ∃ qv, quanV o a2 z2 = qv := ⟨_, rfl⟩
  obtain ⟨qe, hqe⟩ : ∃ qe, quanE o a2 z2 = qe := ⟨_, rfl⟩
  have RQ := Lib.hid (rquant_any R2.out a2 z2 WAZ.out.1 WAZ.out.2)
  rw [hqv, hqe] at RQ ⊢
  clear hb B1 P1 R1 hqv hqe
  go_wp2_with fail
  refine RQ.out.mono ?_
  rintro e w3 ⟨rfl, hb⟩
  have HB5 := hb_trans' B2 hb (Below.size B2)
  clear hb B2 k0 k1
  go_wp2_with fail
  refine (works_any _).mono ?_
  rintro e w9 ⟨rfl, hb9⟩
  have B9 := hb_trans' HB5 hb9 (Below.size HB5)
  clear hb9
  go_wp2
  go_ret
  exact ⟨rfl, B9.out⟩

set_option maxRecDepth 100000 in
theorem lifted (os : Os) (started : os.Started) (H : Type) (enc : TypeId × Value → H) :
    ReturnsInHanded {} Try.checked os 3 .any (Rows.histoQuantilesSpec.pre6 enc Try.prog Try.f3 Rows.histoQuantilesRow.domain false) (Rows.histoQuantilesSpec.post enc Try.prog Try.f3 false true false false) := by
  refine returnsInHanded_of_change (C := Try.checked) own started (by kernel_rfl) Try.func3
    (ChangeSpec.witness6 (enc := enc) (C := Try.checked) false ⟨#[], #[.slice none 0 0, .slice none 0 0, .agg #[.int .i64 0, .int .i64 0]], []⟩ 8 (by kernel_rfl) (by kernel_rfl) (by kernel_rfl) (by kernel_rfl)) ?_
  intro W base args ds gs before hval0 hW hcnd _
  have hval : ∀ (j : Nat) t v, Try.f3.params[j]? = some t → args[j]? = some v → Value.okWide Try.prog W .any base t v := hval0
  have hW' := hW
  obtain ⟨p, q, hA0, hV, rfl, hfz, hnd⟩ := hW
  have hA : DataW.TrodAll enc Try.prog W 0 (fun _ => true) true Try.f3.params.toList args.toList ds p := hA0
  rw [Try.params3] at hA hval
  obtain ⟨v0, vs0, d0, ds0, p0, q0, hargs, rfl, rfl, h0, r0⟩ := trodAll_cons hA
  obtain ⟨v1, vs1, d1, ds1, p1, q1, rfl, rfl, rfl, h1, r1⟩ := trodAll_cons r0
  obtain ⟨v2, vs2, d2, ds2, p2, q2, rfl, rfl, rfl, h2, r2⟩ := trodAll_cons r1
  obtain ⟨rfl, rfl, rfl⟩ := trodAll_nil r2
  obtain rfl : args = #[v0, v1, v2] := by cases args; simp_all
  obtain ⟨rfl, rfl⟩ := trodVars_none hV
  have k0 := h0
  have lt0 : ∀ x ∈ p0, x.block < W.heap.size := by obtain ⟨m, hm⟩ := k0; exact DataW.trod_lt m _ _ _ hm
  have k1 := h1
  have lt1 : ∀ x ∈ p1, x.block < W.heap.size := by obtain ⟨m, hm⟩ := k1; exact DataW.trod_lt m _ _ _ hm
  have k2 := h2
  have lt2 : ∀ x ∈ p2, x.block < W.heap.size := by obtain ⟨m, hm⟩ := k2; exact DataW.trod_lt m _ _ _ hm
  obtain ⟨a0, n0, c0, b0, l0, rfl, w0, x0, y0⟩ := opn_ints Try.underlying22 Try.underlying2 (by kernel_rfl) (hval 0 22 v0 rfl rfl) h0
  obtain ⟨a1, n1, c1, b1, f1, rfl, w1, x1, y1⟩ := opn_recs (kd := fun _ => .i64) Try.underlying23 Try.underlying40 (by kernel_rfl) (by kernel_rfl) (by decide) (by
    intro j f hj
    have hjl : j < 2 := by simpa using (Array.getElem?_eq_some_iff.1 hj).1
    match j, hjl, hj with
    | 0, _, hj => simp at hj; subst hj; exact Try.underlying2
    | 1, _, hj => simp at hj; subst hj; exact Try.underlying2
    ) (hval 1 23 v1 rfl rfl) h1
  obtain ⟨a2, z2, rfl, w2⟩ : ∃ a z : Int, v2 = .agg #[.int .i64 a, .int .i64 z] ∧ (Lit.int .i64 a).wf = true ∧ (Lit.int .i64 z).wf = true := by
    obtain ⟨xs, hv, hl, hw⟩ := opn_arr Try.underlying24 Try.underlying2 (by kernel_rfl) (by kernel_rfl) (hval 2 24 v2 rfl rfl) h2
    match xs, hl, hv, hw with
    | [a, z], _, hv, hw => exact ⟨a, z, by simpa using hv, hw a (by simp), hw z (by simp)⟩
  clear hA0 hval0
  refine (walk a0 n0 c0 b0 l0 a1 n1 c1 b1 f1 a2 z2 W w0 ⟨x0, y0⟩ w1 ⟨x1, y1⟩ w2).mono fun e W' ⟨he, bel⟩ => ?_
  subst he
  exact ⟨_, rfl, _, _, _, [], _, [], hW', trodAll_mk1 (shut_bool Try.underlying4 _), (trodAll_cons_mk (Below.trod laidOut (by kernel_rfl) (of_decide_eq_true (by kernel_rfl)) k0 bel lt0) (trodAll_cons_mk (Below.trod laidOut (by kernel_rfl) (of_decide_eq_true (by kernel_rfl)) k1 bel lt1) (trodAll_cons_mk (Below.trod laidOut (by kernel_rfl) (of_decide_eq_true (by kernel_rfl)) k2 bel lt2) trodAll_mk0))), rfl, bel.frame _, fun h => by cases h⟩

theorem over : Rows.histoQuantilesRow.holds Try.pinned (OpenSpec.ofChange Rows.histoQuantilesSpec) :=
  OpenClaim.holds_of_wide 3 Try.f3 rfl rfl rfl rfl rfl rfl rfl ⟨rfl, rfl, rfl, rfl, rfl⟩ rfl rfl rfl rfl rfl (by kernel_rfl) Try.func3 (by kernel_rfl)
    (of_decide_eq_true (by kernel_rfl)) (by unfold Func.isWrapper; first | (rw [if_pos (by decide +kernel)]; kernel_rfl) | (rw [if_neg (by decide +kernel)]; exact ⟨rfl, rfl⟩))
    (fun os started H enc _ => lifted os started H enc)

/-- The statement. -/
theorem proved : Rows.HistoQuantilesSaid :=
  over
#print axioms proved
end Go.Proofs.Ytpfdoifkimjlbaa.histoQuantiles
