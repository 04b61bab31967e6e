/- THE STATEMENT HistoCoarse: a histogram without one bound is the document's, and the histogram itself stays; at most 200 bounds and steps, any index. No condition. -/
import Derived.Test.YtpfdoifkimjlbaaRows
import Derived.WalkKit
import Derived.ProofKit
import Derived.OpenShut
import Derived.Below
import Derived.Carry
import Derived.ChangeOld
import Derived.Lib.SmallJoins
import Derived.Test.YtpfdoifkimjlbaaO
import Derived.Test.YtpfdoifkimjlbaaU
import Derived.Test.YtpfdoifkimjlbaaS4
set_option linter.unusedSimpArgs false
set_option linter.unusedVariables false
namespace Go.Proofs.Ytpfdoifkimjlbaa.histoCoarse
open Go.ChangeShapes Go.WideShapes Go.ChangeAt Go.RowKit Go.Joins
open H M
theorem own : ownKnob Try.prog.godebug = none := by kernel_rfl
theorem laidOut : laidOutB Try.prog = true := by kernel_rfl

set_option maxHeartbeats 4000000 in
set_option maxRecDepth 100000 in
theorem walk (a0 : Option Addr) (n0 c0 b0 : Nat) (l0 : List Int) (a1 : Option Addr) (n1 c1 b1 : Nat) (f1 : Nat → Nat → Int) (a2 : Int) (w : World) (w0 : Ints w b0 a0 n0 c0 l0) (q0 : n0 ≤ c0 ∧ c0 ≤ maxLen) (w1 : Recs w b1 a1 n1 2 (fun _ => .i64) f1) (q1 : n1 ≤ c1 ∧ c1 ≤ maxLen) (w2 : (Lit.int .i64 a2).wf = true) :
    Calls Try.prog 10 #[.slice a0 n0 c0, .slice a1 n1 c1, .int .i64 a2] w fun e w' => e = .returned (.bool true) ∧ Below w.heap.size w w' := by

  by_cases g0 : 200 < n0
  · have g0' : (200 : Int) < n0 := by omega
    have hm := q0
    unfold maxLen at hm
    clear w0 w1 w2
    go_enter Try.func10, Try.ntmps10
    have B1 : Hid (Below w.heap.size w w) := Below.refl _ _
    go_wp2_with fail
    refine (works_any _).mono ?_
    rintro e w9 ⟨rfl, hb9⟩
    have B9 := hb_trans' B1 hb9 (Below.size B1)
    clear hb9
    go_wp2
    go_ret
    exact ⟨rfl, B9.out⟩
  have g0' : ¬ (200 : Int) < n0 := by omega
  by_cases g1 : 200 < n1
  · have g1' : (200 : Int) < n1 := by omega
    have hm := q1
    unfold maxLen at hm
    clear w0 w1 w2
    go_enter Try.func10, Try.ntmps10
    have B1 : Hid (Below w.heap.size w w) := Below.refl _ _
    go_wp2_with fail
    refine (works_any _).mono ?_
    rintro e w9 ⟨rfl, hb9⟩
    have B9 := hb_trans' B1 hb9 (Below.size B1)
    clear hb9
    go_wp2
    go_ret
    exact ⟨rfl, B9.out⟩
  have g1' : ¬ (200 : Int) < n1 := by omega
  have hq : n0 ≤ maxLen := by omega
  have hq1 : n1 ≤ maxLen := by omega
  have HF := Lib.hid (filled_any (c1 := c1) w0 hq w1 hq1)
  have WA := Lib.hid (wf_in64 w2)
  obtain ⟨o, ho⟩ : ∃ o, fill (new l0) f1 n1 = o := ⟨_, rfl⟩
  rw [ho] at HF
  unfold maxLen at q0 q1
  clear w0 w1 w2 hq hq1 ho
  go_enter Try.func10, Try.ntmps10
  go_wp2_with fail
  refine HF.out.mono ?_
  rintro e w1 ⟨v, u, m, rfl, s1, s2, hP, hR, hb⟩
  have P1 := Lib.hid hP
  have R1 := Lib.hid hR
  have B1 := Lib.hid hb
  obtain ⟨s, hs⟩ : ∃ s, coS o a2 = s := ⟨_, rfl⟩
  obtain ⟨ne, hne⟩ : ∃ ne, coE o a2 = ne := ⟨_, rfl⟩
  have CC := Lib.hid (coarse_str P1.out a2 WA.out)
  have RC : Hid (∀ W, Below w1.heap.size w1 W → Calls Try.prog 30 #[u, .int .i64 a2] W (GivesRn W s ne)) := fun W hW => by rw [← hs, ← hne]; exact rcoarse_str (R1.out.below hW) a2 WA.out
  rw [hs, hne] at CC
  clear hP hR hb HF s1 s2 hs hne
  go_wp2_with fail
  refine CC.out.mono ?_
  rintro e w2 ⟨⟨x, rfl, hX, hb⟩, hxn⟩
  have PX := Lib.hid hX
  have XN := Lib.hid hxn
  have RC2 := Lib.hid (RC.out _ hb)
  have P2 := Lib.hid (P1.out.below hb)
  have R2 := Lib.hid (R1.out.below hb)
  have B2 := hb_trans' B1 hb (Below.size B1)
  clear hX hxn hb CC RC P1 R1 B1
  go_wp2_with fail
  refine RC2.out.mono ?_
  rintro e w3 ⟨⟨y, rfl, hY, hb⟩, hyn⟩
  have PY := Lib.hid hY
  have YN := Lib.hid hyn
  have PX3 := Lib.hid (PX.out.below hb)
  have P3 := Lib.hid (P2.out.below hb)
  have R3 := Lib.hid (R2.out.below hb)
  have B3 := hb_trans' B2 hb (Below.size B2)
  have A1 := Lib.hid (agree_any PX3.out PY.out 0)
  have A2 : Hid (∀ W, Below w3.heap.size w3 W → Calls Try.prog 24 #[v, u, .int .i64 0] W fun e w' => e = .returned (.bool true) ∧ Below W.heap.size W w') := fun W hW => agree_any (P3.out.below hW) (R3.out.below hW) 0
  clear hY hyn hb RC2 P2 R2 B2 PX
  rcases s with _ | s
  · have ev := XN.out rfl
    have eu := YN.out rfl
    injection ev with ev
    injection ev with ev
    obtain rfl : x = .pointer none := by simpa using ev
    injection eu with eu
    injection eu with eu
    obtain rfl : y = .pointer none := by simpa using eu
    clear ev eu XN YN PX3 PY P3 R3
    go_wp2_with fail
    refine A1.out.mono ?_
    rintro e w4 ⟨rfl, hb⟩
    have B4 := hb_trans' B3 hb (Below.size B3)
    have A3 := Lib.hid (A2.out _ hb)
    clear hb A1 A2 B3
    go_wp2_with fail
    refine A3.out.mono ?_
    rintro e w5 ⟨rfl, hb⟩
    have HB5 := hb_trans' B4 hb (Below.size B4)
    clear hb A3 B4
    go_wp2_with fail
    refine (works_any _).mono ?_
    rintro e w9 ⟨rfl, hb9⟩
    have B9 := hb_trans' HB5 hb9 (Below.size HB5)
    clear hb9
    go_wp2
    go_ret
    exact ⟨rfl, B9.out⟩
  · obtain ⟨p, rfl⟩ := PX3.out.some_ptr
    obtain ⟨q, rfl⟩ := PY.out.some_ptr
    clear XN YN PX3 PY P3 R3
    go_wp2_with fail
    refine A1.out.mono ?_
    rintro e w4 ⟨rfl, hb⟩
    have B4 := hb_trans' B3 hb (Below.size B3)
    have A3 := Lib.hid (A2.out _ hb)
    clear hb A1 A2 B3
    go_wp2_with fail
    refine A3.out.mono ?_
    rintro e w5 ⟨rfl, hb⟩
    have HB5 := hb_trans' B4 hb (Below.size B4)
    clear hb A3 B4
    go_wp2_with fail
    refine (works_any _).mono ?_
    rintro e w9 ⟨rfl, hb9⟩
    have B9 := hb_trans' HB5 hb9 (Below.size HB5)
    clear hb9
    go_wp2
    go_ret
    exact ⟨rfl, B9.out⟩

set_option maxRecDepth 100000 in
theorem lifted (os : Os) (started : os.Started) (H : Type) (enc : TypeId × Value → H) :
    ReturnsInHanded {} Try.checked os 10 .any (Rows.histoCoarseSpec.pre6 enc Try.prog Try.f10 Rows.histoCoarseRow.domain false) (Rows.histoCoarseSpec.post enc Try.prog Try.f10 false true false false) := by
  refine returnsInHanded_of_change (C := Try.checked) own started (by kernel_rfl) Try.func10
    (ChangeSpec.witness6 (enc := enc) (C := Try.checked) false ⟨#[], #[.slice none 0 0, .slice none 0 0, .int .i64 0], []⟩ 8 (by kernel_rfl) (by kernel_rfl) (by kernel_rfl) (by kernel_rfl)) ?_
  intro W base args ds gs before hval0 hW hcnd _
  have hval : ∀ (j : Nat) t v, Try.f10.params[j]? = some t → args[j]? = some v → Value.okWide Try.prog W .any base t v := hval0
  have hW' := hW
  obtain ⟨p, q, hA0, hV, rfl, hfz, hnd⟩ := hW
  have hA : DataW.TrodAll enc Try.prog W 0 (fun _ => true) true Try.f10.params.toList args.toList ds p := hA0
  rw [Try.params10] at hA hval
  obtain ⟨v0, vs0, d0, ds0, p0, q0, hargs, rfl, rfl, h0, r0⟩ := trodAll_cons hA
  obtain ⟨v1, vs1, d1, ds1, p1, q1, rfl, rfl, rfl, h1, r1⟩ := trodAll_cons r0
  obtain ⟨v2, vs2, d2, ds2, p2, q2, rfl, rfl, rfl, h2, r2⟩ := trodAll_cons r1
  obtain ⟨rfl, rfl, rfl⟩ := trodAll_nil r2
  obtain rfl : args = #[v0, v1, v2] := by cases args; simp_all
  obtain ⟨rfl, rfl⟩ := trodVars_none hV
  have k0 := h0
  have lt0 : ∀ x ∈ p0, x.block < W.heap.size := by obtain ⟨m, hm⟩ := k0; exact DataW.trod_lt m _ _ _ hm
  have k1 := h1
  have lt1 : ∀ x ∈ p1, x.block < W.heap.size := by obtain ⟨m, hm⟩ := k1; exact DataW.trod_lt m _ _ _ hm
  have k2 := h2
  have lt2 : ∀ x ∈ p2, x.block < W.heap.size := by obtain ⟨m, hm⟩ := k2; exact DataW.trod_lt m _ _ _ hm
  obtain ⟨a0, n0, c0, b0, l0, rfl, w0, x0, y0⟩ := opn_ints Try.underlying22 Try.underlying2 (by kernel_rfl) (hval 0 22 v0 rfl rfl) h0
  obtain ⟨a1, n1, c1, b1, f1, rfl, w1, x1, y1⟩ := opn_recs (kd := fun _ => .i64) Try.underlying23 Try.underlying40 (by kernel_rfl) (by kernel_rfl) (by decide) (by
    intro j f hj
    have hjl : j < 2 := by simpa using (Array.getElem?_eq_some_iff.1 hj).1
    match j, hjl, hj with
    | 0, _, hj => simp at hj; subst hj; exact Try.underlying2
    | 1, _, hj => simp at hj; subst hj; exact Try.underlying2
    ) (hval 1 23 v1 rfl rfl) h1
  obtain ⟨a2, rfl, dd2, pp2, w2⟩ := open_int Try.underlying3 (hval 2 3 v2 rfl rfl) h2
  clear hA0 hval0
  refine (walk a0 n0 c0 b0 l0 a1 n1 c1 b1 f1 a2 W w0 ⟨x0, y0⟩ w1 ⟨x1, y1⟩ w2).mono fun e W' ⟨he, bel⟩ => ?_
  subst he
  exact ⟨_, rfl, _, _, _, [], _, [], hW', trodAll_mk1 (shut_bool Try.underlying4 _), (trodAll_cons_mk (Below.trod laidOut (by kernel_rfl) (of_decide_eq_true (by kernel_rfl)) k0 bel lt0) (trodAll_cons_mk (Below.trod laidOut (by kernel_rfl) (of_decide_eq_true (by kernel_rfl)) k1 bel lt1) (trodAll_cons_mk (Below.trod laidOut (by kernel_rfl) (of_decide_eq_true (by kernel_rfl)) k2 bel lt2) trodAll_mk0))), rfl, bel.frame _, fun h => by cases h⟩

theorem over : Rows.histoCoarseRow.holds Try.pinned (OpenSpec.ofChange Rows.histoCoarseSpec) :=
  OpenClaim.holds_of_wide 10 Try.f10 rfl rfl rfl rfl rfl rfl rfl ⟨rfl, rfl, rfl, rfl, rfl⟩ rfl rfl rfl rfl rfl (by kernel_rfl) Try.func10 (by kernel_rfl)
    (of_decide_eq_true (by kernel_rfl)) (by unfold Func.isWrapper; first | (rw [if_pos (by decide +kernel)]; kernel_rfl) | (rw [if_neg (by decide +kernel)]; exact ⟨rfl, rfl⟩))
    (fun os started H enc _ => lifted os started H enc)

/-- The statement. -/
theorem proved : Rows.HistoCoarseSaid :=
  over
#print axioms proved
end Go.Proofs.Ytpfdoifkimjlbaa.histoCoarse
