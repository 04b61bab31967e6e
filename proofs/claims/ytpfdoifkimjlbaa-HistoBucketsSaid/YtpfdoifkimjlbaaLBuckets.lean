/- THE STATEMENT HistoBuckets: the bucket of a number lies between the bounds beside it, for any bounds and any number. No condition. -/
import Derived.Test.YtpfdoifkimjlbaaRows
import Derived.WalkKit
import Derived.ProofKit
import Derived.OpenShut
import Derived.Below
import Derived.Carry
import Derived.ChangeOld
import Derived.Lib.SmallJoins
import Derived.Test.YtpfdoifkimjlbaaO
import Derived.Test.YtpfdoifkimjlbaaT
set_option linter.unusedSimpArgs false
set_option linter.unusedVariables false
namespace Go.Proofs.Ytpfdoifkimjlbaa.histoBuckets
open Go.ChangeShapes Go.WideShapes Go.ChangeAt Go.RowKit Go.Joins
open H M
theorem own : ownKnob Try.prog.godebug = none := by kernel_rfl
theorem laidOut : laidOutB Try.prog = true := by kernel_rfl

set_option maxHeartbeats 4000000 in
set_option maxRecDepth 100000 in
theorem walk (a0 : Option Addr) (n0 c0 b0 : Nat) (l0 : List Int) (a1 : Int) (w : World) (w0 : Ints w b0 a0 n0 c0 l0) (q0 : n0 ≤ c0 ∧ c0 ≤ maxLen) (w1 : (Lit.int .i64 a1).wf = true) :
    Calls Try.prog 4 #[.slice a0 n0 c0, .int .i64 a1] w fun e w' => e = .returned (.bool true) ∧ Below w.heap.size w w' := by

  have hq : n0 ≤ maxLen := by omega
  have hq2 := hq
  unfold maxLen at hq2
  have a1b := wf_in64 w1
  have HN := Lib.hid (new_any w0 hq)
  by_cases hf : fitsB l0 = true
  · have HN : Hid (Calls Try.prog 18 #[.slice a0 n0 c0] w (GivesH w (some (l0, List.replicate (l0.length + 1) 0)) 0)) := by
      have := HN.out; rwa [show new l0 = some (l0, List.replicate (l0.length + 1) 0) by rw [new, if_pos hf], show newE l0 = 0 by rw [newE, if_pos hf]] at this
    have hup := ((fitsB_iff l0).1 hf).2
    have hcl := cnt_le l0 a1
    rw [w0.1] at hcl
    obtain ⟨k, hk⟩ : ∃ k, cnt l0 a1 = k := ⟨_, rfl⟩
    have HLO : Hid (∀ i, i < k → l0.getD i 0 ≤ a1) := fun i hi => cnt_lo hup a1 (by rw [hk]; exact hi)
    have HHI : Hid (∀ i, k ≤ i → i < n0 → a1 < l0.getD i 0) := fun i hi hl => cnt_hi hup a1 (by rw [hk]; exact hi) (by rw [w0.1]; exact hl)
    have HK := Lib.hid hk
    rw [hk] at hcl
    have HI := Lib.hid w0
    clear hup hk hf w0 w1 q0
    go_enter Try.func4, Try.ntmps4
    go_wp2_with fail
    refine HN.out.mono ?_
    rintro e w1 ⟨v, rfl, hP, hb⟩
    obtain ⟨p, rfl⟩ := hP.some_ptr
    have B1 := Lib.hid hb
    have CB := Lib.hid (bucket_any hP a1)
    have CB : Hid (Calls Try.prog 19 #[.pointer (some ⟨p, 0, none⟩), .int .i64 a1] w1 fun e w' => e = .returned (.int .i64 k) ∧ Below w1.heap.size w1 w') := by rw [← HK.out]; exact CB
    clear hP hb HN
    go_wp2_with fail
    refine CB.out.mono ?_
    rintro e w2 ⟨rfl, hb⟩
    have B2 := hb_trans' B1 hb (Below.size B1)
    have HI2 := Lib.hid (HI.out.below B2.out)
    have s2 := Below.size B2
    clear hb B1 CB HI
    by_cases hk0 : k = 0
    · subst hk0
      by_cases hkn : n0 = 0
      · subst hkn
        go_wp2_with fail
        refine (works_any _).mono ?_
        rintro e w9 ⟨rfl, hb9⟩
        have B9 := hb_trans' B2 hb9 (Below.size B2)
        clear hb9
        go_wp2
        go_ret
        exact ⟨rfl, B9.out⟩
      · obtain ⟨off, ha, hc⟩ := HI2.out.2.2.2 (by omega)
        have hc0 := hc 0 (by omega)
        rw [Nat.add_zero] at hc0
        have hx := HHI.out 0 (by omega) (by omega)
        obtain ⟨x, hx2⟩ : ∃ x, l0.getD 0 0 = x := ⟨_, rfl⟩
        rw [hx2] at hc0 hx
        have hkb : ((0 : Int) == (n0 : Int)) = false := by simp; omega
        have hi1 : (0 : Int) < n0 := by omega
        subst ha
        clear hc hx2 hkn
        go_wp2_with fail
        refine (works_any _).mono ?_
        rintro e w9 ⟨rfl, hb9⟩
        have B9 := hb_trans' B2 hb9 (Below.size B2)
        clear hb9
        go_wp2
        go_ret
        exact ⟨rfl, B9.out⟩
    · have hkb0 : ((k : Int) == 0) = false := by simpa using hk0
      have hlo := HLO.out (k - 1) (by omega)
      obtain ⟨off, ha, hc⟩ := HI2.out.2.2.2 (by omega)
      have hc1 := hc (k - 1) (by omega)
      obtain ⟨x, hx⟩ : ∃ x, l0.getD (k - 1) 0 = x := ⟨_, rfl⟩
      rw [hx] at hc1 hlo
      have j1 : (0 : Int) ≤ (k : Int) - 1 := by omega
      have j2 : (k : Int) - 1 < n0 := by omega
      have j3 : ((k : Int) - 1).toNat = k - 1 := by omega
      by_cases hkn : k = n0
      · have hkb : ((k : Int) == (n0 : Int)) = true := by simp; omega
        subst ha
        clear hc hx hk0 hkn
        go_wp2_with fail
        refine (works_any _).mono ?_
        rintro e w9 ⟨rfl, hb9⟩
        have B9 := hb_trans' B2 hb9 (Below.size B2)
        clear hb9
        go_wp2
        go_ret
        exact ⟨rfl, B9.out⟩
      · have hc0 := hc k (by omega)
        have hy := HHI.out k (by omega) (by omega)
        obtain ⟨y, hy2⟩ : ∃ y, l0.getD k 0 = y := ⟨_, rfl⟩
        rw [hy2] at hc0 hy
        have hkb : ((k : Int) == (n0 : Int)) = false := by simp; omega
        have hi1 : (k : Int) < n0 := by omega
        have hi0 : (0 : Int) ≤ k := by omega
        subst ha
        clear hc hx hy2 hk0 hkn
        go_wp2_with fail
        refine (works_any _).mono ?_
        rintro e w9 ⟨rfl, hb9⟩
        have B9 := hb_trans' B2 hb9 (Below.size B2)
        clear hb9
        go_wp2
        go_ret
        exact ⟨rfl, B9.out⟩
  · have HN : Hid (Calls Try.prog 18 #[.slice a0 n0 c0] w (GivesH w none 2)) := by
      have := HN.out; rwa [show new l0 = none by rw [new, if_neg hf], show newE l0 = 2 by rw [newE, if_neg hf]] at this
    clear hf w0 w1 q0
    go_enter Try.func4, Try.ntmps4
    go_wp2_with fail
    refine HN.out.mono ?_
    rintro e w1 ⟨v, rfl, hP, hb⟩
    have B1 := Lib.hid hb
    clear hP hb HN
    go_wp2_with fail
    refine (works_any _).mono ?_
    rintro e w9 ⟨rfl, hb9⟩
    have B9 := hb_trans' B1 hb9 (Below.size B1)
    clear hb9
    go_wp2
    go_ret
    exact ⟨rfl, B9.out⟩

set_option maxRecDepth 100000 in
theorem lifted (os : Os) (started : os.Started) (H : Type) (enc : TypeId × Value → H) :
    ReturnsInHanded {} Try.checked os 4 .any (Rows.histoBucketsSpec.pre6 enc Try.prog Try.f4 Rows.histoBucketsRow.domain false) (Rows.histoBucketsSpec.post enc Try.prog Try.f4 false true false false) := by
  refine returnsInHanded_of_change (C := Try.checked) own started (by kernel_rfl) Try.func4
    (ChangeSpec.witness6 (enc := enc) (C := Try.checked) false ⟨#[], #[.slice none 0 0, .int .i64 0], []⟩ 8 (by kernel_rfl) (by kernel_rfl) (by kernel_rfl) (by kernel_rfl)) ?_
  intro W base args ds gs before hval0 hW hcnd _
  have hval : ∀ (j : Nat) t v, Try.f4.params[j]? = some t → args[j]? = some v → Value.okWide Try.prog W .any base t v := hval0
  have hW' := hW
  obtain ⟨p, q, hA0, hV, rfl, hfz, hnd⟩ := hW
  have hA : DataW.TrodAll enc Try.prog W 0 (fun _ => true) true Try.f4.params.toList args.toList ds p := hA0
  rw [Try.params4] at hA hval
  obtain ⟨v0, vs0, d0, ds0, p0, q0, hargs, rfl, rfl, h0, r0⟩ := trodAll_cons hA
  obtain ⟨v1, vs1, d1, ds1, p1, q1, rfl, rfl, rfl, h1, r1⟩ := trodAll_cons r0
  obtain ⟨rfl, rfl, rfl⟩ := trodAll_nil r1
  obtain rfl : args = #[v0, v1] := by cases args; simp_all
  obtain ⟨rfl, rfl⟩ := trodVars_none hV
  have k0 := h0
  have lt0 : ∀ x ∈ p0, x.block < W.heap.size := by obtain ⟨m, hm⟩ := k0; exact DataW.trod_lt m _ _ _ hm
  have k1 := h1
  have lt1 : ∀ x ∈ p1, x.block < W.heap.size := by obtain ⟨m, hm⟩ := k1; exact DataW.trod_lt m _ _ _ hm
  obtain ⟨a0, n0, c0, b0, l0, rfl, w0, x0, y0⟩ := opn_ints Try.underlying22 Try.underlying2 (by kernel_rfl) (hval 0 22 v0 rfl rfl) h0
  obtain ⟨a1, rfl, dd1, pp1, w1⟩ := open_int Try.underlying2 (hval 1 2 v1 rfl rfl) h1
  clear hA0 hval0
  refine (walk a0 n0 c0 b0 l0 a1 W w0 ⟨x0, y0⟩ w1).mono fun e W' ⟨he, bel⟩ => ?_
  subst he
  exact ⟨_, rfl, _, _, _, [], _, [], hW', trodAll_mk1 (shut_bool Try.underlying4 _), (trodAll_cons_mk (Below.trod laidOut (by kernel_rfl) (of_decide_eq_true (by kernel_rfl)) k0 bel lt0) (trodAll_cons_mk (Below.trod laidOut (by kernel_rfl) (of_decide_eq_true (by kernel_rfl)) k1 bel lt1) trodAll_mk0)), rfl, bel.frame _, fun h => by cases h⟩

theorem over : Rows.histoBucketsRow.holds Try.pinned (OpenSpec.ofChange Rows.histoBucketsSpec) :=
  OpenClaim.holds_of_wide 4 Try.f4 rfl rfl rfl rfl rfl rfl rfl ⟨rfl, rfl, rfl, rfl, rfl⟩ rfl rfl rfl rfl rfl (by kernel_rfl) Try.func4 (by kernel_rfl)
    (of_decide_eq_true (by kernel_rfl)) (by unfold Func.isWrapper; first | (rw [if_pos (by decide +kernel)]; kernel_rfl) | (rw [if_neg (by decide +kernel)]; exact ⟨rfl, rfl⟩))
    (fun os started H enc _ => lifted os started H enc)

/-- The statement. -/
theorem proved : Rows.HistoBucketsSaid :=
  over
#print axioms proved
end Go.Proofs.Ytpfdoifkimjlbaa.histoBuckets
