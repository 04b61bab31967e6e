/- THE STATEMENT HistoNews: New returns an empty histogram, or refuses the bounds, as the document says; at most 1100 bounds. No condition. -/
import Derived.Test.YtpfdoifkimjlbaaRows
import Derived.WalkKit
import Derived.ProofKit
import Derived.OpenShut
import Derived.Below
import Derived.Carry
import Derived.ChangeOld
import Derived.Lib.SmallJoins
import Derived.Test.YtpfdoifkimjlbaaO
import Derived.Test.YtpfdoifkimjlbaaU
set_option linter.unusedSimpArgs false
set_option linter.unusedVariables false
namespace Go.Proofs.Ytpfdoifkimjlbaa.histoNews
open Go.ChangeShapes Go.WideShapes Go.ChangeAt Go.RowKit Go.Joins
open H M
theorem own : ownKnob Try.prog.godebug = none := by kernel_rfl
theorem laidOut : laidOutB Try.prog = true := by kernel_rfl

set_option maxHeartbeats 4000000 in
set_option maxRecDepth 100000 in
theorem walk (a0 : Option Addr) (n0 c0 b0 : Nat) (l0 : List Int) (a1 : Int) (w : World) (w0 : Ints w b0 a0 n0 c0 l0) (q0 : n0 ≤ c0 ∧ c0 ≤ maxLen) (w1 : (Lit.int .i64 a1).wf = true) :
    Calls Try.prog 7 #[.slice a0 n0 c0, .int .i64 a1] w fun e w' => e = .returned (.bool true) ∧ Below w.heap.size w w' := by

  have hq2 := q0
  unfold maxLen at hq2
  have a1b := wf_in64 w1
  by_cases g0 : 1100 < n0
  · have g0' : (1100 : Int) < n0 := by omega
    clear w0 w1 q0
    go_enter Try.func7, Try.ntmps7
    have B1 : Hid (Below w.heap.size w w) := Below.refl _ _
    go_wp2_with fail
    refine (works_any _).mono ?_
    rintro e w9 ⟨rfl, hb9⟩
    have B9 := hb_trans' B1 hb9 (Below.size B1)
    clear hb9
    go_wp2
    go_ret
    exact ⟨rfl, B9.out⟩
  have g0' : ¬ (1100 : Int) < n0 := by omega
  have hq : n0 ≤ maxLen := by omega
  have HN := Lib.hid (new_str w0 hq)
  have HR := Lib.hid (fun W (hb : Below w.heap.size w W) => rnew_str (w0.below hb) hq)
  obtain ⟨o, ho⟩ : ∃ o, new l0 = o := ⟨_, rfl⟩
  obtain ⟨ne, hne⟩ : ∃ ne, newE l0 = ne := ⟨_, rfl⟩
  rw [ho, hne] at HN HR
  clear w0 w1 q0 hq ho hne
  go_enter Try.func7, Try.ntmps7
  go_wp2_with fail
  refine HN.out.mono ?_
  rintro e v1 ⟨⟨v, rfl, hP, hb⟩, hv⟩
  have B1 := Lib.hid hb
  have P1 := Lib.hid hP
  have V1 := Lib.hid hv
  clear hP hb HN hv
  go_wp2_with fail
  refine (HR.out _ B1.out).mono ?_
  rintro e v2 ⟨⟨u, rfl, hP, hb⟩, hu⟩
  have P2 := Lib.hid (P1.out.below hb)
  have R2 := Lib.hid hP
  have B2 := hb_trans' B1 hb (Below.size B1)
  have U1 := Lib.hid hu
  clear hP hb B1 P1 HR hu
  have AG := Lib.hid (agree_any P2.out R2.out a1)
  rcases o with _ | s
  · have ev := V1.out rfl
    have eu := U1.out rfl
    injection ev with ev
    injection ev with ev
    obtain rfl : v = .pointer none := by simpa using ev
    injection eu with eu
    injection eu with eu
    obtain rfl : u = .pointer none := by simpa using eu
    clear ev eu V1 U1 P2 R2
    go_wp2_with fail
    refine AG.out.mono ?_
    rintro e v3 ⟨rfl, hb⟩
    have HB5 := hb_trans' B2 hb (Below.size B2)
    clear hb
    go_wp2_with fail
    refine (works_any _).mono ?_
    rintro e w9 ⟨rfl, hb9⟩
    have B9 := hb_trans' HB5 hb9 (Below.size HB5)
    clear hb9
    go_wp2
    go_ret
    exact ⟨rfl, B9.out⟩
  · obtain ⟨p, rfl⟩ := P2.out.some_ptr
    obtain ⟨q, rfl⟩ := R2.out.some_ptr
    clear V1 U1 P2 R2
    go_wp2_with fail
    refine AG.out.mono ?_
    rintro e v3 ⟨rfl, hb⟩
    have HB5 := hb_trans' B2 hb (Below.size B2)
    clear hb
    go_wp2_with fail
    refine (works_any _).mono ?_
    rintro e w9 ⟨rfl, hb9⟩
    have B9 := hb_trans' HB5 hb9 (Below.size HB5)
    clear hb9
    go_wp2
    go_ret
    exact ⟨rfl, B9.out⟩

set_option maxRecDepth 100000 in
theorem lifted (os : Os) (started : os.Started) (H : Type) (enc : TypeId × Value → H) :
    ReturnsInHanded {} Try.checked os 7 .any (Rows.histoNewsSpec.pre6 enc Try.prog Try.f7 Rows.histoNewsRow.domain false) (Rows.histoNewsSpec.post enc Try.prog Try.f7 false true false false) := by
  refine returnsInHanded_of_change (C := Try.checked) own started (by kernel_rfl) Try.func7
    (ChangeSpec.witness6 (enc := enc) (C := Try.checked) false ⟨#[], #[.slice none 0 0, .int .i64 0], []⟩ 8 (by kernel_rfl) (by kernel_rfl) (by kernel_rfl) (by kernel_rfl)) ?_
  intro W base args ds gs before hval0 hW hcnd _
  have hval : ∀ (j : Nat) t v, Try.f7.params[j]? = some t → args[j]? = some v → Value.okWide Try.prog W .any base t v := hval0
  have hW' := hW
  obtain ⟨p, q, hA0, hV, rfl, hfz, hnd⟩ := hW
  have hA : DataW.TrodAll enc Try.prog W 0 (fun _ => true) true Try.f7.params.toList args.toList ds p := hA0
  rw [Try.params7] at hA hval
  obtain ⟨v0, vs0, d0, ds0, p0, q0, hargs, rfl, rfl, h0, r0⟩ := trodAll_cons hA
  obtain ⟨v1, vs1, d1, ds1, p1, q1, rfl, rfl, rfl, h1, r1⟩ := trodAll_cons r0
  obtain ⟨rfl, rfl, rfl⟩ := trodAll_nil r1
  obtain rfl : args = #[v0, v1] := by cases args; simp_all
  obtain ⟨rfl, rfl⟩ := trodVars_none hV
  have k0 := h0
  have lt0 : ∀ x ∈ p0, x.block < W.heap.size := by obtain ⟨m, hm⟩ := k0; exact DataW.trod_lt m _ _ _ hm
  have k1 := h1
  have lt1 : ∀ x ∈ p1, x.block < W.heap.size := by obtain ⟨m, hm⟩ := k1; exact DataW.trod_lt m _ _ _ hm
  obtain ⟨a0, n0, c0, b0, l0, rfl, w0, x0, y0⟩ := opn_ints Try.underlying22 Try.underlying2 (by kernel_rfl) (hval 0 22 v0 rfl rfl) h0
  obtain ⟨a1, rfl, dd1, pp1, w1⟩ := open_int Try.underlying2 (hval 1 2 v1 rfl rfl) h1
  clear hA0 hval0
  refine (walk a0 n0 c0 b0 l0 a1 W w0 ⟨x0, y0⟩ w1).mono fun e W' ⟨he, bel⟩ => ?_
  subst he
  exact ⟨_, rfl, _, _, _, [], _, [], hW', trodAll_mk1 (shut_bool Try.underlying4 _), (trodAll_cons_mk (Below.trod laidOut (by kernel_rfl) (of_decide_eq_true (by kernel_rfl)) k0 bel lt0) (trodAll_cons_mk (Below.trod laidOut (by kernel_rfl) (of_decide_eq_true (by kernel_rfl)) k1 bel lt1) trodAll_mk0)), rfl, bel.frame _, fun h => by cases h⟩

theorem over : Rows.histoNewsRow.holds Try.pinned (OpenSpec.ofChange Rows.histoNewsSpec) :=
  OpenClaim.holds_of_wide 7 Try.f7 rfl rfl rfl rfl rfl rfl rfl ⟨rfl, rfl, rfl, rfl, rfl⟩ rfl rfl rfl rfl rfl (by kernel_rfl) Try.func7 (by kernel_rfl)
    (of_decide_eq_true (by kernel_rfl)) (by unfold Func.isWrapper; first | (rw [if_pos (by decide +kernel)]; kernel_rfl) | (rw [if_neg (by decide +kernel)]; exact ⟨rfl, rfl⟩))
    (fun os started H enc _ => lifted os started H enc)

/-- The statement. -/
theorem proved : Rows.HistoNewsSaid :=
  over
#print axioms proved
end Go.Proofs.Ytpfdoifkimjlbaa.histoNews
