/- THE STATEMENT HistoPlays: after every number that is counted, what the histogram shows is the document's; at most 200 bounds and steps. No condition. -/
import Derived.Test.YtpfdoifkimjlbaaRows
import Derived.WalkKit
import Derived.ProofKit
import Derived.OpenShut
import Derived.Below
import Derived.Carry
import Derived.ChangeOld
import Derived.Lib.SmallJoins
import Derived.Test.YtpfdoifkimjlbaaO
import Derived.Test.YtpfdoifkimjlbaaU
set_option linter.unusedSimpArgs false
set_option linter.unusedVariables false
namespace Go.Proofs.Ytpfdoifkimjlbaa.histoPlays
open Go.ChangeShapes Go.WideShapes Go.ChangeAt Go.RowKit Go.Joins
open H M
theorem own : ownKnob Try.prog.godebug = none := by kernel_rfl
theorem laidOut : laidOutB Try.prog = true := by kernel_rfl

set_option maxHeartbeats 4000000 in
set_option maxRecDepth 100000 in
theorem walk (a0 : Option Addr) (n0 c0 b0 : Nat) (l0 : List Int) (a1 : Option Addr) (n1 c1 b1 : Nat) (f1 : Nat → Nat → Int) (a2 : Int) (w : World) (w0 : Ints w b0 a0 n0 c0 l0) (q0 : n0 ≤ c0 ∧ c0 ≤ maxLen) (w1 : Recs w b1 a1 n1 2 (fun _ => .i64) f1) (q1 : n1 ≤ c1 ∧ c1 ≤ maxLen) (w2 : (Lit.int .i64 a2).wf = true) :
    Calls Try.prog 8 #[.slice a0 n0 c0, .slice a1 n1 c1, .int .i64 a2] w fun e w' => e = .returned (.bool true) ∧ Below w.heap.size w w' := by

  by_cases g0 : 200 < n0
  · have g0' : (200 : Int) < n0 := by omega
    have hm := q0
    unfold maxLen at hm
    clear w0 w1 w2
    go_enter Try.func8, Try.ntmps8
    have B1 : Hid (Below w.heap.size w w) := Below.refl _ _
    go_wp2_with fail
    refine (works_any _).mono ?_
    rintro e w9 ⟨rfl, hb9⟩
    have B9 := hb_trans' B1 hb9 (Below.size B1)
    clear hb9
    go_wp2
    go_ret
    exact ⟨rfl, B9.out⟩
  have g0' : ¬ (200 : Int) < n0 := by omega
  by_cases g1 : 200 < n1
  · have g1' : (200 : Int) < n1 := by omega
    have hm := q1
    unfold maxLen at hm
    clear w0 w1 w2
    go_enter Try.func8, Try.ntmps8
    have B1 : Hid (Below w.heap.size w w) := Below.refl _ _
    go_wp2_with fail
    refine (works_any _).mono ?_
    rintro e w9 ⟨rfl, hb9⟩
    have B9 := hb_trans' B1 hb9 (Below.size B1)
    clear hb9
    go_wp2
    go_ret
    exact ⟨rfl, B9.out⟩
  have g1' : ¬ (200 : Int) < n1 := by omega
  have hq : n0 ≤ maxLen := by omega
  have HN := Lib.hid (new_any w0 hq)
  have HL := Lib.hid w0.1
  have hq1 := q1
  unfold maxLen at hq1
  have a2b := wf_in64 w2
  have HR := Lib.hid (fun W (hb : Below w.heap.size w W) => rnew_any (w0.below hb) hq)
  obtain ⟨o, ho⟩ : ∃ o, new l0 = o := ⟨_, rfl⟩
  obtain ⟨ne, hne⟩ : ∃ ne, newE l0 = ne := ⟨_, rfl⟩
  rw [ho, hne] at HN HR
  have W1 := Lib.hid w1
  clear w0 w1 w2 q0 q1 hq ho hne HL
  go_enter Try.func8, Try.ntmps8
  go_wp2_with fail
  refine HN.out.mono ?_
  rintro e v1 ⟨v, rfl, hP, hb⟩
  have B1 := Lib.hid hb
  have P1 := Lib.hid hP
  clear hP hb HN
  go_wp2_with fail
  refine (HR.out _ B1.out).mono ?_
  rintro e v2 ⟨u, rfl, hP, hb⟩
  have P2 := Lib.hid (P1.out.below hb)
  have R2 := Lib.hid hP
  have B2 := hb_trans' B1 hb (Below.size B1)
  have s12 := hb.size
  have s01 := Below.size B1
  clear hP hb B1 P1 HR
  go_wp2_with fail
  go_loopw [11] (fun i wr => ∃ (k : Nat) (s : H.St), i = .int .i64 k ∧ k ≤ n1 ∧ Hid (PHo wr w.heap.size v1.heap.size v s) ∧ Hid (RHo wr v1.heap.size v2.heap.size u s) ∧ Hid (Below w.heap.size w wr)) (fun i _ => n1 - (intOf i).toNat)
  case atStart => exact ⟨0, o, rfl, Nat.zero_le _, P2, R2, B2⟩
  case round =>
    obtain ⟨k, s, rfl, hk, HP, HR, HB⟩ := hrel
    clear P2 R2 B2
    by_cases hlt : k < n1
    · have hR := W1.out.below (by decide) HB.out
      obtain ⟨off, ha, hc⟩ := hR.2 (by omega)
      have hx := hc k 0 hlt (by decide)
      have ht := hc k 1 hlt (by decide)
      have wx := wf_in64 (hR.1 k 0 hlt (by decide))
      have wt := wf_in64 (hR.1 k 1 hlt (by decide))
      rw [Nat.add_zero] at hx
      rw [← Nat.add_assoc] at ht
      have i0 : (0 : Int) ≤ k := by omega
      have i1 : (k : Int) < n1 := by omega
      have HXT : Hid (∀ W, Below w.heap.size w W → W.cell? ⟨b1, off + k * 2, none⟩ = some (.int .i64 (f1 k 0)) ∧ W.cell? ⟨b1, off + k * 2 + 1, none⟩ = some (.int .i64 (f1 k 1))) := by
        intro W hW
        obtain ⟨off2, ha2, hc2⟩ := (W1.out.below (by decide) hW).2 (by omega)
        have ho2 : off2 = off := by rw [ha] at ha2; injection ha2 with ha2; injection ha2 with _ ha2; exact ha2.symm
        subst ho2
        exact ⟨hc2 k 0 hlt (by decide), hc2 k 1 hlt (by decide)⟩
      obtain ⟨x, hx2⟩ : ∃ x, f1 k 0 = x := ⟨_, rfl⟩
      obtain ⟨t, ht2⟩ : ∃ t, f1 k 1 = t := ⟨_, rfl⟩
      rw [hx2] at hx wx HXT
      rw [ht2] at ht wt HXT
      subst ha
      have HA := Lib.hid (hadd_any (w := wr.drew) (HP.out.below (Below.drew (Below.refl _ _))) x t wt)
      have HR' := Lib.hid (HR.out.below (Below.drew (Below.refl _ _)))
      have WT := Lib.hid wt
      have hb1 : b1 < wr.heap.size := World.block_lt_of_cell? wr _ hx
      clear hc hx2 ht2 hR wt
      go_wp2_with fail
      go_region_held3 (fun w' => w'.cell? ⟨b1, off + k * 2, none⟩ = some (.int .i64 x) ∧ w'.cell? ⟨b1, off + k * 2 + 1, none⟩ = some (.int .i64 t)) (go_keep)
        (first
          | (go_at_call 20; go_must (refine HA.out.mono ?_; rintro e w3 ⟨rfl, hP3, hm3⟩; have HP3 := Lib.hid hP3; have HB3 := Mod.hb (Below.drew HB.out) hm3 (Nat.le_refl _) HB.out.size; have HR3 := Lib.hid (HR'.out.mod hm3 (.inr (Nat.le_refl _))); have hxt := HXT.out _ HB3.out; have hx := hxt.1; have ht := hxt.2; clear hP3 hm3 HA HP HB HR HR' hxt))
          | (go_at_call 25; go_must (refine (radd_any HR3.out x t WT.out).mono ?_; rintro e w4 ⟨rfl, hR4, hm4⟩; have HR4 := Lib.hid hR4; have HB4 := Mod.hb HB3 hm4 s01 HB3.out.size; have HP4 := Lib.hid (HP3.out.mod hm4 (.inl (Nat.le_refl _))); have hxt := HXT.out _ HB4.out; have hx := hxt.1; have ht := hxt.2; clear hR4 hm4 HP3 HB3 HR3 hxt))
          | (go_at_call 24; go_must (refine (agree_any HP4.out HR4.out a2).mono ?_; rintro e w5 ⟨rfl, hb5⟩; have HP5 := Lib.hid (HP4.out.below hb5); have HR5 := Lib.hid (HR4.out.below hb5); have HB5 := hb_trans' HB4 hb5 HB4.out.size; have hxt := HXT.out _ HB5.out; have hx := hxt.1; have ht := hxt.2; clear hb5 HP4 HB4 HR4 hxt))
          | (go_at_call 19; go_must (refine (bucket_any HP5.out x).mono ?_; rintro e w6 ⟨rfl, hb6⟩; have HP6 := Lib.hid (HP5.out.below hb6); have HR6 := Lib.hid (HR5.out.below hb6); have HB6 := hb_trans' HB5 hb6 HB5.out.size; have hxt := HXT.out _ HB6.out; have hx := hxt.1; have ht := hxt.2; clear hb6 HP5 HB5 HR5 hxt))
          | (go_at_call 26; go_must (refine (rbucket_any HR6.out x).mono ?_; rintro e w7 ⟨rfl, rfl⟩)))
      all_goals go_wp2
      all_goals go_roundw
      case rel => exact ⟨k + 1, addS s x t, by go_num, by omega, HP6, HR6, HB6⟩
      case measure => simp [intOf]; omega
    · obtain rfl : k = n1 := by omega
      have HB5 := HB
      go_wp2_with fail
      refine (works_any _).mono ?_
      rintro e w9 ⟨rfl, hb9⟩
      have B9 := hb_trans' HB5 hb9 (Below.size HB5)
      clear hb9
      go_wp2
      go_ret
      exact ⟨rfl, B9.out⟩

set_option maxRecDepth 100000 in
theorem lifted (os : Os) (started : os.Started) (H : Type) (enc : TypeId × Value → H) :
    ReturnsInHanded {} Try.checked os 8 .any (Rows.histoPlaysSpec.pre6 enc Try.prog Try.f8 Rows.histoPlaysRow.domain false) (Rows.histoPlaysSpec.post enc Try.prog Try.f8 false true false false) := by
  refine returnsInHanded_of_change (C := Try.checked) own started (by kernel_rfl) Try.func8
    (ChangeSpec.witness6 (enc := enc) (C := Try.checked) false ⟨#[], #[.slice none 0 0, .slice none 0 0, .int .i64 0], []⟩ 8 (by kernel_rfl) (by kernel_rfl) (by kernel_rfl) (by kernel_rfl)) ?_
  intro W base args ds gs before hval0 hW hcnd _
  have hval : ∀ (j : Nat) t v, Try.f8.params[j]? = some t → args[j]? = some v → Value.okWide Try.prog W .any base t v := hval0
  have hW' := hW
  obtain ⟨p, q, hA0, hV, rfl, hfz, hnd⟩ := hW
  have hA : DataW.TrodAll enc Try.prog W 0 (fun _ => true) true Try.f8.params.toList args.toList ds p := hA0
  rw [Try.params8] at hA hval
  obtain ⟨v0, vs0, d0, ds0, p0, q0, hargs, rfl, rfl, h0, r0⟩ := trodAll_cons hA
  obtain ⟨v1, vs1, d1, ds1, p1, q1, rfl, rfl, rfl, h1, r1⟩ := trodAll_cons r0
  obtain ⟨v2, vs2, d2, ds2, p2, q2, rfl, rfl, rfl, h2, r2⟩ := trodAll_cons r1
  obtain ⟨rfl, rfl, rfl⟩ := trodAll_nil r2
  obtain rfl : args = #[v0, v1, v2] := by cases args; simp_all
  obtain ⟨rfl, rfl⟩ := trodVars_none hV
  have k0 := h0
  have lt0 : ∀ x ∈ p0, x.block < W.heap.size := by obtain ⟨m, hm⟩ := k0; exact DataW.trod_lt m _ _ _ hm
  have k1 := h1
  have lt1 : ∀ x ∈ p1, x.block < W.heap.size := by obtain ⟨m, hm⟩ := k1; exact DataW.trod_lt m _ _ _ hm
  have k2 := h2
  have lt2 : ∀ x ∈ p2, x.block < W.heap.size := by obtain ⟨m, hm⟩ := k2; exact DataW.trod_lt m _ _ _ hm
  obtain ⟨a0, n0, c0, b0, l0, rfl, w0, x0, y0⟩ := opn_ints Try.underlying22 Try.underlying2 (by kernel_rfl) (hval 0 22 v0 rfl rfl) h0
  obtain ⟨a1, n1, c1, b1, f1, rfl, w1, x1, y1⟩ := opn_recs (kd := fun _ => .i64) Try.underlying23 Try.underlying40 (by kernel_rfl) (by kernel_rfl) (by decide) (by
    intro j f hj
    have hjl : j < 2 := by simpa using (Array.getElem?_eq_some_iff.1 hj).1
    match j, hjl, hj with
    | 0, _, hj => simp at hj; subst hj; exact Try.underlying2
    | 1, _, hj => simp at hj; subst hj; exact Try.underlying2
    ) (hval 1 23 v1 rfl rfl) h1
  obtain ⟨a2, rfl, dd2, pp2, w2⟩ := open_int Try.underlying2 (hval 2 2 v2 rfl rfl) h2
  clear hA0 hval0
  refine (walk a0 n0 c0 b0 l0 a1 n1 c1 b1 f1 a2 W w0 ⟨x0, y0⟩ w1 ⟨x1, y1⟩ w2).mono fun e W' ⟨he, bel⟩ => ?_
  subst he
  exact ⟨_, rfl, _, _, _, [], _, [], hW', trodAll_mk1 (shut_bool Try.underlying4 _), (trodAll_cons_mk (Below.trod laidOut (by kernel_rfl) (of_decide_eq_true (by kernel_rfl)) k0 bel lt0) (trodAll_cons_mk (Below.trod laidOut (by kernel_rfl) (of_decide_eq_true (by kernel_rfl)) k1 bel lt1) (trodAll_cons_mk (Below.trod laidOut (by kernel_rfl) (of_decide_eq_true (by kernel_rfl)) k2 bel lt2) trodAll_mk0))), rfl, bel.frame _, fun h => by cases h⟩

theorem over : Rows.histoPlaysRow.holds Try.pinned (OpenSpec.ofChange Rows.histoPlaysSpec) :=
  OpenClaim.holds_of_wide 8 Try.f8 rfl rfl rfl rfl rfl rfl rfl ⟨rfl, rfl, rfl, rfl, rfl⟩ rfl rfl rfl rfl rfl (by kernel_rfl) Try.func8 (by kernel_rfl)
    (of_decide_eq_true (by kernel_rfl)) (by unfold Func.isWrapper; first | (rw [if_pos (by decide +kernel)]; kernel_rfl) | (rw [if_neg (by decide +kernel)]; exact ⟨rfl, rfl⟩))
    (fun os started H enc _ => lifted os started H enc)

/-- The statement. -/
theorem proved : Rows.HistoPlaysSaid :=
  over
#print axioms proved
end Go.Proofs.Ytpfdoifkimjlbaa.histoPlays
