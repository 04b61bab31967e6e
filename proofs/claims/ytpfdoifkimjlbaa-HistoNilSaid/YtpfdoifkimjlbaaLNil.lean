/- THE STATEMENT HistoNil: histograms that are nil, or were not made by New, are as the document says. No condition. -/
import Derived.Test.YtpfdoifkimjlbaaRows
import Derived.WalkKit
import Derived.ProofKit
import Derived.OpenShut
import Derived.Below
import Derived.Carry
import Derived.ChangeOld
import Derived.Lib.SmallJoins
import Derived.Test.YtpfdoifkimjlbaaO
import Derived.Test.YtpfdoifkimjlbaaT
import Derived.Test.YtpfdoifkimjlbaaY
set_option linter.unusedSimpArgs false
set_option linter.unusedVariables false
namespace Go.Proofs.Ytpfdoifkimjlbaa.histoNil
open Go.ChangeShapes Go.WideShapes Go.ChangeAt Go.RowKit Go.Joins
open H M
theorem own : ownKnob Try.prog.godebug = none := by kernel_rfl
theorem laidOut : laidOutB Try.prog = true := by kernel_rfl

set_option maxHeartbeats 4000000 in
set_option maxRecDepth 100000 in
theorem walk (a0 : Int) (a1 : Int) (a2 : Int) (w : World) (w0 : (Lit.int .i64 a0).wf = true) (w1 : (Lit.int .i64 a1).wf = true) (w2 : (Lit.int .i64 a2).wf = true) :
    Calls Try.prog 13 #[.int .i64 a0, .int .i64 a1, .int .i64 a2] w fun e w' => e = .returned (.bool true) ∧ Below w.heap.size w w' := by

  have x1 := wf_in64 w0
  have x2 := wf_in64 w1
  have x3 := wf_in64 w2
  have X1 := Lib.hid x1
  have X2 := Lib.hid x2
  have X3 := Lib.hid x3
  have hI : Ints (w.alloc (.cells #[.int .i64 a0] 2)) w.heap.size (some ⟨w.heap.size, 0, none⟩) 1 1 [a0] :=
    Ints.of_bk (l := [a0]) (ex := []) (Bk.new w 2 [.int .i64 a0]) (by intro x hx; simp at hx; subst hx; exact x1)
  have HN := Lib.hid (new_any hI (by decide))
  rw [show new [a0] = some ([a0], [0, 0]) by rfl, show newE [a0] = 0 by rfl] at HN
  have B0 : Hid (Below w.heap.size w (w.alloc (.cells #[.int .i64 a0] 2))) := (Below.refl _ _).alloc (Nat.le_refl _) _
  clear hI w0 w1 w2 x1 x2 x3
  go_enter Try.func13, Try.ntmps13
  go_wp2_with fail
  refine HN.out.mono ?_
  rintro e w1 ⟨g, rfl, hP, hb⟩
  have B1 := hb_trans' B0 hb (by simp)
  have s1 := Below.size B1
  have s2 : w.heap.size + 1 ≤ w1.heap.size := by have := hb.size; simp at this; exact this
  have s3 : (w.alloc (.cells #[.int .i64 a0] 2)).heap.size = w.heap.size + 1 := by simp
  rw [s3] at hP
  have P1 := Lib.hid hP
  clear hP hb HN B0 s3
  have W2 : Below w1.heap.size w1 ((w1.alloc (.cells #[.bool false, .slice none 0 0, .slice none 0 0, .int .i64 0] 63)).alloc (.cells #[.pointer none, .pointer (some ⟨w1.heap.size, 0, none⟩)] 26)) := ((Below.refl _ _).alloc (Nat.le_refl _) _).alloc (by simp) _
  have P2 := Lib.hid (P1.out.below W2)
  have B2 := hb_trans' B1 W2 s1
  have Z1 : Bk ((w1.alloc (.cells #[.bool false, .slice none 0 0, .slice none 0 0, .int .i64 0] 63)).alloc (.cells #[.pointer none, .pointer (some ⟨w1.heap.size, 0, none⟩)] 26)) (w1.heap.size + 1) 26 [.pointer none, .pointer (some ⟨w1.heap.size, 0, none⟩)] := Bk.new' (by simp)
  have Z2 : Bk ((w1.alloc (.cells #[.bool false, .slice none 0 0, .slice none 0 0, .int .i64 0] 63)).alloc (.cells #[.pointer none, .pointer (some ⟨w1.heap.size, 0, none⟩)] 26)) w1.heap.size 63 [.bool false, .slice none 0 0, .slice none 0 0, .int .i64 0] := Bk.alloc (Bk.new' rfl) _
  have Z1' := Lib.hid Z1
  have Z2' := Lib.hid Z2
  clear W2 Z1 Z2 P1 B1
  go_wp2_with fail
  go_loopw [11] (fun i wr => ∃ k : Nat, i = .int .i64 k ∧ k ≤ 2 ∧ Hid (Bk wr (w1.heap.size + 1) 26 [.pointer none, .pointer (some ⟨w1.heap.size, 0, none⟩)]) ∧ Hid (Bk wr w1.heap.size 63 [.bool false, .slice none 0 0, .slice none 0 0, .int .i64 0]) ∧ Hid (PHo wr (w.heap.size + 1) w1.heap.size g (some ([a0], [0, 0]))) ∧ Hid (Below w.heap.size w wr)) (fun i _ => 2 - (intOf i).toNat)
  case atStart => exact ⟨0, rfl, by omega, Z1', Z2', P2, B2⟩
  case round =>
    obtain ⟨k, rfl, hk, Q1, Q2, Q3, Q4⟩ := hrel
    clear Z1' Z2' P2 B2
    by_cases hlt : k < 2
    · obtain ⟨v, hc, hno⟩ : ∃ v, wr.cell? ⟨w1.heap.size + 1, k, none⟩ = some v ∧ NoH wr w1.heap.size (w1.heap.size + 1) v := by
        rcases (by omega : k = 0 ∨ k = 1) with rfl | rfl
        · exact ⟨_, Q1.out.cell 0, .inl rfl⟩
        · exact ⟨_, Q1.out.cell 1, .inr ⟨_, ⟨Nat.le_refl _, Nat.lt_succ_self _⟩, rfl, Q2.out.cell 0⟩⟩
      have hl1 := Q1.out.lt
      have i0 : (0 : Int) ≤ k := by omega
      have i1 : (k : Int) < 2 := by omega
      have HO : Hid (∀ W, Below wr.heap.size wr W → PHo W w1.heap.size (w1.heap.size + 1) v none) := fun W hW => PHo.below (o := none) hno hW
      have NO := Lib.hid hno
      clear hno
      go_wp2_with fail
      refine (quant_none NO.out 1 2).mono ?_
      rintro e w2 ⟨rfl, rfl⟩
      go_wp2_with fail
      refine (coarse_none NO.out a2).mono ?_
      rintro e w2 ⟨rfl, rfl⟩
      go_wp2_with fail
      refine (hadd_none NO.out a0 a1).mono ?_
      rintro e w2 ⟨rfl, rfl⟩
      go_wp2_with fail
      refine (merge_none NO.out g).mono ?_
      rintro e w2 ⟨rfl, rfl⟩
      go_wp2_with fail
      refine (merge_with_none Q3.out NO.out).mono ?_
      rintro e w2 ⟨rfl, rfl⟩
      go_wp2_with fail
      refine (bucket_any (HO.out _ (Below.refl _ _)) a0).mono ?_
      rintro e w2 ⟨rfl, hb⟩
      have C2 : Hid (Below wr.heap.size wr w2) := hb
      clear hb
      simp only [bucket]
      go_wp2_with fail
      refine (counts_any (HO.out _ C2.out)).mono ?_
      rintro e w3 ⟨b3, a3, n3, c3, rfl, hi, hb, -⟩
      have hn3 := hi.1
      simp only [counts, List.length_nil] at hn3
      subst hn3
      have C3 := hb_trans' C2 hb (Below.size C2)
      clear hb hi C2
      go_wp2_with fail
      refine (bounds_any (HO.out _ C3.out)).mono ?_
      rintro e w4 ⟨b4, a4, n4, c4, rfl, hi, hb, -⟩
      have hn4 := hi.1
      simp only [bounds, List.length_nil] at hn4
      subst hn4
      have C4 := hb_trans' C3 hb (Below.size C3)
      clear hb hi C3
      go_wp2_with fail
      refine (total_any (HO.out _ C4.out)).mono ?_
      rintro e w5 ⟨rfl, rfl⟩
      simp only [total]
      go_wp2_with fail
      refine (copy_none (HO.out _ C4.out)).mono ?_
      rintro e w5 ⟨rfl, rfl⟩
      have R1 := Lib.hid (Q1.out.below C4.out)
      have R2 := Lib.hid (Q2.out.below C4.out)
      have R3 := Lib.hid (Q3.out.below C4.out)
      have R4 := hb_trans' Q4 C4.out (Below.size Q4)
      clear Q1 Q2 Q3 Q4 C4 HO NO hc
      go_wp2
      go_roundw
      case rel => exact ⟨k + 1, by go_num, by omega, R1, R2, R3, R4⟩
      case measure => simp [intOf]; omega
    · obtain rfl : k = 2 := by omega
      have HB5 := Q4
      clear Q1 Q2 Q3
      go_wp2_with fail
      refine (works_any _).mono ?_
      rintro e w9 ⟨rfl, hb9⟩
      have B9 := hb_trans' HB5 hb9 (Below.size HB5)
      clear hb9
      go_wp2
      go_ret
      exact ⟨rfl, B9.out⟩

set_option maxRecDepth 100000 in
theorem lifted (os : Os) (started : os.Started) (H : Type) (enc : TypeId × Value → H) :
    ReturnsInHanded {} Try.checked os 13 .any (Rows.histoNilSpec.pre6 enc Try.prog Try.f13 Rows.histoNilRow.domain false) (Rows.histoNilSpec.post enc Try.prog Try.f13 false true false false) := by
  refine returnsInHanded_of_change (C := Try.checked) own started (by kernel_rfl) Try.func13
    (ChangeSpec.witness6 (enc := enc) (C := Try.checked) false ⟨#[], #[.int .i64 0, .int .i64 0, .int .i64 0], []⟩ 8 (by kernel_rfl) (by kernel_rfl) (by kernel_rfl) (by kernel_rfl)) ?_
  intro W base args ds gs before hval0 hW hcnd _
  have hval : ∀ (j : Nat) t v, Try.f13.params[j]? = some t → args[j]? = some v → Value.okWide Try.prog W .any base t v := hval0
  have hW' := hW
  obtain ⟨p, q, hA0, hV, rfl, hfz, hnd⟩ := hW
  have hA : DataW.TrodAll enc Try.prog W 0 (fun _ => true) true Try.f13.params.toList args.toList ds p := hA0
  rw [Try.params13] at hA hval
  obtain ⟨v0, vs0, d0, ds0, p0, q0, hargs, rfl, rfl, h0, r0⟩ := trodAll_cons hA
  obtain ⟨v1, vs1, d1, ds1, p1, q1, rfl, rfl, rfl, h1, r1⟩ := trodAll_cons r0
  obtain ⟨v2, vs2, d2, ds2, p2, q2, rfl, rfl, rfl, h2, r2⟩ := trodAll_cons r1
  obtain ⟨rfl, rfl, rfl⟩ := trodAll_nil r2
  obtain rfl : args = #[v0, v1, v2] := by cases args; simp_all
  obtain ⟨rfl, rfl⟩ := trodVars_none hV
  have k0 := h0
  have lt0 : ∀ x ∈ p0, x.block < W.heap.size := by obtain ⟨m, hm⟩ := k0; exact DataW.trod_lt m _ _ _ hm
  have k1 := h1
  have lt1 : ∀ x ∈ p1, x.block < W.heap.size := by obtain ⟨m, hm⟩ := k1; exact DataW.trod_lt m _ _ _ hm
  have k2 := h2
  have lt2 : ∀ x ∈ p2, x.block < W.heap.size := by obtain ⟨m, hm⟩ := k2; exact DataW.trod_lt m _ _ _ hm
  obtain ⟨a0, rfl, dd0, pp0, w0⟩ := open_int Try.underlying2 (hval 0 2 v0 rfl rfl) h0
  obtain ⟨a1, rfl, dd1, pp1, w1⟩ := open_int Try.underlying2 (hval 1 2 v1 rfl rfl) h1
  obtain ⟨a2, rfl, dd2, pp2, w2⟩ := open_int Try.underlying3 (hval 2 3 v2 rfl rfl) h2
  clear hA0 hval0
  refine (walk a0 a1 a2 W w0 w1 w2).mono fun e W' ⟨he, bel⟩ => ?_
  subst he
  exact ⟨_, rfl, _, _, _, [], _, [], hW', trodAll_mk1 (shut_bool Try.underlying4 _), (trodAll_cons_mk (Below.trod laidOut (by kernel_rfl) (of_decide_eq_true (by kernel_rfl)) k0 bel lt0) (trodAll_cons_mk (Below.trod laidOut (by kernel_rfl) (of_decide_eq_true (by kernel_rfl)) k1 bel lt1) (trodAll_cons_mk (Below.trod laidOut (by kernel_rfl) (of_decide_eq_true (by kernel_rfl)) k2 bel lt2) trodAll_mk0))), rfl, bel.frame _, fun h => by cases h⟩

theorem over : Rows.histoNilRow.holds Try.pinned (OpenSpec.ofChange Rows.histoNilSpec) :=
  OpenClaim.holds_of_wide 13 Try.f13 rfl rfl rfl rfl rfl rfl rfl ⟨rfl, rfl, rfl, rfl, rfl⟩ rfl rfl rfl rfl rfl (by kernel_rfl) Try.func13 (by kernel_rfl)
    (of_decide_eq_true (by kernel_rfl)) (by unfold Func.isWrapper; first | (rw [if_pos (by decide +kernel)]; kernel_rfl) | (rw [if_neg (by decide +kernel)]; exact ⟨rfl, rfl⟩))
    (fun os started H enc _ => lifted os started H enc)

/-- The statement. -/
theorem proved : Rows.HistoNilSaid :=
  over
#print axioms proved
end Go.Proofs.Ytpfdoifkimjlbaa.histoNil
