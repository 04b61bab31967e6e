/- package checked's MulDiv: the quotient of a product, rounded down. -/
import Derived.Test.YtpfdoifkimjlbaaC2
namespace Go.Proofs.Ytpfdoifkimjlbaa
open Go.RowKit M
set_option linter.unusedVariables false
set_option linter.unusedSimpArgs false

theorem muldiv_arg (a b c : Int) (w : World) (hc : c < 1) :
    Calls Try.prog 35 #[.int .i64 a, .int .i64 b, .int .i64 c] w fun e w' => e = .returned (.tuple #[.int .i64 0, .int .i64 2]) ∧ w = w' := by
  go_enter Try.func35, Try.ntmps35
  go_wp2
  go_ret2
  exact ⟨rfl, rfl⟩

theorem below2 {w w1 w2 : World} {o : Obj} (h1 : Below w.heap.size w w1) (h2 : Below (w1.alloc o).heap.size (w1.alloc o) w2) : Below w.heap.size w w2 :=
  (h1.trans ((Below.refl _ _).alloc h1.size o)).trans (h2.mono (by have := h1.size; simp; omega))

theorem product_hl (a b h l : Int) (w : World) (h0 : -9223372036854775808 ≤ a) (h1 : a ≤ 9223372036854775807) (h2 : -9223372036854775808 ≤ b) (h3 : b ≤ 9223372036854775807)
    (e1 : mg a * mg b / 18446744073709551616 = h) (e2 : mg a * mg b % 18446744073709551616 = l) :
    Calls Try.prog 53 #[.int .i64 a, .int .i64 b] w fun e w' => e = .returned (.agg #[.int .u64 h, .int .u64 l]) ∧ Below w.heap.size w w' := by
  subst e1 e2
  exact product_any a b w h0 h1 h2 h3

theorem div64_qr (hi lo y q r : Int) (w : World) (h0 : 0 ≤ hi) (h1 : hi < y) (h2 : 0 ≤ lo) (h3 : lo ≤ 18446744073709551615) (h4 : y ≤ 18446744073709551615)
    (e1 : (hi * 18446744073709551616 + lo) / y = q) (e2 : (hi * 18446744073709551616 + lo) % y = r) :
    Calls Try.prog 54 #[.int .u64 hi, .int .u64 lo, .int .u64 y] w fun e w' => e = .returned (.tuple #[.int .u64 q, .int .u64 r]) ∧ Below w.heap.size w w' := by
  subst e1 e2
  exact div64_any hi lo y w h0 h1 h2 h3 h4

set_option maxHeartbeats 1000000 in
theorem muldiv_any (a b c : Int) (w : World) (h0 : -9223372036854775808 ≤ a) (h1 : a ≤ 9223372036854775807) (h2 : -9223372036854775808 ≤ b) (h3 : b ≤ 9223372036854775807) (h4 : 1 ≤ c) (h5 : c ≤ 9223372036854775807) :
    Calls Try.prog 35 #[.int .i64 a, .int .i64 b, .int .i64 c] w fun e w' => e = .returned (.tuple #[.int .i64 (vo (a * b / c)), .int .i64 (eo (a * b / c))]) ∧ Below w.heap.size w w' := by
  have a1 := mg_nonneg a
  have a2 := mg_le h0 h1
  have b1 := mg_nonneg b
  have b2 := mg_le h2 h3
  have hp := mul_bd a1 a2 b1 b2
  have hx := neg_mul_mg a b
  have hm := md_parts (mg a * mg b) c hp.1 (by omega)
  have hc : 0 < c := by omega
  obtain ⟨h, hh⟩ : ∃ h, mg a * mg b / 18446744073709551616 = h := ⟨_, rfl⟩
  obtain ⟨l, hl⟩ : ∃ l, mg a * mg b % 18446744073709551616 = l := ⟨_, rfl⟩
  have m1 : 0 ≤ h := by omega
  have m2 : 0 ≤ l := by omega
  have m3 : l ≤ 18446744073709551615 := by omega
  have m4 : h ≤ 9223372036854775808 := by omega
  rw [hh, hl] at hm
  generalize hM : mg a * mg b = m at *
  have HH : Hid (mg a * mg b / 18446744073709551616 = h) := by rw [hM]; exact hh
  have HL : Hid (mg a * mg b % 18446744073709551616 = l) := by rw [hM]; exact hl
  clear hM
  have HP := Lib.hid hp
  have HX := Lib.hid hx
  clear hp hx hl
  by_cases hb : c ≤ h
  · have hv := Lib.hid (md_high HX.out HP.out.1 (by omega) (by rw [hh]; exact hb))
    clear hh hm
    go_enter Try.func35, Try.ntmps35
    go_wp2_with fail
    refine (product_hl _ _ h l _ (by omega) (by omega) (by omega) (by omega) HH.out HL.out).mono ?_
    rintro e w1 ⟨rfl, hb1⟩
    go_wp2
    go_ret2
    exact ⟨ret_two (vo_out hv.out).symm (eo_out hv.out).symm, hb1.trans ((Below.refl _ _).alloc hb1.size _)⟩
  · obtain ⟨q, hq⟩ : ∃ q, m / c = q := ⟨_, rfl⟩
    obtain ⟨r, hr⟩ : ∃ r, m % c = r := ⟨_, rfl⟩
    have q1 : 0 ≤ q := by rw [← hq]; exact Int.ediv_nonneg HP.out.1 (by omega)
    have q2 : q < 18446744073709551616 := by rw [← hq]; exact Int.ediv_lt_of_lt_mul (by omega) (by omega)
    have r1 : 0 ≤ r := by rw [← hr]; exact Int.emod_nonneg m (show c ≠ 0 by omega)
    have E1 : Hid ((h * 18446744073709551616 + l) / c = q) := by rw [hm]; exact hq
    have E2 : Hid ((h * 18446744073709551616 + l) % c = r) := by rw [hm]; exact hr
    clear hm hh
    by_cases hn : (!(decide (a < 0) == decide (b < 0))) = true
    · have hx : sg true m = a * b := by rw [← HX.out]; show _ = sg (!(decide (a < 0) == decide (b < 0))) m; rw [hn]
      by_cases hr0 : 0 < r
      · have hv := md_neg1 hc (by rw [hr]; exact hr0)
        rw [hx, hq] at hv
        have HV := Lib.hid hv
        clear hv hq hr hx
        by_cases hl : q = 18446744073709551615
        · subst hl
          go_enter Try.func35, Try.ntmps35
          go_wp2_with fail
          refine (product_hl _ _ h l _ (by omega) (by omega) (by omega) (by omega) HH.out HL.out).mono ?_
          rintro e w1 ⟨rfl, hb1⟩
          go_wp2_with fail
          refine (div64_qr _ _ _ _ r _ (by omega) (by omega) (by omega) (by omega) (by omega) E1.out E2.out).mono ?_
          rintro e w2 ⟨rfl, hb2⟩
          go_wp2
          go_ret2
          exact ⟨ret_two (by rw [HV.out]; rfl) (by rw [HV.out]; rfl), below2 hb1 hb2⟩
        · have q3 : q < 18446744073709551615 := by omega
          have q4 : (q + 1 == 0) = false := by simp; omega
          clear hl
          go_enter Try.func35, Try.ntmps35
          go_wp2_with fail
          refine (product_hl _ _ h l _ (by omega) (by omega) (by omega) (by omega) HH.out HL.out).mono ?_
          rintro e w1 ⟨rfl, hb1⟩
          go_wp2_with fail
          refine (div64_qr _ _ _ _ r _ (by omega) (by omega) (by omega) (by omega) (by omega) E1.out E2.out).mono ?_
          rintro e w2 ⟨rfl, hb2⟩
          go_wp2_with fail
          refine (signed_any _ _ _ (by omega) (by omega)).mono ?_
          rintro e w3 ⟨rfl, rfl⟩
          go_wp2
          go_ret2
          exact ⟨ret_two (by rw [HV.out]; rfl) (by rw [HV.out]; rfl), below2 hb1 hb2⟩
      · have hv := md_neg0 hc (by rw [hr]; omega)
        rw [hx, hq] at hv
        have HV := Lib.hid hv
        have hr1 : decide (0 < r) = false := by simpa using hr0
        clear hv hq hr hx
        go_enter Try.func35, Try.ntmps35
        go_wp2_with fail
        refine (product_hl _ _ h l _ (by omega) (by omega) (by omega) (by omega) HH.out HL.out).mono ?_
        rintro e w1 ⟨rfl, hb1⟩
        go_wp2_with fail
        refine (div64_qr _ _ _ _ r _ (by omega) (by omega) (by omega) (by omega) (by omega) E1.out E2.out).mono ?_
        rintro e w2 ⟨rfl, hb2⟩
        go_wp2_with fail
        refine (signed_any _ _ _ (by omega) (by omega)).mono ?_
        rintro e w3 ⟨rfl, rfl⟩
        go_wp2
        go_ret2
        exact ⟨ret_two (by rw [HV.out]; rfl) (by rw [HV.out]; rfl), below2 hb1 hb2⟩
    · have hn' : (!(decide (a < 0) == decide (b < 0))) = false := by simpa using hn
      have hx : sg false m = a * b := by rw [← HX.out]; show _ = sg (!(decide (a < 0) == decide (b < 0))) m; rw [hn']
      have hv : a * b / c = q := by rw [← hx]; exact hq
      have HV := Lib.hid hv
      clear hv hq hr hx hn
      go_enter Try.func35, Try.ntmps35
      go_wp2_with fail
      refine (product_hl _ _ h l _ (by omega) (by omega) (by omega) (by omega) HH.out HL.out).mono ?_
      rintro e w1 ⟨rfl, hb1⟩
      go_wp2_with fail
      refine (div64_qr _ _ _ _ r _ (by omega) (by omega) (by omega) (by omega) (by omega) E1.out E2.out).mono ?_
      rintro e w2 ⟨rfl, hb2⟩
      go_wp2_with fail
      refine (signed_any _ _ _ (by omega) (by omega)).mono ?_
      rintro e w3 ⟨rfl, rfl⟩
      go_wp2
      go_ret2
      exact ⟨ret_two (by rw [HV.out]; rfl) (by rw [HV.out]; rfl), below2 hb1 hb2⟩

end Go.Proofs.Ytpfdoifkimjlbaa
