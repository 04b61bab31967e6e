/- THE REFERENCE of package checked: MulDiv. -/
import Derived.Test.YtpfdoifkimjlbaaR7
namespace Go.Proofs.Ytpfdoifkimjlbaa
open Go.RowKit M
set_option linter.unusedVariables false
set_option linter.unusedSimpArgs false

theorem divide_W {v : Value} {x c : Int} (h : IsW v x) (c0 : 1 ≤ c) (c1 : c ≤ 9223372036854775807) : ∀ w, Calls Try.prog 56 #[v, .int .i64 c] w (DivPost x c w) := by
  obtain ⟨n, l0, l1, l2, l3, l4, l5, rfl, b0, b1, b2, b3, b4, b5, rfl⟩ := h
  exact fun w => divide_any n l0 l1 l2 l3 l4 l5 c _ ⟨_, _, _, _, _, _, rfl, b0, b1, b2, b3, b4, b5, rfl⟩ (by unfold mag6; omega) c0 c1 w

theorem rmuldiv_arg (a b c : Int) (w : World) (hc : c < 1) :
    Calls Try.prog 40 #[.int .i64 a, .int .i64 b, .int .i64 c] w fun e w' => e = .returned (.tuple #[.int .i64 0, .int .i64 2]) ∧ Below w.heap.size w w' := by
  go_enter Try.func40, Try.ntmps40
  go_wp2
  go_ret2
  exact ⟨rfl, Below.refl _ _⟩

theorem rmuldiv_any (a b c : Int) (w : World) (h0 : -9223372036854775808 ≤ a) (h1 : a ≤ 9223372036854775807) (h2 : -9223372036854775808 ≤ b) (h3 : b ≤ 9223372036854775807) (c0 : 1 ≤ c) (c1 : c ≤ 9223372036854775807) :
    Calls Try.prog 40 #[.int .i64 a, .int .i64 b, .int .i64 c] w fun e w' => e = .returned (.tuple #[.int .i64 (vo (a * b / c)), .int .i64 (eo (a * b / c))]) ∧ Below w.heap.size w w' := by
  obtain ⟨va, ha, ca⟩ := from_W a h0 h1
  obtain ⟨vb, hb, cb⟩ := from_W b h2 h3
  obtain ⟨vm, hm, cm⟩ := times_W ha hb (B192 h0 h1 h2 h3).1 (B192 h0 h1 h2 h3).2.1
  have HD := Lib.hid (divide_W hm c0 c1)
  have CA := Lib.hid ca
  have CB := Lib.hid cb
  have CM := Lib.hid cm
  clear ca cb cm hm ha hb
  have hc : ¬ c < 1 := by omega
  obtain ⟨q, hq⟩ : ∃ q, a * b / c = q := ⟨_, rfl⟩
  rw [hq]
  have HQ := Lib.hid hq
  clear hq
  go_enter Try.func40, Try.ntmps40
  go_wp2_with fail
  refine (CA.out _).mono ?_
  rintro e w1 ⟨rfl, hb1⟩
  have H1 : Hid (Below w.heap.size w w1) := hb1
  clear hb1
  go_wp2_with fail
  refine (CB.out _).mono ?_
  rintro e w2 ⟨rfl, hb2⟩
  have H2 : Hid (Below w.heap.size w w2) := hb_trans H1 hb2 (Below.size H1)
  clear hb2 H1
  go_wp2_with fail
  refine (CM.out _).mono ?_
  rintro e w3 ⟨rfl, hb3⟩
  have H3 : Hid (Below w.heap.size w w3) := hb_trans H2 hb3 (Below.size H2)
  clear hb3 H2
  go_wp2_with fail
  refine (HD.out _).mono ?_
  rintro e w4 ⟨v, r, rfl, hv, hb4⟩
  rw [HQ.out] at hv
  have HF := Lib.hid (fit_W hv)
  obtain ⟨n, l0, l1, l2, l3, l4, l5, rfl, -⟩ := hv
  have H4 : Hid (Below w.heap.size w w4) := hb_trans H3 hb4 (Below.size H3)
  clear hb4 H3
  go_wp2_with fail
  refine (HF.out _).mono ?_
  rintro e w5 ⟨rfl, hb5⟩
  have s4 := Below.size H4
  have H5 : Hid (Below w.heap.size w w5) := hb_trans (hb_alloc H4 s4 _) hb5 (by simp; omega)
  clear hb5 H4
  go_wp2
  go_ret2
  exact ⟨rfl, H5.out⟩

end Go.Proofs.Ytpfdoifkimjlbaa
