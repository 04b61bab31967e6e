/- THE REFERENCE of package checked: Order, Add, Sub, Mul, magnitude, Reduce, Compare. -/
import Derived.Test.YtgcflohlmbdoiaaR5
namespace Go.Proofs.Ytgcflohlmbdoiaa
open Go.RowKit M
set_option linter.unusedVariables false
set_option linter.unusedSimpArgs false

theorem order_W {va vb : Value} {x y : Int} (ha : IsW va x) (hb : IsW vb y) (h1 : x - y < 6277101735386680763835789423207666416102355444464034512896) (h2 : -6277101735386680763835789423207666416102355444464034512896 < x - y) :
    ∀ w, Calls Try.prog 47 #[va, vb] w fun e w' => e = .returned (.int .i64 (sn (x - y))) ∧ Below w.heap.size w w' := by
  obtain ⟨u, hu, hn⟩ := negate_W hb
  obtain ⟨v, hv, hp⟩ := plus_W ha hu (by omega) (by omega)
  have hs := sign_W hv
  have e : x + -y = x - y := by omega
  rw [e] at hs
  have HN := Lib.hid hn
  have HP := Lib.hid hp
  have HS := Lib.hid hs
  clear hn hp hs hu hv h1 h2 e
  obtain ⟨n, a0, a1, a2, a3, a4, a5, rfl, -⟩ := ha
  obtain ⟨k, b0, b1, b2, b3, b4, b5, rfl, -⟩ := hb
  intro w
  have FIN : Hid (∀ o o' w1, Hid (Below ((w.alloc o).alloc o').heap.size ((w.alloc o).alloc o') w1) → Below w.heap.size w w1) := fun o o' w1 h => (((Below.refl _ _).alloc (Nat.le_refl _) _).alloc (by simp) _).trans (Below.mono h (by simp; omega))
  go_enter Try.func47, Try.ntmps47
  go_wp2_with fail
  refine G.quiet_below (by kernel_rfl) (by kernel_rfl) ?_
  repeat (refine G.q_val ?_ (by rfl) (fun wq hq => ?_) (fun K hK => ?_); rotate_left; (have hc := hb_cell hq; go_simp; with_reducible rfl); (go_simp; refine hK _ ?_; clear hK K))
  refine G.q_call_below (Nat.le_refl _) HN.out (by rfl) (fun wq hq => ?_) (fun K hK => ?_)
  · have hc := hb_cell hq
    go_simp
  go_simp; refine hK _ ?_; clear hK K
  repeat (refine G.q_val ?_ (by rfl) (fun wq hq => ?_) (fun K hK => ?_); rotate_left; (have hc := hb_cell hq; go_simp; with_reducible rfl); (go_simp; refine hK _ ?_; clear hK K))
  refine G.q_call_below (Nat.le_refl _) HP.out (by rfl) (fun wq hq => ?_) (fun K hK => ?_)
  · have hc := hb_cell hq
    go_simp
  go_simp; refine hK _ ?_; clear hK K
  repeat (refine G.q_val ?_ (by rfl) (fun wq hq => ?_) (fun K hK => ?_); rotate_left; (have hc := hb_cell hq; go_simp; with_reducible rfl); (go_simp; refine hK _ ?_; clear hK K))
  refine G.q_call_below (Nat.le_refl _) HS.out (by rfl) (fun wq hq => ?_) (fun K hK => ?_)
  · have hc := hb_cell hq
    go_simp
  go_simp; refine hK _ ?_; clear hK K
  repeat (refine G.q_val ?_ (by rfl) (fun wq hq => ?_) (fun K hK => ?_); rotate_left; (have hc := hb_cell hq; go_simp; with_reducible rfl); (go_simp; refine hK _ ?_; clear hK K))
  refine wpQuiet_nil (fun wq hq => ?_)
  go_wp2
  go_ret
  exact ⟨rfl, FIN.out _ _ _ hq⟩

theorem B192 {a b : Int} (h0 : -9223372036854775808 ≤ a) (h1 : a ≤ 9223372036854775807) (h2 : -9223372036854775808 ≤ b) (h3 : b ≤ 9223372036854775807) :
    mg a < 79228162514264337593543950336 ∧ mg b < 79228162514264337593543950336 ∧ -85070591730234615865843651857942052864 ≤ a * b ∧ a * b ≤ 85070591730234615865843651857942052864 := by
  have a1 := mg_nonneg a
  have a2 := mg_le h0 h1
  have b1 := mg_nonneg b
  have b2 := mg_le h2 h3
  have hp := mul_bd a1 a2 b1 b2
  have := neg_mul_mg a b
  generalize mg a * mg b = m at *
  unfold sg at this
  split at this <;> omega

theorem below_then {w w1 w2 : World} (h1 : Below w.heap.size w w1) (h2 : Below w1.heap.size w1 w2) : Below w.heap.size w w2 := h1.trans (h2.mono h1.size)

theorem radd_any (a b : Int) (w : World) (h0 : -9223372036854775808 ≤ a) (h1 : a ≤ 9223372036854775807) (h2 : -9223372036854775808 ≤ b) (h3 : b ≤ 9223372036854775807) :
    Calls Try.prog 23 #[.int .i64 a, .int .i64 b] w fun e w' => e = .returned (.tuple #[.int .i64 (vo (a + b)), .int .i64 (eo (a + b))]) ∧ Below w.heap.size w w' := by
  obtain ⟨va, ha, ca⟩ := from_W a h0 h1
  obtain ⟨vb, hb, cb⟩ := from_W b h2 h3
  obtain ⟨v, hv, cp⟩ := plus_W ha hb (by omega) (by omega)
  have CA := Lib.hid ca
  have CB := Lib.hid cb
  have CP := Lib.hid cp
  have CF := Lib.hid (fit_W hv)
  clear ca cb cp ha hb hv
  go_enter Try.func23, Try.ntmps23
  go_wp2_with fail
  refine (CA.out _).mono ?_
  rintro e w0 ⟨rfl, b0⟩
  go_wp2_with fail
  refine (CB.out _).mono ?_
  rintro e w1 ⟨rfl, b1⟩
  go_wp2_with fail
  refine (CP.out _).mono ?_
  rintro e w2 ⟨rfl, b2⟩
  go_wp2_with fail
  refine (CF.out _).mono ?_
  rintro e w3 ⟨rfl, b3⟩
  go_wp2
  go_ret2
  exact ⟨rfl, below_then (below_then (below_then (b0) b1) b2) b3⟩

theorem rsub_any (a b : Int) (w : World) (h0 : -9223372036854775808 ≤ a) (h1 : a ≤ 9223372036854775807) (h2 : -9223372036854775808 ≤ b) (h3 : b ≤ 9223372036854775807) :
    Calls Try.prog 24 #[.int .i64 a, .int .i64 b] w fun e w' => e = .returned (.tuple #[.int .i64 (vo (a - b)), .int .i64 (eo (a - b))]) ∧ Below w.heap.size w w' := by
  obtain ⟨va, ha, ca⟩ := from_W a h0 h1
  obtain ⟨vb, hb, cb⟩ := from_W b h2 h3
  obtain ⟨u, hu, cn⟩ := negate_W hb
  obtain ⟨v, hv, cp⟩ := plus_W ha hu (by omega) (by omega)
  rw [show a + -b = a - b by omega] at hv
  have CA := Lib.hid ca
  have CB := Lib.hid cb
  have CN := Lib.hid cn
  have CP := Lib.hid cp
  have CF := Lib.hid (fit_W hv)
  clear ca cb cp cn ha hb hv hu
  go_enter Try.func24, Try.ntmps24
  go_wp2_with fail
  refine (CA.out _).mono ?_
  rintro e w0 ⟨rfl, b0⟩
  go_wp2_with fail
  refine (CB.out _).mono ?_
  rintro e w1 ⟨rfl, b1⟩
  go_wp2_with fail
  refine (CN.out _).mono ?_
  rintro e w2 ⟨rfl, b2⟩
  go_wp2_with fail
  refine (CP.out _).mono ?_
  rintro e w3 ⟨rfl, b3⟩
  go_wp2_with fail
  refine (CF.out _).mono ?_
  rintro e w4 ⟨rfl, b4⟩
  go_wp2
  go_ret2
  exact ⟨rfl, below_then (below_then (below_then (below_then (b0) b1) b2) b3) b4⟩

theorem rmul_any (a b : Int) (w : World) (h0 : -9223372036854775808 ≤ a) (h1 : a ≤ 9223372036854775807) (h2 : -9223372036854775808 ≤ b) (h3 : b ≤ 9223372036854775807) :
    Calls Try.prog 25 #[.int .i64 a, .int .i64 b] w fun e w' => e = .returned (.tuple #[.int .i64 (vo (a * b)), .int .i64 (eo (a * b))]) ∧ Below w.heap.size w w' := by
  obtain ⟨va, ha, ca⟩ := from_W a h0 h1
  obtain ⟨vb, hb, cb⟩ := from_W b h2 h3
  have hB := B192 h0 h1 h2 h3
  obtain ⟨v, hv, cp⟩ := times_W ha hb hB.1 hB.2.1
  have CA := Lib.hid ca
  have CB := Lib.hid cb
  have CP := Lib.hid cp
  have CF := Lib.hid (fit_W hv)
  clear ca cb cp ha hb hv hB
  go_enter Try.func25, Try.ntmps25
  go_wp2_with fail
  refine (CA.out _).mono ?_
  rintro e w0 ⟨rfl, b0⟩
  go_wp2_with fail
  refine (CB.out _).mono ?_
  rintro e w1 ⟨rfl, b1⟩
  go_wp2_with fail
  refine (CP.out _).mono ?_
  rintro e w2 ⟨rfl, b2⟩
  go_wp2_with fail
  refine (CF.out _).mono ?_
  rintro e w3 ⟨rfl, b3⟩
  go_wp2
  go_ret2
  exact ⟨rfl, below_then (below_then (below_then (b0) b1) b2) b3⟩

theorem magnitude_any (a : Int) (w : World) (h0 : -9223372036854775808 ≤ a) (h1 : a ≤ 9223372036854775807) :
    Calls Try.prog 40 #[.int .i64 a] w fun e w' => e = .returned (.int .u64 (mg a)) ∧ Below w.heap.size w w' := by
  have a1 := mg_nonneg a
  have a2 := mg_le h0 h1
  obtain ⟨hi, hh⟩ : ∃ hi, mg a / 4294967296 = hi := ⟨_, rfl⟩
  obtain ⟨lo, hl⟩ : ∃ lo, mg a % 4294967296 = lo := ⟨_, rfl⟩
  have CA := Lib.hid (fun w => from_any a w h0 h1)
  rw [hh, hl] at CA
  have e : hi * 4294967296 + lo = mg a := by omega
  have E := Lib.hid e
  have i0 : 0 ≤ hi := by omega
  have i1 : hi ≤ 4294967295 := by omega
  have l0 : 0 ≤ lo := by omega
  have l1 : lo ≤ 4294967295 := by omega
  clear hh hl e
  go_enter Try.func40, Try.ntmps40
  go_wp2_with fail
  refine (CA.out _).mono ?_
  rintro e w1 ⟨rfl, hb1⟩
  go_wp2
  go_ret
  exact ⟨ret_int E.out, hb1.trans ((Below.refl _ _).alloc hb1.size _)⟩

theorem rcompare_arg (a b c d : Int) (w : World) (h : b < 1 ∨ d < 1) :
    Calls Try.prog 27 #[.agg #[.int .i64 a, .int .i64 b], .agg #[.int .i64 c, .int .i64 d]] w fun e w' => e = .returned (.tuple #[.int .i64 0, .int .i64 2]) ∧ Below w.heap.size w w' := by
  have FIN : Hid (∀ o o', Below w.heap.size w ((w.alloc o).alloc o')) := fun o o' => ((Below.refl _ _).alloc (Nat.le_refl _) _).alloc (by simp) _
  by_cases hb : b < 1
  · go_enter Try.func27, Try.ntmps27
    go_wp2
    go_ret2
    exact ⟨rfl, FIN.out _ _⟩
  · have hd : d < 1 := by omega
    clear h
    go_enter Try.func27, Try.ntmps27
    go_wp2
    go_ret2
    exact ⟨rfl, FIN.out _ _⟩

set_option maxHeartbeats 2000000 in
theorem rcompare_any (a b c d : Int) (w : World) (h0 : -9223372036854775808 ≤ a) (h1 : a ≤ 9223372036854775807) (h2 : 1 ≤ b) (h3 : b ≤ 9223372036854775807)
    (h4 : -9223372036854775808 ≤ c) (h5 : c ≤ 9223372036854775807) (h6 : 1 ≤ d) (h7 : d ≤ 9223372036854775807) :
    Calls Try.prog 27 #[.agg #[.int .i64 a, .int .i64 b], .agg #[.int .i64 c, .int .i64 d]] w fun e w' => e = .returned (.tuple #[.int .i64 (sn (a * d - c * b)), .int .i64 0]) ∧ Below w.heap.size w w' := by
  obtain ⟨va, ha, ca⟩ := from_W a h0 h1
  obtain ⟨vb, hb, cb⟩ := from_W b (by omega) h3
  obtain ⟨vc, hc, cc⟩ := from_W c h4 h5
  obtain ⟨vd, hd, cd⟩ := from_W d (by omega) h7
  have B1 := B192 h0 h1 (show -9223372036854775808 ≤ d by omega) h7
  have B2 := B192 h4 h5 (show -9223372036854775808 ≤ b by omega) h3
  obtain ⟨v1, hv1, c1⟩ := times_W ha hd B1.1 B1.2.1
  obtain ⟨v2, hv2, c2⟩ := times_W hc hb B2.1 B2.2.1
  have CA := Lib.hid ca
  have CB := Lib.hid cb
  have CC := Lib.hid cc
  have CD := Lib.hid cd
  have C1 := Lib.hid c1
  have C2 := Lib.hid c2
  have CO := Lib.hid (order_W hv1 hv2 (by have := B1.2.2; have := B2.2.2; omega) (by have := B1.2.2; have := B2.2.2; omega))
  clear ca cb cc cd c1 c2 ha hb hc hd hv1 hv2 B1 B2
  have FIN : Hid (∀ o o' w1, Hid (Below ((w.alloc o).alloc o').heap.size ((w.alloc o).alloc o') w1) → Below w.heap.size w w1) := fun o o' w1 h => (((Below.refl _ _).alloc (Nat.le_refl _) _).alloc (by simp) _).trans (Below.mono h (by simp; omega))
  go_enter Try.func27, Try.ntmps27
  go_wp2_with fail
  refine G.quiet_below (by kernel_rfl) (by kernel_rfl) ?_
  repeat (refine G.q_val ?_ (by rfl) (fun wq hq => ?_) (fun K hK => ?_); rotate_left; (have hc := hb_cell hq; go_simp; with_reducible rfl); (go_simp; refine hK _ ?_; clear hK K))
  refine G.q_call_below (Nat.le_refl _) CA.out (by rfl) (fun wq hq => ?_) (fun K hK => ?_)
  · have hc := hb_cell hq
    go_simp
  go_simp; refine hK _ ?_; clear hK K
  repeat (refine G.q_val ?_ (by rfl) (fun wq hq => ?_) (fun K hK => ?_); rotate_left; (have hc := hb_cell hq; go_simp; with_reducible rfl); (go_simp; refine hK _ ?_; clear hK K))
  refine G.q_call_below (Nat.le_refl _) CD.out (by rfl) (fun wq hq => ?_) (fun K hK => ?_)
  · have hc := hb_cell hq
    go_simp
  go_simp; refine hK _ ?_; clear hK K
  repeat (refine G.q_val ?_ (by rfl) (fun wq hq => ?_) (fun K hK => ?_); rotate_left; (have hc := hb_cell hq; go_simp; with_reducible rfl); (go_simp; refine hK _ ?_; clear hK K))
  refine G.q_call_below (Nat.le_refl _) C1.out (by rfl) (fun wq hq => ?_) (fun K hK => ?_)
  · have hc := hb_cell hq
    go_simp
  go_simp; refine hK _ ?_; clear hK K
  repeat (refine G.q_val ?_ (by rfl) (fun wq hq => ?_) (fun K hK => ?_); rotate_left; (have hc := hb_cell hq; go_simp; with_reducible rfl); (go_simp; refine hK _ ?_; clear hK K))
  refine G.q_call_below (Nat.le_refl _) CC.out (by rfl) (fun wq hq => ?_) (fun K hK => ?_)
  · have hc := hb_cell hq
    go_simp
  go_simp; refine hK _ ?_; clear hK K
  repeat (refine G.q_val ?_ (by rfl) (fun wq hq => ?_) (fun K hK => ?_); rotate_left; (have hc := hb_cell hq; go_simp; with_reducible rfl); (go_simp; refine hK _ ?_; clear hK K))
  refine G.q_call_below (Nat.le_refl _) CB.out (by rfl) (fun wq hq => ?_) (fun K hK => ?_)
  · have hc := hb_cell hq
    go_simp
  go_simp; refine hK _ ?_; clear hK K
  repeat (refine G.q_val ?_ (by rfl) (fun wq hq => ?_) (fun K hK => ?_); rotate_left; (have hc := hb_cell hq; go_simp; with_reducible rfl); (go_simp; refine hK _ ?_; clear hK K))
  refine G.q_call_below (Nat.le_refl _) C2.out (by rfl) (fun wq hq => ?_) (fun K hK => ?_)
  · have hc := hb_cell hq
    go_simp
  go_simp; refine hK _ ?_; clear hK K
  repeat (refine G.q_val ?_ (by rfl) (fun wq hq => ?_) (fun K hK => ?_); rotate_left; (have hc := hb_cell hq; go_simp; with_reducible rfl); (go_simp; refine hK _ ?_; clear hK K))
  refine G.q_call_below (Nat.le_refl _) CO.out (by rfl) (fun wq hq => ?_) (fun K hK => ?_)
  · have hc := hb_cell hq
    go_simp
  go_simp; refine hK _ ?_; clear hK K
  repeat (refine G.q_val ?_ (by rfl) (fun wq hq => ?_) (fun K hK => ?_); rotate_left; (have hc := hb_cell hq; go_simp; with_reducible rfl); (go_simp; refine hK _ ?_; clear hK K))
  refine wpQuiet_nil (fun wq hq => ?_)
  go_wp2
  go_ret2
  exact ⟨rfl, FIN.out _ _ _ hq⟩

end Go.Proofs.Ytgcflohlmbdoiaa
