/- THE REFERENCE's integers (package seepageref01): sign and six digits in base 2^32. -/
import Derived.Test.YtpfdoifkimjlbaaC5
import Derived.LoopN
namespace Go.Proofs.Ytpfdoifkimjlbaa
open Go.RowKit M
set_option linter.unusedVariables false
set_option linter.unusedSimpArgs false

theorem from_any (a : Int) (w : World) (h0 : -9223372036854775808 ≤ a) (h1 : a ≤ 9223372036854775807) :
    Calls Try.prog 58 #[.int .i64 a] w fun e w' => e = .returned (.agg #[.bool (decide (a < 0)), .int .u64 (mg a % 4294967296), .int .u64 (mg a / 4294967296), .int .u64 0, .int .u64 0, .int .u64 0, .int .u64 0]) ∧ Below w.heap.size w w' := by
  have fin : ∀ o o', Below w.heap.size w ((w.alloc o).alloc o') := fun o o' => ((Below.refl _ _).alloc (Nat.le_refl _) _).alloc (by simp) _
  have FIN := Lib.hid fin
  clear fin
  by_cases hn : a < 0
  · have HM := Lib.hid (mg_neg hn)
    go_enter Try.func58, Try.ntmps58
    go_wp2
    exact bodyPost_ret (v := .agg #[.bool true, .int .u64 ((-(a + 1) + 1) % 4294967296), .int .u64 ((-(a + 1) + 1) / 4294967296), .int .u64 0, .int .u64 0, .int .u64 0, .int .u64 0]) (by simp [results, Try.results58, go_sem]) rfl
      ⟨by rw [HM.out, show -(a + 1) + 1 = -a by omega, decide_eq_true hn], FIN.out _ _⟩
  · have HM := Lib.hid (mg_pos hn)
    have hd : decide (a < 0) = false := decide_eq_false hn
    go_enter Try.func58, Try.ntmps58
    go_wp2
    exact bodyPost_ret (v := .agg #[.bool false, .int .u64 (a % 4294967296), .int .u64 (a / 4294967296), .int .u64 0, .int .u64 0, .int .u64 0, .int .u64 0]) (by simp [results, Try.results58, go_sem, hd]) rfl
      ⟨by rw [HM.out], FIN.out _ _⟩

theorem ck_drewN {w : World} {p : Addr} {v : Value} (h : w.cell? p = some v) (n : Nat) : (w.drewN n).cell? p = some v := h
theorem is_new2 {w : World} {c : Array Value} {t : TypeId} {k b : Nat} (hb : b = w.heap.size) (h : k < c.size) : ((w.alloc (.cells c t)).cell? ⟨b, k, none⟩).isSome = true := by
  subst hb; exact is_new h
theorem le_al {B : Nat} {w : World} (h : B ≤ w.heap.size) (o : Obj) : B ≤ (w.alloc o).heap.size := by
  have : (w.alloc o).heap.size = w.heap.size + 1 := by simp
  omega
theorem le_sc {B : Nat} {w : World} (h : B ≤ w.heap.size) (a : Addr) (u : Value) : B ≤ (w.setCell a u).heap.size := by
  simpa [World.setCell] using h
theorem le_dn {B : Nat} {w : World} (h : B ≤ w.heap.size) (n : Nat) : B ≤ (w.drewN n).heap.size := h
theorem is_drewN {w : World} {p : Addr} (h : (w.cell? p).isSome = true) (n : Nat) : ((w.drewN n).cell? p).isSome = true := h

theorem ret6_48 {R : Ending → World → Prop} {tmps : Array Value} {W : World} {b : Nat} {x0 x1 x2 x3 x4 x5 : Int} (hs : tmps.getD 4 undef = .pointer (some ⟨b, 0, none⟩))
    (h0 : W.cell? ⟨b, 0, none⟩ = some (.int .u64 x0)) (h1 : W.cell? ⟨b, 1, none⟩ = some (.int .u64 x1)) (h2 : W.cell? ⟨b, 2, none⟩ = some (.int .u64 x2))
    (h3 : W.cell? ⟨b, 3, none⟩ = some (.int .u64 x3)) (h4 : W.cell? ⟨b, 4, none⟩ = some (.int .u64 x4)) (h5 : W.cell? ⟨b, 5, none⟩ = some (.int .u64 x5))
    (hR : R (.returned (.agg #[.int .u64 x0, .int .u64 x1, .int .u64 x2, .int .u64 x3, .int .u64 x4, .int .u64 x5])) W) : bodyPost Try.prog Try.f64 R Exit.ret ⟨tmps, []⟩ W := by
  have hs' : tmps[4]?.getD undef = .pointer (some ⟨b, 0, none⟩) := by simpa using hs
  exact bodyPost_ret (v := .agg #[.int .u64 x0, .int .u64 x1, .int .u64 x2, .int .u64 x3, .int .u64 x4, .int .u64 x5]) (by simp [results, Try.results64, go_sem, hs', h0, h1, h2, h3, h4, h5]) rfl hR

set_option maxHeartbeats 2000000 in
theorem more_vars (a0 a1 a2 a3 a4 a5 b0 b1 b2 b3 b4 b5 : Int) (pa0 : 0 ≤ a0) (qa0 : a0 ≤ 4294967295) (pa1 : 0 ≤ a1) (qa1 : a1 ≤ 4294967295) (pa2 : 0 ≤ a2) (qa2 : a2 ≤ 4294967295) (pa3 : 0 ≤ a3) (qa3 : a3 ≤ 4294967295) (pa4 : 0 ≤ a4) (qa4 : a4 ≤ 4294967295) (pa5 : 0 ≤ a5) (qa5 : a5 ≤ 4294967295) (pb0 : 0 ≤ b0) (qb0 : b0 ≤ 4294967295) (pb1 : 0 ≤ b1) (qb1 : b1 ≤ 4294967295) (pb2 : 0 ≤ b2) (qb2 : b2 ≤ 4294967295) (pb3 : 0 ≤ b3) (qb3 : b3 ≤ 4294967295) (pb4 : 0 ≤ b4) (qb4 : b4 ≤ 4294967295) (pb5 : 0 ≤ b5) (qb5 : b5 ≤ 4294967295) (s0 s1 s2 s3 s4 s5 d0 d1 d2 d3 d4 d5 c1 c2 c3 c4 c5 c6 : Int)
    (hs0 : a0 + b0 = s0) (hd0 : s0 % 4294967296 = d0) (hc1 : s0 / 4294967296 = c1) (hs1 : a1 + b1 + c1 = s1) (hd1 : s1 % 4294967296 = d1) (hc2 : s1 / 4294967296 = c2) (hs2 : a2 + b2 + c2 = s2) (hd2 : s2 % 4294967296 = d2) (hc3 : s2 / 4294967296 = c3) (hs3 : a3 + b3 + c3 = s3) (hd3 : s3 % 4294967296 = d3) (hc4 : s3 / 4294967296 = c4) (hs4 : a4 + b4 + c4 = s4) (hd4 : s4 % 4294967296 = d4) (hc5 : s4 / 4294967296 = c5) (hs5 : a5 + b5 + c5 = s5) (hd5 : s5 % 4294967296 = d5) (hc6 : s5 / 4294967296 = c6)
    (ps0 : 0 ≤ s0) (qs0 : s0 ≤ 8589934591) (ps1 : 0 ≤ s1) (qs1 : s1 ≤ 8589934591) (ps2 : 0 ≤ s2) (qs2 : s2 ≤ 8589934591) (ps3 : 0 ≤ s3) (qs3 : s3 ≤ 8589934591) (ps4 : 0 ≤ s4) (qs4 : s4 ≤ 8589934591) (ps5 : 0 ≤ s5) (qs5 : s5 ≤ 8589934591) (pc1 : 0 ≤ c1) (qc1 : c1 ≤ 1) (pc2 : 0 ≤ c2) (qc2 : c2 ≤ 1) (pc3 : 0 ≤ c3) (qc3 : c3 ≤ 1) (pc4 : 0 ≤ c4) (qc4 : c4 ≤ 1) (pc5 : 0 ≤ c5) (qc5 : c5 ≤ 1) (pc6 : 0 ≤ c6) (qc6 : c6 ≤ 1) (w : World) :
    Calls Try.prog 64 #[.agg #[.int .u64 a0, .int .u64 a1, .int .u64 a2, .int .u64 a3, .int .u64 a4, .int .u64 a5], .agg #[.int .u64 b0, .int .u64 b1, .int .u64 b2, .int .u64 b3, .int .u64 b4, .int .u64 b5]] w
      fun e w' => e = .returned (.agg #[.int .u64 d0, .int .u64 d1, .int .u64 d2, .int .u64 d3, .int .u64 d4, .int .u64 d5]) ∧ Below w.heap.size w w' := by
  go_enter Try.func64, Try.ntmps64
  go_wp2
  refine wp_loop_rounds 7 ?_
  rw [rounds_succ]
  go_wp2
  go_quiet (fail)
  go_wp2
  rw [rounds_succ]
  go_wp2
  go_quiet (fail)
  go_wp2
  rw [rounds_succ]
  go_wp2
  go_quiet (fail)
  go_wp2
  rw [rounds_succ]
  go_wp2
  go_quiet (fail)
  go_wp2
  rw [rounds_succ]
  go_wp2
  go_quiet (fail)
  go_wp2
  rw [rounds_succ]
  go_wp2
  go_quiet (fail)
  go_wp2
  rw [rounds_succ]
  go_wp2
  refine ret6_48 rfl ?_ ?_ ?_ ?_ ?_ ?_ ⟨rfl, ?_⟩
  case refine_7 => repeat (first | (with_reducible exact Below.refl _ _) | (with_reducible refine below_drewN ?_ _) | (with_reducible refine Below.setCell ?_ ?_ _) | (with_reducible refine Below.alloc ?_ ?_ _) | (with_reducible exact Nat.le_refl _) | (with_reducible refine le_al ?_ _) | (with_reducible refine le_sc ?_ _ _) | (with_reducible refine le_dn ?_ _) | (with_reducible refine Nat.le_add_right_of_le ?_) | dsimp only)
  all_goals repeat (first | (with_reducible refine ck_same ?_) | (with_reducible refine ck_off ?_ ?_ _) | (with_reducible refine ck_drewN ?_ _) | (with_reducible refine is_set ?_) | ((with_reducible refine is_new2 ?_ ?_) <;> (simp; done)) | (with_reducible refine is_alloc ?_) | (with_reducible refine is_drewN ?_ _) | decide)

theorem ret6_50 {R : Ending → World → Prop} {tmps : Array Value} {W : World} {b : Nat} {x0 x1 x2 x3 x4 x5 : Int} (hs : tmps.getD 4 undef = .pointer (some ⟨b, 0, none⟩))
    (h0 : W.cell? ⟨b, 0, none⟩ = some (.int .u64 x0)) (h1 : W.cell? ⟨b, 1, none⟩ = some (.int .u64 x1)) (h2 : W.cell? ⟨b, 2, none⟩ = some (.int .u64 x2))
    (h3 : W.cell? ⟨b, 3, none⟩ = some (.int .u64 x3)) (h4 : W.cell? ⟨b, 4, none⟩ = some (.int .u64 x4)) (h5 : W.cell? ⟨b, 5, none⟩ = some (.int .u64 x5))
    (hR : R (.returned (.agg #[.int .u64 x0, .int .u64 x1, .int .u64 x2, .int .u64 x3, .int .u64 x4, .int .u64 x5])) W) : bodyPost Try.prog Try.f69 R Exit.ret ⟨tmps, []⟩ W := by
  have hs' : tmps[4]?.getD undef = .pointer (some ⟨b, 0, none⟩) := by simpa using hs
  exact bodyPost_ret (v := .agg #[.int .u64 x0, .int .u64 x1, .int .u64 x2, .int .u64 x3, .int .u64 x4, .int .u64 x5]) (by simp [results, Try.results69, go_sem, hs', h0, h1, h2, h3, h4, h5]) rfl hR

set_option maxHeartbeats 2000000 in
theorem less_vars (a0 a1 a2 a3 a4 a5 b0 b1 b2 b3 b4 b5 : Int) (pa0 : 0 ≤ a0) (qa0 : a0 ≤ 4294967295) (pa1 : 0 ≤ a1) (qa1 : a1 ≤ 4294967295) (pa2 : 0 ≤ a2) (qa2 : a2 ≤ 4294967295) (pa3 : 0 ≤ a3) (qa3 : a3 ≤ 4294967295) (pa4 : 0 ≤ a4) (qa4 : a4 ≤ 4294967295) (pa5 : 0 ≤ a5) (qa5 : a5 ≤ 4294967295) (pb0 : 0 ≤ b0) (qb0 : b0 ≤ 4294967295) (pb1 : 0 ≤ b1) (qb1 : b1 ≤ 4294967295) (pb2 : 0 ≤ b2) (qb2 : b2 ≤ 4294967295) (pb3 : 0 ≤ b3) (qb3 : b3 ≤ 4294967295) (pb4 : 0 ≤ b4) (qb4 : b4 ≤ 4294967295) (pb5 : 0 ≤ b5) (qb5 : b5 ≤ 4294967295) (s0 s1 s2 s3 s4 s5 d0 d1 d2 d3 d4 d5 t0 t1 t2 t3 t4 t5 c1 c2 c3 c4 c5 c6 : Int)
    (hs0 : a0 + 4294967296 - b0 = s0) (hd0 : s0 % 4294967296 = d0) (ht0 : s0 / 4294967296 = t0) (hc1 : 1 - t0 = c1) (hs1 : a1 + 4294967296 - b1 - c1 = s1) (hd1 : s1 % 4294967296 = d1) (ht1 : s1 / 4294967296 = t1) (hc2 : 1 - t1 = c2) (hs2 : a2 + 4294967296 - b2 - c2 = s2) (hd2 : s2 % 4294967296 = d2) (ht2 : s2 / 4294967296 = t2) (hc3 : 1 - t2 = c3) (hs3 : a3 + 4294967296 - b3 - c3 = s3) (hd3 : s3 % 4294967296 = d3) (ht3 : s3 / 4294967296 = t3) (hc4 : 1 - t3 = c4) (hs4 : a4 + 4294967296 - b4 - c4 = s4) (hd4 : s4 % 4294967296 = d4) (ht4 : s4 / 4294967296 = t4) (hc5 : 1 - t4 = c5) (hs5 : a5 + 4294967296 - b5 - c5 = s5) (hd5 : s5 % 4294967296 = d5) (ht5 : s5 / 4294967296 = t5) (hc6 : 1 - t5 = c6)
    (ps0 : 0 ≤ s0) (qs0 : s0 ≤ 8589934591) (ps1 : 0 ≤ s1) (qs1 : s1 ≤ 8589934591) (ps2 : 0 ≤ s2) (qs2 : s2 ≤ 8589934591) (ps3 : 0 ≤ s3) (qs3 : s3 ≤ 8589934591) (ps4 : 0 ≤ s4) (qs4 : s4 ≤ 8589934591) (ps5 : 0 ≤ s5) (qs5 : s5 ≤ 8589934591) (pt0 : 0 ≤ t0) (qt0 : t0 ≤ 1) (pt1 : 0 ≤ t1) (qt1 : t1 ≤ 1) (pt2 : 0 ≤ t2) (qt2 : t2 ≤ 1) (pt3 : 0 ≤ t3) (qt3 : t3 ≤ 1) (pt4 : 0 ≤ t4) (qt4 : t4 ≤ 1) (pt5 : 0 ≤ t5) (qt5 : t5 ≤ 1) (pc1 : 0 ≤ c1) (qc1 : c1 ≤ 1) (pc2 : 0 ≤ c2) (qc2 : c2 ≤ 1) (pc3 : 0 ≤ c3) (qc3 : c3 ≤ 1) (pc4 : 0 ≤ c4) (qc4 : c4 ≤ 1) (pc5 : 0 ≤ c5) (qc5 : c5 ≤ 1) (pc6 : 0 ≤ c6) (qc6 : c6 ≤ 1) (w : World) :
    Calls Try.prog 69 #[.agg #[.int .u64 a0, .int .u64 a1, .int .u64 a2, .int .u64 a3, .int .u64 a4, .int .u64 a5], .agg #[.int .u64 b0, .int .u64 b1, .int .u64 b2, .int .u64 b3, .int .u64 b4, .int .u64 b5]] w
      fun e w' => e = .returned (.agg #[.int .u64 d0, .int .u64 d1, .int .u64 d2, .int .u64 d3, .int .u64 d4, .int .u64 d5]) ∧ Below w.heap.size w w' := by
  go_enter Try.func69, Try.ntmps69
  go_wp2
  refine wp_loop_rounds 7 ?_
  rw [rounds_succ]
  go_wp2
  go_quiet (fail)
  go_wp2
  rw [rounds_succ]
  go_wp2
  go_quiet (fail)
  go_wp2
  rw [rounds_succ]
  go_wp2
  go_quiet (fail)
  go_wp2
  rw [rounds_succ]
  go_wp2
  go_quiet (fail)
  go_wp2
  rw [rounds_succ]
  go_wp2
  go_quiet (fail)
  go_wp2
  rw [rounds_succ]
  go_wp2
  go_quiet (fail)
  go_wp2
  rw [rounds_succ]
  go_wp2
  refine ret6_50 rfl ?_ ?_ ?_ ?_ ?_ ?_ ⟨rfl, ?_⟩
  case refine_7 => repeat (first | (with_reducible exact Below.refl _ _) | (with_reducible refine below_drewN ?_ _) | (with_reducible refine Below.setCell ?_ ?_ _) | (with_reducible refine Below.alloc ?_ ?_ _) | (with_reducible exact Nat.le_refl _) | (with_reducible refine le_al ?_ _) | (with_reducible refine le_sc ?_ _ _) | (with_reducible refine le_dn ?_ _) | (with_reducible refine Nat.le_add_right_of_le ?_) | dsimp only)
  all_goals repeat (first | (with_reducible refine ck_same ?_) | (with_reducible refine ck_off ?_ ?_ _) | (with_reducible refine ck_drewN ?_ _) | (with_reducible refine is_set ?_) | ((with_reducible refine is_new2 ?_ ?_) <;> (simp; done)) | (with_reducible refine is_alloc ?_) | (with_reducible refine is_drewN ?_ _) | decide)

end Go.Proofs.Ytpfdoifkimjlbaa
