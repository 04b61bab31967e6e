/- THE REFERENCE's integers: products. -/
import Derived.Test.YtpfdoifkimjlbaaR4
namespace Go.Proofs.Ytpfdoifkimjlbaa
open Go.RowKit M
set_option linter.unusedVariables false
set_option linter.unusedSimpArgs false

theorem squash_rounds {P : Program} {c : Code} {Q : Exit → Act → World → Prop} {n : Nat} {a : Act} {w : World} (F : World → Prop) (hF : F w) (h : ∀ w', F w' → Code.rounds P c Q n a w') : Code.rounds P c Q n a w := h w hF
theorem nb_a (x : Nat) : x ≠ x + 1 + 1 + 1 := by omega
theorem nb_b (x : Nat) : x + 1 ≠ x + 1 + 1 + 1 := by omega
theorem nb_c (x : Nat) : x + 1 + 1 ≠ x + 1 + 1 + 1 := by omega
theorem is_of {w : World} {p : Addr} {v : Value} (h : w.cell? p = some v) : (w.cell? p).isSome = true := by rw [h]; rfl
theorem fz_set {w : World} {p : Addr} (h : w.frozen? p = false) (a : Addr) (u : Value) : (w.setCell a u).frozen? p = false := (World.frozen?_setCell _ _ _ _).trans h
theorem fz_drewN {w : World} {p : Addr} (h : w.frozen? p = false) (n : Nat) : (w.drewN n).frozen? p = false := h
theorem fz_alloc {w : World} {p : Addr} (h : w.frozen? p = false) (c : Array Value) (t : TypeId) : (w.alloc (.cells c t)).frozen? p = false := (frozen?_alloc_cells _ _ _ _).trans h
theorem fz_new {w : World} {p : Addr} (h : w.heap.size ≤ p.block) : w.frozen? p = false := by
  have : w.heap[p.block]? = none := by simp; omega
  simp [World.frozen?, this]
theorem hb_drewN {B : Nat} {a w : World} (h : Hid (Below B a w)) (n : Nat) : Hid (Below B a (w.drewN n)) := below_drewN h n
theorem hb_out {B : Nat} {a w : World} (h : Hid (Below B a w)) : Below B a w := h
theorem hb_refl (B : Nat) (w : World) : Hid (Below B w w) := Below.refl B w
theorem ck_new2 {w : World} {c : Array Value} {t : TypeId} {k b : Nat} {v : Value} (hb : b = w.heap.size) (h : c[k]? = some v) : (w.alloc (.cells c t)).cell? ⟨b, k, none⟩ = some v := by
  subst hb; rw [World.cell?_alloc_new]; exact h

theorem ret7_37 {R : Ending → World → Prop} {tmps : Array Value} {W : World} {b : Nat} {n : Bool} {x0 x1 x2 x3 x4 x5 : Int} (hs : tmps.getD 4 undef = .pointer (some ⟨b, 0, none⟩))
    (hn : W.cell? ⟨b, 0, none⟩ = some (.bool n)) (h0 : W.cell? ⟨b, 1, none⟩ = some (.int .u64 x0)) (h1 : W.cell? ⟨b, 2, none⟩ = some (.int .u64 x1)) (h2 : W.cell? ⟨b, 3, none⟩ = some (.int .u64 x2))
    (h3 : W.cell? ⟨b, 4, none⟩ = some (.int .u64 x3)) (h4 : W.cell? ⟨b, 5, none⟩ = some (.int .u64 x4)) (h5 : W.cell? ⟨b, 6, none⟩ = some (.int .u64 x5))
    (hR : R (.returned (.agg #[.bool n, .int .u64 x0, .int .u64 x1, .int .u64 x2, .int .u64 x3, .int .u64 x4, .int .u64 x5])) W) : bodyPost Try.prog Try.f57 R Exit.ret ⟨tmps, []⟩ W := by
  have hs' : tmps[4]?.getD undef = .pointer (some ⟨b, 0, none⟩) := by simpa using hs
  exact bodyPost_ret (v := .agg #[.bool n, .int .u64 x0, .int .u64 x1, .int .u64 x2, .int .u64 x3, .int .u64 x4, .int .u64 x5]) (by simp [results, Try.results57, go_sem, hs', hn, h0, h1, h2, h3, h4, h5]) rfl hR

set_option maxRecDepth 100000 in
set_option maxHeartbeats 8000000 in
theorem times_vars (n k : Bool) (a0 a1 a2 b0 b1 b2 : Int) (pa0 : 0 ≤ a0) (qa0 : a0 ≤ 4294967295) (pa1 : 0 ≤ a1) (qa1 : a1 ≤ 4294967295) (pa2 : 0 ≤ a2) (qa2 : a2 ≤ 4294967295) (pb0 : 0 ≤ b0) (qb0 : b0 ≤ 4294967295) (pb1 : 0 ≤ b1) (qb1 : b1 ≤ 4294967295) (pb2 : 0 ≤ b2) (qb2 : b2 ≤ 4294967295) (p00 d00 c00 p01 s01 d01 c01 p02 s02 d02 c02 p10 s10 d10 c10 p11 s11 d11 c11 p12 s12 d12 c12 p20 s20 d20 c20 p21 s21 d21 c21 p22 s22 d22 c22 : Int)
    (hp00 : a0 * b0 = p00) (hd00 : p00 % 4294967296 = d00) (hc00 : p00 / 4294967296 = c00) (hp01 : a0 * b1 = p01) (hs01 : p01 + c00 = s01) (hd01 : s01 % 4294967296 = d01) (hc01 : s01 / 4294967296 = c01) (hp02 : a0 * b2 = p02) (hs02 : p02 + c01 = s02) (hd02 : s02 % 4294967296 = d02) (hc02 : s02 / 4294967296 = c02) (hp10 : a1 * b0 = p10) (hs10 : d01 + p10 = s10) (hd10 : s10 % 4294967296 = d10) (hc10 : s10 / 4294967296 = c10) (hp11 : a1 * b1 = p11) (hs11 : d02 + p11 + c10 = s11) (hd11 : s11 % 4294967296 = d11) (hc11 : s11 / 4294967296 = c11) (hp12 : a1 * b2 = p12) (hs12 : c02 + p12 + c11 = s12) (hd12 : s12 % 4294967296 = d12) (hc12 : s12 / 4294967296 = c12) (hp20 : a2 * b0 = p20) (hs20 : d11 + p20 = s20) (hd20 : s20 % 4294967296 = d20) (hc20 : s20 / 4294967296 = c20) (hp21 : a2 * b1 = p21) (hs21 : d12 + p21 + c20 = s21) (hd21 : s21 % 4294967296 = d21) (hc21 : s21 / 4294967296 = c21) (hp22 : a2 * b2 = p22) (hs22 : c12 + p22 + c21 = s22) (hd22 : s22 % 4294967296 = d22) (hc22 : s22 / 4294967296 = c22)
    (lp00 : 0 ≤ p00) (up00 : p00 ≤ 18446744065119617025) (ld00 : 0 ≤ d00) (ud00 : d00 ≤ 4294967295) (lc00 : 0 ≤ c00) (uc00 : c00 ≤ 4294967295) (lp01 : 0 ≤ p01) (up01 : p01 ≤ 18446744065119617025) (ls01 : 0 ≤ s01) (us01 : s01 ≤ 18446744073709551615) (ld01 : 0 ≤ d01) (ud01 : d01 ≤ 4294967295) (lc01 : 0 ≤ c01) (uc01 : c01 ≤ 4294967295) (lp02 : 0 ≤ p02) (up02 : p02 ≤ 18446744065119617025) (ls02 : 0 ≤ s02) (us02 : s02 ≤ 18446744073709551615) (ld02 : 0 ≤ d02) (ud02 : d02 ≤ 4294967295) (lc02 : 0 ≤ c02) (uc02 : c02 ≤ 4294967295) (lp10 : 0 ≤ p10) (up10 : p10 ≤ 18446744065119617025) (ls10 : 0 ≤ s10) (us10 : s10 ≤ 18446744073709551615) (ld10 : 0 ≤ d10) (ud10 : d10 ≤ 4294967295) (lc10 : 0 ≤ c10) (uc10 : c10 ≤ 4294967295) (lp11 : 0 ≤ p11) (up11 : p11 ≤ 18446744065119617025) (ls11 : 0 ≤ s11) (us11 : s11 ≤ 18446744073709551615) (ld11 : 0 ≤ d11) (ud11 : d11 ≤ 4294967295) (lc11 : 0 ≤ c11) (uc11 : c11 ≤ 4294967295) (lp12 : 0 ≤ p12) (up12 : p12 ≤ 18446744065119617025) (ls12 : 0 ≤ s12) (us12 : s12 ≤ 18446744073709551615) (ld12 : 0 ≤ d12) (ud12 : d12 ≤ 4294967295) (lc12 : 0 ≤ c12) (uc12 : c12 ≤ 4294967295) (lp20 : 0 ≤ p20) (up20 : p20 ≤ 18446744065119617025) (ls20 : 0 ≤ s20) (us20 : s20 ≤ 18446744073709551615) (ld20 : 0 ≤ d20) (ud20 : d20 ≤ 4294967295) (lc20 : 0 ≤ c20) (uc20 : c20 ≤ 4294967295) (lp21 : 0 ≤ p21) (up21 : p21 ≤ 18446744065119617025) (ls21 : 0 ≤ s21) (us21 : s21 ≤ 18446744073709551615) (ld21 : 0 ≤ d21) (ud21 : d21 ≤ 4294967295) (lc21 : 0 ≤ c21) (uc21 : c21 ≤ 4294967295) (lp22 : 0 ≤ p22) (up22 : p22 ≤ 18446744065119617025) (ls22 : 0 ≤ s22) (us22 : s22 ≤ 18446744073709551615) (ld22 : 0 ≤ d22) (ud22 : d22 ≤ 4294967295) (lc22 : 0 ≤ c22) (uc22 : c22 ≤ 4294967295) (w : World) :
    Calls Try.prog 57 #[.agg #[.bool n, .int .u64 a0, .int .u64 a1, .int .u64 a2, .int .u64 0, .int .u64 0, .int .u64 0], .agg #[.bool k, .int .u64 b0, .int .u64 b1, .int .u64 b2, .int .u64 0, .int .u64 0, .int .u64 0]] w
      fun e w' => e = .returned (.agg #[.bool (!(n == k)), .int .u64 d00, .int .u64 d10, .int .u64 d20, .int .u64 d21, .int .u64 d22, .int .u64 c22]) ∧ Below w.heap.size w w' := by
  have hw : IntKind.i64.wrap 0 = 0 ∧ IntKind.i64.wrap 1 = 1 ∧ IntKind.i64.wrap 2 = 2 ∧ IntKind.i64.wrap 3 = 3 ∧ IntKind.i64.wrap 4 = 4 ∧ IntKind.i64.wrap 5 = 5 := by decide
  obtain ⟨hw0, hw1, hw2, hw3, hw4, hw5⟩ := hw
  go_enter Try.func57, Try.ntmps57
  go_wp2
  refine wp_loop_rounds 4 ?_
  rw [rounds_succ]
  go_wp2
  refine wp_loop_rounds 4 ?_
  rw [rounds_succ]
  go_wp2
  go_quiet (fail)
  go_wp2
  rw [rounds_succ]
  go_wp2
  go_quiet (fail)
  go_wp2
  rw [rounds_succ]
  go_wp2
  go_quiet (fail)
  go_wp2
  rw [rounds_succ]
  go_wp2
  refine squash_rounds (fun W => W.cell? ⟨w.heap.size, 1, none⟩ = some (.int .u64 a0) ∧ W.cell? ⟨w.heap.size, 2, none⟩ = some (.int .u64 a1) ∧ W.cell? ⟨w.heap.size, 3, none⟩ = some (.int .u64 a2) ∧ W.cell? ⟨w.heap.size + 1, 1, none⟩ = some (.int .u64 b0) ∧ W.cell? ⟨w.heap.size + 1, 2, none⟩ = some (.int .u64 b1) ∧ W.cell? ⟨w.heap.size + 1, 3, none⟩ = some (.int .u64 b2) ∧ W.cell? ⟨w.heap.size + 1 + 1 + 1, 0, none⟩ = some (.bool !(n == k)) ∧ W.cell? ⟨w.heap.size + 1 + 1 + 1, 1, none⟩ = some (.int .u64 d00) ∧ W.cell? ⟨w.heap.size + 1 + 1 + 1, 2, none⟩ = some (.int .u64 d01) ∧ W.cell? ⟨w.heap.size + 1 + 1 + 1, 3, none⟩ = some (.int .u64 d02) ∧ W.cell? ⟨w.heap.size + 1 + 1 + 1, 4, none⟩ = some (.int .u64 c02) ∧ W.cell? ⟨w.heap.size + 1 + 1 + 1, 5, none⟩ = some (.int .u64 0) ∧ W.cell? ⟨w.heap.size + 1 + 1 + 1, 6, none⟩ = some (.int .u64 0) ∧ W.cell? ⟨w.heap.size + 1 + 1, 0, none⟩ = some (.bool false) ∧ W.cell? ⟨w.heap.size + 1 + 1, 1, none⟩ = some (.int .u64 0) ∧ W.cell? ⟨w.heap.size + 1 + 1, 2, none⟩ = some (.int .u64 0) ∧ W.cell? ⟨w.heap.size + 1 + 1, 3, none⟩ = some (.int .u64 0) ∧ W.cell? ⟨w.heap.size + 1 + 1, 4, none⟩ = some (.int .u64 0) ∧ W.cell? ⟨w.heap.size + 1 + 1, 5, none⟩ = some (.int .u64 0) ∧ W.cell? ⟨w.heap.size + 1 + 1, 6, none⟩ = some (.int .u64 0) ∧ (∀ o, W.frozen? ⟨w.heap.size + 1 + 1 + 1, o, none⟩ = false) ∧ (∀ o, W.frozen? ⟨w.heap.size + 1 + 1, o, none⟩ = false) ∧ Hid (Below w.heap.size w W)) ?_ ?_
  · clear hp00 hd00 hc00 lp00 up00 ld00 ud00 lc00 uc00 hp01 hs01 hd01 hc01 lp01 up01 ls01 us01 ld01 ud01 lc01 uc01 hp02 hs02 hd02 hc02 lp02 up02 ls02 us02 ld02 ud02 lc02 uc02 hp10 hs10 hd10 hc10 lp10 up10 ls10 us10 ld10 ud10 lc10 uc10 hp11 hs11 hd11 hc11 lp11 up11 ls11 us11 ld11 ud11 lc11 uc11 hp12 hs12 hd12 hc12 lp12 up12 ls12 us12 ld12 ud12 lc12 uc12 hp20 hs20 hd20 hc20 lp20 up20 ls20 us20 ld20 ud20 lc20 uc20 hp21 hs21 hd21 hc21 lp21 up21 ls21 us21 ld21 ud21 lc21 uc21 hp22 hs22 hd22 hc22 lp22 up22 ls22 us22 ld22 ud22 lc22 uc22 pa0 qa0 pa1 qa1 pa2 qa2 pb0 qb0 pb1 qb1 pb2 qb2
    refine ⟨?_, ?_, ?_, ?_, ?_, ?_, ?_, ?_, ?_, ?_, ?_, ?_, ?_, ?_, ?_, ?_, ?_, ?_, ?_, ?_, ?_, ?_, ?_⟩
    all_goals (try intro _)
    all_goals repeat (first | (with_reducible assumption) | (with_reducible refine ck_same ?_) | (with_reducible refine ck_off ?_ ?_ _) | (with_reducible refine ck_set ?_ ?_ _) | (with_reducible refine ck_drewN ?_ _) | (with_reducible refine is_set ?_) | (with_reducible refine is_drewN ?_ _) | (with_reducible apply is_of; with_reducible assumption) | (with_reducible exact nb_a _) | (with_reducible exact nb_b _) | (with_reducible exact nb_c _) | (with_reducible exact (nb_a _).symm) | (with_reducible exact (nb_b _).symm) | (with_reducible exact (nb_c _).symm) | (with_reducible refine fz_set ?_ _ _) | (with_reducible refine fz_drewN ?_ _) | (with_reducible refine fz_alloc ?_ _ _) | (with_reducible exact f20 _) | (with_reducible exact f21 _) | (with_reducible refine fz_new ?_) | (with_reducible refine hb_set ?_ ?_ _) | (with_reducible refine hb_drewN ?_ _) | (with_reducible refine hb_alloc ?_ ?_ _) | (with_reducible exact hb_refl _ _) | ((with_reducible refine is_new2 ?_ ?_) <;> (simp; done)) | (with_reducible refine is_alloc ?_) | ((with_reducible refine ck_new2 ?_ ?_) <;> (first | (simp; done) | rfl)) | (with_reducible refine ck_alloc ?_ _) | decide | (with_reducible exact Nat.le_refl _) | (with_reducible refine le_al ?_ _) | (with_reducible refine le_sc ?_ _ _) | (with_reducible refine le_dn ?_ _) | (with_reducible refine Nat.le_add_right_of_le ?_) | dsimp only)
  rintro W1 ⟨f0, f1, f2, f3, f4, f5, f6, f7, f8, f9, f10, f11, f12, f13, f14, f15, f16, f17, f18, f19, f20, f21, hB1⟩
  rw [rounds_succ]
  go_wp2
  refine wp_loop_rounds 4 ?_
  rw [rounds_succ]
  go_wp2
  go_quiet (fail)
  go_wp2
  rw [rounds_succ]
  go_wp2
  go_quiet (fail)
  go_wp2
  rw [rounds_succ]
  go_wp2
  go_quiet (fail)
  go_wp2
  rw [rounds_succ]
  go_wp2
  refine squash_rounds (fun W => W.cell? ⟨w.heap.size, 1, none⟩ = some (.int .u64 a0) ∧ W.cell? ⟨w.heap.size, 2, none⟩ = some (.int .u64 a1) ∧ W.cell? ⟨w.heap.size, 3, none⟩ = some (.int .u64 a2) ∧ W.cell? ⟨w.heap.size + 1, 1, none⟩ = some (.int .u64 b0) ∧ W.cell? ⟨w.heap.size + 1, 2, none⟩ = some (.int .u64 b1) ∧ W.cell? ⟨w.heap.size + 1, 3, none⟩ = some (.int .u64 b2) ∧ W.cell? ⟨w.heap.size + 1 + 1 + 1, 0, none⟩ = some (.bool !(n == k)) ∧ W.cell? ⟨w.heap.size + 1 + 1 + 1, 1, none⟩ = some (.int .u64 d00) ∧ W.cell? ⟨w.heap.size + 1 + 1 + 1, 2, none⟩ = some (.int .u64 d10) ∧ W.cell? ⟨w.heap.size + 1 + 1 + 1, 3, none⟩ = some (.int .u64 d11) ∧ W.cell? ⟨w.heap.size + 1 + 1 + 1, 4, none⟩ = some (.int .u64 d12) ∧ W.cell? ⟨w.heap.size + 1 + 1 + 1, 5, none⟩ = some (.int .u64 c12) ∧ W.cell? ⟨w.heap.size + 1 + 1 + 1, 6, none⟩ = some (.int .u64 0) ∧ W.cell? ⟨w.heap.size + 1 + 1, 0, none⟩ = some (.bool false) ∧ W.cell? ⟨w.heap.size + 1 + 1, 1, none⟩ = some (.int .u64 0) ∧ W.cell? ⟨w.heap.size + 1 + 1, 2, none⟩ = some (.int .u64 0) ∧ W.cell? ⟨w.heap.size + 1 + 1, 3, none⟩ = some (.int .u64 0) ∧ W.cell? ⟨w.heap.size + 1 + 1, 4, none⟩ = some (.int .u64 0) ∧ W.cell? ⟨w.heap.size + 1 + 1, 5, none⟩ = some (.int .u64 0) ∧ W.cell? ⟨w.heap.size + 1 + 1, 6, none⟩ = some (.int .u64 0) ∧ (∀ o, W.frozen? ⟨w.heap.size + 1 + 1 + 1, o, none⟩ = false) ∧ (∀ o, W.frozen? ⟨w.heap.size + 1 + 1, o, none⟩ = false) ∧ Hid (Below w.heap.size w W)) ?_ ?_
  · clear hp00 hd00 hc00 lp00 up00 ld00 ud00 lc00 uc00 hp01 hs01 hd01 hc01 lp01 up01 ls01 us01 ld01 ud01 lc01 uc01 hp02 hs02 hd02 hc02 lp02 up02 ls02 us02 ld02 ud02 lc02 uc02 hp10 hs10 hd10 hc10 lp10 up10 ls10 us10 ld10 ud10 lc10 uc10 hp11 hs11 hd11 hc11 lp11 up11 ls11 us11 ld11 ud11 lc11 uc11 hp12 hs12 hd12 hc12 lp12 up12 ls12 us12 ld12 ud12 lc12 uc12 hp20 hs20 hd20 hc20 lp20 up20 ls20 us20 ld20 ud20 lc20 uc20 hp21 hs21 hd21 hc21 lp21 up21 ls21 us21 ld21 ud21 lc21 uc21 hp22 hs22 hd22 hc22 lp22 up22 ls22 us22 ld22 ud22 lc22 uc22 pa0 qa0 pa1 qa1 pa2 qa2 pb0 qb0 pb1 qb1 pb2 qb2
    refine ⟨?_, ?_, ?_, ?_, ?_, ?_, ?_, ?_, ?_, ?_, ?_, ?_, ?_, ?_, ?_, ?_, ?_, ?_, ?_, ?_, ?_, ?_, ?_⟩
    all_goals (try intro _)
    all_goals repeat (first | (with_reducible assumption) | (with_reducible refine ck_same ?_) | (with_reducible refine ck_off ?_ ?_ _) | (with_reducible refine ck_set ?_ ?_ _) | (with_reducible refine ck_drewN ?_ _) | (with_reducible refine is_set ?_) | (with_reducible refine is_drewN ?_ _) | (with_reducible apply is_of; with_reducible assumption) | (with_reducible exact nb_a _) | (with_reducible exact nb_b _) | (with_reducible exact nb_c _) | (with_reducible exact (nb_a _).symm) | (with_reducible exact (nb_b _).symm) | (with_reducible exact (nb_c _).symm) | (with_reducible refine fz_set ?_ _ _) | (with_reducible refine fz_drewN ?_ _) | (with_reducible refine fz_alloc ?_ _ _) | (with_reducible exact f20 _) | (with_reducible exact f21 _) | (with_reducible refine fz_new ?_) | (with_reducible refine hb_set ?_ ?_ _) | (with_reducible refine hb_drewN ?_ _) | (with_reducible refine hb_alloc ?_ ?_ _) | (with_reducible exact hb_refl _ _) | ((with_reducible refine is_new2 ?_ ?_) <;> (simp; done)) | (with_reducible refine is_alloc ?_) | ((with_reducible refine ck_new2 ?_ ?_) <;> (first | (simp; done) | rfl)) | (with_reducible refine ck_alloc ?_ _) | decide | (with_reducible exact Nat.le_refl _) | (with_reducible refine le_al ?_ _) | (with_reducible refine le_sc ?_ _ _) | (with_reducible refine le_dn ?_ _) | (with_reducible refine Nat.le_add_right_of_le ?_) | dsimp only)
  clear f0 f1 f2 f3 f4 f5 f6 f7 f8 f9 f10 f11 f12 f13 f14 f15 f16 f17 f18 f19 f20 f21
  rintro W2 ⟨f0, f1, f2, f3, f4, f5, f6, f7, f8, f9, f10, f11, f12, f13, f14, f15, f16, f17, f18, f19, f20, f21, hB2⟩
  rw [rounds_succ]
  go_wp2
  refine wp_loop_rounds 4 ?_
  rw [rounds_succ]
  go_wp2
  go_quiet (fail)
  go_wp2
  rw [rounds_succ]
  go_wp2
  go_quiet (fail)
  go_wp2
  rw [rounds_succ]
  go_wp2
  go_quiet (fail)
  go_wp2
  rw [rounds_succ]
  go_wp2
  refine squash_rounds (fun W => W.cell? ⟨w.heap.size, 1, none⟩ = some (.int .u64 a0) ∧ W.cell? ⟨w.heap.size, 2, none⟩ = some (.int .u64 a1) ∧ W.cell? ⟨w.heap.size, 3, none⟩ = some (.int .u64 a2) ∧ W.cell? ⟨w.heap.size + 1, 1, none⟩ = some (.int .u64 b0) ∧ W.cell? ⟨w.heap.size + 1, 2, none⟩ = some (.int .u64 b1) ∧ W.cell? ⟨w.heap.size + 1, 3, none⟩ = some (.int .u64 b2) ∧ W.cell? ⟨w.heap.size + 1 + 1 + 1, 0, none⟩ = some (.bool !(n == k)) ∧ W.cell? ⟨w.heap.size + 1 + 1 + 1, 1, none⟩ = some (.int .u64 d00) ∧ W.cell? ⟨w.heap.size + 1 + 1 + 1, 2, none⟩ = some (.int .u64 d10) ∧ W.cell? ⟨w.heap.size + 1 + 1 + 1, 3, none⟩ = some (.int .u64 d20) ∧ W.cell? ⟨w.heap.size + 1 + 1 + 1, 4, none⟩ = some (.int .u64 d21) ∧ W.cell? ⟨w.heap.size + 1 + 1 + 1, 5, none⟩ = some (.int .u64 d22) ∧ W.cell? ⟨w.heap.size + 1 + 1 + 1, 6, none⟩ = some (.int .u64 c22) ∧ W.cell? ⟨w.heap.size + 1 + 1, 0, none⟩ = some (.bool false) ∧ W.cell? ⟨w.heap.size + 1 + 1, 1, none⟩ = some (.int .u64 0) ∧ W.cell? ⟨w.heap.size + 1 + 1, 2, none⟩ = some (.int .u64 0) ∧ W.cell? ⟨w.heap.size + 1 + 1, 3, none⟩ = some (.int .u64 0) ∧ W.cell? ⟨w.heap.size + 1 + 1, 4, none⟩ = some (.int .u64 0) ∧ W.cell? ⟨w.heap.size + 1 + 1, 5, none⟩ = some (.int .u64 0) ∧ W.cell? ⟨w.heap.size + 1 + 1, 6, none⟩ = some (.int .u64 0) ∧ (∀ o, W.frozen? ⟨w.heap.size + 1 + 1 + 1, o, none⟩ = false) ∧ (∀ o, W.frozen? ⟨w.heap.size + 1 + 1, o, none⟩ = false) ∧ Hid (Below w.heap.size w W)) ?_ ?_
  · clear hp00 hd00 hc00 lp00 up00 ld00 ud00 lc00 uc00 hp01 hs01 hd01 hc01 lp01 up01 ls01 us01 ld01 ud01 lc01 uc01 hp02 hs02 hd02 hc02 lp02 up02 ls02 us02 ld02 ud02 lc02 uc02 hp10 hs10 hd10 hc10 lp10 up10 ls10 us10 ld10 ud10 lc10 uc10 hp11 hs11 hd11 hc11 lp11 up11 ls11 us11 ld11 ud11 lc11 uc11 hp12 hs12 hd12 hc12 lp12 up12 ls12 us12 ld12 ud12 lc12 uc12 hp20 hs20 hd20 hc20 lp20 up20 ls20 us20 ld20 ud20 lc20 uc20 hp21 hs21 hd21 hc21 lp21 up21 ls21 us21 ld21 ud21 lc21 uc21 hp22 hs22 hd22 hc22 lp22 up22 ls22 us22 ld22 ud22 lc22 uc22 pa0 qa0 pa1 qa1 pa2 qa2 pb0 qb0 pb1 qb1 pb2 qb2
    refine ⟨?_, ?_, ?_, ?_, ?_, ?_, ?_, ?_, ?_, ?_, ?_, ?_, ?_, ?_, ?_, ?_, ?_, ?_, ?_, ?_, ?_, ?_, ?_⟩
    all_goals (try intro _)
    all_goals repeat (first | (with_reducible assumption) | (with_reducible refine ck_same ?_) | (with_reducible refine ck_off ?_ ?_ _) | (with_reducible refine ck_set ?_ ?_ _) | (with_reducible refine ck_drewN ?_ _) | (with_reducible refine is_set ?_) | (with_reducible refine is_drewN ?_ _) | (with_reducible apply is_of; with_reducible assumption) | (with_reducible exact nb_a _) | (with_reducible exact nb_b _) | (with_reducible exact nb_c _) | (with_reducible exact (nb_a _).symm) | (with_reducible exact (nb_b _).symm) | (with_reducible exact (nb_c _).symm) | (with_reducible refine fz_set ?_ _ _) | (with_reducible refine fz_drewN ?_ _) | (with_reducible refine fz_alloc ?_ _ _) | (with_reducible exact f20 _) | (with_reducible exact f21 _) | (with_reducible refine fz_new ?_) | (with_reducible refine hb_set ?_ ?_ _) | (with_reducible refine hb_drewN ?_ _) | (with_reducible refine hb_alloc ?_ ?_ _) | (with_reducible exact hb_refl _ _) | ((with_reducible refine is_new2 ?_ ?_) <;> (simp; done)) | (with_reducible refine is_alloc ?_) | ((with_reducible refine ck_new2 ?_ ?_) <;> (first | (simp; done) | rfl)) | (with_reducible refine ck_alloc ?_ _) | decide | (with_reducible exact Nat.le_refl _) | (with_reducible refine le_al ?_ _) | (with_reducible refine le_sc ?_ _ _) | (with_reducible refine le_dn ?_ _) | (with_reducible refine Nat.le_add_right_of_le ?_) | dsimp only)
  clear f0 f1 f2 f3 f4 f5 f6 f7 f8 f9 f10 f11 f12 f13 f14 f15 f16 f17 f18 f19 f20 f21
  rintro W3 ⟨f0, f1, f2, f3, f4, f5, f6, f7, f8, f9, f10, f11, f12, f13, f14, f15, f16, f17, f18, f19, f20, f21, hB3⟩
  rw [rounds_succ]
  go_wp2
  refine ret7_37 rfl ?_ ?_ ?_ ?_ ?_ ?_ ?_ ⟨rfl, ?_⟩
  all_goals clear hp00 hd00 hc00 lp00 up00 ld00 ud00 lc00 uc00 hp01 hs01 hd01 hc01 lp01 up01 ls01 us01 ld01 ud01 lc01 uc01 hp02 hs02 hd02 hc02 lp02 up02 ls02 us02 ld02 ud02 lc02 uc02 hp10 hs10 hd10 hc10 lp10 up10 ls10 us10 ld10 ud10 lc10 uc10 hp11 hs11 hd11 hc11 lp11 up11 ls11 us11 ld11 ud11 lc11 uc11 hp12 hs12 hd12 hc12 lp12 up12 ls12 us12 ld12 ud12 lc12 uc12 hp20 hs20 hd20 hc20 lp20 up20 ls20 us20 ld20 ud20 lc20 uc20 hp21 hs21 hd21 hc21 lp21 up21 ls21 us21 ld21 ud21 lc21 uc21 hp22 hs22 hd22 hc22 lp22 up22 ls22 us22 ld22 ud22 lc22 uc22 pa0 qa0 pa1 qa1 pa2 qa2 pb0 qb0 pb1 qb1 pb2 qb2
  case refine_8 => refine hb_out ?_; repeat (first | (with_reducible assumption) | (with_reducible refine ck_same ?_) | (with_reducible refine ck_off ?_ ?_ _) | (with_reducible refine ck_set ?_ ?_ _) | (with_reducible refine ck_drewN ?_ _) | (with_reducible refine is_set ?_) | (with_reducible refine is_drewN ?_ _) | (with_reducible apply is_of; with_reducible assumption) | (with_reducible exact nb_a _) | (with_reducible exact nb_b _) | (with_reducible exact nb_c _) | (with_reducible exact (nb_a _).symm) | (with_reducible exact (nb_b _).symm) | (with_reducible exact (nb_c _).symm) | (with_reducible refine fz_set ?_ _ _) | (with_reducible refine fz_drewN ?_ _) | (with_reducible refine fz_alloc ?_ _ _) | (with_reducible exact f20 _) | (with_reducible exact f21 _) | (with_reducible refine fz_new ?_) | (with_reducible refine hb_set ?_ ?_ _) | (with_reducible refine hb_drewN ?_ _) | (with_reducible refine hb_alloc ?_ ?_ _) | (with_reducible exact hb_refl _ _) | ((with_reducible refine is_new2 ?_ ?_) <;> (simp; done)) | (with_reducible refine is_alloc ?_) | ((with_reducible refine ck_new2 ?_ ?_) <;> (first | (simp; done) | rfl)) | (with_reducible refine ck_alloc ?_ _) | decide | (with_reducible exact Nat.le_refl _) | (with_reducible refine le_al ?_ _) | (with_reducible refine le_sc ?_ _ _) | (with_reducible refine le_dn ?_ _) | (with_reducible refine Nat.le_add_right_of_le ?_) | dsimp only)
  all_goals repeat (first | (with_reducible assumption) | (with_reducible refine ck_same ?_) | (with_reducible refine ck_off ?_ ?_ _) | (with_reducible refine ck_set ?_ ?_ _) | (with_reducible refine ck_drewN ?_ _) | (with_reducible refine is_set ?_) | (with_reducible refine is_drewN ?_ _) | (with_reducible apply is_of; with_reducible assumption) | (with_reducible exact nb_a _) | (with_reducible exact nb_b _) | (with_reducible exact nb_c _) | (with_reducible exact (nb_a _).symm) | (with_reducible exact (nb_b _).symm) | (with_reducible exact (nb_c _).symm) | (with_reducible refine fz_set ?_ _ _) | (with_reducible refine fz_drewN ?_ _) | (with_reducible refine fz_alloc ?_ _ _) | (with_reducible exact f20 _) | (with_reducible exact f21 _) | (with_reducible refine fz_new ?_) | (with_reducible refine hb_set ?_ ?_ _) | (with_reducible refine hb_drewN ?_ _) | (with_reducible refine hb_alloc ?_ ?_ _) | (with_reducible exact hb_refl _ _) | ((with_reducible refine is_new2 ?_ ?_) <;> (simp; done)) | (with_reducible refine is_alloc ?_) | ((with_reducible refine ck_new2 ?_ ?_) <;> (first | (simp; done) | rfl)) | (with_reducible refine ck_alloc ?_ _) | decide | (with_reducible exact Nat.le_refl _) | (with_reducible refine le_al ?_ _) | (with_reducible refine le_sc ?_ _ _) | (with_reducible refine le_dn ?_ _) | (with_reducible refine Nat.le_add_right_of_le ?_) | dsimp only)

theorem mg_sg (n : Bool) (m : Int) (h : 0 ≤ m) : mg (sg n m) = m := by
  unfold mg sg; cases n <;> simp <;> omega
theorem sg_mul (n k : Bool) (a b : Int) : sg (!(n == k)) (a * b) = sg n a * sg k b := by
  cases n <;> cases k <;> simp [sg, Int.neg_mul, Int.mul_neg]
theorem mag_mul (a0 a1 a2 b0 b1 b2 : Int) : mag6 a0 a1 a2 0 0 0 * mag6 b0 b1 b2 0 0 0 =
    a0 * b0 + 4294967296 * (a0 * b1) + 18446744073709551616 * (a0 * b2) + 4294967296 * (a1 * b0) + 18446744073709551616 * (a1 * b1) + 79228162514264337593543950336 * (a1 * b2) + 18446744073709551616 * (a2 * b0) + 79228162514264337593543950336 * (a2 * b1) + 340282366920938463463374607431768211456 * (a2 * b2) := by
  have e : ∀ x y z : Int, mag6 x y z 0 0 0 = x + 4294967296 * y + 18446744073709551616 * z := fun x y z => by unfold mag6; omega
  rw [e, e]
  have l : ∀ x : Int, x * (b0 + 4294967296 * b1 + 18446744073709551616 * b2) = x * b0 + 4294967296 * (x * b1) + 18446744073709551616 * (x * b2) := fun x => by
    rw [Int.mul_add, Int.mul_add, Int.mul_left_comm, Int.mul_left_comm x 18446744073709551616]
  rw [Int.add_mul, Int.add_mul, Int.mul_assoc, Int.mul_assoc, l a0, l a1, l a2]
  omega

theorem times_W {va vb : Value} {x y : Int} (ha : IsW va x) (hb : IsW vb y) (h1 : mg x < 79228162514264337593543950336) (h2 : mg y < 79228162514264337593543950336) :
    ∃ v, IsW v (x * y) ∧ ∀ w, Calls Try.prog 57 #[va, vb] w fun e w' => e = .returned v ∧ Below w.heap.size w w' := by
  obtain ⟨n, a0, a1, a2, a3, a4, a5, rfl, x0, x1, x2, x3, x4, x5, rfl⟩ := ha
  obtain ⟨k, b0, b1, b2, b3, b4, b5, rfl, y0, y1, y2, y3, y4, y5, rfl⟩ := hb
  have e1 : mg (sg n (mag6 a0 a1 a2 a3 a4 a5)) = mag6 a0 a1 a2 a3 a4 a5 := mg_sg _ _ (by unfold mag6; omega)
  have e2 : mg (sg k (mag6 b0 b1 b2 b3 b4 b5)) = mag6 b0 b1 b2 b3 b4 b5 := mg_sg _ _ (by unfold mag6; omega)
  rw [e1] at h1
  rw [e2] at h2
  obtain ⟨rfl, rfl, rfl⟩ : a3 = 0 ∧ a4 = 0 ∧ a5 = 0 := by unfold mag6 at h1; omega
  obtain ⟨rfl, rfl, rfl⟩ : b3 = 0 ∧ b4 = 0 ∧ b5 = 0 := by unfold mag6 at h2; omega
  clear e1 e2 h1 h2 x3 x4 x5 y3 y4 y5
  obtain ⟨p00, hp00⟩ : ∃ p, a0 * b0 = p := ⟨_, rfl⟩
  have np00 : 0 ≤ p00 ∧ p00 ≤ 18446744065119617025 := by rw [← hp00]; exact mul_bd x0.1 x0.2 y0.1 y0.2
  obtain ⟨d00, hd00⟩ : ∃ d, p00 % 4294967296 = d := ⟨_, rfl⟩
  obtain ⟨c00, hc00⟩ : ∃ c, p00 / 4294967296 = c := ⟨_, rfl⟩
  have nd00 : 0 ≤ d00 ∧ d00 ≤ 4294967295 := by omega
  have nc00 : 0 ≤ c00 ∧ c00 ≤ 4294967295 := by omega
  have z00 : d00 + 4294967296 * c00 = p00 := by omega
  obtain ⟨p01, hp01⟩ : ∃ p, a0 * b1 = p := ⟨_, rfl⟩
  have np01 : 0 ≤ p01 ∧ p01 ≤ 18446744065119617025 := by rw [← hp01]; exact mul_bd x0.1 x0.2 y1.1 y1.2
  obtain ⟨s01, hs01⟩ : ∃ s, p01 + c00 = s := ⟨_, rfl⟩
  have ns01 : 0 ≤ s01 ∧ s01 ≤ 18446744073709551615 := by omega
  obtain ⟨d01, hd01⟩ : ∃ d, s01 % 4294967296 = d := ⟨_, rfl⟩
  obtain ⟨c01, hc01⟩ : ∃ c, s01 / 4294967296 = c := ⟨_, rfl⟩
  have nd01 : 0 ≤ d01 ∧ d01 ≤ 4294967295 := by omega
  have nc01 : 0 ≤ c01 ∧ c01 ≤ 4294967295 := by omega
  have z01 : d01 + 4294967296 * c01 = s01 := by omega
  obtain ⟨p02, hp02⟩ : ∃ p, a0 * b2 = p := ⟨_, rfl⟩
  have np02 : 0 ≤ p02 ∧ p02 ≤ 18446744065119617025 := by rw [← hp02]; exact mul_bd x0.1 x0.2 y2.1 y2.2
  obtain ⟨s02, hs02⟩ : ∃ s, p02 + c01 = s := ⟨_, rfl⟩
  have ns02 : 0 ≤ s02 ∧ s02 ≤ 18446744073709551615 := by omega
  obtain ⟨d02, hd02⟩ : ∃ d, s02 % 4294967296 = d := ⟨_, rfl⟩
  obtain ⟨c02, hc02⟩ : ∃ c, s02 / 4294967296 = c := ⟨_, rfl⟩
  have nd02 : 0 ≤ d02 ∧ d02 ≤ 4294967295 := by omega
  have nc02 : 0 ≤ c02 ∧ c02 ≤ 4294967295 := by omega
  have z02 : d02 + 4294967296 * c02 = s02 := by omega
  obtain ⟨p10, hp10⟩ : ∃ p, a1 * b0 = p := ⟨_, rfl⟩
  have np10 : 0 ≤ p10 ∧ p10 ≤ 18446744065119617025 := by rw [← hp10]; exact mul_bd x1.1 x1.2 y0.1 y0.2
  obtain ⟨s10, hs10⟩ : ∃ s, d01 + p10 = s := ⟨_, rfl⟩
  have ns10 : 0 ≤ s10 ∧ s10 ≤ 18446744073709551615 := by omega
  obtain ⟨d10, hd10⟩ : ∃ d, s10 % 4294967296 = d := ⟨_, rfl⟩
  obtain ⟨c10, hc10⟩ : ∃ c, s10 / 4294967296 = c := ⟨_, rfl⟩
  have nd10 : 0 ≤ d10 ∧ d10 ≤ 4294967295 := by omega
  have nc10 : 0 ≤ c10 ∧ c10 ≤ 4294967295 := by omega
  have z10 : d10 + 4294967296 * c10 = s10 := by omega
  obtain ⟨p11, hp11⟩ : ∃ p, a1 * b1 = p := ⟨_, rfl⟩
  have np11 : 0 ≤ p11 ∧ p11 ≤ 18446744065119617025 := by rw [← hp11]; exact mul_bd x1.1 x1.2 y1.1 y1.2
  obtain ⟨s11, hs11⟩ : ∃ s, d02 + p11 + c10 = s := ⟨_, rfl⟩
  have ns11 : 0 ≤ s11 ∧ s11 ≤ 18446744073709551615 := by omega
  obtain ⟨d11, hd11⟩ : ∃ d, s11 % 4294967296 = d := ⟨_, rfl⟩
  obtain ⟨c11, hc11⟩ : ∃ c, s11 / 4294967296 = c := ⟨_, rfl⟩
  have nd11 : 0 ≤ d11 ∧ d11 ≤ 4294967295 := by omega
  have nc11 : 0 ≤ c11 ∧ c11 ≤ 4294967295 := by omega
  have z11 : d11 + 4294967296 * c11 = s11 := by omega
  obtain ⟨p12, hp12⟩ : ∃ p, a1 * b2 = p := ⟨_, rfl⟩
  have np12 : 0 ≤ p12 ∧ p12 ≤ 18446744065119617025 := by rw [← hp12]; exact mul_bd x1.1 x1.2 y2.1 y2.2
  obtain ⟨s12, hs12⟩ : ∃ s, c02 + p12 + c11 = s := ⟨_, rfl⟩
  have ns12 : 0 ≤ s12 ∧ s12 ≤ 18446744073709551615 := by omega
  obtain ⟨d12, hd12⟩ : ∃ d, s12 % 4294967296 = d := ⟨_, rfl⟩
  obtain ⟨c12, hc12⟩ : ∃ c, s12 / 4294967296 = c := ⟨_, rfl⟩
  have nd12 : 0 ≤ d12 ∧ d12 ≤ 4294967295 := by omega
  have nc12 : 0 ≤ c12 ∧ c12 ≤ 4294967295 := by omega
  have z12 : d12 + 4294967296 * c12 = s12 := by omega
  obtain ⟨p20, hp20⟩ : ∃ p, a2 * b0 = p := ⟨_, rfl⟩
  have np20 : 0 ≤ p20 ∧ p20 ≤ 18446744065119617025 := by rw [← hp20]; exact mul_bd x2.1 x2.2 y0.1 y0.2
  obtain ⟨s20, hs20⟩ : ∃ s, d11 + p20 = s := ⟨_, rfl⟩
  have ns20 : 0 ≤ s20 ∧ s20 ≤ 18446744073709551615 := by omega
  obtain ⟨d20, hd20⟩ : ∃ d, s20 % 4294967296 = d := ⟨_, rfl⟩
  obtain ⟨c20, hc20⟩ : ∃ c, s20 / 4294967296 = c := ⟨_, rfl⟩
  have nd20 : 0 ≤ d20 ∧ d20 ≤ 4294967295 := by omega
  have nc20 : 0 ≤ c20 ∧ c20 ≤ 4294967295 := by omega
  have z20 : d20 + 4294967296 * c20 = s20 := by omega
  obtain ⟨p21, hp21⟩ : ∃ p, a2 * b1 = p := ⟨_, rfl⟩
  have np21 : 0 ≤ p21 ∧ p21 ≤ 18446744065119617025 := by rw [← hp21]; exact mul_bd x2.1 x2.2 y1.1 y1.2
  obtain ⟨s21, hs21⟩ : ∃ s, d12 + p21 + c20 = s := ⟨_, rfl⟩
  have ns21 : 0 ≤ s21 ∧ s21 ≤ 18446744073709551615 := by omega
  obtain ⟨d21, hd21⟩ : ∃ d, s21 % 4294967296 = d := ⟨_, rfl⟩
  obtain ⟨c21, hc21⟩ : ∃ c, s21 / 4294967296 = c := ⟨_, rfl⟩
  have nd21 : 0 ≤ d21 ∧ d21 ≤ 4294967295 := by omega
  have nc21 : 0 ≤ c21 ∧ c21 ≤ 4294967295 := by omega
  have z21 : d21 + 4294967296 * c21 = s21 := by omega
  obtain ⟨p22, hp22⟩ : ∃ p, a2 * b2 = p := ⟨_, rfl⟩
  have np22 : 0 ≤ p22 ∧ p22 ≤ 18446744065119617025 := by rw [← hp22]; exact mul_bd x2.1 x2.2 y2.1 y2.2
  obtain ⟨s22, hs22⟩ : ∃ s, c12 + p22 + c21 = s := ⟨_, rfl⟩
  have ns22 : 0 ≤ s22 ∧ s22 ≤ 18446744073709551615 := by omega
  obtain ⟨d22, hd22⟩ : ∃ d, s22 % 4294967296 = d := ⟨_, rfl⟩
  obtain ⟨c22, hc22⟩ : ∃ c, s22 / 4294967296 = c := ⟨_, rfl⟩
  have nd22 : 0 ≤ d22 ∧ d22 ≤ 4294967295 := by omega
  have nc22 : 0 ≤ c22 ∧ c22 ≤ 4294967295 := by omega
  have z22 : d22 + 4294967296 * c22 = s22 := by omega
  refine ⟨_, ⟨!(n == k), d00, d10, d20, d21, d22, c22, rfl, nd00, nd10, nd20, nd21, nd22, nc22, ?_⟩, fun w => times_vars n k a0 a1 a2 b0 b1 b2 x0.1 x0.2 x1.1 x1.2 x2.1 x2.2 y0.1 y0.2 y1.1 y1.2 y2.1 y2.2 p00 d00 c00 p01 s01 d01 c01 p02 s02 d02 c02 p10 s10 d10 c10 p11 s11 d11 c11 p12 s12 d12 c12 p20 s20 d20 c20 p21 s21 d21 c21 p22 s22 d22 c22 hp00 hd00 hc00 hp01 hs01 hd01 hc01 hp02 hs02 hd02 hc02 hp10 hs10 hd10 hc10 hp11 hs11 hd11 hc11 hp12 hs12 hd12 hc12 hp20 hs20 hd20 hc20 hp21 hs21 hd21 hc21 hp22 hs22 hd22 hc22 np00.1 np00.2 nd00.1 nd00.2 nc00.1 nc00.2 np01.1 np01.2 ns01.1 ns01.2 nd01.1 nd01.2 nc01.1 nc01.2 np02.1 np02.2 ns02.1 ns02.2 nd02.1 nd02.2 nc02.1 nc02.2 np10.1 np10.2 ns10.1 ns10.2 nd10.1 nd10.2 nc10.1 nc10.2 np11.1 np11.2 ns11.1 ns11.2 nd11.1 nd11.2 nc11.1 nc11.2 np12.1 np12.2 ns12.1 ns12.2 nd12.1 nd12.2 nc12.1 nc12.2 np20.1 np20.2 ns20.1 ns20.2 nd20.1 nd20.2 nc20.1 nc20.2 np21.1 np21.2 ns21.1 ns21.2 nd21.1 nd21.2 nc21.1 nc21.2 np22.1 np22.2 ns22.1 ns22.2 nd22.1 nd22.2 nc22.1 nc22.2 w⟩
  have prod : mag6 d00 d10 d20 d21 d22 c22 = mag6 a0 a1 a2 0 0 0 * mag6 b0 b1 b2 0 0 0 := by
    have ex : mag6 a0 a1 a2 0 0 0 * mag6 b0 b1 b2 0 0 0 = p00 + 4294967296 * p01 + 18446744073709551616 * p02 + 4294967296 * p10 + 18446744073709551616 * p11 + 79228162514264337593543950336 * p12 + 18446744073709551616 * p20 + 79228162514264337593543950336 * p21 + 340282366920938463463374607431768211456 * p22 := by
      rw [← hp00, ← hp01, ← hp02, ← hp10, ← hp11, ← hp12, ← hp20, ← hp21, ← hp22]
      exact mag_mul a0 a1 a2 b0 b1 b2
    rw [ex]
    clear ex hp00 hd00 hc00 hp01 hd01 hc01 hp02 hd02 hc02 hp10 hd10 hc10 hp11 hd11 hc11 hp12 hd12 hc12 hp20 hd20 hc20 hp21 hd21 hc21 hp22 hd22 hc22
    unfold mag6
    omega
  rw [prod]
  exact sg_mul n k _ _

end Go.Proofs.Ytpfdoifkimjlbaa
