/- THE REFERENCE of package checked: Reduce. -/
import Derived.Test.YtgcflohlmbdoiaaR8
namespace Go.Proofs.Ytgcflohlmbdoiaa
open Go.RowKit M
set_option linter.unusedVariables false
set_option linter.unusedSimpArgs false

theorem rreduce_zero (n : Int) (w : World) : Calls Try.prog 19 #[.int .i64 n, .int .i64 0] w fun e w' => e = .returned (.tuple #[.agg #[.int .i64 0, .int .i64 0], .int .i64 2]) ∧ Below w.heap.size w w' := by
  go_enter Try.func19, Try.ntmps19
  go_wp2
  refine bodyPost_ret (v := .tuple #[.agg #[.int .i64 0, .int .i64 0], .int .i64 2]) (by simp [results, Try.results19, go_sem]) rfl ⟨rfl, ?_⟩
  repeat (first | (with_reducible exact Below.refl _ _) | (with_reducible refine Below.setCell ?_ ?_ _) | (with_reducible refine Below.alloc ?_ ?_ _) | (with_reducible exact Nat.le_refl _) | dsimp only)

set_option maxHeartbeats 1000000 in
theorem rred_ok (n d u v g p r ph pl X : Int) (s : Bool) (w : World) (hd : d ≠ 0)
    (cn : ∀ w, Calls Try.prog 40 #[.int .i64 n] w fun e w' => e = .returned (.int .u64 u) ∧ Below w.heap.size w w')
    (cd : ∀ w, Calls Try.prog 40 #[.int .i64 d] w fun e w' => e = .returned (.int .u64 v) ∧ Below w.heap.size w w')
    (u0 : 0 ≤ u) (u1 : u ≤ 9223372036854775808) (v0 : 0 < v) (v1 : v ≤ 9223372036854775808) (hg : gd u v = g) (g0 : 0 < g) (g1 : g ≤ v) (hp : u / g = p) (hr : v / g = r) (p0 : 0 ≤ p) (p1 : p ≤ u) (r0 : 0 ≤ r) (r1 : r ≤ v)
    (hph : p / 4294967296 = ph) (hpl : p % 4294967296 = pl) (hs : (!(decide (n < 0) == decide (d < 0))) = s) (ci : ∀ w, Calls Try.prog 41 #[.agg #[.bool s, .int .u64 pl, .int .u64 ph, .int .u64 0, .int .u64 0, .int .u64 0, .int .u64 0]] w fun e w' => e = .returned (.tuple #[.int .i64 X, .bool true]) ∧ Below w.heap.size w w') (hr2 : r ≤ 9223372036854775807) :
    Calls Try.prog 19 #[.int .i64 n, .int .i64 d] w fun e w' => e = .returned (.tuple #[.agg #[.int .i64 X, .int .i64 r], .int .i64 0]) ∧ Below w.heap.size w w' := by
  have CN := Lib.hid cn
  have CD := Lib.hid cd
  have CI := Lib.hid ci
  have HG := Lib.hid hg
  have hdb : (d == 0) = false := by simp; omega
  clear cn cd ci hd hg
  go_enter Try.func19, Try.ntmps19
  go_wp2_with fail
  refine (CN.out _).mono ?_
  rintro e w1 ⟨rfl, hb1⟩
  have s1 := hb1.size
  simp at s1
  have t1 : w.heap.size < w1.heap.size := by omega
  obtain ⟨hc1, hfz1⟩ := bcell hb1
  have k0 : w1.cell? ⟨w.heap.size, 0, none⟩ = some (.int .i64 0) := by simp [hc1]
  have k1 : w1.cell? ⟨w.heap.size, 1, none⟩ = some (.int .i64 0) := by simp [hc1]
  have z0 : ∀ o, w1.frozen? ⟨w.heap.size, o, none⟩ = false := by intro o; simp [hfz1]
  have B1 : Hid (Below w.heap.size w w1) := hb_trans (hb_alloc (hb_refl _ _) (Nat.le_refl _) _) hb1 (by simp)
  clear hb1 hc1 hfz1 s1
  go_wp2_with fail
  refine (CD.out _).mono ?_
  rintro e w2 ⟨rfl, hb2⟩
  have k0' := ck_below hb2 k0
  have k1' := ck_below hb2 k1
  have t2 := Nat.lt_of_lt_of_le t1 hb2.size
  have z0' : ∀ o, w2.frozen? ⟨w.heap.size, o, none⟩ = false := fun o => fz_below hb2 (z0 o) t1
  have B2 := hb_trans B1 hb2 (Nat.le_of_lt t1)
  clear hb2 k0 k1 z0 B1 t1
  go_wp2
  go_loopw [8, 9] (fun f1 f2 wr => ∃ x y : Int, f1 = .int .u64 x ∧ f2 = .int .u64 y ∧ 0 ≤ x ∧ x ≤ 18446744073709551615 ∧ 0 ≤ y ∧ y ≤ 18446744073709551615 ∧ Hid (gd x y = gd u v) ∧
    wr.cell? ⟨w.heap.size, 0, none⟩ = some (.int .i64 0) ∧ wr.cell? ⟨w.heap.size, 1, none⟩ = some (.int .i64 0) ∧ (∀ o, wr.frozen? ⟨w.heap.size, o, none⟩ = false) ∧ w.heap.size < wr.heap.size ∧ Hid (Below w.heap.size w wr)) (fun _ v _ => (intOf v).toNat)
  case atStart => exact ⟨u, v, rfl, rfl, by omega, by omega, by omega, by omega, Lib.hid rfl, k0', k1', z0', t2, B2⟩
  case round =>
    obtain ⟨x, y, rfl, rfl, x0, x1, y0, y1, HX, c0, c1, zz, tt, BB⟩ := hrel
    clear k0' k1' z0' t2 B2
    by_cases hy : y = 0
    · subst hy
      have hx : x = g := by rw [← HG.out, ← HX.out, gd_zero x x0]
      subst hx
      clear HX
      have e1 : u / x = p := hp
      have e2 : v / x = r := hr
      go_wp2
      go_quiet (fail)
      have c0' : (wr.drewN nq).cell? ⟨w.heap.size, 0, none⟩ = some (.int .i64 0) := c0
      have c1' : (wr.drewN nq).cell? ⟨w.heap.size, 1, none⟩ = some (.int .i64 0) := c1
      have zz' : ∀ o, (wr.drewN nq).frozen? ⟨w.heap.size, o, none⟩ = false := zz
      have tt' : w.heap.size < (wr.drewN nq).heap.size := tt
      have BB' := hb_drewN BB nq
      clear c0 c1 zz tt BB
      generalize wr.drewN nq = wq at *
      go_wp2_with fail
      refine (CI.out _).mono ?_
      rintro e w3 ⟨rfl, hb3⟩
      obtain ⟨hc3, hf3⟩ := bcell hb3
      have s3 := hb3.size
      simp at s3
      have B3 : Hid (Below w.heap.size w w3) := hb_trans (by { repeat (first | (with_reducible exact BB') | (with_reducible refine hb_set ?_ ?_ _) | (with_reducible refine hb_alloc ?_ ?_ _) | omega | (dsimp only; omega) | (simp; omega)) }) hb3 (by simp; omega)
      have ne : ¬ w.heap.size = wq.heap.size := by omega
      have t3 : w.heap.size < w3.heap.size := by omega
      have t4 : w.heap.size < wq.heap.size + 1 := by omega
      have c0 : w3.cell? ⟨w.heap.size, 0, none⟩ = some (.int .i64 0) := by rw [hc3 _ _ (by simp; omega)]; simp [go_sem, ne, tt', c0', c1', zz', Nat.lt_succ_of_lt tt']
      have c1 : w3.cell? ⟨w.heap.size, 1, none⟩ = some (.int .i64 0) := by rw [hc3 _ _ (by simp; omega)]; simp [go_sem, ne, tt', c0', c1', zz', Nat.lt_succ_of_lt tt']
      have zz : ∀ o, w3.frozen? ⟨w.heap.size, o, none⟩ = false := by intro o; rw [hf3 _ _ (by simp; omega)]; simp [go_sem, ne, tt', c0', c1', zz', Nat.lt_succ_of_lt tt']
      clear hc3 hf3 hb3 s3 c0' c1' zz' tt' BB'
      go_wp2
      refine bodyPost_ret (v := .tuple #[.agg #[.int .i64 X, .int .i64 r], .int .i64 0]) (by simp [results, Try.results19, go_sem, c0, c1, t3]) rfl ⟨rfl, ?_⟩
      repeat (first | (with_reducible exact B3.out) | (with_reducible refine Below.setCell ?_ ?_ _) | (with_reducible exact Nat.le_refl _) | dsimp only)
    · have hy' : 0 < y := by omega
      have hyb : (y != 0) = true := by simp; omega
      have hm1 := Int.emod_nonneg x hy
      have hm2 := Int.emod_lt_of_pos x hy'
      have HG2 := Lib.hid ((gd_step x y x0 hy').trans HX.out)
      clear HX hy HG hp hr
      go_wp2
      go_quiet (fail)
      go_roundw
      case rel => first | exact ⟨y, x % y, rfl, rfl, y0, y1, hm1, by omega, HG2, c0, c1, zz, tt, hb_drewN BB _⟩ | ((repeat apply Exists.intro); exact ⟨⟨y, x % y, rfl, rfl, y0, y1, hm1, by omega, HG2, c0, c1, zz, tt, hb_drewN BB _⟩, rfl⟩)
      case measure => simp [intOf]; omega

set_option maxHeartbeats 1000000 in
theorem rred_o1 (n d u v g p r ph pl  : Int) (s : Bool) (w : World) (hd : d ≠ 0)
    (cn : ∀ w, Calls Try.prog 40 #[.int .i64 n] w fun e w' => e = .returned (.int .u64 u) ∧ Below w.heap.size w w')
    (cd : ∀ w, Calls Try.prog 40 #[.int .i64 d] w fun e w' => e = .returned (.int .u64 v) ∧ Below w.heap.size w w')
    (u0 : 0 ≤ u) (u1 : u ≤ 9223372036854775808) (v0 : 0 < v) (v1 : v ≤ 9223372036854775808) (hg : gd u v = g) (g0 : 0 < g) (g1 : g ≤ v) (hp : u / g = p) (hr : v / g = r) (p0 : 0 ≤ p) (p1 : p ≤ u) (r0 : 0 ≤ r) (r1 : r ≤ v)
    (hph : p / 4294967296 = ph) (hpl : p % 4294967296 = pl) (hs : (!(decide (n < 0) == decide (d < 0))) = s) (ci : ∀ w, Calls Try.prog 41 #[.agg #[.bool s, .int .u64 pl, .int .u64 ph, .int .u64 0, .int .u64 0, .int .u64 0, .int .u64 0]] w fun e w' => e = .returned (.tuple #[.int .i64 0, .bool false]) ∧ Below w.heap.size w w') :
    Calls Try.prog 19 #[.int .i64 n, .int .i64 d] w fun e w' => e = .returned (.tuple #[.agg #[.int .i64 0, .int .i64 0], .int .i64 7]) ∧ Below w.heap.size w w' := by
  have CN := Lib.hid cn
  have CD := Lib.hid cd
  have CI := Lib.hid ci
  have HG := Lib.hid hg
  have hdb : (d == 0) = false := by simp; omega
  clear cn cd ci hd hg
  go_enter Try.func19, Try.ntmps19
  go_wp2_with fail
  refine (CN.out _).mono ?_
  rintro e w1 ⟨rfl, hb1⟩
  have s1 := hb1.size
  simp at s1
  have t1 : w.heap.size < w1.heap.size := by omega
  obtain ⟨hc1, hfz1⟩ := bcell hb1
  have k0 : w1.cell? ⟨w.heap.size, 0, none⟩ = some (.int .i64 0) := by simp [hc1]
  have k1 : w1.cell? ⟨w.heap.size, 1, none⟩ = some (.int .i64 0) := by simp [hc1]
  have z0 : ∀ o, w1.frozen? ⟨w.heap.size, o, none⟩ = false := by intro o; simp [hfz1]
  have B1 : Hid (Below w.heap.size w w1) := hb_trans (hb_alloc (hb_refl _ _) (Nat.le_refl _) _) hb1 (by simp)
  clear hb1 hc1 hfz1 s1
  go_wp2_with fail
  refine (CD.out _).mono ?_
  rintro e w2 ⟨rfl, hb2⟩
  have k0' := ck_below hb2 k0
  have k1' := ck_below hb2 k1
  have t2 := Nat.lt_of_lt_of_le t1 hb2.size
  have z0' : ∀ o, w2.frozen? ⟨w.heap.size, o, none⟩ = false := fun o => fz_below hb2 (z0 o) t1
  have B2 := hb_trans B1 hb2 (Nat.le_of_lt t1)
  clear hb2 k0 k1 z0 B1 t1
  go_wp2
  go_loopw [8, 9] (fun f1 f2 wr => ∃ x y : Int, f1 = .int .u64 x ∧ f2 = .int .u64 y ∧ 0 ≤ x ∧ x ≤ 18446744073709551615 ∧ 0 ≤ y ∧ y ≤ 18446744073709551615 ∧ Hid (gd x y = gd u v) ∧
    wr.cell? ⟨w.heap.size, 0, none⟩ = some (.int .i64 0) ∧ wr.cell? ⟨w.heap.size, 1, none⟩ = some (.int .i64 0) ∧ (∀ o, wr.frozen? ⟨w.heap.size, o, none⟩ = false) ∧ w.heap.size < wr.heap.size ∧ Hid (Below w.heap.size w wr)) (fun _ v _ => (intOf v).toNat)
  case atStart => exact ⟨u, v, rfl, rfl, by omega, by omega, by omega, by omega, Lib.hid rfl, k0', k1', z0', t2, B2⟩
  case round =>
    obtain ⟨x, y, rfl, rfl, x0, x1, y0, y1, HX, c0, c1, zz, tt, BB⟩ := hrel
    clear k0' k1' z0' t2 B2
    by_cases hy : y = 0
    · subst hy
      have hx : x = g := by rw [← HG.out, ← HX.out, gd_zero x x0]
      subst hx
      clear HX
      have e1 : u / x = p := hp
      have e2 : v / x = r := hr
      go_wp2
      go_quiet (fail)
      have c0' : (wr.drewN nq).cell? ⟨w.heap.size, 0, none⟩ = some (.int .i64 0) := c0
      have c1' : (wr.drewN nq).cell? ⟨w.heap.size, 1, none⟩ = some (.int .i64 0) := c1
      have zz' : ∀ o, (wr.drewN nq).frozen? ⟨w.heap.size, o, none⟩ = false := zz
      have tt' : w.heap.size < (wr.drewN nq).heap.size := tt
      have BB' := hb_drewN BB nq
      clear c0 c1 zz tt BB
      generalize wr.drewN nq = wq at *
      go_wp2_with fail
      refine (CI.out _).mono ?_
      rintro e w3 ⟨rfl, hb3⟩
      obtain ⟨hc3, hf3⟩ := bcell hb3
      have s3 := hb3.size
      simp at s3
      have B3 : Hid (Below w.heap.size w w3) := hb_trans (by { repeat (first | (with_reducible exact BB') | (with_reducible refine hb_set ?_ ?_ _) | (with_reducible refine hb_alloc ?_ ?_ _) | omega | (dsimp only; omega) | (simp; omega)) }) hb3 (by simp; omega)
      have ne : ¬ w.heap.size = wq.heap.size := by omega
      have t3 : w.heap.size < w3.heap.size := by omega
      have t4 : w.heap.size < wq.heap.size + 1 := by omega
      have c0 : w3.cell? ⟨w.heap.size, 0, none⟩ = some (.int .i64 0) := by rw [hc3 _ _ (by simp; omega)]; simp [go_sem, ne, tt', c0', c1', zz', Nat.lt_succ_of_lt tt']
      have c1 : w3.cell? ⟨w.heap.size, 1, none⟩ = some (.int .i64 0) := by rw [hc3 _ _ (by simp; omega)]; simp [go_sem, ne, tt', c0', c1', zz', Nat.lt_succ_of_lt tt']
      have zz : ∀ o, w3.frozen? ⟨w.heap.size, o, none⟩ = false := by intro o; rw [hf3 _ _ (by simp; omega)]; simp [go_sem, ne, tt', c0', c1', zz', Nat.lt_succ_of_lt tt']
      clear hc3 hf3 hb3 s3 c0' c1' zz' tt' BB'
      go_wp2
      refine bodyPost_ret (v := .tuple #[.agg #[.int .i64 0, .int .i64 0], .int .i64 7]) (by simp [results, Try.results19, go_sem, c0, c1, t3]) rfl ⟨rfl, ?_⟩
      repeat (first | (with_reducible exact B3.out) | (with_reducible refine Below.setCell ?_ ?_ _) | (with_reducible exact Nat.le_refl _) | dsimp only)
    · have hy' : 0 < y := by omega
      have hyb : (y != 0) = true := by simp; omega
      have hm1 := Int.emod_nonneg x hy
      have hm2 := Int.emod_lt_of_pos x hy'
      have HG2 := Lib.hid ((gd_step x y x0 hy').trans HX.out)
      clear HX hy HG hp hr
      go_wp2
      go_quiet (fail)
      go_roundw
      case rel => first | exact ⟨y, x % y, rfl, rfl, y0, y1, hm1, by omega, HG2, c0, c1, zz, tt, hb_drewN BB _⟩ | ((repeat apply Exists.intro); exact ⟨⟨y, x % y, rfl, rfl, y0, y1, hm1, by omega, HG2, c0, c1, zz, tt, hb_drewN BB _⟩, rfl⟩)
      case measure => simp [intOf]; omega

set_option maxHeartbeats 1000000 in
theorem rred_o2 (n d u v g p r ph pl X : Int) (s : Bool) (w : World) (hd : d ≠ 0)
    (cn : ∀ w, Calls Try.prog 40 #[.int .i64 n] w fun e w' => e = .returned (.int .u64 u) ∧ Below w.heap.size w w')
    (cd : ∀ w, Calls Try.prog 40 #[.int .i64 d] w fun e w' => e = .returned (.int .u64 v) ∧ Below w.heap.size w w')
    (u0 : 0 ≤ u) (u1 : u ≤ 9223372036854775808) (v0 : 0 < v) (v1 : v ≤ 9223372036854775808) (hg : gd u v = g) (g0 : 0 < g) (g1 : g ≤ v) (hp : u / g = p) (hr : v / g = r) (p0 : 0 ≤ p) (p1 : p ≤ u) (r0 : 0 ≤ r) (r1 : r ≤ v)
    (hph : p / 4294967296 = ph) (hpl : p % 4294967296 = pl) (hs : (!(decide (n < 0) == decide (d < 0))) = s) (ci : ∀ w, Calls Try.prog 41 #[.agg #[.bool s, .int .u64 pl, .int .u64 ph, .int .u64 0, .int .u64 0, .int .u64 0, .int .u64 0]] w fun e w' => e = .returned (.tuple #[.int .i64 X, .bool true]) ∧ Below w.heap.size w w') (hr2 : 9223372036854775807 < r) :
    Calls Try.prog 19 #[.int .i64 n, .int .i64 d] w fun e w' => e = .returned (.tuple #[.agg #[.int .i64 0, .int .i64 0], .int .i64 7]) ∧ Below w.heap.size w w' := by
  have CN := Lib.hid cn
  have CD := Lib.hid cd
  have CI := Lib.hid ci
  have HG := Lib.hid hg
  have hdb : (d == 0) = false := by simp; omega
  clear cn cd ci hd hg
  go_enter Try.func19, Try.ntmps19
  go_wp2_with fail
  refine (CN.out _).mono ?_
  rintro e w1 ⟨rfl, hb1⟩
  have s1 := hb1.size
  simp at s1
  have t1 : w.heap.size < w1.heap.size := by omega
  obtain ⟨hc1, hfz1⟩ := bcell hb1
  have k0 : w1.cell? ⟨w.heap.size, 0, none⟩ = some (.int .i64 0) := by simp [hc1]
  have k1 : w1.cell? ⟨w.heap.size, 1, none⟩ = some (.int .i64 0) := by simp [hc1]
  have z0 : ∀ o, w1.frozen? ⟨w.heap.size, o, none⟩ = false := by intro o; simp [hfz1]
  have B1 : Hid (Below w.heap.size w w1) := hb_trans (hb_alloc (hb_refl _ _) (Nat.le_refl _) _) hb1 (by simp)
  clear hb1 hc1 hfz1 s1
  go_wp2_with fail
  refine (CD.out _).mono ?_
  rintro e w2 ⟨rfl, hb2⟩
  have k0' := ck_below hb2 k0
  have k1' := ck_below hb2 k1
  have t2 := Nat.lt_of_lt_of_le t1 hb2.size
  have z0' : ∀ o, w2.frozen? ⟨w.heap.size, o, none⟩ = false := fun o => fz_below hb2 (z0 o) t1
  have B2 := hb_trans B1 hb2 (Nat.le_of_lt t1)
  clear hb2 k0 k1 z0 B1 t1
  go_wp2
  go_loopw [8, 9] (fun f1 f2 wr => ∃ x y : Int, f1 = .int .u64 x ∧ f2 = .int .u64 y ∧ 0 ≤ x ∧ x ≤ 18446744073709551615 ∧ 0 ≤ y ∧ y ≤ 18446744073709551615 ∧ Hid (gd x y = gd u v) ∧
    wr.cell? ⟨w.heap.size, 0, none⟩ = some (.int .i64 0) ∧ wr.cell? ⟨w.heap.size, 1, none⟩ = some (.int .i64 0) ∧ (∀ o, wr.frozen? ⟨w.heap.size, o, none⟩ = false) ∧ w.heap.size < wr.heap.size ∧ Hid (Below w.heap.size w wr)) (fun _ v _ => (intOf v).toNat)
  case atStart => exact ⟨u, v, rfl, rfl, by omega, by omega, by omega, by omega, Lib.hid rfl, k0', k1', z0', t2, B2⟩
  case round =>
    obtain ⟨x, y, rfl, rfl, x0, x1, y0, y1, HX, c0, c1, zz, tt, BB⟩ := hrel
    clear k0' k1' z0' t2 B2
    by_cases hy : y = 0
    · subst hy
      have hx : x = g := by rw [← HG.out, ← HX.out, gd_zero x x0]
      subst hx
      clear HX
      have e1 : u / x = p := hp
      have e2 : v / x = r := hr
      go_wp2
      go_quiet (fail)
      have c0' : (wr.drewN nq).cell? ⟨w.heap.size, 0, none⟩ = some (.int .i64 0) := c0
      have c1' : (wr.drewN nq).cell? ⟨w.heap.size, 1, none⟩ = some (.int .i64 0) := c1
      have zz' : ∀ o, (wr.drewN nq).frozen? ⟨w.heap.size, o, none⟩ = false := zz
      have tt' : w.heap.size < (wr.drewN nq).heap.size := tt
      have BB' := hb_drewN BB nq
      clear c0 c1 zz tt BB
      generalize wr.drewN nq = wq at *
      go_wp2_with fail
      refine (CI.out _).mono ?_
      rintro e w3 ⟨rfl, hb3⟩
      obtain ⟨hc3, hf3⟩ := bcell hb3
      have s3 := hb3.size
      simp at s3
      have B3 : Hid (Below w.heap.size w w3) := hb_trans (by { repeat (first | (with_reducible exact BB') | (with_reducible refine hb_set ?_ ?_ _) | (with_reducible refine hb_alloc ?_ ?_ _) | omega | (dsimp only; omega) | (simp; omega)) }) hb3 (by simp; omega)
      have ne : ¬ w.heap.size = wq.heap.size := by omega
      have t3 : w.heap.size < w3.heap.size := by omega
      have t4 : w.heap.size < wq.heap.size + 1 := by omega
      have c0 : w3.cell? ⟨w.heap.size, 0, none⟩ = some (.int .i64 0) := by rw [hc3 _ _ (by simp; omega)]; simp [go_sem, ne, tt', c0', c1', zz', Nat.lt_succ_of_lt tt']
      have c1 : w3.cell? ⟨w.heap.size, 1, none⟩ = some (.int .i64 0) := by rw [hc3 _ _ (by simp; omega)]; simp [go_sem, ne, tt', c0', c1', zz', Nat.lt_succ_of_lt tt']
      have zz : ∀ o, w3.frozen? ⟨w.heap.size, o, none⟩ = false := by intro o; rw [hf3 _ _ (by simp; omega)]; simp [go_sem, ne, tt', c0', c1', zz', Nat.lt_succ_of_lt tt']
      clear hc3 hf3 hb3 s3 c0' c1' zz' tt' BB'
      go_wp2
      refine bodyPost_ret (v := .tuple #[.agg #[.int .i64 0, .int .i64 0], .int .i64 7]) (by simp [results, Try.results19, go_sem, c0, c1, t3]) rfl ⟨rfl, ?_⟩
      repeat (first | (with_reducible exact B3.out) | (with_reducible refine Below.setCell ?_ ?_ _) | (with_reducible exact Nat.le_refl _) | dsimp only)
    · have hy' : 0 < y := by omega
      have hyb : (y != 0) = true := by simp; omega
      have hm1 := Int.emod_nonneg x hy
      have hm2 := Int.emod_lt_of_pos x hy'
      have HG2 := Lib.hid ((gd_step x y x0 hy').trans HX.out)
      clear HX hy HG hp hr
      go_wp2
      go_quiet (fail)
      go_roundw
      case rel => first | exact ⟨y, x % y, rfl, rfl, y0, y1, hm1, by omega, HG2, c0, c1, zz, tt, hb_drewN BB _⟩ | ((repeat apply Exists.intro); exact ⟨⟨y, x % y, rfl, rfl, y0, y1, hm1, by omega, HG2, c0, c1, zz, tt, hb_drewN BB _⟩, rfl⟩)
      case measure => simp [intOf]; omega

theorem rreduce_ok (n d : Int) (w : World) (h0 : -9223372036854775808 ≤ n) (h1 : n ≤ 9223372036854775807) (h2 : -9223372036854775808 ≤ d) (h3 : d ≤ 9223372036854775807) (hd : d ≠ 0) (hf : rfit n d = true) :
    Calls Try.prog 19 #[.int .i64 n, .int .i64 d] w fun e w' => e = .returned (.tuple #[.agg #[.int .i64 (rN n d), .int .i64 (rD n d)], .int .i64 0]) ∧ Below w.heap.size w w' := by
  have a1 := mg_nonneg n
  have a2 := mg_le h0 h1
  have b1 := mg_nonneg d
  have b2 := mg_le h2 h3
  have b3 : 0 < mg d := by have := mt mg_zero.1 hd; omega
  have g1 := gd_pos a1 b3
  have g2 := gd_le a1 b3
  have q1 := div_bd a1 g1
  have q2 := div_bd b1 g1
  have W0 : IsW (.agg #[.bool (!(decide (n < 0) == decide (d < 0))), .int .u64 (mg n / gd (mg n) (mg d) % 4294967296), .int .u64 (mg n / gd (mg n) (mg d) / 4294967296), .int .u64 0, .int .u64 0, .int .u64 0, .int .u64 0]) (rN n d) := by
    unfold rN
    generalize mg n / gd (mg n) (mg d) = p at *
    exact ⟨_, p % 4294967296, p / 4294967296, 0, 0, 0, 0, rfl, by omega, by omega, by omega, by omega, by omega, by omega, by unfold mag6; congr 1; omega⟩
  have ci := int_W W0
  obtain ⟨f1, f2, f3⟩ := of_decide_eq_true hf
  rw [vo_in f1 f2, show fb (rN n d) = true from decide_eq_true ⟨f1, f2⟩] at ci
  exact rred_ok n d _ _ _ _ _ _ _ _ _ w hd (fun w => magnitude_any n w h0 h1) (fun w => magnitude_any d w h2 h3) a1 a2 b3 b2 rfl g1 g2 rfl rfl q1.1 q1.2 q2.1 q2.2 rfl rfl rfl ci f3

theorem rreduce_over (n d : Int) (w : World) (h0 : -9223372036854775808 ≤ n) (h1 : n ≤ 9223372036854775807) (h2 : -9223372036854775808 ≤ d) (h3 : d ≤ 9223372036854775807) (hd : d ≠ 0) (hf : rfit n d = false) :
    Calls Try.prog 19 #[.int .i64 n, .int .i64 d] w fun e w' => e = .returned (.tuple #[.agg #[.int .i64 0, .int .i64 0], .int .i64 7]) ∧ Below w.heap.size w w' := by
  have a1 := mg_nonneg n
  have a2 := mg_le h0 h1
  have b1 := mg_nonneg d
  have b2 := mg_le h2 h3
  have b3 : 0 < mg d := by have := mt mg_zero.1 hd; omega
  have g1 := gd_pos a1 b3
  have g2 := gd_le a1 b3
  have q1 := div_bd a1 g1
  have q2 := div_bd b1 g1
  have W0 : IsW (.agg #[.bool (!(decide (n < 0) == decide (d < 0))), .int .u64 (mg n / gd (mg n) (mg d) % 4294967296), .int .u64 (mg n / gd (mg n) (mg d) / 4294967296), .int .u64 0, .int .u64 0, .int .u64 0, .int .u64 0]) (rN n d) := by
    unfold rN
    generalize mg n / gd (mg n) (mg d) = p at *
    exact ⟨_, p % 4294967296, p / 4294967296, 0, 0, 0, 0, rfl, by omega, by omega, by omega, by omega, by omega, by omega, by unfold mag6; congr 1; omega⟩
  have ci := int_W W0
  have ff := of_decide_eq_false hf
  by_cases hN : -9223372036854775808 ≤ rN n d ∧ rN n d ≤ 9223372036854775807
  · rw [show fb (rN n d) = true from decide_eq_true hN] at ci
    exact rred_o2 n d _ _ _ _ _ _ _ _ _ w hd (fun w => magnitude_any n w h0 h1) (fun w => magnitude_any d w h2 h3) a1 a2 b3 b2 rfl g1 g2 rfl rfl q1.1 q1.2 q2.1 q2.2 rfl rfl rfl ci (by unfold rD at ff; omega)
  · rw [vo_out (by omega), show fb (rN n d) = false from decide_eq_false hN] at ci
    exact rred_o1 n d _ _ _ _ _ _ _ _ w hd (fun w => magnitude_any n w h0 h1) (fun w => magnitude_any d w h2 h3) a1 a2 b3 b2 rfl g1 g2 rfl rfl q1.1 q1.2 q2.1 q2.2 rfl rfl rfl ci

end Go.Proofs.Ytgcflohlmbdoiaa
