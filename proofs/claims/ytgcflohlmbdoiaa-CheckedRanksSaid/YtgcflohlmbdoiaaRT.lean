/- The walk of twins: what two fractions are reduced to is theirs, in lowest terms, and the same just if they are equal. -/
import Derived.Test.YtgcflohlmbdoiaaRK
namespace Go.Proofs.Ytgcflohlmbdoiaa
open Go.RowKit M
set_option linter.unusedVariables false
set_option linter.unusedSimpArgs false

set_option maxRecDepth 100000 in
theorem twins_go (a b c d p q r s t : Int) (same : Bool) (w : World) (hq : 1 ≤ q) (hs : 1 ≤ s)
    (C1 : Hid (∀ w, Calls Try.prog 18 #[.int .i64 a, .int .i64 b] w fun e w' => e = .returned (.tuple #[.agg #[.int .i64 p, .int .i64 q], .int .i64 0]) ∧ Below w.heap.size w w'))
    (C2 : Hid (∀ w, Calls Try.prog 18 #[.int .i64 c, .int .i64 d] w fun e w' => e = .returned (.tuple #[.agg #[.int .i64 r, .int .i64 s], .int .i64 0]) ∧ Below w.heap.size w w'))
    (C3 : Hid (∀ w, Calls Try.prog 26 #[.agg #[.int .i64 a, .int .i64 b], .agg #[.int .i64 c, .int .i64 d]] w fun e w' => e = .returned (.tuple #[.int .i64 t, .int .i64 0]) ∧ Below w.heap.size w w'))
    (C4 : Hid (∀ w, Calls Try.prog 26 #[.agg #[.int .i64 a, .int .i64 b], .agg #[.int .i64 p, .int .i64 q]] w fun e w' => e = .returned (.tuple #[.int .i64 0, .int .i64 0]) ∧ Below w.heap.size w w'))
    (HD : Hid (∀ k : Int, 2 ≤ k → p.tmod k = 0 → q % k = 0 → False)) (HS : (t == 0) = same) (HP : Hid ((p = r ∧ q = s) ↔ same = true)) :
    Calls Try.prog 28 #[.agg #[.int .i64 a, .int .i64 b], .agg #[.int .i64 c, .int .i64 d]] w fun e w' => e = .returned (.bool true) ∧ Below w.heap.size w w' := by
  have HS' := Lib.hid HS
  clear HS
  go_enter Try.func28, Try.ntmps28
  go_wp2_with fail
  refine (C1.out _).mono ?_
  rintro e v1 ⟨rfl, hb1⟩
  have s1 := hb1.size
  simp at s1
  have k0 := ck_below hb1 (show ((w.alloc (.cells #[.int .i64 a, .int .i64 b] 32)).alloc (.cells #[.int .i64 c, .int .i64 d] 32)).cell? ⟨w.heap.size, 0, none⟩ = some (.int .i64 a) by simp [go_sem])
  have k1 := ck_below hb1 (show ((w.alloc (.cells #[.int .i64 a, .int .i64 b] 32)).alloc (.cells #[.int .i64 c, .int .i64 d] 32)).cell? ⟨w.heap.size, 1, none⟩ = some (.int .i64 b) by simp [go_sem])
  have k2 := ck_below hb1 (show ((w.alloc (.cells #[.int .i64 a, .int .i64 b] 32)).alloc (.cells #[.int .i64 c, .int .i64 d] 32)).cell? ⟨w.heap.size + 1, 0, none⟩ = some (.int .i64 c) by simp [go_sem])
  have k3 := ck_below hb1 (show ((w.alloc (.cells #[.int .i64 a, .int .i64 b] 32)).alloc (.cells #[.int .i64 c, .int .i64 d] 32)).cell? ⟨w.heap.size + 1, 1, none⟩ = some (.int .i64 d) by simp [go_sem])
  have y0 : w.heap.size < v1.heap.size := by omega
  have y1 : w.heap.size + 1 < v1.heap.size := by omega
  have H1 : Hid (Below w.heap.size w v1) := hb_trans (hb_alloc (hb_alloc (hb_refl _ _) (Nat.le_refl _) _) (by simp) _) hb1 (by simp; omega)
  clear hb1
  go_wp2_with fail
  refine (C2.out _).mono ?_
  rintro e v2 ⟨rfl, hb2⟩
  have s2 := hb2.size
  simp at s2
  have m0 := ck_below hb2 (ck_alloc k0 (.cells #[.int .i64 p, .int .i64 q] 32))
  have m1 := ck_below hb2 (ck_alloc k1 (.cells #[.int .i64 p, .int .i64 q] 32))
  have m2 := ck_below hb2 (ck_alloc k2 (.cells #[.int .i64 p, .int .i64 q] 32))
  have m3 := ck_below hb2 (ck_alloc k3 (.cells #[.int .i64 p, .int .i64 q] 32))
  have m4 := ck_below hb2 (show (v1.alloc (.cells #[.int .i64 p, .int .i64 q] 32)).cell? ⟨v1.heap.size, 0, none⟩ = some (.int .i64 p) by simp [go_sem])
  have m5 := ck_below hb2 (show (v1.alloc (.cells #[.int .i64 p, .int .i64 q] 32)).cell? ⟨v1.heap.size, 1, none⟩ = some (.int .i64 q) by simp [go_sem])
  have z0 : w.heap.size < v2.heap.size := by omega
  have z1 : w.heap.size + 1 < v2.heap.size := by omega
  have z2 : v1.heap.size < v2.heap.size := by omega
  have H2 : Hid (Below w.heap.size w v2) := hb_trans (hb_alloc H1 (Below.size H1) _) hb2 (by simp; omega)
  clear hb2 H1 k0 k1 k2 k3
  obtain ⟨W, hW⟩ : ∃ W, v2.alloc (.cells #[.int .i64 r, .int .i64 s] 32) = W := ⟨_, rfl⟩
  have n0 : W.cell? ⟨w.heap.size, 0, none⟩ = some (.int .i64 a) := by subst hW; exact ck_alloc m0 _
  have n1 : W.cell? ⟨w.heap.size, 1, none⟩ = some (.int .i64 b) := by subst hW; exact ck_alloc m1 _
  have n2 : W.cell? ⟨w.heap.size + 1, 0, none⟩ = some (.int .i64 c) := by subst hW; exact ck_alloc m2 _
  have n3 : W.cell? ⟨w.heap.size + 1, 1, none⟩ = some (.int .i64 d) := by subst hW; exact ck_alloc m3 _
  have n4 : W.cell? ⟨v1.heap.size, 0, none⟩ = some (.int .i64 p) := by subst hW; exact ck_alloc m4 _
  have n5 : W.cell? ⟨v1.heap.size, 1, none⟩ = some (.int .i64 q) := by subst hW; exact ck_alloc m5 _
  have n6 : W.cell? ⟨v2.heap.size, 0, none⟩ = some (.int .i64 r) := by subst hW; simp [go_sem]
  have n7 : W.cell? ⟨v2.heap.size, 1, none⟩ = some (.int .i64 s) := by subst hW; simp [go_sem]
  have HW : Hid (Below w.heap.size w W) := by subst hW; exact hb_alloc H2 (Below.size H2) _
  have HWS : Hid (v2.heap.size < W.heap.size) := by subst hW; show _ < _; simp
  have hW2 := Lib.hid hW
  clear m0 m1 m2 m3 m4 m5 H2
  go_wp2

  go_loop [9] (fun i => ∃ k : Nat, i = .int .i64 k ∧ 2 ≤ k ∧ k ≤ 50) (fun i => 50 - (intOf i).toNat)
  case atStart => exact ⟨2, rfl, by omega, by omega⟩
  case round =>
    obtain ⟨k, rfl, hk2, hk50⟩ := hrel
    by_cases hlt : k < 50
    · have hd := HD.out k (by omega)
      have k1 : (1 : Int) ≤ k := by omega
      have kne : ((k : Int) == 0) = false := by simp; omega
      by_cases hp : p.tmod k = 0
      · have hq2 : (q % (k : Int) == 0) = false := by simpa using hd hp
        have hp2 : (p.tmod (k : Int) == 0) = true := by simpa using hp
        clear hd hp
        go_wp2
        go_round
        case rel => exact ⟨k + 1, by go_num, by omega, by omega⟩
        case measure => simp [intOf]; omega
      · have hp2 : (p.tmod (k : Int) == 0) = false := by simpa using hp
        clear hd hp
        go_wp2
        go_round
        case rel => exact ⟨k + 1, by go_num, by omega, by omega⟩
        case measure => simp [intOf]; omega
    · obtain rfl : k = 50 := by omega
      clear hlt hk2 hk50
      have z0 : w.heap.size < W.heap.size := by have := HWS.out; omega
      have z1 : w.heap.size + 1 < W.heap.size := by have := HWS.out; omega
      have z2 : v1.heap.size < W.heap.size := by have := HWS.out; omega
      have z3 : v2.heap.size < W.heap.size := HWS.out
      clear hW2 hW
      go_wp2_with fail
      refine (C3.out _).mono ?_
      rintro e v3 ⟨rfl, hb3⟩
      have a0 := ck_below hb3 n0
      have a1 := ck_below hb3 n1
      have a4 := ck_below hb3 n4
      have a5 := ck_below hb3 n5
      have a6 := ck_below hb3 n6
      have a7 := ck_below hb3 n7
      have s3 := hb3.size
      have H3 : Hid (Below w.heap.size w v3) := hb_trans HW hb3 (by omega)
      clear n0 n1 n2 n3 n4 n5 n6 n7 hb3
      go_wp2_with fail
      refine (C4.out _).mono ?_
      rintro e v4 ⟨rfl, hb4⟩
      have b4 := ck_below hb4 a4
      have b5 := ck_below hb4 a5
      have b6 := ck_below hb4 a6
      have b7 := ck_below hb4 a7
      have s4 := hb4.size
      have H4 : Hid (Below w.heap.size w v4) := hb_trans H3 hb4 (by omega)
      clear a0 a1 a4 a5 a6 a7 hb4
      by_cases hsm : same = true
      · obtain ⟨rfl, rfl⟩ := HP.out.2 hsm
        have ht : (t == 0) = true := HS'.out.trans hsm
        clear hsm
        go_wp2
        go_ret
        exact ⟨rfl, H4.out⟩
      · have ht : (t == 0) = false := HS'.out.trans (by simpa using hsm)
        have hne : ¬ (p = r ∧ q = s) := fun h => hsm (HP.out.1 h)
        have hne2 : decide (p = r ∧ q = s) = false := by simpa using hne
        clear hsm
        go_wp2
        all_goals
          go_ret
          exact ⟨rfl, H4.out⟩
end Go.Proofs.Ytgcflohlmbdoiaa
