/- THE STATEMENTS about sequences: works. -/
import Derived.Test.YtblopfgnhokocaaV
namespace Go.Proofs.Ytblopfgnhokocaa
open Go.RowKit P
set_option linter.unusedVariables false
set_option linter.unusedSimpArgs false

theorem PSo.some_ptr {w : World} {lo hi : Nat} {v : Value} {s : List (List Nat) × List Int} (h : PSo w lo hi v (some s)) : ∃ p, v = .pointer (some ⟨p, 0, none⟩) := by
  obtain ⟨L, V⟩ := s
  obtain ⟨p, rfl, -⟩ := h
  exact ⟨p, rfl⟩
def vv : List Int := [0, 0, 0, 0, 0]
set_option maxHeartbeats 1000000 in
set_option maxRecDepth 100000 in
theorem works_any (w : World) : Calls Try.prog 19 #[] w fun e w' => e = .returned (.bool true) ∧ Below w.heap.size w w' := by
  have HN : Hid (Calls Try.prog 23 #[.int .i64 5] w (Gives w (some ([[0], [1], [2], [3], [4]], vv)) (fun v => .tuple #[v, .int .i64 0]))) := by
    have := new_any 5 w ⟨by decide, by decide⟩
    rwa [show newS 5 = some ([[0], [1], [2], [3], [4]], vv) by decide, show newE 5 = 0 by decide] at this
  have H0 : Hid (∀ W lo hi v, PSo W lo hi v (some ([[0], [1], [2], [3], [4]], vv)) → Calls Try.prog 22 #[v, .int .i64 0, .int .i64 1] W (Sp W lo hi v (some ([[2], [3], [4], [0, 1]], vv)) (.int .i64 0))) := by
    intro W lo hi v h
    have := join_so h 0 1
    rwa [show joinSS (some ([[0], [1], [2], [3], [4]], vv)) 0 1 = some ([[2], [3], [4], [0, 1]], vv) by decide, show joinSE (some ([[0], [1], [2], [3], [4]], vv)) 0 1 = 0 by decide] at this
  have H1 : Hid (∀ W lo hi v, PSo W lo hi v (some ([[2], [3], [4], [0, 1]], vv)) → Calls Try.prog 22 #[v, .int .i64 1, .int .i64 2] W (Sp W lo hi v (some ([[3], [4], [0, 1, 2]], vv)) (.int .i64 0))) := by
    intro W lo hi v h
    have := join_so h 1 2
    rwa [show joinSS (some ([[2], [3], [4], [0, 1]], vv)) 1 2 = some ([[3], [4], [0, 1, 2]], vv) by decide, show joinSE (some ([[2], [3], [4], [0, 1]], vv)) 1 2 = 0 by decide] at this
  have H2 : Hid (∀ W lo hi v, PSo W lo hi v (some ([[3], [4], [0, 1, 2]], vv)) → Calls Try.prog 22 #[v, .int .i64 3, .int .i64 4] W (Sp W lo hi v (some ([[0, 1, 2], [3, 4]], vv)) (.int .i64 0))) := by
    intro W lo hi v h
    have := join_so h 3 4
    rwa [show joinSS (some ([[3], [4], [0, 1, 2]], vv)) 3 4 = some ([[0, 1, 2], [3, 4]], vv) by decide, show joinSE (some ([[3], [4], [0, 1, 2]], vv)) 3 4 = 0 by decide] at this
  have H3 : Hid (∀ W lo hi v, PSo W lo hi v (some ([[0, 1, 2], [3, 4]], vv)) → Calls Try.prog 22 #[v, .int .i64 2, .int .i64 3] W (Sp W lo hi v (some ([[0, 1, 2, 3, 4]], vv)) (.int .i64 0))) := by
    intro W lo hi v h
    have := join_so h 2 3
    rwa [show joinSS (some ([[0, 1, 2], [3, 4]], vv)) 2 3 = some ([[0, 1, 2, 3, 4]], vv) by decide, show joinSE (some ([[0, 1, 2], [3, 4]], vv)) 2 3 = 0 by decide] at this
  have H4 : Hid (∀ W lo hi v, PSo W lo hi v (some ([[0, 1, 2, 3, 4]], vv)) → Calls Try.prog 26 #[v, .int .i64 2] W (Sp W lo hi v (some ([[4, 3, 2, 1, 0]], vv)) (.int .i64 0))) := by
    intro W lo hi v h
    have := reverse_so h 2
    rwa [show revS (some ([[0, 1, 2, 3, 4]], vv)) 2 = some ([[4, 3, 2, 1, 0]], vv) by decide, show setE (some ([[0, 1, 2, 3, 4]], vv)) 2 = 0 by decide] at this
  have H5 : Hid (∀ W lo hi v, PSo W lo hi v (some ([[4, 3, 2, 1, 0]], vv)) → Calls Try.prog 20 #[v, .int .i64 1] W (Sp W lo hi v (some ([[4, 3, 2], [1, 0]], vv)) (.int .i64 0))) := by
    intro W lo hi v h
    have := split_so h 1
    rwa [show splitS (some ([[4, 3, 2, 1, 0]], vv)) 1 = some ([[4, 3, 2], [1, 0]], vv) by decide, show setE (some ([[4, 3, 2, 1, 0]], vv)) 1 = 0 by decide] at this
  have L0 : Hid (∀ W lo hi v, PSo W lo hi v (some ([[4, 3, 2], [1, 0]], vv)) → Calls Try.prog 14 #[v, .int .i64 1] W (GivesL W lo hi v (some ([[4, 3, 2], [1, 0]], vv)) [1, 0])) := by
    intro W lo hi v h
    have := list_so h 1
    rwa [show listR (some ([[4, 3, 2], [1, 0]], vv)) 1 = [1, 0] by decide] at this
  have L1 : Hid (∀ W lo hi v, PSo W lo hi v (some ([[4, 3, 2], [1, 0]], vv)) → Calls Try.prog 14 #[v, .int .i64 3] W (GivesL W lo hi v (some ([[4, 3, 2], [1, 0]], vv)) [4, 3, 2])) := by
    intro W lo hi v h
    have := list_so h 3
    rwa [show listR (some ([[4, 3, 2], [1, 0]], vv)) 3 = [4, 3, 2] by decide] at this
  have HP : Hid (∀ W lo hi v, PSo W lo hi v (some ([[4, 3, 2], [1, 0]], vv)) → Calls Try.prog 17 #[v, .int .i64 3] W (Sp W lo hi v (some ([[4, 3, 2], [1, 0]], vv)) (.int .i64 1))) := by
    intro W lo hi v h
    have := pos_so h 3
    rwa [show posR (some ([[4, 3, 2], [1, 0]], vv)) 3 = 1 by decide] at this
  go_enter Try.func19, Try.ntmps19
  go_wp2_with fail
  refine HN.out.mono ?_
  rintro e w1 ⟨v, rfl, hP, hb⟩
  obtain ⟨p, rfl⟩ := hP.some_ptr
  have B0 := Lib.hid hb
  have P0 := Lib.hid hP
  obtain ⟨hi, hhi⟩ : ∃ hi, w1.heap.size = hi := ⟨_, rfl⟩
  have s0 : hi ≤ w1.heap.size := by omega
  rw [hhi] at P0
  clear hP hb hhi HN
  go_wp2_with fail
  refine (H0.out _ _ _ _ P0.out).mono ?_
  rintro e w1 ⟨rfl, hP, hm⟩
  have P1 := Lib.hid hP
  have s1 : hi ≤ w1.heap.size := Nat.le_trans s0 hm.size
  have B1 := Below.of_mod B0 hm (Nat.le_refl _)
  clear hP hm B0 P0 H0 s0
  go_wp2_with fail
  refine (H1.out _ _ _ _ P1.out).mono ?_
  rintro e w1 ⟨rfl, hP, hm⟩
  have P2 := Lib.hid hP
  have s2 : hi ≤ w1.heap.size := Nat.le_trans s1 hm.size
  have B2 := Below.of_mod B1 hm (Nat.le_refl _)
  clear hP hm B1 P1 H1 s1
  go_wp2_with fail
  refine (H2.out _ _ _ _ P2.out).mono ?_
  rintro e w1 ⟨rfl, hP, hm⟩
  have P3 := Lib.hid hP
  have s3 : hi ≤ w1.heap.size := Nat.le_trans s2 hm.size
  have B3 := Below.of_mod B2 hm (Nat.le_refl _)
  clear hP hm B2 P2 H2 s2
  go_wp2_with fail
  refine (H3.out _ _ _ _ P3.out).mono ?_
  rintro e w1 ⟨rfl, hP, hm⟩
  have P4 := Lib.hid hP
  have s4 : hi ≤ w1.heap.size := Nat.le_trans s3 hm.size
  have B4 := Below.of_mod B3 hm (Nat.le_refl _)
  clear hP hm B3 P3 H3 s3
  go_wp2_with fail
  refine (H4.out _ _ _ _ P4.out).mono ?_
  rintro e w1 ⟨rfl, hP, hm⟩
  have P5 := Lib.hid hP
  have s5 : hi ≤ w1.heap.size := Nat.le_trans s4 hm.size
  have B5 := Below.of_mod B4 hm (Nat.le_refl _)
  clear hP hm B4 P4 H4 s4
  go_wp2_with fail
  refine (H5.out _ _ _ _ P5.out).mono ?_
  rintro e w1 ⟨rfl, hP, hm⟩
  have P6 := Lib.hid hP
  have s6 : hi ≤ w1.heap.size := Nat.le_trans s5 hm.size
  have B6 := Below.of_mod B5 hm (Nat.le_refl _)
  clear hP hm B5 P5 H5 s5
  go_wp2_with fail
  refine (L0.out _ _ _ _ P6.out).mono ?_
  rintro e w6 ⟨b, a, n, c, rfl, hi6, hb6, hP, hm⟩
  have sz6 : hi ≤ w6.heap.size := Nat.le_trans s6 hm.size
  have B6' := Below.of_mod B6 hm (Nat.le_refl _)
  have C6 : Hid (Below w.heap.size w (w6.alloc (.cells #[.int .i64 1, .int .i64 0] 3))) := hb_alloc' B6' B6'.out.size _
  have P6' := Lib.hid (hP.below ((Below.refl w6.heap.size w6).alloc (Nat.le_refl _) (.cells #[.int .i64 1, .int .i64 0] 3)))
  have I7 := Lib.hid (hi6.below ((Below.refl w6.heap.size w6).alloc (Nat.le_refl _) (.cells #[.int .i64 1, .int .i64 0] 3)))
  have I8 : Hid (Ints (w6.alloc (.cells #[.int .i64 1, .int .i64 0] 3)) w6.heap.size (some ⟨w6.heap.size, 0, none⟩) 2 2 (nums [1, 0])) :=
    Ints.of_bk (l := nums [1, 0]) (ex := []) (Bk.new w6 3 [.int .i64 1, .int .i64 0]) (by intro x hx; simp [nums] at hx; rcases hx with rfl | rfl <;> exact ⟨by decide, by decide⟩)
  clear hi6 hb6 hP hm B6 P6 B6'
  go_wp2_with fail
  refine (samen_any I7.out I8.out (by decide) (by decide)).mono ?_
  rintro e w7 ⟨rfl, hb7⟩
  have B7 := hb_trans' C6 hb7 C6.out.size
  have P7 := Lib.hid (P6'.out.below hb7)
  have s7 : hi ≤ w7.heap.size := by have := hb7.size; simp at this; omega
  clear hb7 C6 P6' I7 I8 sz6 L0
  go_wp2_with fail
  refine (L1.out _ _ _ _ P7.out).mono ?_
  rintro e w6 ⟨b, a, n, c, rfl, hi6, hb6, hP, hm⟩
  have sz6 : hi ≤ w6.heap.size := Nat.le_trans s7 hm.size
  have B6' := Below.of_mod B7 hm (Nat.le_refl _)
  have C6 : Hid (Below w.heap.size w (w6.alloc (.cells #[.int .i64 4, .int .i64 3, .int .i64 2] 3))) := hb_alloc' B6' B6'.out.size _
  have P6' := Lib.hid (hP.below ((Below.refl w6.heap.size w6).alloc (Nat.le_refl _) (.cells #[.int .i64 4, .int .i64 3, .int .i64 2] 3)))
  have I7 := Lib.hid (hi6.below ((Below.refl w6.heap.size w6).alloc (Nat.le_refl _) (.cells #[.int .i64 4, .int .i64 3, .int .i64 2] 3)))
  have I8 : Hid (Ints (w6.alloc (.cells #[.int .i64 4, .int .i64 3, .int .i64 2] 3)) w6.heap.size (some ⟨w6.heap.size, 0, none⟩) 3 3 (nums [4, 3, 2])) :=
    Ints.of_bk (l := nums [4, 3, 2]) (ex := []) (Bk.new w6 3 [.int .i64 4, .int .i64 3, .int .i64 2]) (by intro x hx; simp [nums] at hx; rcases hx with rfl | rfl | rfl <;> exact ⟨by decide, by decide⟩)
  clear hi6 hb6 hP hm B7 P7 B6'
  go_wp2_with fail
  refine (samen_any I7.out I8.out (by decide) (by decide)).mono ?_
  rintro e w7 ⟨rfl, hb7⟩
  have B8 := hb_trans' C6 hb7 C6.out.size
  have P8 := Lib.hid (P6'.out.below hb7)
  have s8 : hi ≤ w7.heap.size := by have := hb7.size; simp at this; omega
  clear hb7 C6 P6' I7 I8 sz6 L1
  go_wp2_with fail
  refine (HP.out _ _ _ _ P8.out).mono ?_
  rintro e w9 ⟨rfl, hP, hm⟩
  have B9 := Below.of_mod B8 hm (Nat.le_refl _)
  clear hP hm
  go_wp2
  go_ret
  exact ⟨rfl, B9.out⟩
end Go.Proofs.Ytblopfgnhokocaa
