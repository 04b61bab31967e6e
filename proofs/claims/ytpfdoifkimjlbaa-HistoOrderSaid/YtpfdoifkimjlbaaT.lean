/- THE STATEMENTS about histograms: what they have in common: same, works. -/
import Derived.Test.YtpfdoifkimjlbaaQ
set_option linter.unusedVariables false
set_option linter.unusedSimpArgs false
namespace Go.Proofs.Ytpfdoifkimjlbaa
open Go.RowKit H M

theorem same_any {w : World} {b b' : Nat} {a a' : Option Addr} {n n' c c' : Nat} {l l' : List Int} (h : Ints w b a n c l) (h' : Ints w b' a' n' c' l') (hn : n ≤ 1000000) (hn' : n' ≤ 1000000) :
    Calls Try.prog 31 #[.slice a n c, .slice a' n' c'] w fun e w' => e = .returned (.bool (decide (l = l'))) ∧ ∃ q, w' = w.drewN q := by
  by_cases hl : n = n'
  · subst hl
    have HI := Lib.hid h
    have HJ := Lib.hid h'
    clear h h'
    go_enter Try.func31, Try.ntmps31
    go_wp2
    go_loopw [5] (fun u wr => ∃ k : Nat, u = .int .i64 k ∧ k ≤ n ∧ Hid (∀ i, i < k → l.getD i 0 = l'.getD i 0) ∧ Hid (∃ q, w.drewN q = wr)) (fun u _ => n - (intOf u).toNat)
    case atStart => exact ⟨0, rfl, Nat.zero_le _, (fun i hi => absurd hi (by omega)), ⟨0, rfl⟩⟩
    case round =>
      obtain ⟨k, rfl, hk, HU, HQ⟩ := hrel
      obtain ⟨q, hq⟩ := HQ.out
      by_cases hlt : k < n
      · obtain ⟨off, ha, hc⟩ := HI.out.2.2.2 (by omega)
        obtain ⟨off', ha', hc'⟩ := HJ.out.2.2.2 (by omega)
        have ck0 : wr.cell? ⟨b, off + k, none⟩ = some (.int .i64 (l.getD k 0)) := by rw [← hq]; exact hc k hlt
        have ck1 : wr.cell? ⟨b', off' + k, none⟩ = some (.int .i64 (l'.getD k 0)) := by rw [← hq]; exact hc' k hlt
        have i0 : (0 : Int) ≤ k := by omega
        have i1 : (k : Int) < n := by omega
        obtain ⟨x, hx⟩ : ∃ x, l.getD k 0 = x := ⟨_, rfl⟩
        obtain ⟨y, hy⟩ : ∃ y, l'.getD k 0 = y := ⟨_, rfl⟩
        rw [hx] at ck0
        rw [hy] at ck1
        have HX := Lib.hid hx
        have HY := Lib.hid hy
        have HQ' : ∀ m, Hid (∃ q, w.drewN q = wr.drewN m) := fun m => ⟨q + m, by rw [← hq, World.drewN_drewN]⟩
        have HQ' := Lib.hid HQ'
        subst ha ha'
        clear hx hy hc hc' hq HQ
        by_cases hxy : x = y
        · have HU' : Hid (∀ i, i < k + 1 → l.getD i 0 = l'.getD i 0) := by
            intro i hi
            rcases Nat.lt_or_ge i k with h | h
            · exact HU.out i h
            · obtain rfl : i = k := by omega
              rw [HX.out, HY.out]; exact hxy
          subst hxy
          clear HU HX HY
          go_wp2
          go_quiet (fail)
          go_wp2
          go_roundw
          case rel => exact ⟨k + 1, by go_num, by omega, HU', HQ'.out _⟩
          case measure => simp [intOf]; omega
        · have FIN : Hid (decide (l = l') = false) := by
            refine decide_eq_false (fun e => hxy ?_)
            rw [← HX.out, ← HY.out, e]
          have hxb : (x != y) = true := by simpa using hxy
          clear HU HX HY hxy
          go_wp2
          go_quiet (fail)
          go_wp2
          go_ret
          obtain ⟨m, hm⟩ := (HQ'.out _).out
          exact ⟨ret_bool FIN.out.symm, m, hm.symm⟩
      · obtain rfl : k = n := by omega
        have FIN : Hid (decide (l = l') = true) := by
          refine decide_eq_true (List.ext_getElem (by rw [HI.out.1, HJ.out.1]) fun i h1 h2 => ?_)
          rw [← getD_at h1, ← getD_at h2]
          exact HU.out i (by rw [← HI.out.1]; exact h1)
        have HQ2 := Lib.hid hq
        clear hlt HU hq HQ
        go_wp2
        go_ret
        exact ⟨ret_bool FIN.out.symm, q, HQ2.out.symm⟩
  · have FIN : Hid (decide (l = l') = false) := decide_eq_false (fun e => hl (by rw [← h.1, ← h'.1, e]))
    have hnn : ((n : Int) != n') = true := by simp; omega
    clear h h' hl
    go_enter Try.func31, Try.ntmps31
    go_wp2
    go_ret
    exact ⟨ret_bool FIN.out.symm, 0, rfl⟩


/-- A histogram's pointer is no nil. -/
theorem PHo.some_ptr {w : World} {lo hi : Nat} {v : Value} {s : List Int × List Int} (h : PHo w lo hi v (some s)) : ∃ p, v = .pointer (some ⟨p, 0, none⟩) := by
  obtain ⟨B, C⟩ := s
  obtain ⟨g, p, rfl, -⟩ := h
  exact ⟨p, rfl⟩

theorem works_any (w : World) : Calls Try.prog 14 #[] w fun e w' => e = .returned (.bool true) ∧ Below w.heap.size w w' := by
  have e0 : new [0, 10] = some ([0, 10], [0, 0, 0]) := by decide
  have e0' : newE [0, 10] = 0 := by decide
  have e1 : addS (some ([0, 10], [0, 0, 0])) 5 3 = some ([0, 10], [0, 3, 0]) := by decide
  have e2 : addS (some ([0, 10], [0, 3, 0])) (-7) 1 = some ([0, 10], [1, 3, 0]) := by decide
  have e3 : addS (some ([0, 10], [1, 3, 0])) 10 4 = some ([0, 10], [1, 3, 4]) := by decide
  have f1 : addE (some ([0, 10], [0, 0, 0])) 5 3 = 0 := by decide
  have f2 : addE (some ([0, 10], [0, 3, 0])) (-7) 1 = 0 := by decide
  have f3 : addE (some ([0, 10], [1, 3, 0])) 10 4 = 0 := by decide
  have q1 : quanV (some ([0, 10], [1, 3, 4])) 1 2 = 1 := by decide
  have q2 : quanE (some ([0, 10], [1, 3, 4])) 1 2 = 0 := by decide
  have hI : Ints (w.alloc (.cells #[.int .i64 0, .int .i64 10] 2)) w.heap.size (some ⟨w.heap.size, 0, none⟩) 2 2 [0, 10] :=
    Ints.of_bk (l := [0, 10]) (ex := []) (Bk.new w 2 [.int .i64 0, .int .i64 10]) (by intro x hx; simp at hx; rcases hx with rfl | rfl <;> exact ⟨by decide, by decide⟩)
  have HN := Lib.hid (new_any hI (by decide))
  rw [e0, e0'] at HN
  have B0 : Hid (Below w.heap.size w (w.alloc (.cells #[.int .i64 0, .int .i64 10] 2))) := (Below.refl _ _).alloc (Nat.le_refl _) _
  have HA1 : Hid (∀ W lo hi v, PHo W lo hi v (some ([0, 10], [0, 0, 0])) → Calls Try.prog 20 #[v, .int .i64 5, .int .i64 3] W (Step W lo hi v (some ([0, 10], [0, 3, 0])) 0)) := by
    intro W lo hi v h; have := hadd_any h 5 3 ⟨by decide, by decide⟩; rwa [e1, f1] at this
  have HA2 : Hid (∀ W lo hi v, PHo W lo hi v (some ([0, 10], [0, 3, 0])) → Calls Try.prog 20 #[v, .int .i64 (-7), .int .i64 1] W (Step W lo hi v (some ([0, 10], [1, 3, 0])) 0)) := by
    intro W lo hi v h; have := hadd_any h (-7) 1 ⟨by decide, by decide⟩; rwa [e2, f2] at this
  have HA3 : Hid (∀ W lo hi v, PHo W lo hi v (some ([0, 10], [1, 3, 0])) → Calls Try.prog 20 #[v, .int .i64 10, .int .i64 4] W (Step W lo hi v (some ([0, 10], [1, 3, 4])) 0)) := by
    intro W lo hi v h; have := hadd_any h 10 4 ⟨by decide, by decide⟩; rwa [e3, f3] at this
  have HQ : Hid (∀ W lo hi v, PHo W lo hi v (some ([0, 10], [1, 3, 4])) → Calls Try.prog 16 #[v, .int .i64 1, .int .i64 2] W fun e w' => e = .returned (.tuple #[.int .i64 1, .int .i64 0]) ∧ Below W.heap.size W w') := by
    intro W lo hi v h; have := quant_any h 1 2 ⟨by decide, by decide⟩ ⟨by decide, by decide⟩; rwa [q1, q2] at this
  have HT : Hid (∀ W lo hi v, PHo W lo hi v (some ([0, 10], [1, 3, 4])) → Calls Try.prog 22 #[v] W fun e w' => e = .returned (.int .i64 8) ∧ W = w') := fun W lo hi v h => total_any h
  have HC : Hid (∀ W lo hi v, PHo W lo hi v (some ([0, 10], [1, 3, 4])) → Calls Try.prog 21 #[v] W (GivesInts W [1, 3, 4])) := fun W lo hi v h => counts_any h
  clear e0 e0' e1 e2 e3 f1 f2 f3 q1 q2 hI
  go_enter Try.func14, Try.ntmps14
  go_wp2_with fail
  refine HN.out.mono ?_
  rintro e w1 ⟨v, rfl, hP, hb⟩
  obtain ⟨p, rfl⟩ := hP.some_ptr
  have B1 := hb_trans' B0 hb (by simp)
  have P1 := Lib.hid hP
  clear hP hb
  go_wp2_with fail
  refine (HA1.out _ _ _ _ P1.out).mono ?_
  rintro e w2 ⟨rfl, hP, hm⟩
  have P2 := Lib.hid hP
  have B2 := Mod.hb B1 hm (by simp) (Below.size B1)
  clear hP hm B1 P1
  go_wp2_with fail
  refine (HA2.out _ _ _ _ P2.out).mono ?_
  rintro e w3 ⟨rfl, hP, hm⟩
  have P3 := Lib.hid hP
  have B3 := Mod.hb B2 hm (by simp) (Below.size B2)
  clear hP hm B2 P2
  go_wp2_with fail
  refine (HA3.out _ _ _ _ P3.out).mono ?_
  rintro e w4 ⟨rfl, hP, hm⟩
  have P4 := Lib.hid hP
  have B4 := Mod.hb B3 hm (by simp) (Below.size B3)
  clear hP hm B3 P3
  go_wp2_with fail
  refine (HQ.out _ _ _ _ P4.out).mono ?_
  rintro e w5 ⟨rfl, hb⟩
  have P5 := Lib.hid (P4.out.below hb)
  have B5 := hb_trans' B4 hb (Below.size B4)
  clear hb B4 P4
  go_wp2_with fail
  refine (HT.out _ _ _ _ P5.out).mono ?_
  rintro e w6 ⟨rfl, rfl⟩
  go_wp2_with fail
  refine (HC.out _ _ _ _ P5.out).mono ?_
  rintro e w6 ⟨b, a, n, c, rfl, hi, hb, -⟩
  have B6 := hb_trans' B5 hb (Below.size B5)
  have s6 := Below.size B6
  have hl : n = 3 := hi.1.symm
  have I6 := Lib.hid hi
  clear hi hb B5 P5 hl
  go_wp2_with fail
  have I7 := I6.out.below ((Below.refl w6.heap.size w6).alloc (Nat.le_refl _) (.cells #[.int .i64 1, .int .i64 3, .int .i64 4] 2))
  have I8 : Ints (w6.alloc (.cells #[.int .i64 1, .int .i64 3, .int .i64 4] 2)) w6.heap.size (some ⟨w6.heap.size, 0, none⟩) 3 3 [1, 3, 4] :=
    Ints.of_bk (l := [1, 3, 4]) (ex := []) (Bk.new w6 2 [.int .i64 1, .int .i64 3, .int .i64 4]) (by intro x hx; simp at hx; rcases hx with rfl | rfl | rfl <;> exact ⟨by decide, by decide⟩)
  refine (same_any I7 I8 (by have := I7.1; simp at this; omega) (by decide)).mono ?_
  rintro e w7 ⟨rfl, q, rfl⟩
  have B7 : Hid (Below w.heap.size w ((w6.alloc (.cells #[.int .i64 1, .int .i64 3, .int .i64 4] 2)).drewN q)) := hb_drewN' (hb_alloc' B6 s6 _) q
  clear I7 I8
  go_wp2
  go_ret
  exact ⟨rfl, B7.out⟩
end Go.Proofs.Ytpfdoifkimjlbaa
