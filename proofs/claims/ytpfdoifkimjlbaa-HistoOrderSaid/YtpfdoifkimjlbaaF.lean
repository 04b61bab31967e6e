/- THE CONTRACTS of package histo: Merge, and slices.Equal. -/
import Derived.Test.YtpfdoifkimjlbaaE
import Derived.Test.YtpfdoifkimjlbaaH2
import Derived.Test.YtpfdoifkimjlbaaC5
namespace Go.Proofs.Ytpfdoifkimjlbaa
open Go.RowKit H M
set_option linter.unusedVariables false
set_option linter.unusedSimpArgs false

theorem equal_any {w : World} {b b' : Nat} {a a' : Option Addr} {n n' c c' : Nat} {l l' : List Int} (h : Ints w b a n c l) (h' : Ints w b' a' n' c' l') (hn : n ≤ 1000000) (hn' : n' ≤ 1000000) :
    Calls Try.prog 49 #[.slice a n c, .slice a' n' c'] w fun e w' => e = .returned (.bool (decide (l = l'))) ∧ ∃ q, w' = w.drewN q := by
  by_cases hl : n = n'
  · subst hl
    have HI := Lib.hid h
    have HJ := Lib.hid h'
    clear h h'
    go_enter Try.func49, Try.ntmps49
    go_wp2
    go_loopw [5, 13] (fun _ u wr => ∃ k : Nat, u = .int .i64 k ∧ k ≤ n ∧ Hid (∀ i, i < k → l.getD i 0 = l'.getD i 0) ∧ Hid (∃ q, w.drewN q = wr)) (fun _ u _ => n - (intOf u).toNat)
    case atStart => exact ⟨0, rfl, Nat.zero_le _, (fun i hi => absurd hi (by omega)), ⟨0, rfl⟩⟩
    case round =>
      obtain ⟨k, rfl, hk, HU, HQ⟩ := hrel
      obtain ⟨q, hq⟩ := HQ.out
      by_cases hlt : k < n
      · obtain ⟨off, ha, hc⟩ := HI.out.2.2.2 (by omega)
        obtain ⟨off', ha', hc'⟩ := HJ.out.2.2.2 (by omega)
        have ck0 : wr.cell? ⟨b, off + k, none⟩ = some (.int .i64 (l.getD k 0)) := by rw [← hq]; exact hc k hlt
        have ck1 : wr.cell? ⟨b', off' + k, none⟩ = some (.int .i64 (l'.getD k 0)) := by rw [← hq]; exact hc' k hlt
        have i0 : (0 : Int) ≤ k := by omega
        have i1 : (k : Int) < n := by omega
        obtain ⟨x, hx⟩ : ∃ x, l.getD k 0 = x := ⟨_, rfl⟩
        obtain ⟨y, hy⟩ : ∃ y, l'.getD k 0 = y := ⟨_, rfl⟩
        rw [hx] at ck0
        rw [hy] at ck1
        have HX := Lib.hid hx
        have HY := Lib.hid hy
        have HQ' : ∀ m, Hid (∃ q, w.drewN q = wr.drewN m) := fun m => ⟨q + m, by rw [← hq, World.drewN_drewN]⟩
        have HQ' := Lib.hid HQ'
        subst ha ha'
        clear hx hy hc hc' hq HQ
        by_cases hxy : x = y
        · have HU' : Hid (∀ i, i < k + 1 → l.getD i 0 = l'.getD i 0) := by
            intro i hi
            rcases Nat.lt_or_ge i k with h | h
            · exact HU.out i h
            · obtain rfl : i = k := by omega
              rw [HX.out, HY.out]; exact hxy
          subst hxy
          clear HU HX HY
          go_wp2
          go_quiet (fail)
          go_wp2
          go_roundw
          case rel => exact ⟨k + 1, by go_num, by omega, HU', HQ'.out _⟩
          case measure => simp [intOf]; omega
        · have FIN : Hid (decide (l = l') = false) := by
            refine decide_eq_false (fun e => hxy ?_)
            rw [← HX.out, ← HY.out, e]
          have hxb : (x != y) = true := by simpa using hxy
          clear HU HX HY hxy
          go_wp2
          go_quiet (fail)
          go_wp2
          go_ret
          obtain ⟨m, hm⟩ := (HQ'.out _).out
          exact ⟨ret_bool FIN.out.symm, m, hm.symm⟩
      · obtain rfl : k = n := by omega
        have FIN : Hid (decide (l = l') = true) := by
          refine decide_eq_true (List.ext_getElem (by rw [HI.out.1, HJ.out.1]) fun i h1 h2 => ?_)
          rw [← getD_at h1, ← getD_at h2]
          exact HU.out i (by rw [← HI.out.1]; exact h1)
        have HQ2 := Lib.hid hq
        clear hlt HU hq HQ
        go_wp2
        go_ret
        exact ⟨ret_bool FIN.out.symm, q, HQ2.out.symm⟩
  · have FIN : Hid (decide (l = l') = false) := decide_eq_false (fun e => hl (by rw [← h.1, ← h'.1, e]))
    have hnn : ((n : Int) != n') = true := by simp; omega
    clear h h' hl
    go_enter Try.func49, Try.ntmps49
    go_wp2
    go_ret
    exact ⟨ret_bool FIN.out.symm, 0, rfl⟩

theorem quiet_ex {P : Program} {f : FuncId} {args : Array Value} {w : World} {n : Nat} {v : Value} (h : Calls P f args (w.drewN n) fun e w' => e = .returned v ∧ ∃ q, w' = (w.drewN n).drewN q) :
    Calls P f args (w.drewN n) fun e w' => e = .returned v ∧ ∃ q, w' = w.drewN q :=
  h.mono fun _ _ ⟨he, q, hq⟩ => ⟨he, n + q, by rw [hq, World.drewN_drewN]⟩
theorem quiet_eq {P : Program} {f : FuncId} {args : Array Value} {w : World} {n : Nat} {v : Value} (h : Calls P f args (w.drewN n) fun e w' => e = .returned v ∧ w.drewN n = w') :
    Calls P f args (w.drewN n) fun e w' => e = .returned v ∧ ∃ q, w' = w.drewN q :=
  h.mono fun _ _ ⟨he, hq⟩ => ⟨he, n, hq.symm⟩

theorem quiet_add_left' {P : Program} {f : FuncId} {args : Array Value} {w : World} {a n : Nat} {v : Value} (h : Calls P f args (w.drewN (a + n)) fun e w' => e = .returned v ∧ w.drewN (a + n) = w') :
    Calls P f args (w.drewN (a + n)) fun e w'' => e = .returned v ∧ ∃ m, w'' = w.drewN (a + m) := h.mono fun _ _ ⟨he, hm⟩ => ⟨he, n, hm.symm⟩
set_option maxHeartbeats 2000000 in
theorem merge_fits {w : World} {lo hi lo2 hi2 p p2 : Nat} {B C D : List Int} (g : Fine B C) (g2 : Fine B D) (hp : PH w lo hi p B C) (hp2 : PH w lo2 hi2 p2 B D) (hs : D.sum ≤ 9223372036854775807 - C.sum) :
    Calls Try.prog 27 #[.pointer (some ⟨p, 0, none⟩), .pointer (some ⟨p2, 0, none⟩)] w (Step w lo hi (.pointer (some ⟨p, 0, none⟩)) (some (B, both C D)) 0) := by
  have gt := g.tot
  have gt2 := g2.tot
  have hlen : C.length = D.length := by rw [g.len, g2.len]
  have hl1 := g.len
  have hl0 := g.size
  have HA := Lib.hid (fun W => add_any C.sum D.sum W (by omega) (by omega) (by omega) (by omega))
  rw [vo_in (by omega) (by omega), eo_in (by omega) (by omega)] at HA
  obtain ⟨cb, bb, a, cp, cap, ex, l1, l2, l3, b1, b2, b3⟩ := hp
  obtain ⟨cb', bb', a', cp', cap', ex', l1', l2', l3', d1, d2, d3⟩ := hp2
  have c0 : w.cell? ⟨p, 0, none⟩ = some (.bool true) := b1.cell 0
  have c1 : w.cell? ⟨p, 1, none⟩ = some (.slice a B.length cp) := b1.cell 1
  have c3 : w.cell? ⟨p, 3, none⟩ = some (.int .i64 C.sum) := b1.cell 3
  have e0 : w.cell? ⟨p2, 0, none⟩ = some (.bool true) := d1.cell 0
  have e1 : w.cell? ⟨p2, 1, none⟩ = some (.slice a' B.length cp') := d1.cell 1
  have e2 : w.cell? ⟨p2, 2, none⟩ = some (.slice (some ⟨cb', 0, none⟩) D.length cap') := d1.cell 2
  have e3 : w.cell? ⟨p2, 3, none⟩ = some (.int .i64 D.sum) := d1.cell 3
  have HV := Lib.hid (valid_yes p w c0)
  have HV2 := Lib.hid (valid_yes p2 w e0)
  have HE : Hid (∀ n, Calls Try.prog 49 #[.slice a B.length cp, .slice a' B.length cp'] (w.drewN n) fun e w' => e = .returned (.bool true) ∧ ∃ q, w' = w.drewN q) := by
    intro n
    have := equal_any (w := w.drewN n) (h := (show Ints (w.drewN n) bb a B.length cp B from b2.1)) (h' := (show Ints (w.drewN n) bb' a' B.length cp' B from d2.1)) (by omega) (by omega)
    rw [decide_eq_true rfl] at this
    exact quiet_ex this
  have HK := Lib.hid (fun n => clone_any (w := w.drewN n) (c := cap') (Ints.of_bk (show Bk (w.drewN n) cb' 2 _ from d3) g2.crng) (by omega))
  have hne1 : ¬ p = cb := b1.ne b3 (by decide)
  have hne2 : ¬ cb = p := fun h => hne1 h.symm
  have B1 := Lib.hid b1
  have B2 := Lib.hid b2
  have B3 := Lib.hid b3
  have G := Lib.hid (And.intro g g2)
  have L3 := Lib.hid l3
  have HL := Lib.hid hlen
  have HL1 := Lib.hid hl1
  have lt1 := b1.lt
  have lt3 := b3.lt
  obtain ⟨S, hS⟩ : ∃ S, C.sum = S := ⟨_, rfl⟩
  obtain ⟨S2, hS2⟩ : ∃ S, D.sum = S := ⟨_, rfl⟩
  have HS := Lib.hid hS
  have HS2 := Lib.hid hS2
  rw [hS] at c3 HA gt hs
  rw [hS2] at e3 HA gt2 hs
  obtain ⟨L, hL⟩ : ∃ L, D.length = L := ⟨_, rfl⟩
  have HLL := Lib.hid hL
  rw [hL] at e2 HK
  have hLb : L ≤ 1025 := by omega
  clear hS hS2 hL b1 b2 b3 d1 d2 d3 g g2 l1' l2' l3 l3' hlen hl1 hl0
  go_enter Try.func27, Try.ntmps27
  go_wp2_with fail
  refine HV.out.mono ?_
  rintro e w' ⟨rfl, rfl⟩
  go_wp2_with fail
  refine HV2.out.mono ?_
  rintro e w' ⟨rfl, rfl⟩
  go_wp2_with fail
  go_quiet ((go_at_call 49; exact HE.out _))
  go_wp2_with fail
  go_quiet ((go_at_call 44; exact quiet_add_left' (HA.out _)))
  go_wp2_with fail
  refine (HK.out _).mono ?_
  rintro e w1 ⟨bk, ak, nk, ck, rfl, hik, hbk, hgk⟩
  have hnk : nk = L := by rw [← hik.1]; exact HLL.out
  subst hnk
  have M1 : Hid (Mod lo hi w w1) := (Mod.refl lo hi w).drewN _ |>.trans (Mod.of_below hbk)
  have P1 : Hid (Bk w1 p 63 [.bool true, .slice a B.length cp, .slice (some ⟨cb, 0, none⟩) C.length cap, .int .i64 C.sum]) := (B1.out.drewN _).below hbk
  have P2 : Hid (Row w1 2 bb a B.length cp B) := Row.below (w := w.drewN _) B2.out hbk
  have P3 : Hid (Bk w1 cb 2 ((mix C D 0).map (Value.int .i64) ++ ex)) := by rw [mix_zero]; exact (B3.out.drewN _).below hbk
  have IK := Lib.hid hik
  have GK : Hid (0 < nk → w.heap.size ≤ bk) := fun h => (hgk h).1
  clear hik hbk hgk HK HA HE HV HV2 B1 B2 B3 c0 c1 c3 e0 e1 e2 e3
  go_wp2_with fail
  go_loopw [7, 8, 48] (fun _ _ u wr => ∃ k : Nat, u = .int .i64 k ∧ k ≤ nk ∧ Hid (Bk wr p 63 [.bool true, .slice a B.length cp, .slice (some ⟨cb, 0, none⟩) C.length cap, .int .i64 C.sum]) ∧ Hid (Row wr 2 bb a B.length cp B) ∧ Hid (Bk wr cb 2 ((mix C D k).map (Value.int .i64) ++ ex)) ∧ Hid (Ints wr bk ak nk ck D) ∧ Hid (Mod lo hi w wr)) (fun _ _ u _ => nk - (intOf u).toNat)
  case atStart => exact ⟨0, rfl, Nat.zero_le _, P1, P2, P3, IK, M1⟩
  case round =>
    obtain ⟨k, rfl, hk, Q1, Q2, Q3, Q4, Q5⟩ := hrel
    clear P1 P2 P3 IK M1
    have k2 : wr.cell? ⟨p, 2, none⟩ = some (.slice (some ⟨cb, 0, none⟩) nk cap) := by
      rw [← HLL.out, ← HL.out]; exact Q1.out.cell 2
    have k3 : wr.cell? ⟨p, 3, none⟩ = some (.int .i64 S) := by rw [← HS.out]; exact Q1.out.cell 3
    have lp := Q1.out.lt
    have lc := Q3.out.lt
    have fp := Q1.out.frozen
    have fc := Q3.out.frozen
    by_cases hlt : k < nk
    · obtain ⟨off, rfl, hc⟩ := Q4.out.2.2.2 (by omega)
      have hck := hc k hlt
      have kc : k < C.length := by rw [HL.out, HLL.out]; exact hlt
      have hcc : wr.cell? ⟨cb, k, none⟩ = some (.int .i64 (C.getD k 0)) := by
        rw [Q3.out.cell, List.getElem?_append_left (by simpa [mix_len] using kc), List.getElem?_map, List.getElem?_eq_getElem (by rw [mix_len]; exact kc), ← getD_at (by rw [mix_len]; exact kc), mix_at kc]
        rfl
      have bds := mix_bd G.out.1.pos G.out.2.pos k
      have e1 := HS.out
      have e2 := HS2.out
      rw [e1, e2] at bds
      have HM := Lib.hid (mix_succ (D := D) kc)
      have bkne : Hid (¬ bk = cb) := by
        have := GK.out (by omega); show ¬ _; omega
      have i0 : (0 : Int) ≤ k := by omega
      have i1 : (k : Int) < nk := by omega
      obtain ⟨x, hx⟩ : ∃ x, C.getD k 0 = x := ⟨_, rfl⟩
      obtain ⟨y, hy⟩ : ∃ y, D.getD k 0 = y := ⟨_, rfl⟩
      rw [hx] at hcc bds HM
      rw [hy] at hck bds HM
      have NEXT : Hid (Hid (Bk (wr.setCell ⟨cb, k, none⟩ (.int .i64 (x + y))) p 63 [.bool true, .slice a B.length cp, .slice (some ⟨cb, 0, none⟩) C.length cap, .int .i64 C.sum]) ∧ Hid (Row (wr.setCell ⟨cb, k, none⟩ (.int .i64 (x + y))) 2 bb a B.length cp B) ∧ Hid (Bk (wr.setCell ⟨cb, k, none⟩ (.int .i64 (x + y))) cb 2 ((mix C D (k + 1)).map (Value.int .i64) ++ ex)) ∧ Hid (Ints (wr.setCell ⟨cb, k, none⟩ (.int .i64 (x + y))) bk (some ⟨bk, off, none⟩) nk ck D) ∧ Hid (Mod lo hi w (wr.setCell ⟨cb, k, none⟩ (.int .i64 (x + y))))) := by
        refine ⟨Q1.out.far hne1 _, Q2.out.far (fun hn => (L3.out hn).2.1) _, ?_, Q4.out.far (fun _ => bkne.out) _, Q5.out.trans (Mod.set (Mod.refl _ _ _) (.inl l2.1) _)⟩
        rw [HM.out, List.map_set, ← List.set_append_left _ _ (by simpa [mix_len] using kc)]
        exact Q3.out.set k _
      clear hx hy hc HM bkne e1 e2 kc Q1 Q2 Q3 Q4 Q5
      go_wp2
      go_roundw
      case rel =>
        obtain ⟨n1, n2, n3, n4, n5⟩ := NEXT.out
        exact ⟨k + 1, by go_num, by omega, n1, n2, n3, n4, n5⟩
      case measure => simp [intOf]; omega
    · obtain rfl : k = nk := by omega
      have FIN : Hid (Step w lo hi (.pointer (some ⟨p, 0, none⟩)) (some (B, both C D)) 0 (.returned (.int .i64 0)) (wr.setCell ⟨p, 3, none⟩ (.int .i64 (S + S2)))) := by
        refine ⟨rfl, ⟨fine_both G.out.1 G.out.2 (by rw [HS.out, HS2.out]; omega), p, rfl, cb, bb, a, cp, cap, ex, l1, ⟨l2.1, by rw [both, mix_len]; exact l2.2⟩, L3.out, ?_, Q2.out.far (fun hn => (L3.out hn).2.2) _, ?_⟩, Q5.out.trans (Mod.set (Mod.refl _ _ _) (.inl l1) _)⟩
        · rw [both_sum HL.out, HS.out, HS2.out]
          have := Q1.out.set 3 (.int .i64 (S + S2))
          rw [both, mix_len]
          exact this
        · have := Q3.out.far (p := ⟨p, 3, none⟩) hne2 (.int .i64 (S + S2))
          rw [both, HL.out, HLL.out]
          exact this
      clear Q1 Q2 Q3 Q4 Q5
      go_wp2
      go_ret
      exact FIN.out
theorem PHo.drewN {w : World} {lo hi : Nat} {v : Value} {o : St} (h : PHo w lo hi v o) (n : Nat) : PHo (w.drewN n) lo hi v o := h.below (Below.refl _ _ |> fun b => ⟨b.os, b.tape, b.output, b.size, b.block⟩)
theorem merge_any {w : World} {lo hi lo2 hi2 : Nat} {v u : Value} {o r : St} (h : PHo w lo hi v o) (k : PHo w lo2 hi2 u r) :
    Calls Try.prog 27 #[v, u] w (Step w lo hi v (mergeS o r) (mergeE o r)) := by
  rcases o with _ | ⟨B, C⟩
  · have HV := Lib.hid (valid_no h)
    have FIN := Lib.hid (show Step w lo hi v (mergeS none r) (mergeE none r) (.returned (.int .i64 1)) w from ⟨rfl, h, Mod.refl _ _ _⟩)
    clear h
    go_enter Try.func27, Try.ntmps27
    go_wp2_with fail
    refine HV.out.mono ?_
    rintro e w' ⟨rfl, rfl⟩
    go_wp2
    go_ret
    exact FIN.out
  · rcases r with _ | ⟨B', D⟩
    · have HV2 := Lib.hid (valid_no k)
      have FIN := Lib.hid (show Step w lo hi v (mergeS (some (B, C)) none) (mergeE (some (B, C)) none) (.returned (.int .i64 1)) w from ⟨rfl, h, Mod.refl _ _ _⟩)
      obtain ⟨g, p, rfl, cb, bb, a, cp, cap, ex, l1, l2, l3, b1, b2, b3⟩ := h
      have HV := Lib.hid (valid_yes p w (b1.cell 0))
      clear g b1 b2 b3 l1 l2 l3 k
      go_enter Try.func27, Try.ntmps27
      go_wp2_with fail
      refine HV.out.mono ?_
      rintro e w' ⟨rfl, rfl⟩
      go_wp2_with fail
      refine HV2.out.mono ?_
      rintro e w' ⟨rfl, rfl⟩
      go_wp2
      go_ret
      exact FIN.out
    · by_cases hB : B = B'
      · subst hB
        by_cases hs : 9223372036854775807 - C.sum < D.sum
        · have FIN : Hid (∀ q, Step w lo hi v (mergeS (some (B, C)) (some (B, D))) (mergeE (some (B, C)) (some (B, D))) (.returned (.int .i64 7)) (w.drewN q)) := fun q => ⟨by simp [mergeE, hs], PHo.drewN (by simpa [mergeS, hs] using h) q, (Mod.refl _ _ _).drewN q⟩
          obtain ⟨g, p, rfl, cb, bb, a, cp, cap, ex, l1, l2, l3, b1, b2, b3⟩ := h
          obtain ⟨g2, p2, rfl, cb', bb', a', cp', cap', ex', l1', l2', l3', d1, d2, d3⟩ := k
          have gt := g.tot
          have gt2 := g2.tot
          have hsz := g.size
          have HA := Lib.hid (fun W => add_any C.sum D.sum W (by omega) (by omega) (by omega) (by omega))
          rw [vo_out (by omega), eo_out (by omega)] at HA
          have HV := Lib.hid (valid_yes p w (b1.cell 0))
          have HV2 := Lib.hid (valid_yes p2 w (d1.cell 0))
          have c1 : w.cell? ⟨p, 1, none⟩ = some (.slice a B.length cp) := b1.cell 1
          have c3 : w.cell? ⟨p, 3, none⟩ = some (.int .i64 C.sum) := b1.cell 3
          have e1 : w.cell? ⟨p2, 1, none⟩ = some (.slice a' B.length cp') := d1.cell 1
          have e3 : w.cell? ⟨p2, 3, none⟩ = some (.int .i64 D.sum) := d1.cell 3
          have HE : Hid (∀ n, Calls Try.prog 49 #[.slice a B.length cp, .slice a' B.length cp'] (w.drewN n) fun e w' => e = .returned (.bool true) ∧ ∃ q, w' = w.drewN q) := by
            intro n
            have := equal_any (w := w.drewN n) (h := (show Ints (w.drewN n) bb a B.length cp B from b2.1)) (h' := (show Ints (w.drewN n) bb' a' B.length cp' B from d2.1)) (by omega) (by omega)
            rw [decide_eq_true rfl] at this
            exact quiet_ex this
          clear g g2 b1 b2 b3 d1 d2 d3 l1 l2 l3 l1' l2' l3' hs
          go_enter Try.func27, Try.ntmps27
          go_wp2_with fail
          refine HV.out.mono ?_
          rintro e w' ⟨rfl, rfl⟩
          go_wp2_with fail
          refine HV2.out.mono ?_
          rintro e w' ⟨rfl, rfl⟩
          go_wp2_with fail
          go_quiet ((go_at_call 49; exact HE.out _))
          go_wp2_with fail
          go_quiet ((go_at_call 44; exact quiet_add_left' (HA.out _)))
          go_wp2
          go_ret
          exact FIN.out _
        · obtain ⟨g, p, rfl, hp⟩ := h
          obtain ⟨g2, p2, rfl, hp2⟩ := k
          have e1 : mergeS (some (B, C)) (some (B, D)) = some (B, both C D) := by simp [mergeS, hs]
          have e2 : mergeE (some (B, C)) (some (B, D)) = 0 := by simp [mergeE, hs]
          rw [e1, e2]
          exact merge_fits g g2 hp hp2 (by omega)
      · have FIN : Hid (∀ q, Step w lo hi v (mergeS (some (B, C)) (some (B', D))) (mergeE (some (B, C)) (some (B', D))) (.returned (.int .i64 2)) (w.drewN q)) := fun q => ⟨by simp [mergeE, hB], PHo.drewN (by simpa [mergeS, hB] using h) q, (Mod.refl _ _ _).drewN q⟩
        obtain ⟨g, p, rfl, cb, bb, a, cp, cap, ex, l1, l2, l3, b1, b2, b3⟩ := h
        obtain ⟨g2, p2, rfl, cb', bb', a', cp', cap', ex', l1', l2', l3', d1, d2, d3⟩ := k
        have hsz := g.size
        have hsz2 := g2.size
        have HV := Lib.hid (valid_yes p w (b1.cell 0))
        have HV2 := Lib.hid (valid_yes p2 w (d1.cell 0))
        have c1 : w.cell? ⟨p, 1, none⟩ = some (.slice a B.length cp) := b1.cell 1
        have e1 : w.cell? ⟨p2, 1, none⟩ = some (.slice a' B'.length cp') := d1.cell 1
        have HE : Hid (∀ n, Calls Try.prog 49 #[.slice a B.length cp, .slice a' B'.length cp'] (w.drewN n) fun e w' => e = .returned (.bool false) ∧ ∃ q, w' = w.drewN q) := by
          intro n
          have := equal_any (w := w.drewN n) (h := (show Ints (w.drewN n) bb a B.length cp B from b2.1)) (h' := (show Ints (w.drewN n) bb' a' B'.length cp' B' from d2.1)) (by omega) (by omega)
          rw [decide_eq_false hB] at this
          exact quiet_ex this
        clear g g2 b1 b2 b3 d1 d2 d3 l1 l2 l3 l1' l2' l3' hB
        go_enter Try.func27, Try.ntmps27
        go_wp2_with fail
        refine HV.out.mono ?_
        rintro e w' ⟨rfl, rfl⟩
        go_wp2_with fail
        refine HV2.out.mono ?_
        rintro e w' ⟨rfl, rfl⟩
        go_wp2_with fail
        go_quiet ((go_at_call 49; exact HE.out _))
        go_wp2
        go_ret
        exact FIN.out _

end Go.Proofs.Ytpfdoifkimjlbaa
