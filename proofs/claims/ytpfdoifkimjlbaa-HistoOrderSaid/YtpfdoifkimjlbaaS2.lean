/- THE CONTRACTS of the document's histograms: Counts, Bounds, Add, Merge, New, Copy. -/
import Derived.Test.YtpfdoifkimjlbaaS
import Derived.StillTailTactics
set_option linter.unusedVariables false
set_option linter.unusedSimpArgs false
namespace Go.Proofs.Ytpfdoifkimjlbaa
open Go.RowKit H M

theorem rcounts_any {w : World} {lo hi : Nat} {v : Value} {o : St} (h : RHo w lo hi v o) : Calls Try.prog 47 #[v] w (GivesInts w (counts o)) := by
  rcases o with _ | ⟨B, C⟩
  · have HV := Lib.hid (rvalid_no h)
    have POST := Lib.hid (show GivesInts w [] (.returned (.slice none 0 0)) w from ⟨0, none, 0, 0, rfl, Ints.nil _ _ _ _ (fun _ => rfl), Below.refl _ _, fun h => absurd h (by omega)⟩)
    clear h
    go_enter Try.func47, Try.ntmps47
    go_wp2_with fail
    refine HV.out.mono ?_
    rintro e w' ⟨rfl, rfl⟩
    go_wp2
    go_ret
    exact POST.out
  · obtain ⟨g, p, rfl, hp⟩ := h
    have HGG := g
    obtain ⟨cb, bb, a, cp, cap, ex, h1, h2, h3, b1, b2, b3⟩ := hp
    have HV := Lib.hid (rvalid_yes p w (b1.cell 0))
    have len1 : B.length ≤ 1000000 := by have := g.size; omega
    have len2 : C.length ≤ 1000000 := by have := g.len; have := g.size; omega
    obtain ⟨a', n', c', hcell, bk, hints, hlen⟩ : ∃ a' n' c', w.cell? ⟨p, 2, none⟩ = some (.slice a' n' c') ∧ (∃ b', Ints w b' a' n' c' C) ∧ n' ≤ 1000000 ∧ True := ⟨_, _, _, b1.cell 2, ⟨cb, Ints.of_bk b3 HGG.crng⟩, by assumption, trivial⟩
    obtain ⟨b', bk⟩ := bk
    have BK := Lib.hid bk
    have HN := Lib.hid hints
    have own0 : w.ownsRow w.heap.size 2 1 (.slice none 0 0) 0 (([] : List Int).map (Value.int .i64)) := World.ownsRow_nil _ _ _ _
    clear g HGG b1 b2 b3 h1 h2 h3 bk len1 len2 hints
    go_enter Try.func47, Try.ntmps47
    go_wp2_with fail
    refine HV.out.mono ?_
    rintro e w' ⟨rfl, rfl⟩
    go_wp2_with (at_builtin; refine append_ints rfl _ _ rfl w.heap.size 0 _ [] rfl own0 b' a' n' c' C rfl BK.out (by have := HN.out; omega) (by simp) ?_)
    intro v1 w1 own1 hb1
    go_wp2
    go_ret
    obtain ⟨b1, a1, c1, rfl, hi, hge⟩ := Ints.of_own own1 (by simpa using BK.out.2.1)
    exact (show GivesInts w C _ _ from ⟨b1, a1, _, c1, rfl, by simpa using hi, hb1.out, by simpa using hge⟩)

theorem rbounds_any {w : World} {lo hi : Nat} {v : Value} {o : St} (h : RHo w lo hi v o) : Calls Try.prog 48 #[v] w (GivesInts w (bounds o)) := by
  rcases o with _ | ⟨B, C⟩
  · have HV := Lib.hid (rvalid_no h)
    have POST := Lib.hid (show GivesInts w [] (.returned (.slice none 0 0)) w from ⟨0, none, 0, 0, rfl, Ints.nil _ _ _ _ (fun _ => rfl), Below.refl _ _, fun h => absurd h (by omega)⟩)
    clear h
    go_enter Try.func48, Try.ntmps48
    go_wp2_with fail
    refine HV.out.mono ?_
    rintro e w' ⟨rfl, rfl⟩
    go_wp2
    go_ret
    exact POST.out
  · obtain ⟨g, p, rfl, hp⟩ := h
    have HGG := g
    obtain ⟨cb, bb, a, cp, cap, ex, h1, h2, h3, b1, b2, b3⟩ := hp
    have HV := Lib.hid (rvalid_yes p w (b1.cell 0))
    have len1 : B.length ≤ 1000000 := by have := g.size; omega
    have len2 : C.length ≤ 1000000 := by have := g.len; have := g.size; omega
    obtain ⟨a', n', c', hcell, bk, hints, hlen⟩ : ∃ a' n' c', w.cell? ⟨p, 1, none⟩ = some (.slice a' n' c') ∧ (∃ b', Ints w b' a' n' c' B) ∧ n' ≤ 1000000 ∧ True := ⟨_, _, _, b1.cell 1, ⟨bb, b2.1⟩, by assumption, trivial⟩
    obtain ⟨b', bk⟩ := bk
    have BK := Lib.hid bk
    have HN := Lib.hid hints
    have own0 : w.ownsRow w.heap.size 2 1 (.slice none 0 0) 0 (([] : List Int).map (Value.int .i64)) := World.ownsRow_nil _ _ _ _
    clear g HGG b1 b2 b3 h1 h2 h3 bk len1 len2 hints
    go_enter Try.func48, Try.ntmps48
    go_wp2_with fail
    refine HV.out.mono ?_
    rintro e w' ⟨rfl, rfl⟩
    go_wp2_with (at_builtin; refine append_ints rfl _ _ rfl w.heap.size 0 _ [] rfl own0 b' a' n' c' B rfl BK.out (by have := HN.out; omega) (by simp) ?_)
    intro v1 w1 own1 hb1
    go_wp2
    go_ret
    obtain ⟨b1, a1, c1, rfl, hi, hge⟩ := Ints.of_own own1 (by simpa using BK.out.2.1)
    exact (show GivesInts w B _ _ from ⟨b1, a1, _, c1, rfl, by simpa using hi, hb1.out, by simpa using hge⟩)
theorem rsame_any {w : World} {b b' : Nat} {a a' : Option Addr} {n n' c c' : Nat} {l l' : List Int} (h : Ints w b a n c l) (h' : Ints w b' a' n' c' l') (hn : n ≤ 1000000) (hn' : n' ≤ 1000000) :
    Calls Try.prog 50 #[.slice a n c, .slice a' n' c'] w fun e w' => e = .returned (.bool (decide (l = l'))) ∧ ∃ q, w' = w.drewN q := by
  by_cases hl : n = n'
  · subst hl
    have HI := Lib.hid h
    have HJ := Lib.hid h'
    clear h h'
    go_enter Try.func50, Try.ntmps50
    go_wp2
    go_loopw [5] (fun u wr => ∃ k : Nat, u = .int .i64 k ∧ k ≤ n ∧ Hid (∀ i, i < k → l.getD i 0 = l'.getD i 0) ∧ Hid (∃ q, w.drewN q = wr)) (fun u _ => n - (intOf u).toNat)
    case atStart => exact ⟨0, rfl, Nat.zero_le _, (fun i hi => absurd hi (by omega)), ⟨0, rfl⟩⟩
    case round =>
      obtain ⟨k, rfl, hk, HU, HQ⟩ := hrel
      obtain ⟨q, hq⟩ := HQ.out
      by_cases hlt : k < n
      · obtain ⟨off, ha, hc⟩ := HI.out.2.2.2 (by omega)
        obtain ⟨off', ha', hc'⟩ := HJ.out.2.2.2 (by omega)
        have ck0 : wr.cell? ⟨b, off + k, none⟩ = some (.int .i64 (l.getD k 0)) := by rw [← hq]; exact hc k hlt
        have ck1 : wr.cell? ⟨b', off' + k, none⟩ = some (.int .i64 (l'.getD k 0)) := by rw [← hq]; exact hc' k hlt
        have i0 : (0 : Int) ≤ k := by omega
        have i1 : (k : Int) < n := by omega
        obtain ⟨x, hx⟩ : ∃ x, l.getD k 0 = x := ⟨_, rfl⟩
        obtain ⟨y, hy⟩ : ∃ y, l'.getD k 0 = y := ⟨_, rfl⟩
        rw [hx] at ck0
        rw [hy] at ck1
        have HX := Lib.hid hx
        have HY := Lib.hid hy
        have HQ' : ∀ m, Hid (∃ q, w.drewN q = wr.drewN m) := fun m => ⟨q + m, by rw [← hq, World.drewN_drewN]⟩
        have HQ' := Lib.hid HQ'
        subst ha ha'
        clear hx hy hc hc' hq HQ
        by_cases hxy : x = y
        · have HU' : Hid (∀ i, i < k + 1 → l.getD i 0 = l'.getD i 0) := by
            intro i hi
            rcases Nat.lt_or_ge i k with h | h
            · exact HU.out i h
            · obtain rfl : i = k := by omega
              rw [HX.out, HY.out]; exact hxy
          subst hxy
          clear HU HX HY
          go_wp2
          go_quiet (fail)
          go_wp2
          go_roundw
          case rel => exact ⟨k + 1, by go_num, by omega, HU', HQ'.out _⟩
          case measure => simp [intOf]; omega
        · have FIN : Hid (decide (l = l') = false) := by
            refine decide_eq_false (fun e => hxy ?_)
            rw [← HX.out, ← HY.out, e]
          have hxb : (x != y) = true := by simpa using hxy
          clear HU HX HY hxy
          go_wp2
          go_quiet (fail)
          go_wp2
          go_ret
          obtain ⟨m, hm⟩ := (HQ'.out _).out
          exact ⟨ret_bool FIN.out.symm, m, hm.symm⟩
      · obtain rfl : k = n := by omega
        have FIN : Hid (decide (l = l') = true) := by
          refine decide_eq_true (List.ext_getElem (by rw [HI.out.1, HJ.out.1]) fun i h1 h2 => ?_)
          rw [← getD_at h1, ← getD_at h2]
          exact HU.out i (by rw [← HI.out.1]; exact h1)
        have HQ2 := Lib.hid hq
        clear hlt HU hq HQ
        go_wp2
        go_ret
        exact ⟨ret_bool FIN.out.symm, q, HQ2.out.symm⟩
  · have FIN : Hid (decide (l = l') = false) := decide_eq_false (fun e => hl (by rw [← h.1, ← h'.1, e]))
    have hnn : ((n : Int) != n') = true := by simp; omega
    clear h h' hl
    go_enter Try.func50, Try.ntmps50
    go_wp2
    go_ret
    exact ⟨ret_bool FIN.out.symm, 0, rfl⟩
/-- What a step of the document's histogram answers, and what it leaves. -/
def RStep (w : World) (lo hi : Nat) (v : Value) (o : H.St) (n : Int) (e : Ending) (w' : World) : Prop := e = .returned (.int .i64 n) ∧ RHo w' lo hi v o ∧ Mod lo hi w w'

set_option maxHeartbeats 1000000 in
theorem radd_fits {w : World} {lo hi p : Nat} {B C : List Int} {x t : Int} (g : Fine B C) (hp : RH w lo hi p B C) (h0 : 0 ≤ t) (h1 : t ≤ 9223372036854775807 - C.sum) :
    Calls Try.prog 25 #[.pointer (some ⟨p, 0, none⟩), .int .i64 x, .int .i64 t] w (RStep w lo hi (.pointer (some ⟨p, 0, none⟩)) (some (B, C.set (cnt B x) (C.getD (cnt B x) 0 + t))) 0) := by
  have gt := g.tot
  have g2 := Lib.hid (good_add g (x := x) h0 h1)
  have HT := Lib.hid (rtotal_any (w := w) (lo := lo) (hi := hi) (v := .pointer (some ⟨p, 0, none⟩)) (o := some (B, C)) ⟨g, p, rfl, hp⟩)
  have HB := Lib.hid (fun W (hb : Hid (Below w.heap.size w W)) => rbucket_any (w := W) (lo := lo) (hi := hi) (v := .pointer (some ⟨p, 0, none⟩)) (o := some (B, C)) ⟨g, p, rfl, hp.below hb.out⟩ x)
  obtain ⟨cb, bb, a, cp, cap, ex, l1, l2, l3, b1, b2, b3⟩ := hp
  have c0 : w.cell? ⟨p, 0, none⟩ = some (.bool true) := b1.cell 0
  have c2 : w.cell? ⟨p, 2, none⟩ = some (.slice (some ⟨cb, 0, none⟩) C.length cap) := b1.cell 2
  have hcl := cnt_le B x
  have hlen := g.len
  have hk : cnt B x < C.length := by omega
  have ck : w.cell? ⟨cb, cnt B x, none⟩ = some (.int .i64 (C.getD (cnt B x) 0)) := by
    rw [b3.cell, List.getElem?_append_left (by simpa using hk)]
    simp [List.getD_eq_getElem?_getD, List.getElem?_eq_getElem hk]
  have y0 := getD_nonneg g.pos (cnt B x)
  have y1 := getD_le_sum g.pos (cnt B x)
  have HFIN : Hid (∀ wq, Hid (Below w.heap.size w wq) → RStep w lo hi (.pointer (some ⟨p, 0, none⟩)) (some (B, C.set (cnt B x) (C.getD (cnt B x) 0 + t))) 0 (.returned (.int .i64 0)) (wq.setCell ⟨cb, cnt B x, none⟩ (.int .i64 (C.getD (cnt B x) 0 + t)))) := by
    intro wq hq
    have hne : p ≠ cb := b1.ne b3 (by decide)
    have q1 := (b1.below hq).far (p := ⟨cb, cnt B x, none⟩) hne (.int .i64 (C.getD (cnt B x) 0 + t))
    have q3 := (b3.below hq).set (cnt B x) (.int .i64 (C.getD (cnt B x) 0 + t))
    have m1 : Mod lo hi wq (wq.setCell ⟨cb, cnt B x, none⟩ (.int .i64 (C.getD (cnt B x) 0 + t))) := Mod.set (Mod.refl _ _ _) (.inl l2.1) _
    have q2 := (b2.below hq).far (p := ⟨cb, cnt B x, none⟩) (fun hn => (l3 hn).2.1) (.int .i64 (C.getD (cnt B x) 0 + t))
    refine ⟨rfl, ⟨g2.out, p, rfl, cb, bb, a, cp, cap, ex, l1, ⟨l2.1, by simpa using l2.2⟩, l3, ?_, q2, ?_⟩, (Mod.of_below hq).trans m1⟩
    · rw [List.length_set]
      exact q1
    · rw [List.map_set, ← List.set_append_left _ _ (by simpa using hk)]
      exact q3
  have fz3 := b3.frozen
  have lt1 := b1.lt
  have lt3 := b3.lt
  obtain ⟨k, hk'⟩ : ∃ k, cnt B x = k := ⟨_, rfl⟩
  obtain ⟨y, hy'⟩ : ∃ y, C.getD (cnt B x) 0 = y := ⟨_, rfl⟩
  have HB : Hid (∀ W, Hid (Below w.heap.size w W) → Calls Try.prog 26 #[.pointer (some ⟨p, 0, none⟩), .int .i64 x] W fun e w' => e = .returned (.int .i64 k) ∧ Below W.heap.size W w') := by
    intro W hW
    rw [← hk']
    exact (HB.out W hW).mono fun e w' ⟨he, hw⟩ => ⟨he, hw ▸ Below.refl _ _⟩
  rw [hy'] at ck y0 y1 HFIN ⊢
  rw [hk'] at ck hk HFIN ⊢
  obtain ⟨S, hS⟩ : ∃ S, C.sum = S := ⟨_, rfl⟩
  obtain ⟨L, hL⟩ : ∃ L, C.length = L := ⟨_, rfl⟩
  have HT : Hid (Calls Try.prog 39 #[.pointer (some ⟨p, 0, none⟩)] w fun e w' => e = .returned (.int .i64 S) ∧ w = w') := by rw [← hS]; exact HT
  rw [hS] at y1 h1 gt
  rw [hL] at c2 hk
  have i0 : (0 : Int) ≤ k := by omega
  have i1 : (k : Int) < L := by omega
  have HV := Lib.hid (rvalid_yes p w c0)
  clear hk' hy' hS hL b1 b2 b3 l1 l2 l3 g hcl hlen
  go_enter Try.func25, Try.ntmps25
  go_wp2_with fail
  refine HV.out.mono ?_
  rintro e w' ⟨rfl, rfl⟩
  go_wp2_with fail
  refine HT.out.mono ?_
  rintro e w' ⟨rfl, rfl⟩
  go_wp2_with fail
  refine G.tail_below 12 (by kernel_rfl) (by kernel_rfl) ?_
  simp only [List.take_succ_cons, List.take_zero, List.drop_succ_cons, List.drop_zero]
  repeat (refine G.q_val ?_ (by rfl) (fun wq hq => ?_) (fun K hK => ?_); rotate_left; (have hc := hb_cell' hq; go_simp; with_reducible rfl); (go_simp; refine hK _ ?_; clear hK K))
  refine G.q_call _ _ _ (by rfl) (fun wq hq => ?_) (fun wq hq => (HB.out wq hq).mono fun e w' ⟨he, hb⟩ => ⟨he, hb_trans' hq hb (Below.size hq)⟩) (fun K hK => ?_)
  · have hc := hb_cell' hq
    go_simp
  go_simp; refine hK _ ?_; clear hK K
  repeat (refine G.q_val ?_ (by rfl) (fun wq hq => ?_) (fun K hK => ?_); rotate_left; (have hc := hb_cell' hq; go_simp; with_reducible rfl); (go_simp; refine hK _ ?_; clear hK K))
  refine wpQuiet_nil (fun wq hq => ?_)
  have hc := hb_cell' hq
  have hf : ∀ b o, b < w.heap.size → wq.frozen? ⟨b, o, none⟩ = w.frozen? ⟨b, o, none⟩ := fun b o h => Below.frozen (p := ⟨b, o, none⟩) hq h
  have FIN := Lib.hid (HFIN.out wq hq)
  clear HFIN hq
  go_wp2
  go_ret
  exact FIN.out

theorem radd_any {w : World} {lo hi : Nat} {v : Value} {o : St} (h : RHo w lo hi v o) (x t : Int) (ht : In64 t) :
    Calls Try.prog 25 #[v, .int .i64 x, .int .i64 t] w (RStep w lo hi v (addS o x t) (addE o x t)) := by
  have h1 := ht.1
  have h2 := ht.2
  rcases o with _ | ⟨B, C⟩
  · have HV := Lib.hid (rvalid_no h)
    have FIN := Lib.hid (show RStep w lo hi v (addS none x t) (addE none x t) (.returned (.int .i64 1)) w from ⟨rfl, h, Mod.refl _ _ _⟩)
    clear h
    go_enter Try.func25, Try.ntmps25
    go_wp2_with fail
    refine HV.out.mono ?_
    rintro e w' ⟨rfl, rfl⟩
    go_wp2
    go_ret
    exact FIN.out
  · by_cases h0 : t < 0
    · have FIN := Lib.hid (show RStep w lo hi v (addS (some (B, C)) x t) (addE (some (B, C)) x t) (.returned (.int .i64 2)) w from ⟨by simp [addE, h0], by simpa [addS, h0] using h, Mod.refl _ _ _⟩)
      obtain ⟨g, p, rfl, cb, bb, a, cp, cap, ex, l1, l2, l3, b1, b2, b3⟩ := h
      have HV := Lib.hid (rvalid_yes p w (b1.cell 0))
      clear g b1 b2 b3 l1 l2 l3
      go_enter Try.func25, Try.ntmps25
      go_wp2_with fail
      refine HV.out.mono ?_
      rintro e w' ⟨rfl, rfl⟩
      go_wp2
      go_ret
      exact FIN.out
    · by_cases h3 : 9223372036854775807 - C.sum < t
      · have FIN := Lib.hid (show RStep w lo hi v (addS (some (B, C)) x t) (addE (some (B, C)) x t) (.returned (.int .i64 7)) w from ⟨by simp [addE, h0, h3], by simpa [addS, h0, h3] using h, Mod.refl _ _ _⟩)
        have HT : Hid (Calls Try.prog 39 #[v] w fun e w' => e = .returned (.int .i64 C.sum) ∧ w = w') := rtotal_any h
        obtain ⟨g, p, rfl, cb, bb, a, cp, cap, ex, l1, l2, l3, b1, b2, b3⟩ := h
        have gt := g.tot
        have HV := Lib.hid (rvalid_yes p w (b1.cell 0))
        clear g b1 b2 b3 l1 l2 l3
        go_enter Try.func25, Try.ntmps25
        go_wp2_with fail
        refine HV.out.mono ?_
        rintro e w' ⟨rfl, rfl⟩
        go_wp2_with fail
        refine HT.out.mono ?_
        rintro e w' ⟨rfl, rfl⟩
        go_wp2
        go_ret
        exact FIN.out
      · obtain ⟨g, p, rfl, hp⟩ := h
        have e1 : addS (some (B, C)) x t = some (B, C.set (cnt B x) (C.getD (cnt B x) 0 + t)) := by simp [addS, h0, h3]
        have e2 : addE (some (B, C)) x t = 0 := by simp [addE, h0, h3]
        rw [e1, e2]
        exact radd_fits g hp (by omega) (by omega)
end Go.Proofs.Ytpfdoifkimjlbaa
