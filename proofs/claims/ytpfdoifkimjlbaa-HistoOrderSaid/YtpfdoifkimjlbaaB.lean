/- THE CONTRACTS of package histo: Total, Add. -/
import Derived.Test.YtpfdoifkimjlbaaA
namespace Go.Proofs.Ytpfdoifkimjlbaa
open Go.RowKit H M
set_option linter.unusedVariables false
set_option linter.unusedSimpArgs false

theorem hb_cell' {B : Nat} {W w1 : World} (hb : Hid (Below B W w1)) : ∀ b o, b < B → w1.cell? ⟨b, o, none⟩ = W.cell? ⟨b, o, none⟩ := fun b o h => Below.cell (p := ⟨b, o, none⟩) hb h

theorem total_any {w : World} {lo hi : Nat} {v : Value} {o : St} (h : PHo w lo hi v o) :
    Calls Try.prog 22 #[v] w fun e w' => e = .returned (.int .i64 (total o)) ∧ w = w' := by
  rcases o with _ | ⟨B, C⟩
  · have HV := Lib.hid (valid_no h)
    clear h
    go_enter Try.func22, Try.ntmps22
    go_wp2_with fail
    refine HV.out.mono ?_
    rintro e w' ⟨rfl, rfl⟩
    go_wp2
    go_ret
    exact ⟨rfl, rfl⟩
  · obtain ⟨g, p, rfl, cb, bb, a, cp, cap, ex, h1, h2, h3, b1, b2, b3⟩ := h
    have c0 : w.cell? ⟨p, 0, none⟩ = some (.bool true) := b1.cell 0
    have c3 : w.cell? ⟨p, 3, none⟩ = some (.int .i64 C.sum) := b1.cell 3
    have HV := Lib.hid (valid_yes p w c0)
    clear g b1 b2 b3 h1 h2 h3
    go_enter Try.func22, Try.ntmps22
    go_wp2_with fail
    refine HV.out.mono ?_
    rintro e w' ⟨rfl, rfl⟩
    go_wp2
    go_ret
    exact ⟨rfl, rfl⟩

/-- What a step answers, and what it leaves. -/
def Step (w : World) (lo hi : Nat) (v : Value) (o : St) (n : Int) (e : Ending) (w' : World) : Prop := e = .returned (.int .i64 n) ∧ PHo w' lo hi v o ∧ Mod lo hi w w'

set_option maxHeartbeats 1000000 in
theorem hadd_fits {w : World} {lo hi p : Nat} {B C : List Int} {x t : Int} (g : Fine B C) (hp : PH w lo hi p B C) (h0 : 0 ≤ t) (h1 : t ≤ 9223372036854775807 - C.sum) :
    Calls Try.prog 20 #[.pointer (some ⟨p, 0, none⟩), .int .i64 x, .int .i64 t] w (Step w lo hi (.pointer (some ⟨p, 0, none⟩)) (some (B, C.set (cnt B x) (C.getD (cnt B x) 0 + t))) 0) := by
  have gt := g.tot
  have g2 := Lib.hid (good_add g (x := x) h0 h1)
  have HB := Lib.hid (fun W (hb : Hid (Below w.heap.size w W)) => bucket_any (w := W) (lo := lo) (hi := hi) (v := .pointer (some ⟨p, 0, none⟩)) (o := some (B, C)) ⟨g, p, rfl, hp.below hb.out⟩ x)
  have HA := Lib.hid (add_any C.sum t w (by omega) (by omega) (by omega) (by omega))
  rw [vo_in (by omega) (by omega), eo_in (by omega) (by omega)] at HA
  obtain ⟨cb, bb, a, cp, cap, ex, l1, l2, l3, b1, b2, b3⟩ := hp
  have c0 : w.cell? ⟨p, 0, none⟩ = some (.bool true) := b1.cell 0
  have c2 : w.cell? ⟨p, 2, none⟩ = some (.slice (some ⟨cb, 0, none⟩) C.length cap) := b1.cell 2
  have c3 : w.cell? ⟨p, 3, none⟩ = some (.int .i64 C.sum) := b1.cell 3
  have hcl := cnt_le B x
  have hlen := g.len
  have hk : cnt B x < C.length := by omega
  have ck : w.cell? ⟨cb, cnt B x, none⟩ = some (.int .i64 (C.getD (cnt B x) 0)) := by
    rw [b3.cell, List.getElem?_append_left (by simpa using hk)]
    simp [List.getD_eq_getElem?_getD, List.getElem?_eq_getElem hk]
  have y0 := getD_nonneg g.pos (cnt B x)
  have y1 := getD_le_sum g.pos (cnt B x)
  have hss := sum_set C (cnt B x) (C.getD (cnt B x) 0 + t) hk
  have HFIN : Hid (∀ wq, Hid (Below w.heap.size w wq) → Step w lo hi (.pointer (some ⟨p, 0, none⟩)) (some (B, C.set (cnt B x) (C.getD (cnt B x) 0 + t))) 0 (.returned (.int .i64 0)) ((wq.setCell ⟨cb, cnt B x, none⟩ (.int .i64 (C.getD (cnt B x) 0 + t))).setCell ⟨p, 3, none⟩ (.int .i64 (C.sum + t)))) := by
    intro wq hq
    have hne : p ≠ cb := b1.ne b3 (by decide)
    have m0 : Mod lo hi w wq := Mod.of_below hq
    have q1 := ((b1.below hq).far (p := ⟨cb, cnt B x, none⟩) hne (.int .i64 (C.getD (cnt B x) 0 + t))).set 3 (.int .i64 (C.sum + t))
    have q3 := ((b3.below hq).set (cnt B x) (.int .i64 (C.getD (cnt B x) 0 + t))).far (p := ⟨p, 3, none⟩) (Ne.symm hne) (.int .i64 (C.sum + t))
    have m1 : Mod lo hi wq (wq.setCell ⟨cb, cnt B x, none⟩ (.int .i64 (C.getD (cnt B x) 0 + t))) := Mod.set (Mod.refl _ _ _) (.inl l2.1) _
    have m2 := m1.set (p := ⟨p, 3, none⟩) (.inl l1) (.int .i64 (C.sum + t))
    have q2 : Row ((wq.setCell ⟨cb, cnt B x, none⟩ (.int .i64 (C.getD (cnt B x) 0 + t))).setCell ⟨p, 3, none⟩ (.int .i64 (C.sum + t))) 2 bb a B.length cp B := by
      exact ((b2.below hq).far (p := ⟨cb, cnt B x, none⟩) (fun hn => (l3 hn).2.1) _).far (p := ⟨p, 3, none⟩) (fun hn => (l3 hn).2.2) _
    refine ⟨rfl, ⟨g2.out, p, rfl, cb, bb, a, cp, cap, ex, l1, ⟨l2.1, by simpa using l2.2⟩, l3, ?_, q2, ?_⟩, m0.trans m2⟩
    · rw [hss, show C.sum - C.getD (cnt B x) 0 + (C.getD (cnt B x) 0 + t) = C.sum + t by omega, List.length_set]
      exact q1
    · rw [List.map_set, ← List.set_append_left _ _ (by simpa using hk)]
      exact q3
  have hne1 : ¬ p = cb := b1.ne b3 (by decide)
  have hne2 : ¬ cb = p := fun h => hne1 h.symm
  have fz1 := b1.frozen
  have fz3 := b3.frozen
  have lt1 := b1.lt
  have lt3 := b3.lt
  obtain ⟨k, hk'⟩ : ∃ k, cnt B x = k := ⟨_, rfl⟩
  obtain ⟨y, hy'⟩ : ∃ y, C.getD (cnt B x) 0 = y := ⟨_, rfl⟩
  have HB : Hid (∀ W, Hid (Below w.heap.size w W) → Calls Try.prog 19 #[.pointer (some ⟨p, 0, none⟩), .int .i64 x] W fun e w' => e = .returned (.int .i64 k) ∧ Below W.heap.size W w') := by rw [← hk']; exact HB
  rw [hy'] at ck y0 y1 HFIN ⊢
  rw [hk'] at ck hk HFIN ⊢
  obtain ⟨S, hS⟩ : ∃ S, C.sum = S := ⟨_, rfl⟩
  obtain ⟨L, hL⟩ : ∃ L, C.length = L := ⟨_, rfl⟩
  rw [hS] at c3 HA y1 h1 gt HFIN
  rw [hL] at c2 hk
  have i0 : (0 : Int) ≤ k := by omega
  have i1 : (k : Int) < L := by omega
  have HV := Lib.hid (valid_yes p w c0)
  clear hk' hy' hS hL hss b1 b2 b3 l1 l2 l3 g hcl hlen
  go_enter Try.func20, Try.ntmps20
  go_wp2_with fail
  refine HV.out.mono ?_
  rintro e w' ⟨rfl, rfl⟩
  go_wp2_with fail
  refine HA.out.mono ?_
  rintro e w' ⟨rfl, rfl⟩
  go_wp2_with fail
  refine G.tail_below 12 (by kernel_rfl) (by kernel_rfl) ?_
  simp only [List.take_succ_cons, List.take_zero, List.drop_succ_cons, List.drop_zero]
  repeat (refine G.q_val ?_ (by rfl) (fun wq hq => ?_) (fun K hK => ?_); rotate_left; (have hc := hb_cell' hq; go_simp; with_reducible rfl); (go_simp; refine hK _ ?_; clear hK K))
  refine G.q_call _ _ _ (by rfl) (fun wq hq => ?_) (fun wq hq => (HB.out wq hq).mono fun e w' ⟨he, hb⟩ => ⟨he, hb_trans' hq hb (Below.size hq)⟩) (fun K hK => ?_)
  · have hc := hb_cell' hq
    go_simp
  go_simp; refine hK _ ?_; clear hK K
  repeat (refine G.q_val ?_ (by rfl) (fun wq hq => ?_) (fun K hK => ?_); rotate_left; (have hc := hb_cell' hq; go_simp; with_reducible rfl); (go_simp; refine hK _ ?_; clear hK K))
  refine wpQuiet_nil (fun wq hq => ?_)
  have hc := hb_cell' hq
  have hf : ∀ b o, b < w.heap.size → wq.frozen? ⟨b, o, none⟩ = w.frozen? ⟨b, o, none⟩ := fun b o h => Below.frozen (p := ⟨b, o, none⟩) hq h
  have FIN := Lib.hid (HFIN.out wq hq)
  clear HFIN hq
  go_wp2
  go_ret
  exact FIN.out
theorem hadd_any {w : World} {lo hi : Nat} {v : Value} {o : St} (h : PHo w lo hi v o) (x t : Int) (ht : In64 t) :
    Calls Try.prog 20 #[v, .int .i64 x, .int .i64 t] w (Step w lo hi v (addS o x t) (addE o x t)) := by
  have h1 := ht.1
  have h2 := ht.2
  rcases o with _ | ⟨B, C⟩
  · have HV := Lib.hid (valid_no h)
    have FIN := Lib.hid (show Step w lo hi v (addS none x t) (addE none x t) (.returned (.int .i64 1)) w from ⟨rfl, h, Mod.refl _ _ _⟩)
    clear h
    go_enter Try.func20, Try.ntmps20
    go_wp2_with fail
    refine HV.out.mono ?_
    rintro e w' ⟨rfl, rfl⟩
    go_wp2
    go_ret
    exact FIN.out
  · by_cases h0 : t < 0
    · have FIN := Lib.hid (show Step w lo hi v (addS (some (B, C)) x t) (addE (some (B, C)) x t) (.returned (.int .i64 2)) w from ⟨by simp [addE, h0], by simpa [addS, h0] using h, Mod.refl _ _ _⟩)
      obtain ⟨g, p, rfl, cb, bb, a, cp, cap, ex, l1, l2, l3, b1, b2, b3⟩ := h
      have HV := Lib.hid (valid_yes p w (b1.cell 0))
      clear g b1 b2 b3 l1 l2 l3
      go_enter Try.func20, Try.ntmps20
      go_wp2_with fail
      refine HV.out.mono ?_
      rintro e w' ⟨rfl, rfl⟩
      go_wp2
      go_ret
      exact FIN.out
    · by_cases h3 : 9223372036854775807 - C.sum < t
      · have FIN := Lib.hid (show Step w lo hi v (addS (some (B, C)) x t) (addE (some (B, C)) x t) (.returned (.int .i64 7)) w from ⟨by simp [addE, h0, h3], by simpa [addS, h0, h3] using h, Mod.refl _ _ _⟩)
        obtain ⟨g, p, rfl, cb, bb, a, cp, cap, ex, l1, l2, l3, b1, b2, b3⟩ := h
        have gt := g.tot
        have HA := Lib.hid (add_any C.sum t w (by omega) (by omega) h1 h2)
        rw [vo_out (by omega), eo_out (by omega)] at HA
        have HV := Lib.hid (valid_yes p w (b1.cell 0))
        have c3 : w.cell? ⟨p, 3, none⟩ = some (.int .i64 C.sum) := b1.cell 3
        clear g b1 b2 b3 l1 l2 l3 h3
        go_enter Try.func20, Try.ntmps20
        go_wp2_with fail
        refine HV.out.mono ?_
        rintro e w' ⟨rfl, rfl⟩
        go_wp2_with fail
        refine HA.out.mono ?_
        rintro e w' ⟨rfl, rfl⟩
        go_wp2
        go_ret
        exact FIN.out
      · obtain ⟨g, p, rfl, hp⟩ := h
        have e1 : addS (some (B, C)) x t = some (B, C.set (cnt B x) (C.getD (cnt B x) 0 + t)) := by simp [addS, h0, h3]
        have e2 : addE (some (B, C)) x t = 0 := by simp [addE, h0, h3]
        rw [e1, e2]
        exact hadd_fits g hp (by omega) (by omega)

end Go.Proofs.Ytpfdoifkimjlbaa
