/- THE CONTRACT of package histo's Coarse. -/
import Derived.Test.YtpfdoifkimjlbaaV
import Derived.StillTailTactics
set_option linter.unusedVariables false
set_option linter.unusedSimpArgs false
namespace Go.Proofs.Ytpfdoifkimjlbaa
open Go.RowKit H M

theorem GivesH.no {w W : World} {n : Int} (h : Below w.heap.size w W) : GivesH w none n (.returned (.tuple #[.pointer none, .int .i64 n])) W := ⟨_, rfl, .inl rfl, h⟩

set_option maxHeartbeats 2000000 in
set_option maxRecDepth 100000 in
theorem coarse_fits {w : World} {lo hi p : Nat} {B C : List Int} {k : Nat} (g : Fine B C) (hp : PH w lo hi p B C) (hk : k < B.length) :
    Calls Try.prog 29 #[.pointer (some ⟨p, 0, none⟩), .int .i64 k] w (GivesH w (some (B.eraseIdx k, coC C k)) 0) := by
  have CC := Lib.hid (fun w' (e : w = w') => copy_any (w := w') (lo := lo) (hi := hi) (v := .pointer (some ⟨p, 0, none⟩)) (o := some (B, C)) ⟨g, p, rfl, e ▸ hp⟩)
  obtain ⟨cb, bb, a, cp, cap, ex, l1, l2, l3, b1, b2, b3⟩ := hp
  have HV := Lib.hid (valid_yes p w (b1.cell 0))
  have c1 : w.cell? ⟨p, 1, none⟩ = some (.slice a B.length cp) := b1.cell 1
  have hsz := g.size
  have hcl : C.length = B.length + 1 := g.len
  have HCL := Lib.hid hcl
  have HG := Lib.hid g
  have k0 : (0 : Int) ≤ k := by omega
  have k1 : (k : Int) < B.length := by omega
  obtain ⟨x, hx⟩ : ∃ x, C.getD k 0 = x := ⟨_, rfl⟩
  obtain ⟨y, hy⟩ : ∃ y, C.getD (k + 1) 0 = y := ⟨_, rfl⟩
  have bx := getD_nonneg g.pos k
  have byy := getD_nonneg g.pos (k + 1)
  have bs : C.getD k 0 + C.getD (k + 1) 0 ≤ 9223372036854775807 := by
    have e1 := H.sum_take C k (by omega)
    have e2 := H.sum_take C (k + 1) (by omega)
    have e3 := H.sum_take_le g.pos (k + 1 + 1)
    have e4 := H.sum_take_le g.pos k
    have := g.sum
    omega
  rw [hx] at bx
  rw [hy] at byy
  rw [hx, hy] at bs
  have HX := Lib.hid hx
  have HY := Lib.hid hy
  clear b1 b2 b3 l1 l2 l3 g hcl hx hy
  go_enter Try.func29, Try.ntmps29
  go_wp2_with fail
  refine HV.out.mono ?_
  rintro e w' ⟨rfl, rfl⟩
  go_wp2_with fail
  refine (CC.out _ rfl).mono ?_
  rintro e w1 ⟨v, rfl, hq, hb⟩
  obtain ⟨g', q, rfl, cb', bb', a', cp', cap', ex', l1, l2, l3, b1, b2, b3⟩ := hq
  obtain ⟨ea, ex2, hcp2, b4⟩ := b2.2 (by omega)
  subst ea
  have hne1 : ¬ q = cb' := b1.ne b3 (by decide)
  have hne2 : ¬ cb' = q := fun h => hne1 h.symm
  have q2 : w1.cell? ⟨q, 2, none⟩ = some (.slice (some ⟨cb', 0, none⟩) (B.length + 1) cap') := by rw [← HCL.out]; exact b1.cell 2
  have hck : ∀ j, j < C.length → w1.cell? ⟨cb', j, none⟩ = some (.int .i64 (C.getD j 0)) := by
    intro j hj
    rw [b3.cell, List.getElem?_append_left (by simpa using hj)]
    simp [List.getD_eq_getElem?_getD, List.getElem?_eq_getElem hj]
  have q3 : w1.cell? ⟨cb', k, none⟩ = some (.int .i64 x) := by rw [hck k (by rw [HCL.out]; omega), HX.out]
  have q4 : w1.cell? ⟨cb', k + 1, none⟩ = some (.int .i64 y) := by rw [hck (k + 1) (by rw [HCL.out]; omega), HY.out]
  have fz := b3.frozen
  have lt1 := b1.lt
  have lt3 := b3.lt
  have hw1 : IntKind.i64.wrap ((k : Int) + 1) = (k : Int) + 1 := IntWalk.i64_in _ (by omega)
  have hw2 : IntKind.i64.wrap (x + y) = x + y := IntWalk.i64_in _ (by omega)
  have i1 : (0 : Int) ≤ (k : Int) + 1 := by omega
  have i2 : ((k : Int) + 1).toNat = k + 1 := by omega
  have i3 : (k : Int) < (B.length : Int) + 1 := by omega
  have i4 : (k : Int) + 1 < (B.length : Int) + 1 := by omega
  have HB1 : Hid (Bk w1 q 63 [.bool true, .slice (some ⟨bb', 0, none⟩) B.length cp', .slice (some ⟨cb', 0, none⟩) (B.length + 1) cap', .int .i64 C.sum]) := by rw [← HCL.out]; exact b1
  have HB2 := Lib.hid b2
  have HB3 := Lib.hid b3
  have HB4 := Lib.hid b4
  have hl3 := l3 (by omega)
  have HL := Lib.hid (And.intro l1 (And.intro l2 (And.intro hl3 (And.intro hcp2 hb))))
  have D1 : Hid (∀ W, Bk W cb' 2 ((C.set k (x + y)).map (Value.int .i64) ++ ex') → Calls Try.prog 51 #[.slice (some ⟨cb', 0, none⟩) (B.length + 1) cap', .int .i64 ((k : Int) + 1), .int .i64 ((k : Int) + 2)] W fun e w' => e = .returned (.slice (some ⟨cb', 0, none⟩) B.length cap') ∧ Bk w' cb' 2 ((coC C k).map (Value.int .i64) ++ (.int .i64 0 :: ex')) ∧ Mod cb' (cb' + 1) W w') := by
    intro W hB
    have := delete_at (w := W) (cap := cap') (k + 1) ((k : Int) + 1) ((k : Int) + 2) (by omega) (by omega) hB (by rw [List.length_set]; exact l2.2) (by rw [List.length_set, HCL.out]; omega) (by rw [List.length_set, HCL.out]; omega)
    rw [List.length_set, HCL.out] at this
    unfold coC
    rw [HX.out, HY.out]
    exact this
  have D2 : Hid (∀ W, Bk W bb' 2 (B.map (Value.int .i64) ++ ex2) → Calls Try.prog 51 #[.slice (some ⟨bb', 0, none⟩) B.length cp', .int .i64 k, .int .i64 ((k : Int) + 1)] W fun e w' => e = .returned (.slice (some ⟨bb', 0, none⟩) (B.length - 1) cp') ∧ Bk w' bb' 2 ((B.eraseIdx k).map (Value.int .i64) ++ (.int .i64 0 :: ex2)) ∧ Mod bb' (bb' + 1) W w') :=
    fun W hB => delete_at (w := W) (cap := cp') k k ((k : Int) + 1) rfl rfl hB hcp2 hk (by omega)
  have hbq : ¬ bb' = q := hl3.2.2
  have hbc : ¬ bb' = cb' := hl3.2.1
  clear hck b1 b2 b3 b4 hb l1 l2 l3 hcp2 c1 hl3
  go_wp2_with fail
  go_still_tail 17, (by kernel_rfl)
  repeat still_step
  go_wp2_with fail
  have hkC : k < C.length := by rw [HCL.out]; omega
  have E1 : Bk (w1.setCell ⟨cb', k, none⟩ (.int .i64 (x + y))).drew cb' 2 ((C.set k (x + y)).map (Value.int .i64) ++ ex') := by
    have := HB3.out.set k (.int .i64 (x + y))
    rw [List.set_append_left _ _ (by simpa using hkC)] at this
    rw [List.map_set]
    exact this.drew
  have E2 := Lib.hid (HB1.out.far (p := ⟨cb', k, none⟩) hne1 (.int .i64 (x + y))).drew
  have E3 := Lib.hid (HB4.out.far (p := ⟨cb', k, none⟩) hbc (.int .i64 (x + y))).drew
  have E4 : Hid (Below w.heap.size w (w1.setCell ⟨cb', k, none⟩ (.int .i64 (x + y))).drew) := (Below.setCell HL.out.2.2.2.2 (p := ⟨cb', k, none⟩) HL.out.2.1.1.1 _).drew
  refine (D1.out _ E1).mono ?_
  rintro e w2 ⟨rfl, F1, m1⟩
  have F2 := Lib.hid (E2.out.mod m1 (by omega))
  have F3 := Lib.hid (E3.out.mod m1 (by omega))
  have F4 := Mod.hb E4 m1 HL.out.2.1.1.1 E4.out.size
  have F1' := Lib.hid F1
  have f1 : w2.cell? ⟨q, 1, none⟩ = some (.slice (some ⟨bb', 0, none⟩) B.length cp') := F2.out.cell 1
  have f2 : w2.cell? ⟨q, 2, none⟩ = some (.slice (some ⟨cb', 0, none⟩) (B.length + 1) cap') := F2.out.cell 2
  have ff := F2.out.frozen
  have fl := F2.out.lt
  clear F1 m1 E1 E2 E3 E4 q2 q3 q4 fz lt1 lt3
  go_wp2_with fail
  have G1 := Lib.hid (F1'.out.far (p := ⟨q, 2, none⟩) hne2 (.slice (some ⟨cb', 0, none⟩) B.length cap'))
  have G2 := Lib.hid (F2.out.set 2 (.slice (some ⟨cb', 0, none⟩) B.length cap'))
  have G3 := F3.out.far (p := ⟨q, 2, none⟩) hbq (.slice (some ⟨cb', 0, none⟩) B.length cap')
  have G4 : Hid (Below w.heap.size w (w2.setCell ⟨q, 2, none⟩ (.slice (some ⟨cb', 0, none⟩) B.length cap'))) := Below.setCell F4.out HL.out.1.1 _
  refine (D2.out _ G3).mono ?_
  rintro e w3 ⟨rfl, H1, m2⟩
  have H2 := Lib.hid (G2.out.mod m2 (by omega))
  have H3 := Lib.hid (G1.out.mod m2 (by omega))
  have H4 := Mod.hb G4 m2 HL.out.2.2.1.1.1 G4.out.size
  have H1' := Lib.hid H1
  have h1 : w3.cell? ⟨q, 1, none⟩ = some (.slice (some ⟨bb', 0, none⟩) B.length cp') := H2.out.cell 1
  have hf := H2.out.frozen
  have hl := H2.out.lt
  clear H1 m2 G1 G2 G3 G4 f1 f2 ff fl F1' F2 F3 F4
  go_wp2
  go_ret2
  have hlB : (B.eraseIdx k).length = B.length - 1 := by rw [List.length_eraseIdx, if_pos hk]
  have hlC : (coC C k).length = B.length := by rw [coC_len (by rw [HCL.out]; omega), HCL.out]; omega
  obtain ⟨l1, l2, l3, hcp2, -⟩ := HL.out
  have K1 := H2.out.set 1 (.slice (some ⟨bb', 0, none⟩) (B.length - 1) cp')
  have K2 := H1'.out.far (p := ⟨q, 1, none⟩) hbq (.slice (some ⟨bb', 0, none⟩) (B.length - 1) cp')
  have K3 := H3.out.far (p := ⟨q, 1, none⟩) hne2 (.slice (some ⟨bb', 0, none⟩) (B.length - 1) cp')
  have rng : ∀ z ∈ B.eraseIdx k, In64 z := fun z hz => HG.out.rng z (List.mem_of_mem_eraseIdx hz)
  refine ⟨_, rfl, ⟨fine_co HG.out hk, q, rfl, cb', bb', some ⟨bb', 0, none⟩, cp', cap', _, ⟨l1.1, K1.lt⟩, ⟨⟨l2.1.1, K3.lt⟩, ?_⟩, fun _ => ⟨⟨l3.1.1, K2.lt⟩, l3.2⟩, ?_, ⟨?_, fun _ => ⟨rfl, _, ?_, K2⟩⟩, K3⟩, ?_⟩
  · rw [hlC, l2.2, HCL.out, List.length_cons]; omega
  · rw [coC_sum (by rw [HCL.out]; omega), hlB, hlC]
    exact K1
  · have := Ints.of_bk (c := cp') K2 rng
    exact this
  · rw [hlB, hcp2, List.length_cons]; omega
  · exact Below.setCell H4.out l1.1 _
theorem coarse_str {w : World} {lo hi : Nat} {v : Value} {o : St} (h : PHo w lo hi v o) (b : Int) (hb : In64 b) : Calls Try.prog 29 #[v, .int .i64 b] w (GivesHn w (coS o b) (coE o b)) := by
  have b1 := hb.1
  have b2 := hb.2
  rcases o with _ | ⟨B, C⟩
  · have HV := Lib.hid (valid_no h)
    have FIN := Lib.hid (show GivesHn w (coS none b) (coE none b) (.returned (.tuple #[.pointer none, .int .i64 1])) w from ⟨GivesH.no (Below.refl _ _), fun _ => rfl⟩)
    clear h
    go_enter Try.func29, Try.ntmps29
    go_wp2_with fail
    refine HV.out.mono ?_
    rintro e w' ⟨rfl, rfl⟩
    go_wp2
    go_ret2
    exact FIN.out
  · obtain ⟨g, p, rfl, hp⟩ := h
    by_cases hr : b < 0 ∨ (B.length : Int) ≤ b
    · have FIN : Hid (GivesHn w (coS (some (B, C)) b) (coE (some (B, C)) b) (.returned (.tuple #[.pointer none, .int .i64 3])) w) := by
        simp only [coS, coE, if_pos hr]
        exact ⟨GivesH.no (Below.refl _ _), fun _ => rfl⟩
      obtain ⟨cb, bb, a, cp, cap, ex, l1, l2, l3, b1, b2, b3⟩ := hp
      have HV := Lib.hid (valid_yes p w (b1.cell 0))
      have c1 : w.cell? ⟨p, 1, none⟩ = some (.slice a B.length cp) := b1.cell 1
      have hsz := g.size
      clear b1 b2 b3 l1 l2 l3 g
      by_cases h0 : b < 0
      · clear hr
        go_enter Try.func29, Try.ntmps29
        go_wp2_with fail
        refine HV.out.mono ?_
        rintro e w' ⟨rfl, rfl⟩
        go_wp2
        go_ret2
        exact FIN.out
      · have h1 : (B.length : Int) ≤ b := by omega
        clear hr
        go_enter Try.func29, Try.ntmps29
        go_wp2_with fail
        refine HV.out.mono ?_
        rintro e w' ⟨rfl, rfl⟩
        go_wp2
        go_ret2
        exact FIN.out
    · obtain ⟨k, rfl⟩ := Int.eq_ofNat_of_zero_le (show 0 ≤ b by omega)
      simp only [coS, coE, if_neg hr, Int.toNat_natCast]
      exact (coarse_fits g hp (by omega)).mono fun _ _ h => ⟨h, fun e => by cases e⟩

theorem coarse_any {w : World} {lo hi : Nat} {v : Value} {o : St} (h : PHo w lo hi v o) (b : Int) (hb : In64 b) : Calls Try.prog 29 #[v, .int .i64 b] w (GivesH w (coS o b) (coE o b)) := (coarse_str h b hb).mono fun _ _ h => h.1
end Go.Proofs.Ytpfdoifkimjlbaa
