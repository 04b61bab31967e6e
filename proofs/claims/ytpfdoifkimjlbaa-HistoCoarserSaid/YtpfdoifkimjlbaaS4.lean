/- THE CONTRACT of the document's Coarse. -/
import Derived.Test.YtpfdoifkimjlbaaS3
import Derived.Maps.AppendAt
import Derived.Deep.AppendLies
import Derived.Deep.RegionLaw
set_option linter.unusedVariables false
set_option linter.unusedSimpArgs false
namespace Go.Proofs.Ytpfdoifkimjlbaa
open Go.RowKit H M

namespace H
/-- The first k bounds without the one at b. -/
def cut (l : List Int) (b k : Nat) : List Int := (l.take k).eraseIdx b
theorem cut_skip (l : List Int) (b : Nat) (h : b < l.length) : cut l b (b + 1) = cut l b b := by
  unfold cut
  rw [List.eraseIdx_of_length_le (l := l.take b) (by simp; omega), List.take_succ_eq_append_getElem h, List.eraseIdx_append_of_length_le (by simp; omega)]
  simp [List.length_take, Nat.min_eq_left (Nat.le_of_lt h)]
theorem cut_more (l : List Int) (b k : Nat) (h : k < l.length) (hne : k ≠ b) : cut l b (k + 1) = cut l b k ++ [l.getD k 0] := by
  unfold cut
  rw [List.take_succ_eq_append_getElem h, List.getD_eq_getElem?_getD, List.getElem?_eq_getElem h]
  rcases Nat.lt_or_ge b k with h1 | h1
  · rw [List.eraseIdx_append_of_lt_length (by simp; omega)]; rfl
  · rw [List.eraseIdx_of_length_le (by simp; omega), List.eraseIdx_of_length_le (by simp; omega)]; rfl
theorem cut_len (l : List Int) (b k : Nat) (h : k ≤ l.length) : (cut l b k).length ≤ k := by
  unfold cut
  have := List.length_eraseIdx_le (l.take k) b
  rw [List.length_take] at this; omega
theorem cut_all (l : List Int) (b : Nat) : cut l b l.length = l.eraseIdx b := by unfold cut; rw [List.take_length]
/-- The counts collected after j of them. -/
def col (C : List Int) (k j : Nat) : List Int := if j ≤ k + 1 then C.take j else cut (C.set k (C.getD k 0 + C.getD (k + 1) 0)) (k + 1) j
theorem col_lo (C : List Int) (k j : Nat) (h : j ≤ k) (hj : j < C.length) : col C k (j + 1) = col C k j ++ [C.getD j 0] := by
  unfold col
  rw [if_pos (by omega), if_pos (by omega), List.take_succ_eq_append_getElem hj, List.getD_eq_getElem?_getD, List.getElem?_eq_getElem hj]; rfl
theorem col_mid (C : List Int) (k : Nat) (h : k + 1 < C.length) : col C k (k + 1 + 1) = (col C k (k + 1)).set k (C.getD k 0 + C.getD (k + 1) 0) := by
  unfold col
  rw [if_neg (by omega), if_pos (by omega), cut_skip _ _ (by simpa using h)]
  unfold cut
  rw [List.eraseIdx_of_length_le (by simp; omega), List.take_set]
theorem col_hi (C : List Int) (k j : Nat) (h : k + 1 < j) (hj : j < C.length) : col C k (j + 1) = col C k j ++ [C.getD j 0] := by
  unfold col
  rw [if_neg (by omega), if_neg (by omega), cut_more _ _ _ (by simpa using hj) (by omega), getD_set_ne (by omega)]
theorem col_all (C : List Int) (k : Nat) (h : k + 1 < C.length) : col C k C.length = coC C k := by
  unfold col coC
  rw [if_neg (by omega), ← cut_all, List.length_set]
theorem col_mem {C : List Int} {k j : Nat} (h : ∀ x ∈ C, In64 x) (hs : In64 (C.getD k 0 + C.getD (k + 1) 0)) : ∀ x ∈ col C k j, In64 x := by
  intro x hx
  unfold col at hx
  split at hx
  · exact h x (List.mem_of_mem_take hx)
  · have hx := List.mem_of_mem_take (List.mem_of_mem_eraseIdx hx)
    rcases List.mem_or_eq_of_mem_set hx with hx | rfl
    · exact h x hx
    · exact hs
end H

theorem Mod.then_below {lo hi : Nat} {a b c : World} (h : Mod lo hi a b) (k : Below a.heap.size b c) : Mod lo hi a c :=
  ⟨k.os.trans h.os, k.tape.trans h.tape, k.output.trans h.output, Nat.le_trans h.size k.size, fun i hi ho => (k.block i hi).trans (h.block i hi ho)⟩
theorem own_slice {w : World} {base n : Nat} {v : Value} {xs : List Value} (h : w.ownsRow base 2 1 v n xs) : ∃ a c, v = .slice a n c := by
  rcases h.2 with ⟨rfl, rfl⟩ | ⟨g, cap, cur, rfl, -⟩
  · exact ⟨none, 0, rfl⟩
  · exact ⟨_, cap, rfl⟩
theorem one_news {w : World} {g : Nat} {x : Int} (h : Bk w g 2 [.int .i64 x]) : ∀ j u, ([.int .i64 x] : List Value)[j]? = some u → w.cell? ((⟨g, 0, none⟩ : Addr).add j) = some u := by
  intro j u hu
  have := World.news_of_block (w := w) (B := g) (cs := #[.int .i64 x]) h j u (by simpa using hu)
  exact this

set_option maxHeartbeats 4000000 in
set_option maxRecDepth 100000 in
theorem rcoarse_fits {w : World} {lo hi p : Nat} {B C : List Int} {k : Nat} (g : Fine B C) (hp : RH w lo hi p B C) (hk : k < B.length) :
    Calls Try.prog 30 #[.pointer (some ⟨p, 0, none⟩), .int .i64 k] w (GivesR w (some (B.eraseIdx k, coC C k)) 0) := by
  obtain ⟨cb, bb, a, cp, cap, ex, l1, l2, l3, b1, b2, b3⟩ := hp
  have HV := Lib.hid (rvalid_yes p w (b1.cell 0))
  have c1 : w.cell? ⟨p, 1, none⟩ = some (.slice a B.length cp) := b1.cell 1
  have c2 : w.cell? ⟨p, 2, none⟩ = some (.slice (some ⟨cb, 0, none⟩) C.length cap) := b1.cell 2
  have lt1 := b1.lt
  have hsz := g.size
  have hcl : C.length = B.length + 1 := g.len
  have HCL := Lib.hid hcl
  have hC1 : C.length ≤ 1025 := by omega
  have HG := Lib.hid g
  have k0 : (0 : Int) ≤ k := by omega
  have k1 : (k : Int) < B.length := by omega
  have HB1 := Lib.hid b1
  have HB2 := Lib.hid b2
  have HB3 := Lib.hid b3
  clear b1 b2 b3 l1 l2 l3 g hcl
  have kf : decide (B.length ≤ k) = false := by simp; omega
  have kf2 : decide ((k : Int) < 0) = false := by simp
  go_enter Try.func30, Try.ntmps30
  go_wp2_with fail
  refine HV.out.mono ?_
  rintro e w' ⟨rfl, rfl⟩
  go_wp2_with fail
  go_loopw [7] (fun i wr => ∃ (j n : Nat) (v : Value), i = .int .i64 j ∧ j ≤ B.length ∧ Hid (Bk wr w.heap.size 71 [.bool true, v, .slice none 0 0]) ∧ Hid (wr.ownsRow (w.heap.size + 1) 2 1 v n ((cut B k j).map (Value.int .i64))) ∧ Hid (Below w.heap.size w wr)) (fun i _ => B.length - (intOf i).toNat)
  case atStart => exact ⟨0, 0, .slice none 0 0, rfl, Nat.zero_le _, Bk.new' rfl, World.ownsRow_nil _ _ _ _, (Below.refl _ _).alloc (Nat.le_refl _) _⟩
  case round =>
    obtain ⟨j, n, v, rfl, hj, Q1, Q2, Q3⟩ := hrel
    have wlt := Q1.out.lt
    have d1 : wr.cell? ⟨p, 1, none⟩ = some (.slice a B.length cp) := (Q3.out.cell (p := ⟨p, 1, none⟩) lt1).trans c1
    by_cases hlt : j < B.length
    · by_cases hjk : j = k
      · subst hjk
        have hjb : ((j : Int) != (j : Int)) = false := by simp
        rw [← cut_skip B j hlt] at Q2
        go_wp2
        go_roundw
        case rel => exact ⟨j + 1, n, v, by go_num, by omega, Q1, Q2, Q3⟩
        case measure => simp [intOf]; omega
      · have hjb : ((j : Int) != (k : Int)) = true := by simp; omega
        obtain ⟨a', c', rfl⟩ := own_slice Q2.out
        obtain ⟨off, ha, hc⟩ := (HB2.out.below Q3.out).1.2.2.2 (by omega)
        have hcj := hc j hlt
        have q1 : wr.cell? ⟨w.heap.size, 1, none⟩ = some (.slice a' n c') := Q1.out.cell 1
        have fq : wr.frozen? ⟨w.heap.size, 1, none⟩ = false := Q1.out.frozen 1
        have i0 : (0 : Int) ≤ j := by omega
        have i1 : (j : Int) < B.length := by omega
        have CM := Lib.hid (cut_more B k j hlt hjk)
        have CN := cut_len B k j hj
        have hnl : (cut B k j).length = n := by have := Q2.out.1; simpa using this
        obtain ⟨x, hx⟩ : ∃ x, B.getD j 0 = x := ⟨_, rfl⟩
        rw [hx] at hcj CM
        have hbb : bb < w.heap.size := (HB2.out.lt (by omega))
        have OWN : Hid (∀ o, (wr.alloc o).ownsRow (w.heap.size + 1) 2 1 (.slice a' n c') n ((cut B k j).map (Value.int .i64))) := fun o => World.ownsRow.alloc Q2.out o
        have NEWS : Hid (∀ j u, ([.int .i64 x] : List Value)[j]? = some u → (wr.alloc (.cells #[.int .i64 x] 2)).cell? ((⟨wr.heap.size, 0, none⟩ : Addr).add j) = some u) := one_news (Bk.new wr 2 [.int .i64 x])
        have ONE : Hid (∀ u ∈ ([.int .i64 x] : List Value), u.oneCell' = true) := by intro u hu; simp at hu; subst hu; rfl
        have NB : Hid (∀ b0, b0 < w.heap.size + 1 → some b0 ≠ (Value.slice a' n c').ownBlock) := fun b0 hb0 e => by have := (Q2.out.lt b0 e.symm).1; omega
        have n1 : n + 1 ≤ 2000 := by omega
        have n2 : Hid (n + 1 ≤ maxLen) := by unfold maxLen; show _ ≤ _; omega
        obtain ⟨i0', hi0, hz0, hz1, hz2⟩ := info_parts info2
        subst ha
        clear hc hx
        go_wp2_with fail
        go_region_law ((refine step_append_lies _ (by rfl) (.tmp 41) (.tmp 49) 22 (by rfl) (w.heap.size + 1) 2 i0' (.int .i64 0) 1 8 Try.underlying22 hi0 hz0 hz1 hz2 rfl (by decide) (.slice a' n c') n ((cut B k j).map (Value.int .i64)) (by simp [Act.eval, Act.put]) (OWN.out _) ⟨wr.heap.size, 0, none⟩ 1 1 [.int .i64 x] (by simp [Act.eval, Act.put]) rfl NEWS.out ONE.out (by decide) n2.out (by omega) (by simp; omega) (wr.heap.size + 1) (by simp) ?_; intro g cap w1 hown hgrow hat hlt1; have hc1 : ∀ b0 o, b0 < w.heap.size + 1 → w1.cell? ⟨b0, o, none⟩ = wr.cell? ⟨b0, o, none⟩ := fun b0 o hb0 => ((hgrow.cell_far ⟨b0, o, none⟩ (by simp; omega) (NB.out b0 hb0)).trans (Below.cell (B := wr.heap.size) ((Below.refl _ _).alloc (Nat.le_refl _) _) (p := ⟨b0, o, none⟩) (by dsimp only; omega))); have fq : w1.frozen? ⟨w.heap.size, 1, none⟩ = false := (hgrow.frozen_far ⟨w.heap.size, 1, none⟩ (by simp; omega) (NB.out w.heap.size (by omega))).trans ((Below.frozen (B := wr.heap.size) ((Below.refl _ _).alloc (Nat.le_refl _) _) (p := ⟨w.heap.size, 1, none⟩) (by dsimp only; omega)).trans fq); have wlt1 : w.heap.size < w1.heap.size := Nat.lt_of_lt_of_le wlt (Nat.le_trans (by simp) hgrow.size); have q1 := (hc1 w.heap.size 1 (by omega)).trans q1; have d1 := (hc1 p 1 (by omega)).trans d1; have hcj := (hc1 bb (off + j) (by omega)).trans hcj))
        all_goals
          have hb1 : Below (w.heap.size + 1) wr w1 := by
            refine ⟨hgrow.os, hgrow.tape, hgrow.output, Nat.le_trans (by simp) hgrow.size, fun b0 hb0 => ?_⟩
            exact (hgrow.block b0 (by first | omega | (simp; omega)) (NB.out b0 hb0)).trans (Below.heap_alloc _ _ _ (by omega))
          have R1 := Lib.hid ((Bk.below' Q1.out hb1 (Nat.lt_succ_self _)).set 1 (.slice (some ⟨g, 0, none⟩) (n + 1) cap))
          have R2 : Hid ((w1.setCell ⟨w.heap.size, 1, none⟩ (.slice (some ⟨g, 0, none⟩) (n + 1) cap)).ownsRow (w.heap.size + 1) 2 1 (.slice (some ⟨g, 0, none⟩) (n + 1) cap) (n + 1) ((cut B k (j + 1)).map (Value.int .i64))) := by
            rw [CM.out, List.map_append]
            exact ownsRow_setCell_below hown (Nat.lt_succ_self _) _
          have R3 : Hid (Below w.heap.size w (w1.setCell ⟨w.heap.size, 1, none⟩ (.slice (some ⟨g, 0, none⟩) (n + 1) cap))) := (Q3.out.trans (hb1.mono (by omega))).setCell (Nat.le_refl _) _
          clear hown hgrow hat hlt1 hb1 Q1 Q2 Q3 q1 d1 hcj hc1 fq wlt1 CM NB OWN NEWS ONE CN hnl
          go_wp2
          go_roundw
        all_goals first | (simp [intOf]; omega) | exact ⟨j + 1, n + 1, _, by go_num, by omega, R1, R2, R3⟩ | ((repeat apply Exists.intro); exact ⟨⟨j + 1, n + 1, _, by go_num, by omega, R1, R2, R3⟩, rfl⟩)
    · obtain rfl : j = B.length := by omega
      rw [cut_all] at Q2
      obtain ⟨a', c', rfl⟩ := own_slice Q2.out
      have hnB : (B.eraseIdx k).length = n := by have := Q2.out.1; simpa using this
      obtain ⟨wL, hwL⟩ : ∃ wL, wL = wr := ⟨_, rfl⟩
      subst hwL
      have HnB := Lib.hid hnB
      have hMq : w.heap.size < wL.heap.size := wlt
      clear hlt hj hnB
      go_wp2_with fail
      clear d1
      go_loopw [8] (fun i wr => ∃ (j n' : Nat) (v : Value), i = .int .i64 j ∧ j ≤ C.length ∧ Hid (Bk wr w.heap.size 71 [.bool true, .slice a' n c', v]) ∧ Hid (wr.ownsRow wL.heap.size 2 1 v n' ((col C k j).map (Value.int .i64))) ∧ Hid (Mod w.heap.size (w.heap.size + 1) wL wr)) (fun i _ => C.length - (intOf i).toNat)
      case atStart => exact ⟨0, 0, .slice none 0 0, rfl, Nat.zero_le _, Q1, World.ownsRow_nil _ _ _ _, Mod.refl _ _ _⟩
      case round =>
        have QB1 := Q1
        have QB2 := Q2
        have QB3 := Q3
        clear Q1 Q2 Q3
        obtain ⟨j, n2, v, rfl, hj, Q1, Q2, Q3⟩ := hrel
        have wlt := Q1.out.lt
        have hcbl : cb < w.heap.size := HB3.out.lt
        have WLR : Hid (∀ b0 o, b0 < w.heap.size → wr.cell? ⟨b0, o, none⟩ = w.cell? ⟨b0, o, none⟩) := fun b0 o hb0 => (World.cell?_of_block (w := wL) (a := ⟨b0, o, none⟩) (Q3.out.block b0 (by omega) (.inl hb0))).trans (QB3.out.cell (p := ⟨b0, o, none⟩) hb0)
        have d1 : wr.cell? ⟨p, 2, none⟩ = some (.slice (some ⟨cb, 0, none⟩) C.length cap) := (WLR.out p 2 lt1).trans c2
        have HCc : Hid (∀ i, i < C.length → wr.cell? ⟨cb, i, none⟩ = some (.int .i64 (C.getD i 0))) := by
          intro i hi
          rw [WLR.out cb i hcbl, HB3.out.cell, List.getElem?_append_left (by simpa using hi)]
          simp [List.getD_eq_getElem?_getD, List.getElem?_eq_getElem hi]
        have hgr := Q3.out.size
        by_cases hlt : j < C.length
        · have hcj := HCc.out j hlt
          have i0 : (0 : Int) ≤ j := by omega
          have i1 : (j : Int) < C.length := by omega
          have hnl : (col C k j).length = n2 := by have := Q2.out.1; simpa using this
          have HR := Lib.hid Q2.out
          by_cases hjk : j = k + 1
          · have hjb : ((j : Int) == (k : Int) + 1) = true := by simp; omega
            have HJK := Lib.hid hjk
            have hn2 : n2 = k + 1 := by
              rw [← hnl, hjk]; unfold col; rw [if_pos (Nat.le_refl _), List.length_take]; omega
            obtain ⟨g, cv, rfl, hbg, hlg⟩ := Q2.out.form (by omega)
            have q1 : wr.cell? ⟨w.heap.size, 2, none⟩ = some (.slice (some ⟨g, 0, none⟩) n2 cv) := Q1.out.cell 2
            have hgk : wr.cell? ⟨g, k, none⟩ = some (.int .i64 (C.getD k 0)) := by
              rw [Q2.out.cellAt k (by omega), hjk]
              unfold col
              rw [if_pos (Nat.le_refl _), List.getElem?_map, List.getElem?_take, if_pos (by omega), List.getElem?_eq_getElem (by omega), List.getD_eq_getElem?_getD, List.getElem?_eq_getElem (by omega)]
              rfl
            have fg : wr.frozen? ⟨g, k, none⟩ = false := Q2.out.frozenAt k
            have CM : Hid (col C k (j + 1) = (col C k j).set k (C.getD k 0 + C.getD j 0)) := by
              show _ = _
              rw [hjk]; exact col_mid C k (by rw [HCL.out]; omega)
            have bs : 0 ≤ C.getD k 0 ∧ 0 ≤ C.getD j 0 ∧ C.getD k 0 + C.getD j 0 ≤ 9223372036854775807 := by
              have e1 := H.sum_take C k (by omega)
              have e2 := H.sum_take C (k + 1) (by omega)
              have e3 := H.sum_take_le HG.out.pos (k + 1 + 1)
              have e4 := H.sum_take_le HG.out.pos k
              have e5 := HG.out.sum
              have e6 := getD_nonneg HG.out.pos k
              have e7 := getD_nonneg HG.out.pos (k + 1)
              rw [hjk]; omega
            obtain ⟨x, hx⟩ : ∃ x, C.getD k 0 = x := ⟨_, rfl⟩
            obtain ⟨y, hy⟩ : ∃ y, C.getD j 0 = y := ⟨_, rfl⟩
            rw [hx] at hgk CM bs
            rw [hy] at hcj CM bs
            have kn : (k : Int) < n2 := by omega
            have hw2 : IntKind.i64.wrap (x + y) = x + y := IntWalk.i64_in _ (by omega)
            have hgq : ¬ g = w.heap.size := by omega
            have R1 := Lib.hid (Q1.out.far (p := ⟨g, k, none⟩) (by dsimp only; omega) (.int .i64 (x + y)))
            have R2 : Hid ((wr.setCell ⟨g, k, none⟩ (.int .i64 (x + y))).ownsRow wL.heap.size 2 1 (.slice (some ⟨g, 0, none⟩) n2 cv) n2 ((col C k (j + 1)).map (Value.int .i64))) := by
              rw [CM.out, List.map_set]
              exact (Q2.out.stored k (.int .i64 (x + y))).1
            have R3 : Hid (Mod w.heap.size (w.heap.size + 1) wL (wr.setCell ⟨g, k, none⟩ (.int .i64 (x + y)))) := Q3.out.set (.inr hbg) _
            clear hx hy CM Q1 Q2 Q3 HR hnl hjk hn2 HCc WLR
            go_wp2_with fail
            go_still_tail 16, (by kernel_rfl)
            repeat still_step
            clear hw2
            go_wp2
            go_roundw
            case rel => first | exact ⟨j + 1, n2, _, by go_num, by omega, R1.out.drew, R2, R3.out.drew⟩ | ((repeat apply Exists.intro); exact ⟨⟨j + 1, n2, _, by go_num, by omega, R1.out.drew, R2, R3.out.drew⟩, rfl⟩)
            case measure => simp [intOf]; omega
          · have hjb : ((j : Int) == (k : Int) + 1) = false := by simp; omega
            obtain ⟨av, cv, rfl⟩ := own_slice Q2.out
            have q1 : wr.cell? ⟨w.heap.size, 2, none⟩ = some (.slice av n2 cv) := Q1.out.cell 2
            have fq : wr.frozen? ⟨w.heap.size, 2, none⟩ = false := Q1.out.frozen 2
            have CM : Hid (col C k (j + 1) = col C k j ++ [C.getD j 0]) := by
              rcases Nat.lt_or_ge k j with h | h
              · exact col_hi C k j (by omega) hlt
              · exact col_lo C k j h hlt
            have CN : n2 ≤ 1100 := by
              rw [← hnl]; unfold col
              split
              · rw [List.length_take]; omega
              · have := cut_len (C.set k (C.getD k 0 + C.getD (k + 1) 0)) (k + 1) j (by rw [List.length_set]; omega); omega
            obtain ⟨x, hx⟩ : ∃ x, C.getD j 0 = x := ⟨_, rfl⟩
            rw [hx] at hcj CM
            have OWN : Hid (∀ o, (wr.alloc o).ownsRow wL.heap.size 2 1 (.slice av n2 cv) n2 ((col C k j).map (Value.int .i64))) := fun o => World.ownsRow.alloc Q2.out o
            have NEWS : Hid (∀ j u, ([.int .i64 x] : List Value)[j]? = some u → (wr.alloc (.cells #[.int .i64 x] 2)).cell? ((⟨wr.heap.size, 0, none⟩ : Addr).add j) = some u) := one_news (Bk.new wr 2 [.int .i64 x])
            have ONE : Hid (∀ u ∈ ([.int .i64 x] : List Value), u.oneCell' = true) := by intro u hu; simp at hu; subst hu; rfl
            have NB : Hid (∀ b0, b0 < wL.heap.size → some b0 ≠ (Value.slice av n2 cv).ownBlock) := fun b0 hb0 e => by have := (Q2.out.lt b0 e.symm).1; omega
            have n3 : n2 + 1 ≤ 2000 := by omega
            have n2' : Hid (n2 + 1 ≤ maxLen) := by unfold maxLen; show _ ≤ _; omega
            obtain ⟨i0', hi0, hz0, hz1, hz2⟩ := info_parts info2
            clear hx HR HCc WLR
            go_wp2_with fail
            go_region_law ((refine step_append_lies _ (by rfl) (.tmp 86) (.tmp 94) 22 (by rfl) wL.heap.size 2 i0' (.int .i64 0) 1 8 Try.underlying22 hi0 hz0 hz1 hz2 rfl (by decide) (.slice av n2 cv) n2 ((col C k j).map (Value.int .i64)) (by simp [Act.eval, Act.put]) (OWN.out _) ⟨wr.heap.size, 0, none⟩ 1 1 [.int .i64 x] (by simp [Act.eval, Act.put]) rfl NEWS.out ONE.out (by decide) n2'.out (by omega) (by simp; omega) (wr.heap.size + 1) (by simp) ?_; intro g cap w1 hown hgrow hat hlt1; have hc1 : ∀ b0 o, b0 < wL.heap.size → w1.cell? ⟨b0, o, none⟩ = wr.cell? ⟨b0, o, none⟩ := fun b0 o hb0 => ((hgrow.cell_far ⟨b0, o, none⟩ (by simp; omega) (NB.out b0 hb0)).trans (Below.cell (B := wr.heap.size) ((Below.refl _ _).alloc (Nat.le_refl _) _) (p := ⟨b0, o, none⟩) (by dsimp only; omega))); have fq : w1.frozen? ⟨w.heap.size, 2, none⟩ = false := (hgrow.frozen_far ⟨w.heap.size, 2, none⟩ (by simp; omega) (NB.out w.heap.size (by omega))).trans ((Below.frozen (B := wr.heap.size) ((Below.refl _ _).alloc (Nat.le_refl _) _) (p := ⟨w.heap.size, 2, none⟩) (by dsimp only; omega)).trans fq); have wlt1 : w.heap.size < w1.heap.size := Nat.lt_of_lt_of_le wlt (Nat.le_trans (by simp) hgrow.size); have q1 := (hc1 w.heap.size 2 (by omega)).trans q1; have d1 := (hc1 p 2 (by omega)).trans d1; have hcj := (hc1 cb j (by omega)).trans hcj))
            all_goals
              have hb1 : Below wL.heap.size wr w1 := by
                refine ⟨hgrow.os, hgrow.tape, hgrow.output, Nat.le_trans (by simp) hgrow.size, fun b0 hb0 => ?_⟩
                exact (hgrow.block b0 (by first | omega | (simp; omega)) (NB.out b0 hb0)).trans (Below.heap_alloc _ _ _ (by omega))
              have R1 := Lib.hid ((Bk.below' Q1.out hb1 (by omega)).set 2 (.slice (some ⟨g, 0, none⟩) (n2 + 1) cap))
              have R2 : Hid ((w1.setCell ⟨w.heap.size, 2, none⟩ (.slice (some ⟨g, 0, none⟩) (n2 + 1) cap)).ownsRow wL.heap.size 2 1 (.slice (some ⟨g, 0, none⟩) (n2 + 1) cap) (n2 + 1) ((col C k (j + 1)).map (Value.int .i64))) := by
                rw [CM.out, List.map_append]
                exact ownsRow_setCell_below hown (by dsimp only; omega) _
              have R3 : Hid (Mod w.heap.size (w.heap.size + 1) wL (w1.setCell ⟨w.heap.size, 2, none⟩ (.slice (some ⟨g, 0, none⟩) (n2 + 1) cap))) := (Q3.out.then_below hb1).set (.inl ⟨Nat.le_refl _, Nat.lt_succ_self _⟩) _
              clear hown hgrow hat hlt1 hb1 Q1 Q2 Q3 q1 d1 hcj hc1 fq wlt1 CM NB OWN NEWS ONE hnl
              go_wp2
              go_roundw
            all_goals first | (simp [intOf]; omega) | exact ⟨j + 1, n2 + 1, _, by go_num, by omega, R1, R2, R3⟩ | ((repeat apply Exists.intro); exact ⟨⟨j + 1, n2 + 1, _, by go_num, by omega, R1, R2, R3⟩, rfl⟩)
        · obtain rfl : j = C.length := by omega
          rw [col_all C k (by rw [HCL.out]; omega)] at Q2
          have rngB : ∀ z ∈ B.eraseIdx k, In64 z := fun z hz => HG.out.rng z (List.mem_of_mem_eraseIdx hz)
          have fc := fine_co HG.out hk
          obtain ⟨b4, a4, c4, e4, i4, g4⟩ := Ints.of_own QB2.out rngB
          obtain ⟨b5, a5, c5, e5, i5, g5⟩ := Ints.of_own Q2.out fc.crng
          subst e5
          have hlC : (coC C k).length = B.length := by rw [coC_len (by rw [HCL.out]; omega), HCL.out]; omega
          have h5 := i5.1
          have hlB : (B.eraseIdx k).length = n := HnB.out
          have hlB2 : (B.eraseIdx k).length = B.length - 1 := by rw [List.length_eraseIdx, if_pos hk]
          obtain ⟨h6, rfl, ex5, hc5, b5k⟩ := g5 (by rw [← h5, hlC]; omega)
          have ee : a' = a4 ∧ c' = c4 := by injection e4 with h1 h2 h3; exact ⟨h1, h3⟩
          obtain ⟨rfl, rfl⟩ := ee
          have FIN : Hid (GivesR w (some (B.eraseIdx k, coC C k)) 0 (.returned (.tuple #[.pointer (some ⟨w.heap.size, 0, none⟩), .int .i64 0])) wr) := by
            have hb4 : 0 < n → w.heap.size + 1 ≤ b4 ∧ b4 < wL.heap.size := fun h => ⟨(g4 h).1, i4.lt h⟩
            have rowB : Row wr 2 b4 a' n c' (B.eraseIdx k) := Row.mod (t := 2) ⟨i4, fun h => (g4 h).2⟩ Q3.out (fun h => .inr (hb4 h).1)
            refine ⟨_, rfl, ⟨fc, _, rfl, b5, b4, a', c', c5, ex5, ⟨Nat.le_refl _, wlt⟩, ⟨⟨by omega, b5k.lt⟩, by rw [hlC, ← h5, hlC] at *; omega⟩, fun h => ?_, ?_, ?_, b5k⟩, ?_⟩
            · rw [hlB] at h
              have := hb4 h
              have := rowB.lt h
              exact ⟨⟨by omega, this⟩, by omega, by omega⟩
            · rw [hlB, h5]; exact Q1.out
            · rw [hlB]; exact rowB
            · exact Mod.below QB3.out Q3.out (Nat.le_refl _) (by omega)
          clear Q1 Q2 Q3 QB1 QB2 QB3 HCc WLR
          go_wp2
          go_ret2
          exact FIN.out
theorem GivesR.no {w W : World} {n : Int} (h : Below w.heap.size w W) : GivesR w none n (.returned (.tuple #[.pointer none, .int .i64 n])) W := ⟨_, rfl, .inl rfl, h⟩
theorem rcoarse_str {w : World} {lo hi : Nat} {v : Value} {o : St} (h : RHo w lo hi v o) (b : Int) (hb : In64 b) : Calls Try.prog 30 #[v, .int .i64 b] w (GivesRn w (coS o b) (coE o b)) := by
  have b1 := hb.1
  have b2 := hb.2
  rcases o with _ | ⟨B, C⟩
  · have HV := Lib.hid (rvalid_no h)
    have FIN := Lib.hid (show GivesRn w (coS none b) (coE none b) (.returned (.tuple #[.pointer none, .int .i64 1])) w from ⟨GivesR.no (Below.refl _ _), fun _ => rfl⟩)
    clear h
    go_enter Try.func30, Try.ntmps30
    go_wp2_with fail
    refine HV.out.mono ?_
    rintro e w' ⟨rfl, rfl⟩
    go_wp2
    go_ret2
    exact FIN.out
  · obtain ⟨g, p, rfl, hp⟩ := h
    by_cases hr : b < 0 ∨ (B.length : Int) ≤ b
    · have FIN : Hid (GivesRn w (coS (some (B, C)) b) (coE (some (B, C)) b) (.returned (.tuple #[.pointer none, .int .i64 3])) w) := by
        simp only [coS, coE, if_pos hr]
        exact ⟨GivesR.no (Below.refl _ _), fun _ => rfl⟩
      obtain ⟨cb, bb, a, cp, cap, ex, l1, l2, l3, b1, b2, b3⟩ := hp
      have HV := Lib.hid (rvalid_yes p w (b1.cell 0))
      have c1 : w.cell? ⟨p, 1, none⟩ = some (.slice a B.length cp) := b1.cell 1
      have hsz := g.size
      clear b1 b2 b3 l1 l2 l3 g
      by_cases h0 : b < 0
      · clear hr
        go_enter Try.func30, Try.ntmps30
        go_wp2_with fail
        refine HV.out.mono ?_
        rintro e w' ⟨rfl, rfl⟩
        go_wp2
        go_ret2
        exact FIN.out
      · have h1 : (B.length : Int) ≤ b := by omega
        clear hr
        go_enter Try.func30, Try.ntmps30
        go_wp2_with fail
        refine HV.out.mono ?_
        rintro e w' ⟨rfl, rfl⟩
        go_wp2
        go_ret2
        exact FIN.out
    · obtain ⟨k, rfl⟩ := Int.eq_ofNat_of_zero_le (show 0 ≤ b by omega)
      simp only [coS, coE, if_neg hr, Int.toNat_natCast]
      exact (rcoarse_fits g hp (by omega)).mono fun _ _ h => ⟨h, fun e => by cases e⟩


end Go.Proofs.Ytpfdoifkimjlbaa
