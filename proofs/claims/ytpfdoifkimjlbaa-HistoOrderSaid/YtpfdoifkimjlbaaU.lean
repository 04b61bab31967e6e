/- THE STATEMENTS about histograms: agree, filled. -/
import Derived.Test.YtpfdoifkimjlbaaT
import Derived.Test.YtpfdoifkimjlbaaS3
import Derived.Test.YtpfdoifkimjlbaaO
import Derived.StillTailTactics
set_option linter.unusedVariables false
set_option linter.unusedSimpArgs false
namespace Go.Proofs.Ytpfdoifkimjlbaa
open Go.RowKit H M

namespace H
theorem Ok.lenC {o : St} (h : Ok o) : (counts o).length ≤ 1000000 := by
  rcases o with _ | ⟨B, C⟩
  · exact Nat.zero_le _
  · have := h.len; have := h.size; show C.length ≤ _; omega
theorem Ok.lenB {o : St} (h : Ok o) : (bounds o).length ≤ 1000000 := by
  rcases o with _ | ⟨B, C⟩
  · exact Nat.zero_le _
  · have := h.size; show B.length ≤ _; omega
end H
theorem PHo.ok {w : World} {lo hi : Nat} {v : Value} {o : St} (h : PHo w lo hi v o) : Ok o := by
  rcases o with _ | ⟨B, C⟩
  · trivial
  · exact h.1

theorem RHo.some_ptr {w : World} {lo hi : Nat} {v : Value} {s : List Int × List Int} (h : RHo w lo hi v (some s)) : ∃ p, v = .pointer (some ⟨p, 0, none⟩) := by
  obtain ⟨B, C⟩ := s
  obtain ⟨g, p, rfl, -⟩ := h
  exact ⟨p, rfl⟩
set_option maxHeartbeats 2000000 in
theorem agree_any {w : World} {lo hi lo2 hi2 : Nat} {v u : Value} {o : St} (h : PHo w lo hi v o) (k : RHo w lo2 hi2 u o) (x : Int) :
    Calls Try.prog 24 #[v, u, .int .i64 x] w fun e w' => e = .returned (.bool true) ∧ Below w.heap.size w w' := by
  have ok := h.ok
  have HH : Hid (∀ W, Below w.heap.size w W → PHo W lo hi v o ∧ RHo W lo2 hi2 u o) := fun W hb => ⟨h.below hb, k.below hb⟩
  have L1 := ok.lenC
  have L2 := ok.lenB
  obtain ⟨c, hc⟩ : ∃ c, counts o = c := ⟨_, rfl⟩
  obtain ⟨b, hb⟩ : ∃ b, bounds o = b := ⟨_, rfl⟩
  obtain ⟨t, ht⟩ : ∃ t, total o = t := ⟨_, rfl⟩
  obtain ⟨n, hn⟩ : ∃ n, bucket o x = n := ⟨_, rfl⟩
  have C1 : Hid (∀ W, Below w.heap.size w W → Calls Try.prog 21 #[v] W (GivesInts W c)) := fun W hW => hc ▸ counts_any (HH.out W hW).1
  have C2 : Hid (∀ W, Below w.heap.size w W → Calls Try.prog 47 #[u] W (GivesInts W c)) := fun W hW => hc ▸ rcounts_any (HH.out W hW).2
  have C3 : Hid (∀ W, Below w.heap.size w W → Calls Try.prog 32 #[v] W (GivesInts W b)) := fun W hW => hb ▸ bounds_any (HH.out W hW).1
  have C4 : Hid (∀ W, Below w.heap.size w W → Calls Try.prog 48 #[u] W (GivesInts W b)) := fun W hW => hb ▸ rbounds_any (HH.out W hW).2
  have C5 : Hid (∀ W, Below w.heap.size w W → Calls Try.prog 22 #[v] W fun e w' => e = .returned (.int .i64 t) ∧ W = w') := fun W hW => ht ▸ total_any (HH.out W hW).1
  have C6 : Hid (∀ W, Below w.heap.size w W → Calls Try.prog 39 #[u] W fun e w' => e = .returned (.int .i64 t) ∧ W = w') := fun W hW => ht ▸ rtotal_any (HH.out W hW).2
  have C7 : Hid (∀ W, Below w.heap.size w W → Calls Try.prog 19 #[v, .int .i64 x] W fun e w' => e = .returned (.int .i64 n) ∧ Below W.heap.size W w') := fun W hW => hn ▸ bucket_any (HH.out W hW).1 x
  have C8 : Hid (∀ W, Below w.heap.size w W → Calls Try.prog 26 #[u, .int .i64 x] W fun e w' => e = .returned (.int .i64 n) ∧ W = w') := fun W hW => hn ▸ rbucket_any (HH.out W hW).2 x
  have SM : Hid (∀ (W : World) (b1 b2 n1 n2 c1 c2 : Nat) (a1 a2 : Option Addr) (l : List Int), l.length ≤ 1000000 → Ints W b1 a1 n1 c1 l → Ints W b2 a2 n2 c2 l → Calls Try.prog 31 #[.slice a1 n1 c1, .slice a2 n2 c2] W fun e w' => e = .returned (.bool true) ∧ Below W.heap.size W w') := by
    intro W b1 b2 n1 n2 c1 c2 a1 a2 l hl h1 h2
    have := same_any h1 h2 (by rw [← h1.1]; exact hl) (by rw [← h2.1]; exact hl)
    rw [decide_eq_true rfl] at this
    exact this.mono fun e w' ⟨he, q, hq⟩ => ⟨he, by rw [hq]; exact below_drewN (Below.refl _ _) q⟩
  rw [hc] at L1
  rw [hb] at L2
  have B0 : Hid (Below w.heap.size w w) := Below.refl _ _
  clear h k ok HH hc hb ht hn
  go_enter Try.func24, Try.ntmps24
  go_wp2_with fail
  refine (C1.out _ B0.out).mono ?_
  rintro e w1 ⟨b1, a1, n1, c1, rfl, hi1, hb1, -⟩
  have B1 := hb_trans' B0 hb1 (Below.size B0)
  have I1 := Lib.hid hi1
  clear hi1 hb1
  go_wp2_with fail
  refine (C2.out _ B1.out).mono ?_
  rintro e w2 ⟨b2, a2, n2, c2, rfl, hi2, hb2, -⟩
  have B2 := hb_trans' B1 hb2 (Below.size B1)
  have J1 := Lib.hid (I1.out.below hb2)
  have I2 := Lib.hid hi2
  clear hi2 hb2 B1 I1
  go_wp2_with fail
  refine (SM.out _ _ _ _ _ _ _ _ _ c L1 J1.out I2.out).mono ?_
  rintro e w3 ⟨rfl, hb3⟩
  have B3 := hb_trans' B2 hb3 (Below.size B2)
  clear hb3 B2 J1 I2
  go_wp2_with fail
  refine (C3.out _ B3.out).mono ?_
  rintro e w4 ⟨b4, a4, n4, c4, rfl, hi4, hb4, -⟩
  have B4 := hb_trans' B3 hb4 (Below.size B3)
  have I4 := Lib.hid hi4
  clear hi4 hb4 B3
  go_wp2_with fail
  refine (C4.out _ B4.out).mono ?_
  rintro e w5 ⟨b5, a5, n5, c5, rfl, hi5, hb5, -⟩
  have B5 := hb_trans' B4 hb5 (Below.size B4)
  have J4 := Lib.hid (I4.out.below hb5)
  have I5 := Lib.hid hi5
  clear hi5 hb5 B4 I4
  go_wp2_with fail
  refine (SM.out _ _ _ _ _ _ _ _ _ b L2 J4.out I5.out).mono ?_
  rintro e w6 ⟨rfl, hb6⟩
  have B6 := hb_trans' B5 hb6 (Below.size B5)
  clear hb6 B5 J4 I5
  go_wp2_with fail
  refine (C5.out _ B6.out).mono ?_
  rintro e w7 ⟨rfl, rfl⟩
  go_wp2_with fail
  refine (C6.out _ B6.out).mono ?_
  rintro e w7 ⟨rfl, rfl⟩
  go_wp2_with fail
  refine (C7.out _ B6.out).mono ?_
  rintro e w7 ⟨rfl, hb7⟩
  have B7 := hb_trans' B6 hb7 (Below.size B6)
  clear hb7 B6
  go_wp2_with fail
  refine (C8.out _ B7.out).mono ?_
  rintro e w8 ⟨rfl, rfl⟩
  go_wp2
  go_ret
  exact ⟨rfl, B7.out⟩

/-- The histogram after the first k of the steps. -/
def fill (o : St) (f : Nat → Nat → Int) : Nat → St
  | 0 => o
  | k + 1 => addS (fill o f k) (f k 0) (f k 1)

/-- What 'filled' hands back: a histogram of the program and one of the document, in the same state. -/
def Filled (w : World) (o : H.St) (e : Ending) (w' : World) : Prop :=
  ∃ v u m, e = .returned (.tuple #[v, u]) ∧ w.heap.size ≤ m ∧ m ≤ w'.heap.size ∧ PHo w' w.heap.size m v o ∧ RHo w' m w'.heap.size u o ∧ Below w.heap.size w w'

theorem PHo.wide {w : World} {lo hi hi' : Nat} {v : Value} {o : St} (h : PHo w lo hi v o) (hh : hi ≤ hi') : PHo w lo hi' v o := by
  rcases o with _ | ⟨B, C⟩
  · rcases h with rfl | ⟨p, hl, rfl, h⟩
    · exact .inl rfl
    · exact .inr ⟨p, ⟨hl.1, by omega⟩, rfl, h⟩
  · obtain ⟨g, p, rfl, cb, bb, a, cp, cap, ex, l1, l2, l3, b1, b2, b3⟩ := h
    exact ⟨g, p, rfl, cb, bb, a, cp, cap, ex, ⟨l1.1, by omega⟩, ⟨⟨l2.1.1, by omega⟩, l2.2⟩, fun hn => ⟨⟨(l3 hn).1.1, by have := (l3 hn).1.2; omega⟩, (l3 hn).2⟩, b1, b2, b3⟩
theorem RHo.wide {w : World} {lo hi hi' : Nat} {v : Value} {o : St} (h : RHo w lo hi v o) (hh : hi ≤ hi') : RHo w lo hi' v o := by
  rcases o with _ | ⟨B, C⟩
  · rcases h with rfl | ⟨p, hl, rfl, h⟩
    · exact .inl rfl
    · exact .inr ⟨p, ⟨hl.1, by omega⟩, rfl, h⟩
  · obtain ⟨g, p, rfl, cb, bb, a, cp, cap, ex, l1, l2, l3, b1, b2, b3⟩ := h
    exact ⟨g, p, rfl, cb, bb, a, cp, cap, ex, ⟨l1.1, by omega⟩, ⟨⟨l2.1.1, by omega⟩, l2.2⟩, fun hn => ⟨⟨(l3 hn).1.1, by have := (l3 hn).1.2; omega⟩, (l3 hn).2⟩, b1, b2, b3⟩
set_option maxHeartbeats 2000000 in
set_option maxRecDepth 100000 in
theorem filled_any {w : World} {a0 a1 : Option Addr} {n0 c0 b0 n1 c1 b1 : Nat} {l0 : List Int} {f1 : Nat → Nat → Int} (w0 : Ints w b0 a0 n0 c0 l0) (hq : n0 ≤ maxLen) (w1 : Recs w b1 a1 n1 2 (fun _ => .i64) f1) (hq1 : n1 ≤ maxLen) :
    Calls Try.prog 15 #[.slice a0 n0 c0, .slice a1 n1 c1] w (Filled w (fill (new l0) f1 n1)) := by
  unfold maxLen at hq1
  have HN := Lib.hid (new_any w0 hq)
  have HI := Lib.hid w0
  have W1 := Lib.hid w1
  have HQ : Hid (n0 ≤ maxLen) := hq
  obtain ⟨o, ho⟩ : ∃ o, new l0 = o := ⟨_, rfl⟩
  obtain ⟨ne, hne⟩ : ∃ ne, newE l0 = ne := ⟨_, rfl⟩
  have HR : Hid (∀ W, Ints W b0 a0 n0 c0 l0 → Calls Try.prog 23 #[.slice a0 n0 c0] W (GivesR W o ne)) := fun W h => by rw [← ho, ← hne]; exact rnew_any h hq
  rw [ho, hne] at HN
  rw [ho]
  clear w0 w1 hq ho hne
  go_enter Try.func15, Try.ntmps15
  go_wp2_with fail
  refine HN.out.mono ?_
  rintro e v1 ⟨v, rfl, hP, hb⟩
  have HI2 := Lib.hid (HI.out.below hb)
  have B1 := Lib.hid hb
  have P1 := Lib.hid hP
  clear hP hb HN HI
  go_wp2_with fail
  refine (HR.out _ HI2.out).mono ?_
  rintro e v2 ⟨u, rfl, hP, hb⟩
  have P2 := Lib.hid (P1.out.below hb)
  have R2 := Lib.hid hP
  have B2 := hb_trans' B1 hb (Below.size B1)
  have s12 := hb.size
  have s01 := Below.size B1
  clear hP hb B1 P1 HR HI2
  go_wp2_with fail
  go_loopw [10] (fun i wr => ∃ (k : Nat), i = .int .i64 k ∧ k ≤ n1 ∧ Hid (PHo wr w.heap.size v1.heap.size v (fill o f1 k)) ∧ Hid (RHo wr v1.heap.size v2.heap.size u (fill o f1 k)) ∧ Hid (Below w.heap.size w wr) ∧ v2.heap.size ≤ wr.heap.size) (fun i _ => n1 - (intOf i).toNat)
  case atStart => exact ⟨0, rfl, Nat.zero_le _, P2, R2, B2, Nat.le_refl _⟩
  case round =>
    obtain ⟨k, rfl, hk, HP, HR, HB, hsz⟩ := hrel
    clear P2 R2 B2
    by_cases hlt : k < n1
    · have hR := W1.out.below (by decide) HB.out
      obtain ⟨off, ha, hc⟩ := hR.2 (by omega)
      have hx := hc k 0 hlt (by decide)
      have ht := hc k 1 hlt (by decide)
      have wx := wf_in64 (hR.1 k 0 hlt (by decide))
      have wt := wf_in64 (hR.1 k 1 hlt (by decide))
      rw [Nat.add_zero] at hx
      rw [← Nat.add_assoc] at ht
      have i0 : (0 : Int) ≤ k := by omega
      have i1 : (k : Int) < n1 := by omega
      have FS : Hid (fill o f1 (k + 1) = addS (fill o f1 k) (f1 k 0) (f1 k 1)) := rfl
      obtain ⟨x, hx2⟩ : ∃ x, f1 k 0 = x := ⟨_, rfl⟩
      obtain ⟨t, ht2⟩ : ∃ t, f1 k 1 = t := ⟨_, rfl⟩
      have HX := Lib.hid hx2
      have HT := Lib.hid ht2
      rw [hx2] at hx wx FS
      rw [ht2] at ht wt FS
      subst ha
      obtain ⟨s, hs⟩ : ∃ s, fill o f1 k = s := ⟨_, rfl⟩
      rw [hs] at HP HR FS
      have HA := Lib.hid (hadd_any (w := wr.drew) (HP.out.below (Below.drew (Below.refl _ _))) x t wt)
      have WT := Lib.hid wt
      clear hc hx2 ht2 hR hs wt
      go_wp2_with fail
      go_still_tail 11, (by kernel_rfl)
      repeat still_step
      go_wp2_with fail
      refine HA.out.mono ?_
      rintro e w3 ⟨rfl, hP3, hm3⟩
      have HP3 := Lib.hid hP3
      have HB3 := Mod.hb (Below.drew HB.out) hm3 (Nat.le_refl _) HB.out.size
      have HR3 := Lib.hid ((HR.out.below (Below.drew (Below.refl _ _))).mod hm3 (.inr (Nat.le_refl _)))
      have hsz3 := Nat.le_trans hsz (show wr.heap.size ≤ w3.heap.size from hm3.size)
      have hR := W1.out.below (by decide) HB3.out
      obtain ⟨off2, ha2, hc⟩ := hR.2 (by omega)
      have ho2 : off2 = off := by injection ha2 with ha2; injection ha2 with _ ha2; exact ha2.symm
      subst ho2
      have hx := hc k 0 hlt (by decide)
      have ht := hc k 1 hlt (by decide)
      rw [Nat.add_zero, HX.out] at hx
      rw [← Nat.add_assoc, HT.out] at ht
      have HA2 := Lib.hid (radd_any (w := w3.drew) (HR3.out.below (Below.drew (Below.refl _ _))) x t WT.out)
      clear hP3 hm3 HA HP HB HR hR hc ha2 hsz
      go_wp2_with fail
      go_still_tail 11, (by kernel_rfl)
      repeat still_step
      go_wp2_with fail
      refine HA2.out.mono ?_
      rintro e w4 ⟨rfl, hR4, hm4⟩
      have HR4 := Lib.hid hR4
      have HB4 := Mod.hb (Below.drew HB3.out) hm4 s01 HB3.out.size
      have HP4 := Lib.hid ((HP3.out.below (Below.drew (Below.refl _ _))).mod hm4 (.inl (Nat.le_refl _)))
      have hsz4 := Nat.le_trans hsz3 (show w3.heap.size ≤ w4.heap.size from hm4.size)
      rw [← FS.out] at HP4 HR4
      clear hR4 hm4 HA2 HP3 HB3 HR3 hx ht hsz3
      go_wp2
      go_roundw
      case rel => exact ⟨k + 1, by go_num, by omega, HP4, HR4, HB4, hsz4⟩
      case measure => simp [intOf]; omega
    · obtain rfl : k = n1 := by omega
      go_wp2
      go_ret2
      exact ⟨v, u, v1.heap.size, rfl, s01, by omega, HP.out, HR.out.wide hsz, HB.out⟩

end Go.Proofs.Ytpfdoifkimjlbaa
