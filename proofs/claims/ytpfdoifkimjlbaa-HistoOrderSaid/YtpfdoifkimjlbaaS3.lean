/- THE CONTRACTS of the document's histograms: New, Merge, Quantile. -/
import Derived.Test.YtpfdoifkimjlbaaS2
import Derived.Test.YtpfdoifkimjlbaaX
import Derived.Test.YtpfdoifkimjlbaaR8
set_option linter.unusedVariables false
set_option linter.unusedSimpArgs false
namespace Go.Proofs.Ytpfdoifkimjlbaa
open Go.RowKit H M

def GivesR (w : World) (o : H.St) (n : Int) (e : Ending) (w' : World) : Prop := ∃ v, e = .returned (.tuple #[v, .int .i64 n]) ∧ RHo w' w.heap.size w'.heap.size v o ∧ Below w.heap.size w w'

def GivesRn (w : World) (o : H.St) (n : Int) (e : Ending) (w' : World) : Prop := GivesR w o n e w' ∧ (o = none → e = .returned (.tuple #[.pointer none, .int .i64 n]))

set_option maxHeartbeats 1000000 in
theorem rnew_str {w : World} {b : Nat} {a : Option Addr} {n c : Nat} {l : List Int} (h : Ints w b a n c l) (hm : n ≤ maxLen) :
    Calls Try.prog 23 #[.slice a n c] w (GivesRn w (new l) (newE l)) := by
  unfold maxLen at hm
  have hln := h.1
  have BAD : fitsB l = false → ∀ W, Below w.heap.size w W → GivesRn w (new l) (newE l) (.returned (.tuple #[.pointer none, .int .i64 2])) W := by
    intro hf W hb
    refine ⟨⟨.pointer none, by simp [newE, hf], ?_, hb⟩, fun _ => by simp [newE, hf]⟩
    rw [show new l = none by simp [new, hf]]
    exact .inl rfl
  by_cases h1 : 1024 < n
  · have FIN := Lib.hid (BAD (by rw [← Bool.not_eq_true]; intro q; have := ((fitsB_iff l).1 q).1; omega) w (Below.refl _ _))
    clear h hln BAD
    have h1' : (1024 : Int) < n := by omega
    go_enter Try.func23, Try.ntmps23
    go_wp2
    go_ret2
    exact FIN.out
  · have h1' : ¬ (1024 : Int) < n := by omega
    have BAD := Lib.hid BAD
    have HI := Lib.hid h
    have HL := Lib.hid hln
    clear h hln
    have MK := Lib.hid (fun W => make_run (n + 1) (by omega) ((n : Int) + 1) (by omega) W)
    go_enter Try.func23, Try.ntmps23
    go_wp2
    go_loopw [4] (fun u wr => ∃ k : Nat, u = .int .i64 ((k : Int) + 1) ∧ (k = 0 ∨ k + 1 ≤ n) ∧ Hid (∀ i, i < k → l.getD i 0 < l.getD (i + 1) 0) ∧ Hid (∃ q, w.drewN q = wr)) (fun u _ => n + 1 - (intOf u).toNat)
    case atStart => exact ⟨0, rfl, .inl rfl, (fun i hi => absurd hi (by omega)), ⟨0, rfl⟩⟩
    case round =>
      obtain ⟨k, rfl, hk, HU, HQ⟩ := hrel
      by_cases hlt : k + 1 < n
      · obtain ⟨q, hq⟩ := HQ.out
        have hI := HI.out
        obtain ⟨off, ha, hc⟩ := hI.2.2.2 (by omega)
        have ck0 : wr.cell? ⟨b, off + k, none⟩ = some (.int .i64 (l.getD k 0)) := by rw [← hq]; exact hc k (by omega)
        have ck1 : wr.cell? ⟨b, off + (k + 1), none⟩ = some (.int .i64 (l.getD (k + 1) 0)) := by rw [← hq]; exact hc (k + 1) (by omega)
        have i0 : (0 : Int) ≤ k := by omega
        have i1 : (k : Int) < n := by omega
        have i2 : (0 : Int) ≤ (k : Int) + 1 := by omega
        have i3 : (k : Int) + 1 < n := by omega
        have i4 : IntKind.i64.wrap ((k : Int) + 1 - 1) = (k : Int) := by rw [IntWalk.i64_in _ (by omega)]; omega
        have i5 : ((k : Int) + 1).toNat = k + 1 := by omega
        obtain ⟨x, hx⟩ : ∃ x, l.getD k 0 = x := ⟨_, rfl⟩
        obtain ⟨y, hy⟩ : ∃ y, l.getD (k + 1) 0 = y := ⟨_, rfl⟩
        rw [hx] at ck0
        rw [hy] at ck1
        have HX := Lib.hid hx
        have HY := Lib.hid hy
        subst ha
        clear hx hy hc hI hq
        by_cases hxy : x < y
        · have HU' : Hid (∀ i, i < k + 1 → l.getD i 0 < l.getD (i + 1) 0) := by
            intro i hi
            rcases Nat.lt_or_ge i k with h | h
            · exact HU.out i h
            · obtain rfl : i = k := by omega
              rw [HX.out, HY.out]; exact hxy
          obtain ⟨qq, hqq⟩ := HQ.out
          have HQ' : ∀ m, Hid (∃ q, w.drewN q = wr.drewN m) := fun m => ⟨qq + m, by rw [← hqq, World.drewN_drewN]⟩
          have HQ' := Lib.hid HQ'
          have hxy2 : ¬ y ≤ x := by omega
          clear HU HQ HX HY hqq
          go_wp2
          go_quiet (fail)
          go_wp2
          clear i4 i5
          go_roundw
          case rel => exact ⟨k + 1, by go_num, by omega, HU', HQ'.out _⟩
          case measure => simp [intOf]; omega
        · obtain ⟨qq, hqq⟩ := HQ.out
          have FIN : ∀ m, GivesRn w (new l) (newE l) (.returned (.tuple #[.pointer none, .int .i64 2])) (wr.drewN m) := fun m => BAD.out (by
            rw [← Bool.not_eq_true]; intro q
            have := ((fitsB_iff l).1 q).2 k (by rw [HL.out]; omega)
            rw [HX.out, HY.out] at this; omega) _ (by rw [← hqq, World.drewN_drewN]; exact below_drewN (Below.refl _ _) _)
          have FIN := Lib.hid FIN
          have hxy2 : y ≤ x := by omega
          clear HU HQ HX HY hqq
          go_wp2
          go_quiet (fail)
          go_wp2
          go_ret2
          exact FIN.out _
      · obtain ⟨qq, hqq⟩ := HQ.out
        have HF : Hid (fitsB l = true) := by
          refine (fitsB_iff l).2 ⟨by rw [HL.out]; omega, fun i hi => ?_⟩
          rw [HL.out] at hi
          exact HU.out i (by omega)
        have hlt2 : ¬ (k : Int) + 1 < n := by omega
        have MK2 := MK.out
        have BW : Hid (Below w.heap.size w wr) := by rw [← hqq]; exact below_drewN (Below.refl _ _) _
        have HI2 : Hid (Ints wr b a n c l) := by rw [← hqq]; exact HI.out
        have own0 : ∀ W : World, W.ownsRow W.heap.size 2 1 (.slice none 0 0) 0 (([] : List Int).map (Value.int .i64)) := fun W => World.ownsRow_nil _ _ _ _
        clear HU HQ hqq MK HI hlt hk
        have OWN := Lib.hid own0
        clear own0
        have HIW : Hid (∀ o1 o2, Ints ((wr.alloc o1).alloc o2) b a n c l) := fun o1 o2 => HI2.out.below (((Below.refl _ _).alloc (Nat.le_refl _) _).alloc (by simp) _)
        have HR := Lib.hid HI2.out.2.1
        clear HI2
        go_wp2_with (at_builtin; refine append_ints rfl _ _ rfl _ 0 _ [] rfl (OWN.out _) b a n c l rfl (HIW.out _ _) (by omega) (Nat.le_refl _) ?_)
        intro v1 w2 own2 hb2
        obtain ⟨b1, a1, c1, rfl, hi, hge⟩ := Ints.of_own own2 HR.out
        have Z1 := (Bk.rep wr (n + 1)).alloc (.cells #[.bool true, .slice none 0 0, .slice (some ⟨wr.heap.size, 0, none⟩) (n + 1) (n + 1)] 71)
        have Z2 : Bk ((wr.alloc (.cells (Array.replicate (n + 1) (Value.int .i64 0)) 2)).alloc (.cells #[.bool true, .slice none 0 0, .slice (some ⟨wr.heap.size, 0, none⟩) (n + 1) (n + 1)] 71)) (wr.heap.size + 1) 71 [.bool true, .slice none 0 0, .slice (some ⟨wr.heap.size, 0, none⟩) (n + 1) (n + 1)] := Bk.new' (by simp)
        have Z3 := Lib.hid (Z1.below' hb2.out (by omega))
        have Z4 := Lib.hid (Z2.below' hb2.out (by omega))
        have z1 : w2.cell? ⟨wr.heap.size + 1, 1, none⟩ = some (.slice none 0 0) := Z4.out.cell 1
        have zf := Z4.out.frozen
        have zl := Z4.out.lt
        have hs2 := hb2.out.size
        simp at hs2
        have Z5 : Hid (Below w.heap.size w w2) := Below.trans (Below.alloc (Below.alloc BW BW.out.size _) (by have := BW.out.size; simp; omega) _) (hb2.out.mono (by have := BW.out.size; simp; omega))
        have Z6 := Lib.hid hi
        have hge2 : Hid (0 < n → wr.heap.size + 2 ≤ b1 ∧ a1 = some ⟨b1, 0, none⟩ ∧ ∃ ex, c1 = n + ex.length ∧ Bk w2 b1 2 (l.map (Value.int .i64) ++ ex)) := fun h => ⟨by have := (hge h).1; omega, (hge h).2⟩
        clear own2 hb2 hi hge Z1 Z2
        go_wp2
        go_ret2
        have hwr := BW.out.size
        obtain rfl := HL.out
        rw [show newE l = 0 by rw [newE, if_pos HF.out], show new l = some (l, List.replicate (l.length + 1) 0) by rw [new, if_pos HF.out]]
        refine ⟨⟨_, rfl, ?_, Below.setCell Z5.out (by dsimp only; omega) _⟩, fun h => by cases h⟩
        have hn1 : 0 < l.length → b1 ≠ wr.heap.size + 1 := fun h => by have := (hge2.out h).1; omega
        have K1 := Z4.out.set 1 (.slice a1 l.length c1)
        have K2 := Row.far (t := 2) (p := ⟨wr.heap.size + 1, 1, none⟩) ⟨Z6.out, fun h => (hge2.out h).2⟩ hn1 (.slice a1 l.length c1)
        have K3 := Z3.out.far (p := ⟨wr.heap.size + 1, 1, none⟩) (by dsimp only; omega) (.slice a1 l.length c1)
        refine ⟨good_new HF.out HR.out, _, rfl, wr.heap.size, b1, a1, c1, l.length + 1, [], ⟨by omega, K1.lt⟩, ⟨⟨by omega, K3.lt⟩, by simp⟩, fun hn => ⟨⟨by have := (hge2.out hn).1; omega, K2.lt hn⟩, by have := (hge2.out hn).1; omega, hn1 hn⟩, ?_, K2, K3⟩
        rw [List.length_replicate]
        exact K1
theorem rnew_any {w : World} {b : Nat} {a : Option Addr} {n c : Nat} {l : List Int} (h : Ints w b a n c l) (hm : n ≤ maxLen) :
    Calls Try.prog 23 #[.slice a n c] w (GivesR w (new l) (newE l)) := (rnew_str h hm).mono fun _ _ h => h.1
set_option maxHeartbeats 2000000 in
set_option maxRecDepth 100000 in
theorem rmerge_fits {w : World} {lo hi lo2 hi2 p p2 : Nat} {B C D : List Int} (g : Fine B C) (g2 : Fine B D) (hp : RH w lo hi p B C) (hp2 : RH w lo2 hi2 p2 B D) (hs : D.sum ≤ 9223372036854775807 - C.sum) :
    Calls Try.prog 28 #[.pointer (some ⟨p, 0, none⟩), .pointer (some ⟨p2, 0, none⟩)] w (RStep w lo hi (.pointer (some ⟨p, 0, none⟩)) (some (B, both C D)) 0) := by
  have gt := g.tot
  have gt2 := g2.tot
  have hlen : C.length = D.length := by rw [g.len, g2.len]
  have hl1 := g.len
  have hl0 := g.size
  have hP : ∀ n, RHo (w.drewN n) lo hi (.pointer (some ⟨p, 0, none⟩)) (some (B, C)) := fun n => RHo.drewN (o := some (B, C)) ⟨g, p, rfl, hp⟩ n
  have hP2 : ∀ n, RHo (w.drewN n) lo2 hi2 (.pointer (some ⟨p2, 0, none⟩)) (some (B, D)) := fun n => RHo.drewN (o := some (B, D)) ⟨g2, p2, rfl, hp2⟩ n
  have HT1 : Hid (∀ n, Calls Try.prog 39 #[.pointer (some ⟨p, 0, none⟩)] (w.drewN n) fun e w' => e = .returned (.int .i64 C.sum) ∧ w.drewN n = w') := fun n => rtotal_any (hP n)
  have HT2 : Hid (∀ n, Calls Try.prog 39 #[.pointer (some ⟨p2, 0, none⟩)] (w.drewN n) fun e w' => e = .returned (.int .i64 D.sum) ∧ w.drewN n = w') := fun n => rtotal_any (hP2 n)
  have HK : Hid (∀ n, Calls Try.prog 47 #[.pointer (some ⟨p2, 0, none⟩)] (w.drewN n) (GivesInts (w.drewN n) D)) := fun n => rcounts_any (hP2 n)
  clear hP hP2
  obtain ⟨cb, bb, a, cp, cap, ex, l1, l2, l3, b1, b2, b3⟩ := hp
  obtain ⟨cb', bb', a', cp', cap', ex', l1', l2', l3', d1, d2, d3⟩ := hp2
  have c0 : w.cell? ⟨p, 0, none⟩ = some (.bool true) := b1.cell 0
  have c1 : w.cell? ⟨p, 1, none⟩ = some (.slice a B.length cp) := b1.cell 1
  have e0 : w.cell? ⟨p2, 0, none⟩ = some (.bool true) := d1.cell 0
  have e1 : w.cell? ⟨p2, 1, none⟩ = some (.slice a' B.length cp') := d1.cell 1
  have HV := Lib.hid (rvalid_yes p w c0)
  have HV2 := Lib.hid (rvalid_yes p2 w e0)
  have HE : Hid (∀ n, Calls Try.prog 50 #[.slice a B.length cp, .slice a' B.length cp'] (w.drewN n) fun e w' => e = .returned (.bool true) ∧ ∃ q, w' = w.drewN q) := by
    intro n
    have := rsame_any (w := w.drewN n) (h := (show Ints (w.drewN n) bb a B.length cp B from b2.1)) (h' := (show Ints (w.drewN n) bb' a' B.length cp' B from d2.1)) (by omega) (by omega)
    rw [decide_eq_true rfl] at this
    exact quiet_ex this
  have hne1 : ¬ p = cb := b1.ne b3 (by decide)
  have hne2 : ¬ cb = p := fun h => hne1 h.symm
  have B1 := Lib.hid b1
  have B2 := Lib.hid b2
  have B3 := Lib.hid b3
  have G := Lib.hid (And.intro g g2)
  have L3 := Lib.hid l3
  have HL := Lib.hid hlen
  have HL1 := Lib.hid hl1
  obtain ⟨S, hS⟩ : ∃ S, C.sum = S := ⟨_, rfl⟩
  obtain ⟨S2, hS2⟩ : ∃ S, D.sum = S := ⟨_, rfl⟩
  have HS := Lib.hid hS
  have HS2 := Lib.hid hS2
  rw [hS] at HT1 gt hs
  rw [hS2] at HT2 gt2 hs
  obtain ⟨L, hL⟩ : ∃ L, D.length = L := ⟨_, rfl⟩
  have HLL := Lib.hid hL
  have hLb : L ≤ 1025 := by omega
  clear hS hS2 hL b1 b2 b3 d1 d2 d3 g g2 l1' l2' l3 l3' hlen hl1 hl0
  go_enter Try.func28, Try.ntmps28
  go_wp2_with fail
  refine HV.out.mono ?_
  rintro e w' ⟨rfl, rfl⟩
  go_wp2_with fail
  refine HV2.out.mono ?_
  rintro e w' ⟨rfl, rfl⟩
  go_wp2_with fail
  go_quiet ((go_at_call 50; exact HE.out _))
  go_wp2_with fail
  refine (HT2.out _).mono ?_
  rintro e w' ⟨rfl, rfl⟩
  go_wp2_with fail
  refine (HT1.out _).mono ?_
  rintro e w' ⟨rfl, rfl⟩
  go_wp2_with fail
  refine (HK.out _).mono ?_
  rintro e w1 ⟨bk, ak, nk, ck, rfl, hik, hbk, hgk⟩
  have hnk : nk = L := by rw [← hik.1]; exact HLL.out
  subst hnk
  have M1 : Hid (Mod lo hi w w1) := (Mod.refl lo hi w).drewN _ |>.trans (Mod.of_below hbk)
  have P1 : Hid (Bk w1 p 71 [.bool true, .slice a B.length cp, .slice (some ⟨cb, 0, none⟩) C.length cap]) := (B1.out.drewN _).below hbk
  have P2 : Hid (Row w1 2 bb a B.length cp B) := Row.below (w := w.drewN _) B2.out hbk
  have P3 : Hid (Bk w1 cb 2 ((mix C D 0).map (Value.int .i64) ++ ex)) := by rw [mix_zero]; exact (B3.out.drewN _).below hbk
  have IK := Lib.hid hik
  have GK : Hid (0 < nk → w.heap.size ≤ bk) := fun h => (hgk h).1
  have lcb : cb < w.heap.size := B3.out.lt
  clear hik hbk hgk HK HE HV HV2 HT1 HT2 B1 B2 B3 c0 c1 e0 e1
  go_wp2_with fail
  go_loopw [6] (fun u wr => ∃ k : Nat, u = .int .i64 k ∧ k ≤ nk ∧ Hid (Bk wr p 71 [.bool true, .slice a B.length cp, .slice (some ⟨cb, 0, none⟩) C.length cap]) ∧ Hid (Row wr 2 bb a B.length cp B) ∧ Hid (Bk wr cb 2 ((mix C D k).map (Value.int .i64) ++ ex)) ∧ Hid (Ints wr bk ak nk ck D) ∧ Hid (Mod lo hi w wr)) (fun u _ => nk - (intOf u).toNat)
  case atStart => exact ⟨0, rfl, Nat.zero_le _, P1, P2, P3, IK, M1⟩
  case round =>
    obtain ⟨k, rfl, hk, Q1, Q2, Q3, Q4, Q5⟩ := hrel
    clear P1 P2 P3 IK M1
    have k2 : wr.cell? ⟨p, 2, none⟩ = some (.slice (some ⟨cb, 0, none⟩) nk cap) := by
      rw [← HLL.out, ← HL.out]; exact Q1.out.cell 2
    have lp := Q1.out.lt
    have lc := Q3.out.lt
    have fp := Q1.out.frozen
    have fc := Q3.out.frozen
    by_cases hlt : k < nk
    · obtain ⟨off, rfl, hc⟩ := Q4.out.2.2.2 (by omega)
      have hck := hc k hlt
      have kc : k < C.length := by rw [HL.out, HLL.out]; exact hlt
      have hcc : wr.cell? ⟨cb, k, none⟩ = some (.int .i64 (C.getD k 0)) := by
        rw [Q3.out.cell, List.getElem?_append_left (by simpa [mix_len] using kc), List.getElem?_map, List.getElem?_eq_getElem (by rw [mix_len]; exact kc), ← getD_at (by rw [mix_len]; exact kc), mix_at kc]
        rfl
      have bds := mix_bd G.out.1.pos G.out.2.pos k
      have e1 := HS.out
      have e2 := HS2.out
      rw [e1, e2] at bds
      have HM := Lib.hid (mix_succ (D := D) kc)
      have bkne : Hid (¬ bk = cb) := by
        have := GK.out (by omega); show ¬ _; omega
      have i0 : (0 : Int) ≤ k := by omega
      have i1 : (k : Int) < nk := by omega
      obtain ⟨x, hx⟩ : ∃ x, C.getD k 0 = x := ⟨_, rfl⟩
      obtain ⟨y, hy⟩ : ∃ y, D.getD k 0 = y := ⟨_, rfl⟩
      rw [hx] at hcc bds HM
      rw [hy] at hck bds HM
      have NEXT : Hid (Hid (Bk (wr.setCell ⟨cb, k, none⟩ (.int .i64 (x + y))) p 71 [.bool true, .slice a B.length cp, .slice (some ⟨cb, 0, none⟩) C.length cap]) ∧ Hid (Row (wr.setCell ⟨cb, k, none⟩ (.int .i64 (x + y))) 2 bb a B.length cp B) ∧ Hid (Bk (wr.setCell ⟨cb, k, none⟩ (.int .i64 (x + y))) cb 2 ((mix C D (k + 1)).map (Value.int .i64) ++ ex)) ∧ Hid (Ints (wr.setCell ⟨cb, k, none⟩ (.int .i64 (x + y))) bk (some ⟨bk, off, none⟩) nk ck D) ∧ Hid (Mod lo hi w (wr.setCell ⟨cb, k, none⟩ (.int .i64 (x + y))))) := by
        refine ⟨Q1.out.far hne1 _, Q2.out.far (fun hn => (L3.out hn).2.1) _, ?_, Q4.out.far (fun _ => bkne.out) _, Q5.out.trans (Mod.set (Mod.refl _ _ _) (.inl l2.1) _)⟩
        rw [HM.out, List.map_set, ← List.set_append_left _ _ (by simpa [mix_len] using kc)]
        exact Q3.out.set k _
      have hw2 : IntKind.i64.wrap (x + y) = x + y := IntWalk.i64_in _ (by omega)
      clear hx hy hc HM bkne e1 e2 kc Q1 Q2 Q3 Q4 Q5
      go_wp2_with fail
      go_still_tail 13, (by kernel_rfl)
      repeat still_step
      clear hw2
      go_wp2
      go_roundw
      case rel =>
        obtain ⟨n1, n2, n3, n4, n5⟩ := NEXT.out
        exact ⟨k + 1, by go_num, by omega, n1.out.drew, n2, n3.out.drew, n4, n5.out.drew⟩
      case measure => simp [intOf]; omega
    · obtain rfl : k = nk := by omega
      have FIN : Hid (RStep w lo hi (.pointer (some ⟨p, 0, none⟩)) (some (B, both C D)) 0 (.returned (.int .i64 0)) wr) := by
        refine ⟨rfl, ⟨fine_both G.out.1 G.out.2 (by rw [HS.out, HS2.out]; omega), p, rfl, cb, bb, a, cp, cap, ex, l1, ⟨l2.1, by rw [both, mix_len]; exact l2.2⟩, L3.out, ?_, Q2.out, ?_⟩, Q5.out⟩
        · rw [both, mix_len]
          exact Q1.out
        · have := Q3.out
          rw [both, HL.out, HLL.out]
          exact this
      clear Q1 Q2 Q3 Q4 Q5
      go_wp2
      go_ret
      exact FIN.out

theorem rmerge_any {w : World} {lo hi lo2 hi2 : Nat} {v u : Value} {o r : St} (h : RHo w lo hi v o) (k : RHo w lo2 hi2 u r) :
    Calls Try.prog 28 #[v, u] w (RStep w lo hi v (mergeS o r) (mergeE o r)) := by
  rcases o with _ | ⟨B, C⟩
  · have HV := Lib.hid (rvalid_no h)
    have FIN := Lib.hid (show RStep w lo hi v (mergeS none r) (mergeE none r) (.returned (.int .i64 1)) w from ⟨rfl, h, Mod.refl _ _ _⟩)
    clear h
    go_enter Try.func28, Try.ntmps28
    go_wp2_with fail
    refine HV.out.mono ?_
    rintro e w' ⟨rfl, rfl⟩
    go_wp2
    go_ret
    exact FIN.out
  · rcases r with _ | ⟨B', D⟩
    · have HV2 := Lib.hid (rvalid_no k)
      have FIN := Lib.hid (show RStep w lo hi v (mergeS (some (B, C)) none) (mergeE (some (B, C)) none) (.returned (.int .i64 1)) w from ⟨rfl, h, Mod.refl _ _ _⟩)
      obtain ⟨g, p, rfl, cb, bb, a, cp, cap, ex, l1, l2, l3, b1, b2, b3⟩ := h
      have HV := Lib.hid (rvalid_yes p w (b1.cell 0))
      clear g b1 b2 b3 l1 l2 l3 k
      go_enter Try.func28, Try.ntmps28
      go_wp2_with fail
      refine HV.out.mono ?_
      rintro e w' ⟨rfl, rfl⟩
      go_wp2_with fail
      refine HV2.out.mono ?_
      rintro e w' ⟨rfl, rfl⟩
      go_wp2
      go_ret
      exact FIN.out
    · by_cases hB : B = B'
      · subst hB
        by_cases hs : 9223372036854775807 - C.sum < D.sum
        · have FIN : Hid (∀ q, RStep w lo hi v (mergeS (some (B, C)) (some (B, D))) (mergeE (some (B, C)) (some (B, D))) (.returned (.int .i64 7)) (w.drewN q)) := fun q => ⟨by simp [mergeE, hs], RHo.drewN (by simpa [mergeS, hs] using h) q, (Mod.refl _ _ _).drewN q⟩
          obtain ⟨g, p, rfl, cb, bb, a, cp, cap, ex, l1, l2, l3, b1, b2, b3⟩ := h
          obtain ⟨g2, p2, rfl, cb', bb', a', cp', cap', ex', l1', l2', l3', d1, d2, d3⟩ := k
          have gt := g.tot
          have gt2 := g2.tot
          have hsz := g.size
          have HT1 : Hid (∀ n, Calls Try.prog 39 #[.pointer (some ⟨p, 0, none⟩)] (w.drewN n) fun e w' => e = .returned (.int .i64 C.sum) ∧ w.drewN n = w') := fun n => rtotal_any (RHo.drewN (o := some (B, C)) (lo := lo) (hi := hi) ⟨g, p, rfl, cb, bb, a, cp, cap, ex, l1, l2, l3, b1, b2, b3⟩ n)
          have HT2 : Hid (∀ n, Calls Try.prog 39 #[.pointer (some ⟨p2, 0, none⟩)] (w.drewN n) fun e w' => e = .returned (.int .i64 D.sum) ∧ w.drewN n = w') := fun n => rtotal_any (RHo.drewN (o := some (B, D)) (lo := lo2) (hi := hi2) ⟨g2, p2, rfl, cb', bb', a', cp', cap', ex', l1', l2', l3', d1, d2, d3⟩ n)
          have HV := Lib.hid (rvalid_yes p w (b1.cell 0))
          have HV2 := Lib.hid (rvalid_yes p2 w (d1.cell 0))
          have c1 : w.cell? ⟨p, 1, none⟩ = some (.slice a B.length cp) := b1.cell 1
          have e1 : w.cell? ⟨p2, 1, none⟩ = some (.slice a' B.length cp') := d1.cell 1
          have HE : Hid (∀ n, Calls Try.prog 50 #[.slice a B.length cp, .slice a' B.length cp'] (w.drewN n) fun e w' => e = .returned (.bool true) ∧ ∃ q, w' = w.drewN q) := by
            intro n
            have := rsame_any (w := w.drewN n) (h := (show Ints (w.drewN n) bb a B.length cp B from b2.1)) (h' := (show Ints (w.drewN n) bb' a' B.length cp' B from d2.1)) (by omega) (by omega)
            rw [decide_eq_true rfl] at this
            exact quiet_ex this
          clear g g2 b1 b2 b3 d1 d2 d3 l1 l2 l3 l1' l2' l3'
          go_enter Try.func28, Try.ntmps28
          go_wp2_with fail
          refine HV.out.mono ?_
          rintro e w' ⟨rfl, rfl⟩
          go_wp2_with fail
          refine HV2.out.mono ?_
          rintro e w' ⟨rfl, rfl⟩
          go_wp2_with fail
          go_quiet ((go_at_call 50; exact HE.out _))
          go_wp2_with fail
          refine (HT2.out _).mono ?_
          rintro e w' ⟨rfl, rfl⟩
          go_wp2_with fail
          refine (HT1.out _).mono ?_
          rintro e w' ⟨rfl, rfl⟩
          go_wp2
          go_ret
          exact FIN.out _
        · obtain ⟨g, p, rfl, hp⟩ := h
          obtain ⟨g2, p2, rfl, hp2⟩ := k
          have e1 : mergeS (some (B, C)) (some (B, D)) = some (B, both C D) := by simp [mergeS, hs]
          have e2 : mergeE (some (B, C)) (some (B, D)) = 0 := by simp [mergeE, hs]
          rw [e1, e2]
          exact rmerge_fits g g2 hp hp2 (by omega)
      · have FIN : Hid (∀ q, RStep w lo hi v (mergeS (some (B, C)) (some (B', D))) (mergeE (some (B, C)) (some (B', D))) (.returned (.int .i64 2)) (w.drewN q)) := fun q => ⟨by simp [mergeE, hB], RHo.drewN (by simpa [mergeS, hB] using h) q, (Mod.refl _ _ _).drewN q⟩
        obtain ⟨g, p, rfl, cb, bb, a, cp, cap, ex, l1, l2, l3, b1, b2, b3⟩ := h
        obtain ⟨g2, p2, rfl, cb', bb', a', cp', cap', ex', l1', l2', l3', d1, d2, d3⟩ := k
        have hsz := g.size
        have hsz2 := g2.size
        have HV := Lib.hid (rvalid_yes p w (b1.cell 0))
        have HV2 := Lib.hid (rvalid_yes p2 w (d1.cell 0))
        have c1 : w.cell? ⟨p, 1, none⟩ = some (.slice a B.length cp) := b1.cell 1
        have e1 : w.cell? ⟨p2, 1, none⟩ = some (.slice a' B'.length cp') := d1.cell 1
        have HE : Hid (∀ n, Calls Try.prog 50 #[.slice a B.length cp, .slice a' B'.length cp'] (w.drewN n) fun e w' => e = .returned (.bool false) ∧ ∃ q, w' = w.drewN q) := by
          intro n
          have := rsame_any (w := w.drewN n) (h := (show Ints (w.drewN n) bb a B.length cp B from b2.1)) (h' := (show Ints (w.drewN n) bb' a' B'.length cp' B' from d2.1)) (by omega) (by omega)
          rw [decide_eq_false hB] at this
          exact quiet_ex this
        clear g g2 b1 b2 b3 d1 d2 d3 l1 l2 l3 l1' l2' l3' hB
        go_enter Try.func28, Try.ntmps28
        go_wp2_with fail
        refine HV.out.mono ?_
        rintro e w' ⟨rfl, rfl⟩
        go_wp2_with fail
        refine HV2.out.mono ?_
        rintro e w' ⟨rfl, rfl⟩
        go_wp2_with fail
        go_quiet ((go_at_call 50; exact HE.out _))
        go_wp2
        go_ret
        exact FIN.out _

set_option maxHeartbeats 1000000 in
theorem rquant_any {w : World} {lo hi : Nat} {v : Value} {o : St} (h : RHo w lo hi v o) (n d : Int) (hn : In64 n) (hd : In64 d) :
    Calls Try.prog 17 #[v, .int .i64 n, .int .i64 d] w fun e w' => e = .returned (.tuple #[.int .i64 (quanV o n d), .int .i64 (quanE o n d)]) ∧ Below w.heap.size w w' := by
  have n1 := hn.1
  have n2 := hn.2
  have d1 := hd.1
  have d2 := hd.2
  rcases o with _ | ⟨B, C⟩
  · have HV := Lib.hid (rvalid_no h)
    clear h
    go_enter Try.func17, Try.ntmps17
    go_wp2_with fail
    refine HV.out.mono ?_
    rintro e w' ⟨rfl, rfl⟩
    go_wp2
    go_ret2
    exact ⟨rfl, Below.refl _ _⟩
  · obtain ⟨g, p, rfl, hp⟩ := h
    have HP := Lib.hid hp
    obtain ⟨cb, bb, a, cp, cap, ex, l1, l2, l3, b1, b2, b3⟩ := hp
    have HV := Lib.hid (rvalid_yes p w (b1.cell 0))
    have c2 : w.cell? ⟨p, 2, none⟩ = some (.slice (some ⟨cb, 0, none⟩) C.length cap) := b1.cell 2
    have HT : Hid (Calls Try.prog 39 #[.pointer (some ⟨p, 0, none⟩)] w fun e w' => e = .returned (.int .i64 C.sum) ∧ w = w') := rtotal_any (o := some (B, C)) (lo := lo) (hi := hi) ⟨g, p, rfl, HP.out⟩
    have lt1 := b1.lt
    have HC := Lib.hid (Ints.of_bk (c := cap) b3 g.crng)
    have gt := g.tot
    have glen : 1 ≤ C.length ∧ C.length ≤ 1025 := by have := g.len; have := g.size; omega
    have GP := Lib.hid g.pos
    clear b1 b2 b3 l1 l2 l3
    by_cases hbad : n < 0 ∨ d < 1 ∨ d < n
    · have FIN : Hid (.returned (.tuple #[.int .i64 0, .int .i64 2]) = Ending.returned (.tuple #[.int .i64 (quanV (some (B, C)) n d), .int .i64 (quanE (some (B, C)) n d)])) := by
        show _ = _
        simp [quanV, quanE, hbad]
      clear g
      by_cases h1 : n < 0
      · clear hbad
        go_enter Try.func17, Try.ntmps17
        go_wp2_with fail
        refine HV.out.mono ?_
        rintro e w' ⟨rfl, rfl⟩
        go_wp2
        go_ret2
        exact ⟨FIN.out, Below.refl _ _⟩
      · by_cases h2 : d < 1
        · clear hbad
          go_enter Try.func17, Try.ntmps17
          go_wp2_with fail
          refine HV.out.mono ?_
          rintro e w' ⟨rfl, rfl⟩
          go_wp2
          go_ret2
          exact ⟨FIN.out, Below.refl _ _⟩
        · have h3 : d < n := by omega
          clear hbad
          go_enter Try.func17, Try.ntmps17
          go_wp2_with fail
          refine HV.out.mono ?_
          rintro e w' ⟨rfl, rfl⟩
          go_wp2
          go_ret2
          exact ⟨FIN.out, Below.refl _ _⟩
    · have h1 : 0 ≤ n := by omega
      have h2 : 1 ≤ d := by omega
      have h3 : n ≤ d := by omega
      by_cases hz : C.sum = 0
      · have FIN : Hid (.returned (.tuple #[.int .i64 0, .int .i64 5]) = Ending.returned (.tuple #[.int .i64 (quanV (some (B, C)) n d), .int .i64 (quanE (some (B, C)) n d)])) := by
          show _ = _
          simp [quanV, quanE, hbad, hz]
        rw [hz] at HT
        clear g hbad hz gt
        go_enter Try.func17, Try.ntmps17
        go_wp2_with fail
        refine HV.out.mono ?_
        rintro e w' ⟨rfl, rfl⟩
        go_wp2_with fail
        refine HT.out.mono ?_
        rintro e w' ⟨rfl, rfl⟩
        go_wp2
        go_ret2
        exact ⟨FIN.out, Below.refl _ _⟩
      · have nbd := need_bd h1 h2 h3 gt.1
        have FIN : Hid (.returned (.tuple #[.int .i64 (qpos C (-(-n * C.sum / d))), .int .i64 0]) = Ending.returned (.tuple #[.int .i64 (quanV (some (B, C)) n d), .int .i64 (quanE (some (B, C)) n d)])) := by
          show _ = _
          simp only [quanV, quanE, if_neg hbad, if_neg hz]
        have HM := Lib.hid (fun W => rmuldiv_any (-n) C.sum d W (by omega) (by omega) (by omega) (by omega) h2 d2)
        rw [vo_in (by omega) (by omega), eo_in (by omega) (by omega)] at HM
        obtain ⟨m, hm⟩ : ∃ m, -n * C.sum / d = m := ⟨_, rfl⟩
        obtain ⟨S, hS⟩ : ∃ S, C.sum = S := ⟨_, rfl⟩
        have hz' : (S == 0) = false := by rw [← hS]; simpa using hz
        have HSS := Lib.hid hS
        rw [hm] at HM FIN nbd
        rw [hS] at HM HT nbd gt
        have NB := Lib.hid nbd
        have GT := Lib.hid gt
        have nb1 : -9223372036854775807 ≤ m := by omega
        have nb2 : m ≤ 0 := nbd.2
        clear g hbad hz gt nbd hm hS
        go_enter Try.func17, Try.ntmps17
        go_wp2_with fail
        refine HV.out.mono ?_
        rintro e w' ⟨rfl, rfl⟩
        go_wp2_with fail
        refine HT.out.mono ?_
        rintro e w' ⟨rfl, rfl⟩
        go_wp2_with fail
        refine (HM.out _).mono ?_
        rintro e w1 ⟨rfl, hb1⟩
        have f2 := ckb hb1 c2
        have s1 := hb1.size
        have f3 : p < w1.heap.size := by omega
        have HC1 := Lib.hid (HC.out.below hb1)
        have cbl : cb < w1.heap.size := HC1.out.lt (by omega)
        have H1 := Lib.hid hb1
        clear hb1 c2 lt1
        go_wp2_with fail
        go_loop [11, 12] (fun t u => ∃ k : Nat, u = .int .i64 k ∧ k ≤ C.length ∧ t = .int .i64 (C.take k).sum ∧ Hid (∀ i, i < k → (C.take (i + 1)).sum < -m)) (fun _ u => C.length - (intOf u).toNat)
        case atStart => exact ⟨0, rfl, Nat.zero_le _, rfl, fun i hi => absurd hi (by omega)⟩
        case round =>
          obtain ⟨k, rfl, hk, rfl, HU⟩ := hrel
          by_cases hlt : k < C.length
          · obtain ⟨off, ho, hc⟩ := HC1.out.2.2.2 (by omega)
            have ho2 : off = 0 := by injection ho with ho; injection ho with _ ho; exact ho.symm
            subst ho2
            have hck := hc k hlt
            rw [Nat.zero_add] at hck
            have hs := H.sum_take C k hlt
            have t1 := H.sum_take_le GP.out (k + 1)
            have t3 := GT.out
            rw [HSS.out] at t1
            have i0 : (0 : Int) ≤ k := by omega
            have i1 : (k : Int) < C.length := by omega
            obtain ⟨y, hy⟩ : ∃ y, C.getD k 0 = y := ⟨_, rfl⟩
            obtain ⟨s, hs2⟩ : ∃ s, (C.take k).sum = s := ⟨_, rfl⟩
            rw [hy] at hck hs
            rw [hs2] at hs
            have bd : 0 ≤ s + y ∧ s + y ≤ 9223372036854775807 := by omega
            rw [hs2]
            have HS := Lib.hid hs
            clear hs hy hc hs2 t1 t3 ho
            by_cases hhit : -m ≤ s + y
            · have QP : Hid (qpos C (-m) = k) := qpos_at hlt HU.out (by rw [HS.out]; exact hhit)
              have E : Hid (.returned (.tuple #[.int .i64 k, .int .i64 0]) = Ending.returned (.tuple #[.int .i64 (quanV (some (B, C)) n d), .int .i64 (quanE (some (B, C)) n d)])) := by
                show _ = _
                rw [← FIN.out, QP.out]
              clear HU HS
              go_wp2
              go_ret2
              exact ⟨E.out, H1.out⟩
            · have HU2 : Hid (∀ i, i < k + 1 → (C.take (i + 1)).sum < -m) := by
                intro i hi
                rcases Nat.lt_or_ge i k with h | h
                · exact HU.out i h
                · obtain rfl : i = k := by omega
                  rw [HS.out]; omega
              clear HU
              go_wp2
              go_round
              case rel => exact ⟨k + 1, by go_num, by omega, by rw [HS.out], HU2⟩
              case measure => simp [intOf]; omega
          · exfalso
            obtain rfl : k = C.length := by omega
            have h1 := HU.out (C.length - 1) (by omega)
            rw [show C.length - 1 + 1 = C.length by omega, List.take_length, HSS.out] at h1
            have := NB.out.1
            omega
end Go.Proofs.Ytpfdoifkimjlbaa
