/- THE CONTRACT of package histo's Quantile. -/
import Derived.Test.YtpfdoifkimjlbaaF
import Derived.Test.YtpfdoifkimjlbaaC3
set_option linter.unusedVariables false
set_option linter.unusedSimpArgs false
namespace Go.Proofs.Ytpfdoifkimjlbaa
namespace H
/-- The first index up to which the sum is at least m. -/
def qpos (C : List Int) (m : Int) : Nat := ((List.range C.length).find? fun k => decide (m ≤ (C.take (k + 1)).sum)).getD 0
theorem qpos_at {C : List Int} {m : Int} {k : Nat} (hk : k < C.length) (h1 : ∀ i, i < k → (C.take (i + 1)).sum < m) (h2 : m ≤ (C.take (k + 1)).sum) : qpos C m = k := by
  unfold qpos
  have : (List.range C.length).find? (fun k => decide (m ≤ (C.take (k + 1)).sum)) = some k := by
    rw [List.find?_range_eq_some]
    refine ⟨by simpa using h2, by simpa using hk, fun j hj => ?_⟩
    have := h1 j hj
    simp; omega
  rw [this]; rfl
def quanE : St → Int → Int → Int
  | none, _, _ => 1
  | some (B, C), n, d => if n < 0 ∨ d < 1 ∨ d < n then 2 else if C.sum = 0 then 5 else 0
def quanV : St → Int → Int → Int
  | none, _, _ => 0
  | some (B, C), n, d => if n < 0 ∨ d < 1 ∨ d < n then 0 else if C.sum = 0 then 0 else qpos C (-(-n * C.sum / d))
theorem need_bd {n d T : Int} (h0 : 0 ≤ n) (h1 : 1 ≤ d) (h2 : n ≤ d) (hT : 0 ≤ T) : -T ≤ -n * T / d ∧ -n * T / d ≤ 0 := by
  have a : -n * T ≤ 0 := by have := Int.mul_nonneg h0 hT; rw [Int.neg_mul]; omega
  have b : -T * d ≤ -n * T := by
    have := Int.mul_le_mul_of_nonneg_right h2 hT
    rw [Int.neg_mul, Int.neg_mul, Int.mul_comm T d]; omega
  exact ⟨(Int.le_ediv_iff_mul_le (by omega)).2 b, Int.ediv_nonpos_of_nonpos_of_neg a (by omega)⟩
end H
open Go.RowKit H M
set_option linter.unusedVariables false
set_option linter.unusedSimpArgs false

theorem sumcl_any (c s m : Int) (sb nb : Nat) (w : World) (hs : w.cell? ⟨sb, 0, none⟩ = some (.int .i64 s)) (hn : w.cell? ⟨nb, 0, none⟩ = some (.int .i64 m)) (hf : w.frozen? ⟨sb, 0, none⟩ = false) (hne : ¬ sb = nb)
    (h0 : 0 ≤ s + c) (h1 : s + c ≤ 9223372036854775807) (h2 : -9223372036854775807 ≤ m) (h3 : m ≤ 0) :
    Calls Try.prog 37 #[.int .i64 c, .pointer (some ⟨sb, 0, none⟩), .pointer (some ⟨nb, 0, none⟩)] w fun e w' => e = .returned (.bool (decide (-m ≤ s + c))) ∧ w.setCell ⟨sb, 0, none⟩ (.int .i64 (s + c)) = w' := by
  have hne2 : ¬ nb = sb := fun h => hne h.symm
  go_enter Try.func37, Try.ntmps37
  go_wp2
  go_ret
  exact ⟨rfl, rfl⟩

theorem indexfunc_any {w : World} {b sb nb n c : Nat} {a : Option Addr} {C : List Int} {m : Int} (h : Ints w b a n c C) (hs : Bk w sb 2 [.int .i64 0]) (hn : Bk w nb 2 [.int .i64 m]) (hne : ¬ sb = nb) (hb : 0 < n → ¬ b = sb)
    (hpos : ∀ x ∈ C, 0 ≤ x) (hsum : C.sum ≤ 9223372036854775807) (h2 : -C.sum ≤ m) (h3 : m ≤ 0) (hnn : 0 < n) (hm : n ≤ 1000000) :
    Calls Try.prog 36 #[.slice a n c, .func (.func 37) #[] #[.pointer (some ⟨sb, 0, none⟩), .pointer (some ⟨nb, 0, none⟩)]] w fun e w' => e = .returned (.int .i64 (qpos C (-m))) ∧ Mod sb (sb + 1) w w' := by
  have eg := enters_of Try.func37 (by kernel_rfl) rfl
  have st0 := H.sum_nonneg hpos
  have h2' : -9223372036854775807 ≤ m := by omega
  have HI := Lib.hid h
  have HS := Lib.hid hs
  have HN := Lib.hid hn
  have HP := Lib.hid hpos
  have HT := Lib.hid (And.intro hsum h2)
  have HB := Lib.hid hb
  have hl := h.1
  have HL := Lib.hid hl
  clear h hs hn hpos hsum h2 st0 hb hl
  go_enter Try.func36, Try.ntmps36
  go_wp2
  go_loopw [5, 8] (fun _ u wr => ∃ k : Nat, u = .int .i64 k ∧ k ≤ n ∧ Hid (Ints wr b a n c C) ∧ Hid (Bk wr sb 2 [.int .i64 (C.take k).sum]) ∧ Hid (Bk wr nb 2 [.int .i64 m]) ∧ Hid (Mod sb (sb + 1) w wr) ∧ Hid (∀ i, i < k → (C.take (i + 1)).sum < -m)) (fun _ u _ => n - (intOf u).toNat)
  case atStart => exact ⟨0, rfl, Nat.zero_le _, HI, HS, HN, Mod.refl _ _ _, fun i hi => absurd hi (by omega)⟩
  case round =>
    obtain ⟨k, rfl, hk, Q1, Q2, Q3, Q4, Q5⟩ := hrel
    clear HI HS HN
    by_cases hlt : k < n
    · obtain ⟨off, rfl, hc⟩ := Q1.out.2.2.2 hnn
      have hck := hc k hlt
      have kl : k < C.length := by rw [HL.out]; exact hlt
      have st := H.sum_take C k kl
      have t1 := H.sum_take_le HP.out (k + 1)
      have t2 := H.sum_take_le HP.out k
      have t3 := HT.out.1
      have i0 : (0 : Int) ≤ k := by omega
      have i1 : (k : Int) < n := by omega
      obtain ⟨x, hx⟩ : ∃ x, C.getD k 0 = x := ⟨_, rfl⟩
      obtain ⟨s, hs⟩ : ∃ s, (C.take k).sum = s := ⟨_, rfl⟩
      have ST : Hid ((C.take (k + 1)).sum = s + x) := by show _ = _; rw [st, hx, hs]
      have b1 : 0 ≤ s + x := by rw [← hx, ← hs]; omega
      have b2 : s + x ≤ 9223372036854775807 := by rw [← hx, ← hs]; omega
      rw [hx] at hck
      have Q2' := Q2.out
      rw [hs] at Q2'
      have CL := Lib.hid (sumcl_any x s m sb nb wr (Q2'.cell 0) (Q3.out.cell 0) (Q2'.frozen 0) hne b1 b2 h2' h3)
      have NX : Hid (Hid (Ints (wr.setCell ⟨sb, 0, none⟩ (.int .i64 (s + x))) b (some ⟨b, off, none⟩) n c C) ∧ Hid (Bk (wr.setCell ⟨sb, 0, none⟩ (.int .i64 (s + x))) sb 2 [.int .i64 (C.take (k + 1)).sum]) ∧ Hid (Bk (wr.setCell ⟨sb, 0, none⟩ (.int .i64 (s + x))) nb 2 [.int .i64 m]) ∧ Hid (Mod sb (sb + 1) w (wr.setCell ⟨sb, 0, none⟩ (.int .i64 (s + x))))) :=
        ⟨Q1.out.far (fun hn => HB.out hn) _, by rw [ST.out]; exact Q2'.set 0 _, Q3.out.far (fun e => hne e.symm) _, Q4.out.trans (Mod.set (p := ⟨sb, 0, none⟩) (Mod.refl sb (sb + 1) wr) (.inl ⟨Nat.le_refl _, Nat.lt_succ_self _⟩) _)⟩
      have KL := Lib.hid kl
      clear hc st t1 t2 t3 hx hs Q1 Q2 Q2' Q3 Q4 kl b1 b2
      by_cases hhit : -m ≤ s + x
      · have QP : Hid (qpos C (-m) = k) := qpos_at KL.out Q5.out (by rw [ST.out]; exact hhit)
        have hd : decide (-m ≤ s + x) = true := decide_eq_true hhit
        rw [hd] at CL
        clear hhit hd Q5 ST
        go_wp2_with fail
        refine CL.out.mono ?_
        rintro e w' ⟨rfl, rfl⟩
        obtain ⟨n1, n2, n3, n4⟩ := NX.out
        go_wp2
        go_ret
        exact ⟨ret_int (by rw [QP.out]), n4.out⟩
      · have hd : decide (-m ≤ s + x) = false := decide_eq_false hhit
        have Q6 : Hid (∀ i, i < k + 1 → (C.take (i + 1)).sum < -m) := by
          intro i hi
          rcases Nat.lt_or_ge i k with h | h
          · exact Q5.out i h
          · obtain rfl : i = k := by omega
            rw [ST.out]; omega
        rw [hd] at CL
        clear hhit hd Q5 ST
        go_wp2_with fail
        refine CL.out.mono ?_
        rintro e w' ⟨rfl, rfl⟩
        go_wp2
        go_roundw
        case rel =>
          obtain ⟨n1, n2, n3, n4⟩ := NX.out
          exact ⟨k + 1, by go_num, by omega, n1, n2, n3, n4, Q6⟩
        case measure => simp [intOf]; omega
    · exfalso
      obtain rfl : k = n := by omega
      have := Q5.out (k - 1) (by omega)
      rw [show k - 1 + 1 = k by omega, ← HL.out, List.take_length] at this
      have := HT.out.2
      omega

set_option maxHeartbeats 1000000 in
theorem quant_any {w : World} {lo hi : Nat} {v : Value} {o : St} (h : PHo w lo hi v o) (n d : Int) (hn : In64 n) (hd : In64 d) :
    Calls Try.prog 16 #[v, .int .i64 n, .int .i64 d] w fun e w' => e = .returned (.tuple #[.int .i64 (quanV o n d), .int .i64 (quanE o n d)]) ∧ Below w.heap.size w w' := by
  have n1 := hn.1
  have n2 := hn.2
  have d1 := hd.1
  have d2 := hd.2
  rcases o with _ | ⟨B, C⟩
  · have HV := Lib.hid (valid_no h)
    clear h
    go_enter Try.func16, Try.ntmps16
    go_wp2_with fail
    refine HV.out.mono ?_
    rintro e w' ⟨rfl, rfl⟩
    go_wp2
    go_ret2
    exact ⟨rfl, Below.refl _ _⟩
  · obtain ⟨g, p, rfl, hp⟩ := h
    have HP := Lib.hid hp
    obtain ⟨cb, bb, a, cp, cap, ex, l1, l2, l3, b1, b2, b3⟩ := hp
    have HV := Lib.hid (valid_yes p w (b1.cell 0))
    have c2 : w.cell? ⟨p, 2, none⟩ = some (.slice (some ⟨cb, 0, none⟩) C.length cap) := b1.cell 2
    have c3 : w.cell? ⟨p, 3, none⟩ = some (.int .i64 C.sum) := b1.cell 3
    have lt1 := b1.lt
    have HC := Lib.hid (Ints.of_bk (c := cap) b3 g.crng)
    have gt := g.tot
    have glen : 1 ≤ C.length ∧ C.length ≤ 1025 := by have := g.len; have := g.size; omega
    have GP := Lib.hid g.pos
    clear b1 b2 b3 l1 l2 l3
    by_cases hbad : n < 0 ∨ d < 1 ∨ d < n
    · have FIN : Hid (.returned (.tuple #[.int .i64 0, .int .i64 2]) = Ending.returned (.tuple #[.int .i64 (quanV (some (B, C)) n d), .int .i64 (quanE (some (B, C)) n d)])) := by
        show _ = _
        simp [quanV, quanE, hbad]
      clear g
      by_cases h1 : n < 0
      · clear hbad
        go_enter Try.func16, Try.ntmps16
        go_wp2_with fail
        refine HV.out.mono ?_
        rintro e w' ⟨rfl, rfl⟩
        go_wp2
        go_ret2
        exact ⟨FIN.out, Below.refl _ _⟩
      · by_cases h2 : d < 1
        · clear hbad
          go_enter Try.func16, Try.ntmps16
          go_wp2_with fail
          refine HV.out.mono ?_
          rintro e w' ⟨rfl, rfl⟩
          go_wp2
          go_ret2
          exact ⟨FIN.out, Below.refl _ _⟩
        · have h3 : d < n := by omega
          clear hbad
          go_enter Try.func16, Try.ntmps16
          go_wp2_with fail
          refine HV.out.mono ?_
          rintro e w' ⟨rfl, rfl⟩
          go_wp2
          go_ret2
          exact ⟨FIN.out, Below.refl _ _⟩
    · have h1 : 0 ≤ n := by omega
      have h2 : 1 ≤ d := by omega
      have h3 : n ≤ d := by omega
      by_cases hz : C.sum = 0
      · have FIN : Hid (.returned (.tuple #[.int .i64 0, .int .i64 5]) = Ending.returned (.tuple #[.int .i64 (quanV (some (B, C)) n d), .int .i64 (quanE (some (B, C)) n d)])) := by
          show _ = _
          simp [quanV, quanE, hbad, hz]
        rw [hz] at c3
        clear g hbad hz gt
        go_enter Try.func16, Try.ntmps16
        go_wp2_with fail
        refine HV.out.mono ?_
        rintro e w' ⟨rfl, rfl⟩
        go_wp2
        go_ret2
        exact ⟨FIN.out, Below.refl _ _⟩
      · have nbd := need_bd h1 h2 h3 gt.1
        have FIN : Hid (.returned (.tuple #[.int .i64 (qpos C (-(-n * C.sum / d))), .int .i64 0]) = Ending.returned (.tuple #[.int .i64 (quanV (some (B, C)) n d), .int .i64 (quanE (some (B, C)) n d)])) := by
          show _ = _
          simp only [quanV, quanE, if_neg hbad, if_neg hz]
        have HM := Lib.hid (fun W => muldiv_any (-n) C.sum d W (by omega) (by omega) (by omega) (by omega) h2 d2)
        rw [vo_in (by omega) (by omega), eo_in (by omega) (by omega)] at HM
        have HX := Lib.hid (fun W (sb nb : Nat) (h : Ints W cb (some ⟨cb, 0, none⟩) C.length cap C) (hs : Bk W sb 2 [.int .i64 0]) (hn : Bk W nb 2 [.int .i64 (-n * C.sum / d)]) (hne : ¬ sb = nb) (hb : ¬ cb = sb) => indexfunc_any h hs hn hne (fun _ => hb) g.pos g.sum nbd.1 nbd.2 (by omega) (by omega))
        obtain ⟨m, hm⟩ : ∃ m, -n * C.sum / d = m := ⟨_, rfl⟩
        obtain ⟨S, hS⟩ : ∃ S, C.sum = S := ⟨_, rfl⟩
        have hz' : (S == 0) = false := by rw [← hS]; simpa using hz
        rw [hm] at HM HX FIN
        rw [hS] at HM c3
        clear g hbad hz gt nbd hm hS
        go_enter Try.func16, Try.ntmps16
        go_wp2_with fail
        refine HV.out.mono ?_
        rintro e w' ⟨rfl, rfl⟩
        go_wp2_with fail
        refine (HM.out _).mono ?_
        rintro e w1 ⟨rfl, hb1⟩
        have f2 := ckb hb1 c2
        have s1 := hb1.size
        have f3 : p < w1.heap.size := by omega
        have HC1 := Lib.hid (HC.out.below hb1)
        have cbl : cb < w1.heap.size := HC1.out.lt (by omega)
        have H1 := Lib.hid hb1
        clear hb1 c2 c3 lt1
        go_wp2_with fail
        have W0 : Below w1.heap.size w1 ((w1.alloc (.cells #[.int .i64 m] 2)).alloc (.cells #[.int .i64 0] 2)) := ((Below.refl _ _).alloc (Nat.le_refl _) _).alloc (by simp) _
        have W1 : Bk ((w1.alloc (.cells #[.int .i64 m] 2)).alloc (.cells #[.int .i64 0] 2)) (w1.heap.size + 1) 2 [.int .i64 0] := Bk.new' (by simp)
        have W2 : Bk ((w1.alloc (.cells #[.int .i64 m] 2)).alloc (.cells #[.int .i64 0] 2)) w1.heap.size 2 [.int .i64 m] := Bk.alloc (Bk.new' rfl) _
        have W3 := HC1.out.below W0
        have WX := HX.out _ (w1.heap.size + 1) w1.heap.size W3 W1 W2 (by omega) (by omega)
        refine WX.mono ?_
        rintro e w2 ⟨rfl, hm2⟩
        have FB : Hid (Below w.heap.size w w2) := Mod.below ((H1.out.alloc s1 _).alloc (by simp; omega) _) hm2 (by omega) (by simp; omega)
        clear hm2
        go_wp2
        go_ret2
        exact ⟨FIN.out, FB.out⟩

end Go.Proofs.Ytpfdoifkimjlbaa
