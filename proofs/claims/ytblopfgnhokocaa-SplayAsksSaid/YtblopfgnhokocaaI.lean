/- THE CONTRACT of package splay's Join. -/
import Derived.Test.YtblopfgnhokocaaH
namespace Go.Proofs.Ytblopfgnhokocaa
open Go.RowKit P
set_option linter.unusedVariables false
set_option linter.unusedSimpArgs false

def joinE (L : List (List Nat)) (V : List Int) (x y : Int) : Int := if !nodeB V x || !nodeB V y then 3 else if y.toNat ∈ lst L x.toNat then 6 else 0
def joinS (L : List (List Nat)) (V : List Int) (x y : Int) : List (List Nat) := if joinE L V x y = 0 then joinL L x.toNat y.toNat else L
theorem In.turn2 {w w' : World} {ob g n cap : Nat} {T T' : Tb} {L : List (List Nat)} {V : List Int} {x y : Nat} {u : Tr} (h : In w ob g n cap T L V) (hx : x < n) (hy : y < n) (hxy : y ∉ lst L x) (m : Mod g (g + 1) w w') (t : Tab w' g n T') (hu : TrL T' (up1 (lst L x) ++ up1 (lst L y)) u)
    (far : ∀ z, z ∉ up1 (lst L x) → z ∉ up1 (lst L y) → T' z = T z) (hv : ∀ z, (T' z).val = (T z).val) : In w' ob g n cap T' (joinL L x y) V := by
  refine ⟨h.hob.mod m (by have := h.ne; omega), t, h.ne, h.hn, ?_, h.len, fun z hz => by rw [hv]; exact h.val z hz, h.rng⟩
  have := h.fok.change (T' := T') (A := [lst L x, lst L y]) (B := [lst L x ++ lst L y]) (R := others (others L x) y) (h.fok.part.join hx hy hxy) (fun l hl => ?_) (by simp) (fun z hz => ?_)
  · exact this.perm List.perm_append_comm
  · rw [List.mem_singleton] at hl; subst hl
    refine ⟨fun e => h.fok.part.2 _ (h.fok.part.lst hx).1 (List.append_eq_nil_iff.1 e).1, u, ?_⟩
    rw [show up1 (lst L x ++ lst L y) = up1 (lst L x) ++ up1 (lst L y) by simp [up1]]
    exact hu
  · rw [show up1 ([lst L x, lst L y].flatten) = up1 (lst L x) ++ up1 (lst L y) by simp [up1], List.mem_append, not_or] at hz
    exact far z hz.1 hz.2
theorem join_none {w : World} {lo hi : Nat} {v : Value} (h : NoS w lo hi v) (x y : Int) : Calls Try.prog 22 #[v, .int .i64 x, .int .i64 y] w (Sp w lo hi v none (.int .i64 1)) := by
  have HC := Lib.hid (check_none h x)
  have FIN : Hid (Sp w lo hi v none (.int .i64 1) (.returned (.int .i64 1)) w) := ⟨rfl, h, Mod.refl _ _ _⟩
  clear h
  go_enter Try.func22, Try.ntmps22
  go_wp2_with fail
  refine HC.out.mono ?_
  rintro e w' ⟨rfl, rfl⟩
  go_wp2
  go_ret
  exact FIN.out
def setK1 (v : Nat) (d : Nd) : Nd := { d with k1 := v }
set_option maxRecDepth 100000 in
set_option maxHeartbeats 2000000 in
theorem join_any {w : World} {lo hi p : Nat} {L : List (List Nat)} {V : List Int} (h : PT w lo hi p L V) (x y : Int) : Calls Try.prog 22 #[.pointer (some ⟨p, 0, none⟩), .int .i64 x, .int .i64 y] w (Sp w lo hi (.pointer (some ⟨p, 0, none⟩)) (some (joinS L V x y, V)) (.int .i64 (joinE L V x y))) := by
  have hPT := h
  obtain ⟨g, n, cap, T, l1, l2, hcap, hI⟩ := h
  have HC := Lib.hid (check_any hI.hob hI.hn hI.len x)
  have HD := Lib.hid (check_any hI.hob hI.hn hI.len y)
  by_cases hx : nodeB V x = true
  · have e2 : chkE V x = 0 := by unfold chkE; rw [hx]; rfl
    rw [e2] at HC
    by_cases hy : nodeB V y = true
    · have e4 : chkE V y = 0 := by unfold chkE; rw [hy]; rfl
      rw [e4] at HD
      have HSM := Lib.hid (same_any hPT x y)
      obtain ⟨x0, x1⟩ := nodeB_iff.1 hx
      obtain ⟨y0, y1⟩ := nodeB_iff.1 hy
      have hxV : x.toNat < V.length := by omega
      have hyV : y.toNat < V.length := by omega
      by_cases hm : y.toNat ∈ lst L x.toNat
      · have hs : sameB L V x y = true := by unfold sameB; rw [hx, hy]; simpa using hm
        have hj : joinE L V x y = 6 := by unfold joinE; rw [hx, hy]; simp [hm]
        have hj2 : joinS L V x y = L := by unfold joinS; rw [hj]; rfl
        rw [hs] at HSM
        have HJ := Lib.hid (And.intro hj hj2)
        clear hI hx hy e2 e4 hm hs hj hj2 x0 x1 y0 y1 hxV hyV l1 l2 hcap hPT
        go_enter Try.func22, Try.ntmps22
        go_wp2_with fail
        refine HC.out.mono ?_
        rintro e w' ⟨rfl, rfl⟩
        go_wp2_with fail
        refine HD.out.mono ?_
        rintro e w' ⟨rfl, rfl⟩
        go_wp2_with fail
        refine HSM.out.mono ?_
        rintro e w2 ⟨rfl, p2, m2⟩
        have P2 := Lib.hid p2
        have M2 := Lib.hid m2
        clear p2 m2 HSM
        go_wp2
        go_ret
        rw [HJ.out.1, HJ.out.2]
        exact ⟨rfl, P2.out, M2.out⟩
      · have hs : sameB L V x y = false := by unfold sameB; rw [hx, hy]; simpa using hm
        have hj : joinE L V x y = 0 := by unfold joinE; rw [hx, hy]; simp [hm]
        have hj2 : joinS L V x y = joinL L x.toNat y.toNat := by unfold joinS; rw [hj]; rfl
        rw [hs] at HSM
        have HJ := Lib.hid (And.intro hj hj2)
        have HX := Lib.hid (And.intro x0 (And.intro x1 (And.intro y0 (And.intro y1 (And.intro hx (And.intro hxV hyV))))))
        have HN := Lib.hid hm
        obtain ⟨b, hb⟩ : ∃ b, b = y.toNat + 1 := ⟨_, rfl⟩
        have e3 : chkV V y = b := by unfold chkV; rw [hy]; simp; omega
        rw [e3] at HD
        have HB := Lib.hid hb
        have part := hI.fok.part
        have hlen := hI.len
        have hVn := hI.hn
        have hlx := part.lst (show x.toNat < n by omega)
        have hly := part.lst (show y.toNat < n by omega)
        have hll := part.len_le hlx.1
        obtain ⟨lx, hlxe⟩ : ∃ l, lst L x.toNat = l := ⟨_, rfl⟩
        rw [hlxe] at hlx hll
        have hne : lx ≠ [] := part.2 _ hlx.1
        obtain ⟨z, hz⟩ : ∃ z, lx.getLast? = some z := by rw [List.getLast?_eq_some_getLast hne]; exact ⟨_, rfl⟩
        have hzm : z ∈ lx := List.mem_of_getLast? hz
        have hzl : lst L z = lx := part.uniq hlx.1 hzm
        have hzn : z < V.length := by have := part.lt hlx.1 hzm; omega
        obtain ⟨m, hm2⟩ : ∃ m, lx.length = m + 1 := ⟨lx.length - 1, by have : lx.length ≠ 0 := fun e => hne (List.length_eq_zero_iff.1 e); omega⟩
        have hgd : lx.getD m 0 = z := by
          rw [List.getLast?_eq_getElem?, hm2] at hz
          rw [List.getD_eq_getElem?_getD]; simp at hz; rw [hz]; rfl
        have hat : atV L V x (m : Int) = z ∧ atB L V x (m : Int) = true := by
          unfold atV atB
          rw [hx, hlxe, hm2, decide_eq_true (show (0 ≤ (m : Int) ∧ (m : Int) < ((m + 1 : Nat) : Int)) by omega)]
          refine ⟨?_, rfl⟩
          simp only [Bool.and_true, if_true]
          show ((lx.getD m 0 : Nat) : Int) = z
          rw [hgd]
        have HA := Lib.hid hat
        have HZ := Lib.hid (And.intro hz (And.intro hzm (And.intro hzl (And.intro hzn (And.intro hlxe hm2)))))
        have LEN : Hid (∀ W, PSo W lo hi (.pointer (some ⟨p, 0, none⟩)) (some (L, V)) → Calls Try.prog 15 #[.pointer (some ⟨p, 0, none⟩), .int .i64 x] W (Sp W lo hi (.pointer (some ⟨p, 0, none⟩)) (some (L, V)) (.int .i64 ((m : Int) + 1)))) := by
          rintro W ⟨p', e, hp'⟩
          injection e with e; injection e with e; injection e with e; subst e
          have := len_ok hp' x x0 x1
          rw [hlxe, hm2] at this
          rw [show ((m : Int) + 1) = ((m + 1 : Nat) : Int) by omega]
          exact this
        have mbd : m ≤ 65536 := by omega
        have AT : Hid (∀ W, PSo W lo hi (.pointer (some ⟨p, 0, none⟩)) (some (L, V)) → Calls Try.prog 16 #[.pointer (some ⟨p, 0, none⟩), .int .i64 x, .int .i64 (m : Int)] W (Sp W lo hi (.pointer (some ⟨p, 0, none⟩)) (some (L, V)) (.tuple #[.int .i64 (z : Int), .bool true]))) := by
          rintro W ⟨p', e, hp'⟩
          injection e with e; injection e with e; injection e with e; subst e
          have := at_any hp' x (m : Int) ⟨by omega, by omega⟩
          rw [hat.1, hat.2] at this
          exact this
        have zb : z ≤ 65535 := by omega
        clear hI hx hy e2 e4 e3 hm hs hj hj2 x0 x1 y0 y1 hxV hyV hPT hb part hlen hlx hly hll hlxe hne hz hzm hzl hm2 hgd hat hzn l1 l2 hcap
        go_enter Try.func22, Try.ntmps22
        go_wp2_with fail
        refine HC.out.mono ?_
        rintro e w' ⟨rfl, rfl⟩
        go_wp2_with fail
        refine HD.out.mono ?_
        rintro e w' ⟨rfl, rfl⟩
        go_wp2_with fail
        refine HSM.out.mono ?_
        rintro e w2 ⟨rfl, p2, m2⟩
        have P2 := Lib.hid p2
        have M2 := Lib.hid m2
        clear p2 m2 HSM
        go_wp2_with fail
        refine (LEN.out _ P2.out).mono ?_
        rintro e w3 ⟨rfl, p3, m3⟩
        have P3 := Lib.hid p3
        have M3 : Hid (Mod lo hi w w3) := M2.out.trans m3
        clear p3 m3 P2
        go_wp2_with fail
        refine (AT.out _ P3.out).mono ?_
        rintro e w4 ⟨rfl, p4, m4⟩
        have M4 : Hid (Mod lo hi w w4) := M3.out.trans m4
        obtain ⟨p', ep, g2, n2, cap2, T4, k1, k2, kcap, i4⟩ := p4
        injection ep with ep; injection ep with ep; injection ep with ep; subst ep
        have hnV := i4.len
        obtain ⟨hxz, hzm, hzl, hzn, hlxe, hm2⟩ := HZ.out
        have SA := Lib.hid (splayF i4 z (by omega) (z + 1) rfl)
        have I4 := Lib.hid i4
        have KK := Lib.hid (And.intro k1 (And.intro k2 (And.intro kcap hnV)))
        have npg := i4.ne
        have npg' : ¬ g2 = p := fun e => npg e.symm
        have hn2 := i4.hn
        clear i4 m4 k1 k2 kcap hnV hxz hzm hzl hzn hlxe hm2 P3 M3
        have ez : ((z + 1 : Nat) : Int) = (z : Int) + 1 := by omega
        rw [ez] at SA
        go_wp2_with fail
        refine SA.out.mono ?_
        rintro e w5 ⟨rfl, T5, i5, m5, r5, f5⟩
        have SB := Lib.hid (splayF i5 y.toNat (by have := HX.out; have := KK.out; omega) b HB.out)
        have R5 := Lib.hid r5
        have M5 := Lib.hid m5
        clear i5 m5 r5 f5 SA
        go_wp2_with fail
        refine SB.out.mono ?_
        rintro e w6 ⟨rfl, T6, i6, m6, r6, f6⟩
        have I6 := Lib.hid i6
        have M6 : Hid (Mod g2 (g2 + 1) w4 w6) := M5.out.trans m6
        have c1 := i6.hob.2
        obtain ⟨hxz, hzm, hzl, hzn, hlxe, hm2⟩ := HZ.out
        obtain ⟨x0, x1, y0, y1, hx, hxV, hyV⟩ := HX.out
        have hnV := KK.out.2.2.2
        have part := i6.fok.part
        have hyl := part.lst (show y.toNat < n2 by omega)
        have hdis : ∀ u ∈ up1 (lst L x.toNat), u ∉ up1 (lst L y.toNat) := by
          intro u hu hu2
          obtain ⟨q, hq, rfl⟩ := mem_up1.1 hu
          have hq2 := up1_mem.1 hu2
          have := flat_disj part.nodup (part.lst (show x.toNat < n2 by omega)).1 hyl.1 hq hq2
          exact HN.out (by rw [this]; exact hyl.2)
        obtain ⟨⟨ta, td, tr5⟩, tt5⟩ := R5.out
        rw [hzl, ← hlxe] at tr5
        have tr6 := tr5.far (T' := T6) (fun u hu => f6 u (hdis u hu))
        have hzm' : z + 1 ∈ up1 (lst L x.toNat) := by rw [hlxe]; exact up1_mem.2 hzm
        have tt6 : (T6 (z + 1)).turn = false := by rw [f6 _ (hdis _ hzm')]; exact tt5
        have hnil : td = .nil := last_nil tr6 tt6 (by rw [hlxe]; unfold up1; rw [List.getLast?_map, hxz]; rfl)
        subst hnil
        obtain ⟨⟨tc, te, trb⟩, ttb⟩ := r6
        obtain ⟨j1, j2, j3, j4⟩ := join_tree tr6 tt6 trb hdis
        have hzn2 : z + 1 ≤ n2 := by omega
        have hbn : b ≤ n2 := by have := HB.out; omega
        have hbz : ¬ b = z + 1 := by
          intro e
          have h1 := HB.out
          have : y.toNat = z := by omega
          exact HN.out (by rw [this, hlxe]; exact hzm)
        have t7 := RTab.ext (C' := fun u f => cellOf (app T6 (z + 1) (setK1 b) u) f) (Tab.app (f := 1) (q := setK1 b) (v := .int .i32 (b : Nat)) i6.tab hzn2 (by omega) rfl (below9 (fun _ => rfl) (fun h => absurd rfl h) (fun _ => rfl) (fun _ => rfl) (fun _ => rfl) (fun _ => rfl) (fun _ => rfl) (fun _ => rfl) (fun _ => rfl))) (fun _ _ _ _ => rfl)
        have t8 := tab_up (v := z + 1) t7 hbn
        have o8 := (i6.hob.setg npg ((z + 1) * 9 + 1) (.int .i32 (b : Nat))).setg npg (b * 9 + 2) (.int .i32 ((z + 1 : Nat) : Int))
        have e8 : app (app T6 (z + 1) (setK1 b)) b (setUp (z + 1)) = upd (upd T6 (z + 1) { T6 (z + 1) with k1 := y.toNat + 1 }) (y.toNat + 1) { upd T6 (z + 1) { T6 (z + 1) with k1 := y.toNat + 1 } (y.toNat + 1) with up := z + 1 } := by rw [HB.out]; rfl
        have bdd : Bd n2 (up1 (lst L x.toNat) ++ up1 (lst L y.toNat)) := by
          intro u hu
          rcases List.mem_append.1 hu with hu | hu
          · exact Rt.bd i6 (by omega) u hu
          · exact Rt.bd i6 (by omega) u hu
        have ok8 : PullOK (app (app T6 (z + 1) (setK1 b)) b (setUp (z + 1))) n2 (z + 1) := by rw [e8]; exact kids_ok j2 bdd (by omega) hn2
        have v8 : In64 ((app (app T6 (z + 1) (setK1 b)) b (setUp (z + 1))) (z + 1)).val := by
          rw [app_ne (fun e => hbz e.symm), app_same]; show In64 (T6 (z + 1)).val; rw [i6.val z (by omega)]; exact getD_in64 i6.rng _
        have HPL := Lib.hid (pull_any o8 t8 npg (z + 1) hzn2 hn2 ok8 v8)
        obtain ⟨k1o, hk1o⟩ : ∃ k, (T6 (z + 1)).k1 = k := ⟨_, rfl⟩
        have ck : w6.cell? ⟨g2, (z + 1) * 9 + 1, none⟩ = some (.int .i32 k1o) := RTab.ck1 i6.tab hzn2 hk1o
        obtain ⟨uo, huo⟩ : ∃ k, (T6 b).up = k := ⟨_, rfl⟩
        have cu : w6.cell? ⟨g2, b * 9 + 2, none⟩ = some (.int .i32 uo) := RTab.cup i6.tab hbn huo
        have z1 := i6.tab.2 ((z + 1) * 9 + 1)
        have z2 := i6.tab.2 (b * 9 + 2)
        have JJ := Lib.hid (And.intro j1 (And.intro j3 j4))
        have E8 := Lib.hid e8
        have M8 : Hid (Mod g2 (g2 + 1) w6 ((w6.setCell ⟨g2, (z + 1) * 9 + 1, none⟩ (.int .i32 (b : Nat))).setCell ⟨g2, b * 9 + 2, none⟩ (.int .i32 ((z + 1 : Nat) : Int)))) := ((Mod.refl _ _ _).setg _ _).setg _ _
        have PARTS := Lib.hid (And.intro hxV (And.intro hyV hnV))
        clear i6 m6 f6 SB hxz hzm hzl hlxe hm2 x0 x1 y0 y1 hx hxV hyV hnV part hyl hdis tr5 tt5 tr6 hzm' tt6 trb ttb j1 j2 j3 j4 t7 t8 o8 e8 bdd ok8 v8 hk1o huo R5
        go_wp2_with fail
        refine HPL.out.mono ?_
        rintro e w9 ⟨rfl, t9, m9⟩
        have mm : Mod g2 (g2 + 1) w6 w9 := M8.out.trans m9
        have t10 : Tab w9 g2 n2 (pull (upd (upd T6 (z + 1) { T6 (z + 1) with k1 := y.toNat + 1 }) (y.toNat + 1) { upd T6 (z + 1) { T6 (z + 1) with k1 := y.toNat + 1 } (y.toNat + 1) with up := z + 1 }) (z + 1)) := by have := t9; rw [E8.out] at this; exact this
        have i10 := In.turn2 I6.out (x := x.toNat) (y := y.toNat) (by have := PARTS.out; omega) (by have := PARTS.out; omega) HN.out mm t10 JJ.out.1 JJ.out.2.2 JJ.out.2.1
        have I10 := Lib.hid i10
        have M10 : Hid (Mod lo hi w w9) := M4.out.trans ((M6.out.trans mm).mono KK.out.2.1.1 (by have := KK.out.2.1.2; omega))
        clear t9 m9 mm t10 i10 HPL
        go_wp2
        go_ret
        rw [HJ.out.1, HJ.out.2]
        exact ⟨rfl, ⟨p, rfl, g2, n2, cap2, _, KK.out.1, KK.out.2.1, KK.out.2.2.1, I10.out⟩, M10.out⟩
    · have hy' : nodeB V y = false := by simpa using hy
      have hj : joinE L V x y = 3 := by unfold joinE; rw [hx, hy']; rfl
      have hj2 : joinS L V x y = L := by unfold joinS; rw [hj]; rfl
      have e4 : chkE V y = 3 := by unfold chkE; rw [hy']; rfl
      rw [e4] at HD
      have HJ := Lib.hid (And.intro hj hj2)
      have FIN : Hid (Sp w lo hi (.pointer (some ⟨p, 0, none⟩)) (some (L, V)) (.int .i64 3) (.returned (.int .i64 3)) w) := ⟨rfl, ⟨p, rfl, hPT⟩, Mod.refl _ _ _⟩
      clear hI hx hy hy' e2 e4 hj hj2 l1 l2 hcap hPT
      go_enter Try.func22, Try.ntmps22
      go_wp2_with fail
      refine HC.out.mono ?_
      rintro e w' ⟨rfl, rfl⟩
      go_wp2_with fail
      refine HD.out.mono ?_
      rintro e w' ⟨rfl, rfl⟩
      go_wp2
      go_ret
      rw [HJ.out.1, HJ.out.2]
      exact FIN.out
  · have hx' : nodeB V x = false := by simpa using hx
    have hj : joinE L V x y = 3 := by unfold joinE; rw [hx']; rfl
    have hj2 : joinS L V x y = L := by unfold joinS; rw [hj]; rfl
    have e2 : chkE V x = 3 := by unfold chkE; rw [hx']; rfl
    rw [e2] at HC
    have HJ := Lib.hid (And.intro hj hj2)
    have FIN : Hid (Sp w lo hi (.pointer (some ⟨p, 0, none⟩)) (some (L, V)) (.int .i64 3) (.returned (.int .i64 3)) w) := ⟨rfl, ⟨p, rfl, hPT⟩, Mod.refl _ _ _⟩
    clear hI hx hx' e2 hj hj2 l1 l2 hcap hPT
    go_enter Try.func22, Try.ntmps22
    go_wp2_with fail
    refine HC.out.mono ?_
    rintro e w' ⟨rfl, rfl⟩
    go_wp2
    go_ret
    rw [HJ.out.1, HJ.out.2]
    exact FIN.out
end Go.Proofs.Ytblopfgnhokocaa
