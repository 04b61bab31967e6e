/- THE CONTRACTS of package splay: Sum, Set, Split, Reverse, of a node. -/
import Derived.Test.YtblopfgnhokocaaF
namespace Go.Proofs.Ytblopfgnhokocaa
open Go.RowKit P
set_option linter.unusedVariables false
set_option linter.unusedSimpArgs false

/-! ### sums in 128 bits -/
def sumE (s : Int) : Int := if -9223372036854775808 ≤ s ∧ s ≤ 9223372036854775807 then 0 else 7
def sumV (s : Int) : Int := if -9223372036854775808 ≤ s ∧ s ≤ 9223372036854775807 then s else 0
theorem sum_fits {s : Int} (h : In64 s) : IntKind.i64.wrap (lo64 s) = s := by
  have h1 := h.1
  have h2 := h.2
  rw [IntKind.wrap_i64]; unfold lo64; omega
theorem sum_not {s : Int} (h : ¬ In64 s) (h1 : -85070591730234615865843651857942052864 ≤ s) (h2 : s ≤ 85070591730234615865843651857942052864) : ¬ IntKind.u64.wrap (IntKind.i64.wrap (lo64 s) / 9223372036854775808) = hi64 s := by
  unfold In64 at h
  rw [IntKind.wrap_u64, IntKind.wrap_i64]
  unfold lo64 hi64
  have e : s = 18446744073709551616 * (s / 18446744073709551616) + s % 18446744073709551616 := (Int.mul_ediv_add_emod s _).symm
  have r0 := Int.emod_nonneg s (show (18446744073709551616 : Int) ≠ 0 by omega)
  have r1 := Int.emod_lt_of_pos s (show (0 : Int) < 18446744073709551616 by omega)
  generalize s / 18446744073709551616 = q at *
  generalize s % 18446744073709551616 = r at *
  subst e
  have hq1 : -4611686018427387905 ≤ q := by omega
  have hq2 : q ≤ 4611686018427387905 := by omega
  clear h1 h2
  by_cases hr : r < 9223372036854775808
  · have e1 : (r + 9223372036854775808) % 18446744073709551616 - 9223372036854775808 = r := by omega
    rw [e1]
    have e2 : r / 9223372036854775808 = 0 := by omega
    rw [e2]
    have : q ≠ 0 := fun e => h ⟨by omega, by omega⟩
    omega
  · have e1 : (r + 9223372036854775808) % 18446744073709551616 - 9223372036854775808 = r - 18446744073709551616 := by omega
    rw [e1]
    have e2 : (r - 18446744073709551616) / 9223372036854775808 = -1 := by omega
    rw [e2]
    have : q ≠ -1 := fun e => h ⟨by omega, by omega⟩
    omega
theorem sumN_bd {V : List Int} (h : ∀ v ∈ V, In64 v) : ∀ l : List Nat, -9223372036854775808 * (l.length : Int) ≤ sumN V l ∧ sumN V l ≤ 9223372036854775807 * (l.length : Int) := by
  intro l
  induction l with
  | nil => simp [sumN]
  | cons a l ih =>
    have := getD_in64 h a
    have h1 := this.1
    have h2 := this.2
    have e : sumN V (a :: l) = V.getD a 0 + sumN V l := by simp [sumN]
    rw [e, List.length_cons]
    omega

set_option maxRecDepth 100000 in
set_option maxHeartbeats 1000000 in
theorem sum_ok {w : World} {lo hi p : Nat} {L : List (List Nat)} {V : List Int} (h : PT w lo hi p L V) (x : Int) (h0 : 0 ≤ x) (hxV : x < V.length) : Calls Try.prog 25 #[.pointer (some ⟨p, 0, none⟩), .int .i64 x] w (Sp w lo hi (.pointer (some ⟨p, 0, none⟩)) (some (L, V)) (.tuple #[.int .i64 (sumV (sumN V (lst L x.toNat))), .int .i64 (sumE (sumN V (lst L x.toNat)))])) := by
  obtain ⟨g, n, cap, T, l1, l2, hcap, hI⟩ := h
  have hxn : x < n := by rw [← hI.len]; exact hxV
  obtain ⟨y, hy⟩ : ∃ y, y = x.toNat + 1 := ⟨_, rfl⟩
  have hyn : y ≤ n := by omega
  have hn := hI.hn
  have HC := Lib.hid (check_ok hI.hob hI.hn x y (by omega) h0 hxn)
  have HS := Lib.hid (splayF hI x.toNat (by omega) y hy)
  have HI := Lib.hid hI
  have HX := Lib.hid (And.intro hxV hxn)
  have HY := Lib.hid hy
  have LL := Lib.hid (And.intro l1 (And.intro l2 hcap))
  have c1 := hI.hob.2
  have npg := hI.ne
  have npg' : ¬ g = p := fun e => npg e.symm
  clear hI hxV hxn hy l1 l2 hcap
  go_enter Try.func25, Try.ntmps25
  go_wp2_with fail
  refine HC.out.mono ?_
  rintro e w' ⟨rfl, rfl⟩
  go_wp2_with fail
  refine HS.out.mono ?_
  rintro e w2 ⟨rfl, T2, i2, m2, r2, f2⟩
  have I2 := Lib.hid i2
  have M2 := Lib.hid m2
  have R2 := Lib.hid r2
  have c1 := i2.hob.2
  have HT2 := Lib.hid i2.tab
  have hp := i2.fok.part
  have hlx := hp.lst (show x.toNat < n by have := HX.out; omega)
  obtain ⟨⟨a, b, tr⟩, tt⟩ := r2
  have hs : (T2 y).sum = sumN V (lst L x.toNat) := by
    rw [HY.out, (root_kids tr).2.2.2.2.2.1, tsum_up1 (fun z hz => i2.val z (hp.lt hlx.1 hz))]
  have hb := sumN_bd i2.rng (lst L x.toNat)
  have hlen := hp.len_le hlx.1
  obtain ⟨s, hs2⟩ : ∃ s, sumN V (lst L x.toNat) = s := ⟨_, rfl⟩
  rw [hs2] at hs hb
  have HE := Lib.hid hs2
  have cl : w2.cell? ⟨g, y * 9 + 8, none⟩ = some (.int .u64 (lo64 s)) := by have := RTab.cell HT2.out (f := 8) hyn (by omega) rfl; rw [show cellOf (T2 y) 8 = Value.int .u64 (lo64 (T2 y).sum) from rfl, hs] at this; exact this
  have ch : w2.cell? ⟨g, y * 9 + 7, none⟩ = some (.int .u64 (hi64 s)) := by have := RTab.cell HT2.out (f := 7) hyn (by omega) rfl; rw [show cellOf (T2 y) 7 = Value.int .u64 (hi64 (T2 y).sum) from rfl, hs] at this; exact this
  by_cases hin : In64 s
  · have e1 := sum_fits hin
    have e2 := hi_val hin
    have FS : Hid (sumV s = s ∧ sumE s = 0) := ⟨if_pos hin, if_pos hin⟩
    obtain ⟨lo', hlo⟩ : ∃ z, lo64 s = z := ⟨_, rfl⟩
    obtain ⟨hi', hhi⟩ : ∃ z, hi64 s = z := ⟨_, rfl⟩
    rw [hlo] at e1 cl
    rw [hhi] at e2 ch
    have i1 := hin.1
    have i3 := hin.2
    clear i2 m2 f2 HS hs hb hlen hs2 hp hlx tr tt hlo hhi hin
    go_wp2
    go_ret2
    rw [HE.out, FS.out.1, FS.out.2]
    exact I2.out.sp LL.out.1 LL.out.2.1 LL.out.2.2 M2.out
  · have e1 := sum_not hin (by omega) (by omega)
    have FS : Hid (sumV s = 0 ∧ sumE s = 7) := ⟨if_neg hin, if_neg hin⟩
    obtain ⟨lo', hlo⟩ : ∃ z, lo64 s = z := ⟨_, rfl⟩
    obtain ⟨hi', hhi⟩ : ∃ z, hi64 s = z := ⟨_, rfl⟩
    obtain ⟨sm, hsm⟩ : ∃ z, IntKind.i64.wrap (lo64 s) = z := ⟨_, rfl⟩
    have sb : In64 sm := by rw [← hsm, IntKind.wrap_i64]; unfold In64; omega
    have i1 := sb.1
    have i3 := sb.2
    rw [hsm, hhi] at e1
    rw [hlo] at hsm cl
    rw [hhi] at ch
    have e2 : (IntKind.u64.wrap (sm / 9223372036854775808) == hi') = false := by simpa using e1
    have e3 : (IntKind.u64.wrap (sm / 9223372036854775808) != hi') = true := by simpa using e1
    clear i2 m2 f2 HS hs hb hlen hs2 hp hlx tr tt hlo hhi hin e1 sb
    go_wp2
    go_ret2
    rw [HE.out, FS.out.1, FS.out.2]
    exact I2.out.sp LL.out.1 LL.out.2.1 LL.out.2.2 M2.out

/-- One table is turned into another: one sequence becomes some. -/
theorem In.turn {w w' : World} {ob g n cap : Nat} {T T' : Tb} {L B L' : List (List Nat)} {V V' : List Int} {x : Nat} (h : In w ob g n cap T L V) (hx : x < n) (m : Mod g (g + 1) w w') (t : Tab w' g n T') (hB : ∀ l ∈ B, l ≠ [] ∧ ∃ u, TrL T' (up1 l) u)
    (pf : B.flatten.Perm (lst L x)) (far : ∀ y, y ∉ up1 (lst L x) → T' y = T y) (hL : (others L x ++ B).Perm L') (hl : V'.length = n) (hv : ∀ z, z < n → (T' (z + 1)).val = V'.getD z 0) (hr : ∀ v ∈ V', In64 v) : In w' ob g n cap T' L' V' := by
  refine ⟨h.hob.mod m (by have := h.ne; omega), t, h.ne, h.hn, ?_, hl, hv, hr⟩
  have := h.fok.change (A := [lst L x]) (B := B) (R := others L x) (h.fok.part.others hx) hB (by simpa using pf) (fun y hy => far y (by simpa using hy))
  exact this.perm (List.perm_append_comm.trans hL)
theorem Rt.bd {w : World} {ob g n cap : Nat} {T : Tb} {L : List (List Nat)} {V : List Int} {x : Nat} (h : In w ob g n cap T L V) (hx : x < n) : Bd n (up1 (lst L x)) := by
  intro y hy
  obtain ⟨z, hz, rfl⟩ := mem_up1.1 hy
  have := h.fok.part.lt (h.fok.part.lst hx).1 hz
  omega
theorem others_back {n : Nat} {L : List (List Nat)} (h : Part n L) {x : Nat} (hx : x < n) : (others L x ++ [lst L x]).Perm L := List.perm_append_comm.trans (h.others hx).symm
def setVal (v : Int) (d : Nd) : Nd := { d with val := v }
def setTurn (v : Bool) (d : Nd) : Nd := { d with turn := v }
def setK0 (v : Nat) (d : Nd) : Nd := { d with k0 := v }
set_option maxRecDepth 100000 in
set_option maxHeartbeats 1000000 in
theorem set_ok {w : World} {lo hi p : Nat} {L : List (List Nat)} {V : List Int} (h : PT w lo hi p L V) (x z : Int) (hz : In64 z) (h0 : 0 ≤ x) (hxV : x < V.length) : Calls Try.prog 24 #[.pointer (some ⟨p, 0, none⟩), .int .i64 x, .int .i64 z] w (Sp w lo hi (.pointer (some ⟨p, 0, none⟩)) (some (L, V.set x.toNat z)) (.int .i64 0)) := by
  obtain ⟨g, n, cap, T, l1, l2, hcap, hI⟩ := h
  have hxn : x < n := by rw [← hI.len]; exact hxV
  obtain ⟨y, hy⟩ : ∃ y, y = x.toNat + 1 := ⟨_, rfl⟩
  have hyn : y ≤ n := by omega
  have hn := hI.hn
  have HC := Lib.hid (check_ok hI.hob hI.hn x y (by omega) h0 hxn)
  have HS := Lib.hid (splayF hI x.toNat (by omega) y hy)
  have HI := Lib.hid hI
  have HX := Lib.hid (And.intro hxV hxn)
  have HY := Lib.hid hy
  have LL := Lib.hid (And.intro l1 (And.intro l2 hcap))
  have c1 := hI.hob.2
  have npg := hI.ne
  have npg' : ¬ g = p := fun e => npg e.symm
  clear hI hxV hxn hy l1 l2 hcap
  go_enter Try.func24, Try.ntmps24
  go_wp2_with fail
  refine HC.out.mono ?_
  rintro e w' ⟨rfl, rfl⟩
  go_wp2_with fail
  refine HS.out.mono ?_
  rintro e w2 ⟨rfl, T2, i2, m2, r2, f2⟩
  have I2 := Lib.hid i2
  have M2 := Lib.hid m2
  have R2 := Lib.hid r2
  have c1 := i2.hob.2
  have HT2 := Lib.hid i2.tab
  have cv := i2.tab.2 (y * 9 + 6)
  obtain ⟨vo, hvo⟩ : ∃ v, (T2 y).val = v := ⟨_, rfl⟩
  have cc : w2.cell? ⟨g, y * 9 + 6, none⟩ = some (.int .i64 vo) := RTab.cval HT2.out hyn hvo
  obtain ⟨⟨ta, tb, tr⟩, tt⟩ := r2
  have st := set_tree (v := z) tr
  have t3 : Tab (w2.setCell ⟨g, y * 9 + 6, none⟩ (.int .i64 z)) g n (app T2 y (setVal z)) := Tab.app i2.tab hyn (by omega) rfl (below9 (fun _ => rfl) (fun _ => rfl) (fun _ => rfl) (fun _ => rfl) (fun _ => rfl) (fun _ => rfl) (fun h => absurd rfl h) (fun _ => rfl) (fun _ => rfl))
  have o3 := i2.hob.setg npg (y * 9 + 6) (.int .i64 z)
  have e3 : app T2 y (setVal z) = upd T2 (x.toNat + 1) { T2 (x.toNat + 1) with val := z } := by rw [HY.out]; rfl
  have ok3 : PullOK (app T2 y (setVal z)) n y := by rw [e3, HY.out]; exact kids_ok st.2.1 (Rt.bd i2 (by have := HX.out; omega)) (by omega) hn
  have v3 : In64 ((app T2 y (setVal z)) y).val := by rw [app_same]; exact hz
  have HPL := Lib.hid (pull_any o3 t3 npg y hyn hn ok3 v3)
  have ST := Lib.hid st
  have E3 := Lib.hid e3
  have HZ := Lib.hid hz
  clear i2 m2 f2 HS hvo st t3 o3 e3 ok3 v3 hz tr tt
  go_wp2_with fail
  refine HPL.out.mono ?_
  rintro e w4 ⟨rfl, t4, m4⟩
  have m24 : Mod g (g + 1) w w4 := (M2.out.setg _ _).trans m4
  have mm : Mod g (g + 1) w2 w4 := ((Mod.refl _ _ _).setg _ _).trans m4
  have t5 : Tab w4 g n (pull (upd T2 (x.toNat + 1) { T2 (x.toNat + 1) with val := z }) (x.toNat + 1)) := by have := t4; rw [E3.out, HY.out] at this; exact this
  obtain ⟨T4, i4⟩ : ∃ T4, In w4 p g n cap T4 L (V.set x.toNat z) := by
    have hxn : x.toNat < n := by have := HX.out; omega
    have hlx := I2.out.fok.part.lst hxn
    refine ⟨_, In.turn I2.out hxn mm t5 (B := [lst L x.toNat]) (fun l hl => ?_) (by simp) (fun y hy => ST.out.2.2.1 y (fun e => hy (by rw [e]; exact up1_mem.2 hlx.2))) (others_back I2.out.fok.part hxn) (by rw [List.length_set]; exact I2.out.len) (fun u hu => ?_) (fun v hv => ?_)⟩
    · rw [List.mem_singleton] at hl; subst hl
      exact ⟨I2.out.fok.part.2 _ hlx.1, _, ST.out.1⟩
    · by_cases e : u = x.toNat
      · subst e
        rw [ST.out.2.2.2, List.getD_eq_getElem?_getD, List.getElem?_set_self (by rw [I2.out.len]; exact hu)]; rfl
      · rw [ST.out.2.2.1 (u + 1) (by omega), I2.out.val u hu, List.getD_eq_getElem?_getD, List.getD_eq_getElem?_getD, List.getElem?_set_ne (Ne.symm e)]
    · rcases List.mem_or_eq_of_mem_set hv with h | rfl
      · exact I2.out.rng v h
      · exact HZ.out
  have I4 := Lib.hid i4
  have M4 := Lib.hid m24
  clear t4 m4 m24 mm t5 i4 HPL
  go_wp2
  go_ret
  exact I4.out.sp LL.out.1 LL.out.2.1 LL.out.2.2 M4.out
set_option maxRecDepth 100000 in
set_option maxHeartbeats 1000000 in
theorem reverse_ok {w : World} {lo hi p : Nat} {L : List (List Nat)} {V : List Int} (h : PT w lo hi p L V) (x : Int) (h0 : 0 ≤ x) (hxV : x < V.length) : Calls Try.prog 26 #[.pointer (some ⟨p, 0, none⟩), .int .i64 x] w (Sp w lo hi (.pointer (some ⟨p, 0, none⟩)) (some (revL L x.toNat, V)) (.int .i64 0)) := by
  obtain ⟨g, n, cap, T, l1, l2, hcap, hI⟩ := h
  have hxn : x < n := by rw [← hI.len]; exact hxV
  obtain ⟨y, hy⟩ : ∃ y, y = x.toNat + 1 := ⟨_, rfl⟩
  have hyn : y ≤ n := by omega
  have hn := hI.hn
  have HC := Lib.hid (check_ok hI.hob hI.hn x y (by omega) h0 hxn)
  have HS := Lib.hid (splayF hI x.toNat (by omega) y hy)
  have HI := Lib.hid hI
  have HX := Lib.hid (And.intro hxV hxn)
  have HY := Lib.hid hy
  have LL := Lib.hid (And.intro l1 (And.intro l2 hcap))
  have c1 := hI.hob.2
  have npg := hI.ne
  have npg' : ¬ g = p := fun e => npg e.symm
  clear hI hxV hxn hy l1 l2 hcap
  go_enter Try.func26, Try.ntmps26
  go_wp2_with fail
  refine HC.out.mono ?_
  rintro e w' ⟨rfl, rfl⟩
  go_wp2_with fail
  refine HS.out.mono ?_
  rintro e w2 ⟨rfl, T2, i2, m2, r2, f2⟩
  have I2 := Lib.hid i2
  have M2 := Lib.hid m2
  have R2 := Lib.hid r2
  have c1 := i2.hob.2
  have HT2 := Lib.hid i2.tab
  have cv := i2.tab.2 (y * 9 + 5)
  obtain ⟨⟨ta, tb, tr⟩, tt⟩ := r2
  have cc : w2.cell? ⟨g, y * 9 + 5, none⟩ = some (.bool false) := RTab.cturn HT2.out hyn (by rw [HY.out]; exact tt)
  have t3 : Tab (w2.setCell ⟨g, y * 9 + 5, none⟩ (.bool true)) g n (app T2 y (setTurn true)) := Tab.app i2.tab hyn (by omega) rfl (below9 (fun _ => rfl) (fun _ => rfl) (fun _ => rfl) (fun _ => rfl) (fun _ => rfl) (fun h => absurd rfl h) (fun _ => rfl) (fun _ => rfl) (fun _ => rfl))
  have i4 : In (w2.setCell ⟨g, y * 9 + 5, none⟩ (.bool true)) p g n cap (app T2 y (setTurn true)) (revL L x.toNat) V := by
    have hxn : x.toNat < n := by have := HX.out; omega
    have hlx := i2.fok.part.lst hxn
    have e3 : app T2 y (setTurn true) = upd T2 (x.toNat + 1) { T2 (x.toNat + 1) with turn := true } := by rw [HY.out]; rfl
    refine In.turn i2 hxn ((Mod.refl _ _ _).setg _ _) t3 (B := [(lst L x.toNat).reverse]) (fun l hl => ?_) (by simp) (fun u hu => ?_) (List.Perm.refl _) i2.len (fun u hu => ?_) i2.rng
    · rw [List.mem_singleton] at hl; subst hl
      have := turn_tree tr tt
      rw [← e3] at this
      have er : up1 (lst L x.toNat).reverse = (up1 (lst L x.toNat)).reverse := by simp [up1]
      rw [← er] at this
      exact ⟨by simpa using i2.fok.part.2 _ hlx.1, _, this⟩
    · exact app_ne (fun e => hu (by rw [e, HY.out]; exact up1_mem.2 hlx.2))
    · by_cases e : u + 1 = y
      · rw [e, app_same]; show (T2 y).val = _; rw [← e]; exact i2.val u hu
      · rw [app_ne e]; exact i2.val u hu
  have I4 := Lib.hid i4
  have M4 : Hid (Mod g (g + 1) w (w2.setCell ⟨g, y * 9 + 5, none⟩ (.bool true))) := M2.out.setg _ _
  clear i2 m2 f2 HS t3 i4 tr tt
  go_wp2
  go_ret
  exact I4.out.sp LL.out.1 LL.out.2.1 LL.out.2.2 M4.out
set_option maxRecDepth 100000 in
set_option maxHeartbeats 1000000 in
theorem split_ok {w : World} {lo hi p : Nat} {L : List (List Nat)} {V : List Int} (h : PT w lo hi p L V) (x : Int) (h0 : 0 ≤ x) (hxV : x < V.length) : Calls Try.prog 20 #[.pointer (some ⟨p, 0, none⟩), .int .i64 x] w (Sp w lo hi (.pointer (some ⟨p, 0, none⟩)) (some (splitL L x.toNat, V)) (.int .i64 0)) := by
  obtain ⟨g, n, cap, T, l1, l2, hcap, hI⟩ := h
  have hxn : x < n := by rw [← hI.len]; exact hxV
  obtain ⟨y, hy⟩ : ∃ y, y = x.toNat + 1 := ⟨_, rfl⟩
  have hyn : y ≤ n := by omega
  have hn := hI.hn
  have HC := Lib.hid (check_ok hI.hob hI.hn x y (by omega) h0 hxn)
  have HS := Lib.hid (splayF hI x.toNat (by omega) y hy)
  have HI := Lib.hid hI
  have HX := Lib.hid (And.intro hxV hxn)
  have HY := Lib.hid hy
  have LL := Lib.hid (And.intro l1 (And.intro l2 hcap))
  have c1 := hI.hob.2
  have npg := hI.ne
  have npg' : ¬ g = p := fun e => npg e.symm
  clear hI hxV hxn hy l1 l2 hcap
  go_enter Try.func20, Try.ntmps20
  go_wp2_with fail
  refine HC.out.mono ?_
  rintro e w' ⟨rfl, rfl⟩
  go_wp2_with fail
  refine HS.out.mono ?_
  rintro e w2 ⟨rfl, T2, i2, m2, r2, f2⟩
  have I2 := Lib.hid i2
  have M2 := Lib.hid m2
  have R2 := Lib.hid r2
  have c1 := i2.hob.2
  have HT2 := Lib.hid i2.tab
  obtain ⟨⟨a, b, tr⟩, tt⟩ := r2
  have hxn : x.toNat < n := by have := HX.out; omega
  have hp := i2.fok.part
  have hlx := hp.lst hxn
  have rk := root_kids tr
  have rs := root_seq tr tt
  have hidx : (lst L x.toNat).idxOf x.toNat = a.nodes.length := by rw [idx_up1 rs (hp.lnodup hlx.1), seq_len]
  obtain ⟨k, hk⟩ : ∃ k, (T2 y).k0 = k := ⟨_, rfl⟩
  have hka : k = a.root := by rw [← hk, HY.out]; exact rk.1
  have ck : w2.cell? ⟨g, y * 9, none⟩ = some (.int .i32 k) := RTab.ck0 HT2.out hyn hk
  by_cases hz : k = 0
  · have ha : a = .nil := by
      cases a with
      | nil => rfl
      | node a1 z a2 =>
        have := tr.1.2.2.2.2.1.ne z (by simp [Tr.nodes])
        rw [hz] at hka
        exact absurd hka.symm this
    have es : splitL L x.toNat = L := by unfold splitL; rw [if_pos (by rw [hidx, ha]; rfl)]
    have hkb : ((k : Int) != 0) = false := by simp [hz]
    have ES := Lib.hid es
    clear i2 m2 f2 HS hk hka hz ha es tr tt hp hlx rk rs hidx hxn
    go_wp2
    go_ret
    rw [ES.out]
    exact I2.out.sp LL.out.1 LL.out.2.1 LL.out.2.2 M2.out
  · have hkb : ((k : Int) != 0) = true := by simp; omega
    have hr0 : a.root ≠ 0 := fun e => hz (hka.trans e)
    obtain ⟨q1, q2, q3, q4, q5⟩ := cut_tree tr tt hr0
    have hkn : k ≤ n := by
      rw [hka]
      exact Rt.bd i2 hxn _ (tr.nodes.mem_iff.2 (by simp [Tr.nodes, Tr.root_mem hr0]))
    have hky : ¬ k = y := by
      rw [hka, HY.out]
      intro e
      exact (kids_nodup tr).2.2.1 (by rw [← e]; exact Tr.root_mem hr0)
    have t3 := tab_up (v := 0) i2.tab hkn
    have t4 := RTab.ext (C' := fun u f => cellOf (app (app T2 k (setUp 0)) y (setK0 0) u) f) (Tab.app (f := 0) (q := setK0 0) (v := .int .i32 (0 : Nat)) t3 hyn (by omega) rfl (below9 (fun h => absurd rfl h) (fun _ => rfl) (fun _ => rfl) (fun _ => rfl) (fun _ => rfl) (fun _ => rfl) (fun _ => rfl) (fun _ => rfl) (fun _ => rfl))) (fun _ _ _ _ => rfl)
    have o4 := (i2.hob.setg npg (k * 9 + 2) (.int .i32 (0 : Nat))).setg npg (y * 9) (.int .i32 (0 : Nat))
    have e4 : app (app T2 k (setUp 0)) y (setK0 0) = upd (upd T2 a.root { T2 a.root with up := 0 }) (x.toNat + 1) { upd T2 a.root { T2 a.root with up := 0 } (x.toNat + 1) with k0 := 0 } := by rw [hka, HY.out]; rfl
    have ok4 : PullOK (app (app T2 k (setUp 0)) y (setK0 0)) n y := by rw [e4, HY.out]; exact kids_ok q3 (Rt.bd i2 hxn) (by omega) hn
    have v4 : In64 ((app (app T2 k (setUp 0)) y (setK0 0)) y).val := by
      rw [app_same]; show In64 (app T2 k (setUp 0) y).val; rw [app_ne (fun e => hky e.symm), HY.out, i2.val _ hxn]; exact getD_in64 i2.rng _
    have HPL := Lib.hid (pull_any o4 t4 npg y hyn hn ok4 v4)
    obtain ⟨uk, huk⟩ : ∃ u, (T2 k).up = u := ⟨_, rfl⟩
    have cu : w2.cell? ⟨g, k * 9 + 2, none⟩ = some (.int .i32 uk) := RTab.cup HT2.out hkn huk
    have z1 := i2.tab.2 (k * 9 + 2)
    have z2 := i2.tab.2 (y * 9)
    have QQ := Lib.hid (And.intro q1 (And.intro q2 (And.intro q4 q5)))
    have E4 := Lib.hid e4
    have HID := Lib.hid hidx
    have RS := Lib.hid rs
    have M4 : Hid (Mod g (g + 1) w2 ((w2.setCell ⟨g, k * 9 + 2, none⟩ (.int .i32 (0 : Nat))).setCell ⟨g, y * 9, none⟩ (.int .i32 (0 : Nat)))) := ((Mod.refl _ _ _).setg _ _).setg _ _
    have NA : Hid (a.nodes ≠ []) := fun e => by have := Tr.root_mem hr0; rw [e] at this; simp at this
    clear i2 m2 f2 HS hk hka hz tr tt hp hlx rk rs hidx hxn q1 q2 q3 q4 q5 t3 t4 o4 e4 ok4 v4 huk hr0
    go_wp2_with fail
    refine HPL.out.mono ?_
    rintro e w5 ⟨rfl, t5, m5⟩
    have mm : Mod g (g + 1) w2 w5 := M4.out.trans m5
    have t6 : Tab w5 g n (pull (upd (upd T2 a.root { T2 a.root with up := 0 }) (x.toNat + 1) { upd T2 a.root { T2 a.root with up := 0 } (x.toNat + 1) with k0 := 0 }) (x.toNat + 1)) := by have := t5; rw [E4.out, HY.out] at this; exact this
    obtain ⟨T5, i5⟩ : ∃ T5, In w5 p g n cap T5 (splitL L x.toNat) V := by
      have hxn : x.toNat < n := by have := HX.out; omega
      have hlx := I2.out.fok.part.lst hxn
      have hne : ¬ (lst L x.toNat).idxOf x.toNat = 0 := by rw [HID.out]; intro e; exact NA.out (List.length_eq_zero_iff.1 e)
      have htk : up1 ((lst L x.toNat).take ((lst L x.toNat).idxOf x.toNat)) = seq (tn T2) false a := by
        unfold up1; rw [List.map_take]; show (up1 (lst L x.toNat)).take _ = _
        rw [RS.out, HID.out, ← seq_len (tn T2) false a, List.take_left']; rfl
      have hdr : up1 ((lst L x.toNat).drop ((lst L x.toNat).idxOf x.toNat)) = (x.toNat + 1) :: seq (tn T2) false b := by
        unfold up1; rw [List.map_drop]; show (up1 (lst L x.toNat)).drop _ = _
        rw [RS.out, HID.out, ← seq_len (tn T2) false a, List.drop_left']; rfl
      have hil : (lst L x.toNat).idxOf x.toNat < (lst L x.toNat).length := List.idxOf_lt_length_of_mem hlx.2
      refine ⟨_, In.turn I2.out hxn mm t6 (B := [(lst L x.toNat).take ((lst L x.toNat).idxOf x.toNat), (lst L x.toNat).drop ((lst L x.toNat).idxOf x.toNat)]) (fun l hl => ?_) (by simp) (fun u hu => QQ.out.2.2.2 u hu) (by unfold splitL; rw [if_neg hne]) I2.out.len (fun u hu => by rw [QQ.out.2.2.1]; exact I2.out.val u hu) I2.out.rng⟩
      rcases List.mem_cons.1 hl with rfl | hl
      · refine ⟨?_, _, by rw [htk]; exact QQ.out.1⟩
        intro e; have := congrArg List.length e; rw [List.length_take, List.length_nil] at this; omega
      · rw [List.mem_singleton] at hl; subst hl
        refine ⟨?_, _, by rw [hdr]; exact QQ.out.2.1⟩
        intro e; have := congrArg List.length e; rw [List.length_drop, List.length_nil] at this; omega
    have I5 := Lib.hid i5
    have M5 : Hid (Mod g (g + 1) w w5) := M2.out.trans mm
    clear t5 m5 mm t6 i5 HPL
    go_wp2
    go_ret
    exact I5.out.sp LL.out.1 LL.out.2.1 LL.out.2.2 M5.out
end Go.Proofs.Ytblopfgnhokocaa
