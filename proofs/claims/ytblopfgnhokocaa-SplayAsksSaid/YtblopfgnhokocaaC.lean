/- THE CONTRACT of package splay's rotate. -/
import Derived.Test.YtblopfgnhokocaaB
namespace Go.Proofs.Ytblopfgnhokocaa
open Go.RowKit P
set_option linter.unusedVariables false
set_option linter.unusedSimpArgs false

theorem tab_kid1 {w : World} {g n x v : Nat} {T : Tb} (h : Tab w g n T) (hx : x ≤ n) : Tab (w.setCell ⟨g, x * 9 + 1, none⟩ (.int .i32 v)) g n (app T x (fun d => d.setKid true v)) :=
  Tab.app h hx (by omega) rfl (below9 (fun _ => rfl) (fun h => absurd rfl h) (fun _ => rfl) (fun _ => rfl) (fun _ => rfl) (fun _ => rfl) (fun _ => rfl) (fun _ => rfl) (fun _ => rfl))
theorem tab_kid0 {w : World} {g n x v : Nat} {T : Tb} (h : Tab w g n T) (hx : x ≤ n) : Tab (w.setCell ⟨g, x * 9, none⟩ (.int .i32 v)) g n (app T x (fun d => d.setKid false v)) :=
  Tab.app (f := 0) h hx (by omega) rfl (below9 (fun h => absurd rfl h) (fun _ => rfl) (fun _ => rfl) (fun _ => rfl) (fun _ => rfl) (fun _ => rfl) (fun _ => rfl) (fun _ => rfl) (fun _ => rfl))
theorem tab_up {w : World} {g n x v : Nat} {T : Tb} (h : Tab w g n T) (hx : x ≤ n) : Tab (w.setCell ⟨g, x * 9 + 2, none⟩ (.int .i32 v)) g n (app T x (setUp v)) :=
  Tab.app h hx (by omega) rfl (below9 (fun _ => rfl) (fun _ => rfl) (fun h => absurd rfl h) (fun _ => rfl) (fun _ => rfl) (fun _ => rfl) (fun _ => rfl) (fun _ => rfl) (fun _ => rfl))
theorem RTab.cup {w : World} {g n : Nat} {T : Tb} (h : Tab w g n T) {x v : Nat} (hx : x ≤ n) (e : (T x).up = v) : w.cell? ⟨g, x * 9 + 2, none⟩ = some (.int .i32 v) := by subst e; exact h.1 x 2 hx (by omega)
theorem RTab.ck0 {w : World} {g n : Nat} {T : Tb} (h : Tab w g n T) {x v : Nat} (hx : x ≤ n) (e : (T x).k0 = v) : w.cell? ⟨g, x * 9, none⟩ = some (.int .i32 v) := by subst e; exact h.1 x 0 hx (by omega)
theorem RTab.ck1 {w : World} {g n : Nat} {T : Tb} (h : Tab w g n T) {x v : Nat} (hx : x ≤ n) (e : (T x).k1 = v) : w.cell? ⟨g, x * 9 + 1, none⟩ = some (.int .i32 v) := by subst e; exact h.1 x 1 hx (by omega)
theorem RTab.csize {w : World} {g n : Nat} {T : Tb} (h : Tab w g n T) {x v : Nat} (hx : x ≤ n) (e : (T x).size = v) : w.cell? ⟨g, x * 9 + 3, none⟩ = some (.int .i32 v) := by subst e; exact h.1 x 3 hx (by omega)
theorem RTab.cmn {w : World} {g n : Nat} {T : Tb} (h : Tab w g n T) {x v : Nat} (hx : x ≤ n) (e : (T x).mn = v) : w.cell? ⟨g, x * 9 + 4, none⟩ = some (.int .i32 v) := by subst e; exact h.1 x 4 hx (by omega)
theorem RTab.cturn {w : World} {g n : Nat} {T : Tb} (h : Tab w g n T) {x : Nat} {v : Bool} (hx : x ≤ n) (e : (T x).turn = v) : w.cell? ⟨g, x * 9 + 5, none⟩ = some (.bool v) := by subst e; exact h.1 x 5 hx (by omega)
theorem flip_same {P : Program} {f : FuncId} {args : Array Value} {w : World} {v : Value} (h : Calls P f args w fun e w' => e = .returned v ∧ w = w') : Calls P f args w fun e w' => e = .returned v ∧ w' = w :=
  h.mono fun _ _ ⟨he, hm⟩ => ⟨he, hm.symm⟩
theorem app_congr {T : Tb} {x : Nat} {q r : Nd → Nd} (h : q (T x) = r (T x)) : app T x q = app T x r := by unfold P.app; rw [h]
theorem appz_z {T : Tb} {x : Nat} {q : Nd → Nd} (h : x = 0) : appz T x q = T := if_pos h
theorem appz_s {T : Tb} {x : Nat} {q : Nd → Nd} (h : ¬ x = 0) : appz T x q = app T x q := if_neg h
theorem Ob.setg {w : World} {ob g n cap : Nat} (h : Ob w ob g n cap) (hne : ob ≠ g) (o : Nat) (u : Value) : Ob (w.setCell ⟨g, o, none⟩ u) ob g n cap :=
  ⟨(World.cell?_setCell_other _ _ _ _ (by intro e; injection e with e; exact hne e.symm)).trans h.1, (World.cell?_setCell_other _ _ _ _ (by intro e; injection e with e; exact hne e.symm)).trans h.2⟩
theorem Ob.drew {w : World} {ob g n cap : Nat} (h : Ob w ob g n cap) : Ob w.drew ob g n cap := h
theorem Ob.drewN {w : World} {ob g n cap : Nat} (h : Ob w ob g n cap) (k : Nat) : Ob (w.drewN k) ob g n cap := h
/-- What rotate may count on. -/
structure RotOK (T : Tb) (n x p g i : Nat) (b : Bool) : Prop where
  hp : (T x).up = p
  hg : (T p).up = g
  hb : decide ((T p).k1 = x) = b
  hi : (T x).kid (!b) = i
  xn : x ≤ n
  pn : p ≤ n
  gn : g ≤ n
  i_n : i ≤ n
  pull1 : PullOK (rotL T x) n p
  pull2 : PullOK (pull (rotL T x) p) n x
  nxp : x ≠ p
  npg : p ≠ g
  nxg : x ≠ g
  ni : i ≠ 0 → i ≠ x ∧ i ≠ p
  vx : In64 (T x).val
  vp : In64 (T p).val
theorem rotL_eq {T : Tb} {n x p g i : Nat} {b : Bool} (h : RotOK T n x p g i b) :
    rotL T x = app (app (appz (app (appz (app T p (fun d => d.setKid b i)) i (setUp p)) x (fun d => d.setKid (!b) p)) g (fun d => d.setKid (decide (d.k1 = p)) x)) p (setUp x)) x (setUp g) := by
  unfold rotL; dsimp only; rw [h.hp, h.hg, h.hb, h.hi]

set_option maxRecDepth 100000 in
set_option maxHeartbeats 2000000 in
theorem rot_r00 {w : World} {ob g n cap x p gg i : Nat} {T : Tb} (hO : Ob w ob g n cap) (hT : Tab w g n T) (hpg : ob ≠ g) (hn : n ≤ 65536) (h : RotOK T n x p gg i true) (hi0 : i = 0) (hg0 : gg = 0) :
    Calls Try.prog 56 #[.pointer (some ⟨ob, 0, none⟩), .int .i32 x] w fun e w' => e = .returned (.tuple #[]) ∧ Tab w' g n (rot T x) ∧ Mod g (g + 1) w w' := by
  have c1 := hO.2
  have cx2 : w.cell? ⟨g, x * 9 + 2, none⟩ = some (.int .i32 p) := RTab.cup hT h.xn h.hp
  have cp2 : w.cell? ⟨g, p * 9 + 2, none⟩ = some (.int .i32 gg) := RTab.cup hT h.pn h.hg
  have cxk : w.cell? ⟨g, x * 9, none⟩ = some (.int .i32 i) := RTab.ck0 hT h.xn h.hi
  obtain ⟨kp, hkp⟩ : ∃ k, (T p).k1 = k := ⟨_, rfl⟩
  have cpk : w.cell? ⟨g, p * 9 + 1, none⟩ = some (.int .i32 kp) := RTab.ck1 hT h.pn hkp
  obtain ⟨ui, hui⟩ : ∃ k, (T i).up = k := ⟨_, rfl⟩
  have ci2 : w.cell? ⟨g, i * 9 + 2, none⟩ = some (.int .i32 ui) := RTab.cup hT h.i_n hui
  obtain ⟨k0, hk0⟩ : ∃ k, (T gg).k0 = k := ⟨_, rfl⟩
  have cg0 : w.cell? ⟨g, gg * 9, none⟩ = some (.int .i32 k0) := RTab.ck0 hT h.gn hk0
  obtain ⟨k1, hk1⟩ : ∃ k, (T gg).k1 = k := ⟨_, rfl⟩
  have cg1 : w.cell? ⟨g, gg * 9 + 1, none⟩ = some (.int .i32 k1) := RTab.ck1 hT h.gn hk1
  have n1 := h.nxp
  have n2 := h.npg
  have n3 := h.nxg
  clear hkp hui hk0 hk1
  have fz := hT.2
  have t1 := tab_kid1 (v := i) hT h.pn
  have o1 := hO.setg hpg (p * 9 + 1) (.int .i32 i)
  have t3 := tab_kid0 (v := p) t1 h.xn
  have o3 := o1.setg hpg (x * 9) (.int .i32 p)
  have E := rotL_eq h
  rw [appz_z hi0, appz_z hg0] at E
  have hib : ((i : Int) != 0) = false := by simp [hi0]
  have hgb : ((gg : Int) != 0) = false := by simp [hg0]
  have SD := Lib.hid (side_any hO hT p x true h.hb h.pn hn)
  have t5 := tab_up (v := x) t3 h.pn
  have o5 := o3.setg hpg (p * 9 + 2) (.int .i32 x)
  have t6 := tab_up (v := gg) t5 h.xn
  have o6 := o5.setg hpg (x * 9 + 2) (.int .i32 gg)
  simp only [Bool.not_true, Bool.not_false] at E
  rw [← E] at t6
  have L6 := Lib.hid t6
  have M6 := Lib.hid o6
  have HR := Lib.hid h
  have xn := h.xn
  have pn := h.pn
  have gn := h.gn
  have i_n := h.i_n
  have hpg' : ¬ g = ob := fun e => hpg e.symm
  clear t1 t3 t5 t6 o1 o3 o5 o6 E h hT hO hi0 hg0
  have fa := fz (p * 9)
  have fb := fz (p * 9 + 1)
  have fc := fz (i * 9 + 2)
  have fd := fz (x * 9)
  have fe := fz (x * 9 + 1)
  have ff := fz (gg * 9)
  have fg := fz (gg * 9 + 1)
  have fh := fz (p * 9 + 2)
  have fi := fz (x * 9 + 2)
  clear fz
  go_enter Try.func56, Try.ntmps56
  go_wp2_with fail
  refine SD.out.mono ?_
  rintro e w1 ⟨rfl, rfl⟩
  go_wp2_with fail
  refine (pull_any M6.out L6.out hpg p pn hn HR.out.pull1 (by rw [rotL_val]; exact HR.out.vp)).mono ?_
  rintro e w7 ⟨rfl, t7, m7⟩
  have MM : Hid (Mod g (g + 1) w w7) := Mod.trans ((((((Mod.refl _ _ _).setg _ _).setg _ _).setg _ _).setg _ _)) m7
  have O7 := Lib.hid (M6.out.mod m7 (by omega))
  have T7 := Lib.hid t7
  clear t7 m7 M6 L6
  go_wp2_with fail
  refine (pull_any O7.out T7.out hpg x xn hn HR.out.pull2 (by rw [pull_val, rotL_val]; exact HR.out.vx)).mono ?_
  rintro e w8 ⟨rfl, t8, m8⟩
  have M8 : Hid (Mod g (g + 1) w w8) := Mod.trans MM.out m8
  have T8 : Hid (Tab w8 g n (rot T x)) := by
    have := t8; show Tab _ _ _ _; unfold rot; rw [HR.out.hp]; exact this
  clear t8 m8
  go_wp2
  go_end0
  exact ⟨rfl, T8.out, M8.out⟩
set_option maxRecDepth 100000 in
set_option maxHeartbeats 2000000 in
theorem rot_r0g {w : World} {ob g n cap x p gg i : Nat} {T : Tb} (hO : Ob w ob g n cap) (hT : Tab w g n T) (hpg : ob ≠ g) (hn : n ≤ 65536) (h : RotOK T n x p gg i true) (hi0 : i = 0) (hg0 : ¬ gg = 0) :
    Calls Try.prog 56 #[.pointer (some ⟨ob, 0, none⟩), .int .i32 x] w fun e w' => e = .returned (.tuple #[]) ∧ Tab w' g n (rot T x) ∧ Mod g (g + 1) w w' := by
  have c1 := hO.2
  have cx2 : w.cell? ⟨g, x * 9 + 2, none⟩ = some (.int .i32 p) := RTab.cup hT h.xn h.hp
  have cp2 : w.cell? ⟨g, p * 9 + 2, none⟩ = some (.int .i32 gg) := RTab.cup hT h.pn h.hg
  have cxk : w.cell? ⟨g, x * 9, none⟩ = some (.int .i32 i) := RTab.ck0 hT h.xn h.hi
  obtain ⟨kp, hkp⟩ : ∃ k, (T p).k1 = k := ⟨_, rfl⟩
  have cpk : w.cell? ⟨g, p * 9 + 1, none⟩ = some (.int .i32 kp) := RTab.ck1 hT h.pn hkp
  obtain ⟨ui, hui⟩ : ∃ k, (T i).up = k := ⟨_, rfl⟩
  have ci2 : w.cell? ⟨g, i * 9 + 2, none⟩ = some (.int .i32 ui) := RTab.cup hT h.i_n hui
  obtain ⟨k0, hk0⟩ : ∃ k, (T gg).k0 = k := ⟨_, rfl⟩
  have cg0 : w.cell? ⟨g, gg * 9, none⟩ = some (.int .i32 k0) := RTab.ck0 hT h.gn hk0
  obtain ⟨k1, hk1⟩ : ∃ k, (T gg).k1 = k := ⟨_, rfl⟩
  have cg1 : w.cell? ⟨g, gg * 9 + 1, none⟩ = some (.int .i32 k1) := RTab.ck1 hT h.gn hk1
  have n1 := h.nxp
  have n2 := h.npg
  have n3 := h.nxg
  clear hkp hui hk0 hk1
  have fz := hT.2
  have t1 := tab_kid1 (v := i) hT h.pn
  have o1 := hO.setg hpg (p * 9 + 1) (.int .i32 i)
  have t3 := tab_kid0 (v := p) t1 h.xn
  have o3 := o1.setg hpg (x * 9) (.int .i32 p)
  have E := rotL_eq h
  rw [appz_z hi0, appz_s hg0] at E
  have hib : ((i : Int) != 0) = false := by simp [hi0]
  have hgb : ((gg : Int) != 0) = true := by simp; omega
  have SD := Lib.hid (side_any hO hT p x true h.hb h.pn hn)
  simp only [Bool.not_true, Bool.not_false] at E
  obtain ⟨T3, hT3⟩ : ∃ T3, app (app T p (fun d => d.setKid true i)) x (fun d => d.setKid false p) = T3 := ⟨_, rfl⟩
  rw [hT3] at t3 E
  obtain ⟨j, hj⟩ : ∃ j, decide ((T3 gg).k1 = p) = j := ⟨_, rfl⟩
  cases j
  · have E2 := E
    rw [app_congr (q := fun d => d.setKid (decide (d.k1 = p)) x) (r := fun d => d.setKid false x) (by show Nd.setKid _ _ _ = _; rw [hj])] at E2
    have MM3 : Mod g (g + 1) w ((w.setCell ⟨g, p * 9 + 1, none⟩ (.int .i32 i)).setCell ⟨g, x * 9, none⟩ (.int .i32 p)) := ((Mod.refl _ _ _).setg _ _).setg _ _
    obtain ⟨W3, hW3⟩ : ∃ W3, (w.setCell ⟨g, p * 9 + 1, none⟩ (.int .i32 i)).setCell ⟨g, x * 9, none⟩ (.int .i32 p) = W3 := ⟨_, rfl⟩
    rw [hW3] at t3 o3 MM3
    have HW3 := Lib.hid hW3
    have HM3 := Lib.hid MM3
    have HT3 := Lib.hid t3
    have HO3 := Lib.hid o3
    clear hW3 MM3
    have SD2 := Lib.hid (fun k => side_any (o3.drewN k) (RTab.drewN t3 k) gg p false hj h.gn hn)
    have t4 := tab_kid0 (v := x) t3 h.gn
    have o4 := o3.setg hpg (gg * 9) (.int .i32 x)
    have t5 := tab_up (v := x) t4 h.pn
    have o5 := o4.setg hpg (p * 9 + 2) (.int .i32 x)
    have t6 := tab_up (v := gg) t5 h.xn
    have o6 := o5.setg hpg (x * 9 + 2) (.int .i32 gg)
    rw [← E2] at t6
    have L6 := Lib.hid t6
    have M6 := Lib.hid o6
    have HR := Lib.hid h
    have xn := h.xn
    have pn := h.pn
    have gn := h.gn
    have i_n := h.i_n
    have hpg' : ¬ g = ob := fun e => hpg e.symm
    clear t1 t3 t5 t6 o1 o3 o5 o6 E h hT hO hi0 hg0 hj t4 o4 E2 hT3 cg0 cg1
    have fa := fz (p * 9)
    have fb := fz (p * 9 + 1)
    have fc := fz (i * 9 + 2)
    have fd := fz (x * 9)
    have fe := fz (x * 9 + 1)
    have ff := fz (gg * 9)
    have fg := fz (gg * 9 + 1)
    have fh := fz (p * 9 + 2)
    have fi := fz (x * 9 + 2)
    clear fz
    go_enter Try.func56, Try.ntmps56
    go_wp2_with fail
    refine SD.out.mono ?_
    rintro e w1 ⟨rfl, rfl⟩
    go_wp2_with fail
    rw [HW3.out]
    obtain ⟨kj, hkj⟩ : ∃ k, (T3 gg).k0 = k := ⟨_, rfl⟩
    have cgk : W3.cell? ⟨g, gg * 9, none⟩ = some (.int .i32 kj) := RTab.ck0 HT3.out gn hkj
    obtain ⟨up1, hu1⟩ : ∃ k, (T3 p).up = k := ⟨_, rfl⟩
    have cp3 : W3.cell? ⟨g, p * 9 + 2, none⟩ = some (.int .i32 up1) := RTab.cup HT3.out pn hu1
    obtain ⟨up2, hu2⟩ : ∃ k, (T3 x).up = k := ⟨_, rfl⟩
    have cx3 : W3.cell? ⟨g, x * 9 + 2, none⟩ = some (.int .i32 up2) := RTab.cup HT3.out xn hu2
    have fa := HT3.out.2 (gg * 9)
    have fb := HT3.out.2 (gg * 9 + 1)
    have fc := HT3.out.2 (p * 9 + 2)
    have fd := HT3.out.2 (x * 9 + 2)
    have cob := HO3.out.2
    have j0 : (0 : Int) ≤ gg := by omega
    have j1 : (gg : Int) < (n : Int) + 1 := by omega
    clear hkj hu1 hu2 cx2 cp2 cxk cpk ci2 fe ff fg fh fi c1 SD HW3
    go_still_tail 13, (by kernel_rfl)
    still_call (flip_same (SD2.out 1))
    repeat still_step
    try refine wpStill_nil ?_
    go_wp2_with fail
    refine (pull_any (M6.out.drewN 1) (RTab.drewN L6.out 1) hpg p pn hn HR.out.pull1 (by rw [rotL_val]; exact HR.out.vp)).mono ?_
    rintro e w7 ⟨rfl, t7, m7⟩
    have MM : Hid (Mod g (g + 1) w w7) := Mod.trans ((((HM3.out.setg _ _).setg _ _).setg _ _).drewN 1) m7
    have O7 := Lib.hid ((M6.out.drewN 1).mod m7 (by omega))
    have T7 := Lib.hid t7
    clear t7 m7 M6 L6
    go_wp2_with fail
    refine (pull_any O7.out T7.out hpg x xn hn HR.out.pull2 (by rw [pull_val, rotL_val]; exact HR.out.vx)).mono ?_
    rintro e w8 ⟨rfl, t8, m8⟩
    have M8 : Hid (Mod g (g + 1) w w8) := Mod.trans MM.out m8
    have T8 : Hid (Tab w8 g n (rot T x)) := by
      have := t8; show Tab _ _ _ _; unfold rot; rw [HR.out.hp]; exact this
    clear t8 m8
    go_wp2
    go_end0
    exact ⟨rfl, T8.out, M8.out⟩
  · have E2 := E
    rw [app_congr (q := fun d => d.setKid (decide (d.k1 = p)) x) (r := fun d => d.setKid true x) (by show Nd.setKid _ _ _ = _; rw [hj])] at E2
    have MM3 : Mod g (g + 1) w ((w.setCell ⟨g, p * 9 + 1, none⟩ (.int .i32 i)).setCell ⟨g, x * 9, none⟩ (.int .i32 p)) := ((Mod.refl _ _ _).setg _ _).setg _ _
    obtain ⟨W3, hW3⟩ : ∃ W3, (w.setCell ⟨g, p * 9 + 1, none⟩ (.int .i32 i)).setCell ⟨g, x * 9, none⟩ (.int .i32 p) = W3 := ⟨_, rfl⟩
    rw [hW3] at t3 o3 MM3
    have HW3 := Lib.hid hW3
    have HM3 := Lib.hid MM3
    have HT3 := Lib.hid t3
    have HO3 := Lib.hid o3
    clear hW3 MM3
    have SD2 := Lib.hid (fun k => side_any (o3.drewN k) (RTab.drewN t3 k) gg p true hj h.gn hn)
    have t4 := tab_kid1 (v := x) t3 h.gn
    have o4 := o3.setg hpg (gg * 9 + 1) (.int .i32 x)
    have t5 := tab_up (v := x) t4 h.pn
    have o5 := o4.setg hpg (p * 9 + 2) (.int .i32 x)
    have t6 := tab_up (v := gg) t5 h.xn
    have o6 := o5.setg hpg (x * 9 + 2) (.int .i32 gg)
    rw [← E2] at t6
    have L6 := Lib.hid t6
    have M6 := Lib.hid o6
    have HR := Lib.hid h
    have xn := h.xn
    have pn := h.pn
    have gn := h.gn
    have i_n := h.i_n
    have hpg' : ¬ g = ob := fun e => hpg e.symm
    clear t1 t3 t5 t6 o1 o3 o5 o6 E h hT hO hi0 hg0 hj t4 o4 E2 hT3 cg0 cg1
    have fa := fz (p * 9)
    have fb := fz (p * 9 + 1)
    have fc := fz (i * 9 + 2)
    have fd := fz (x * 9)
    have fe := fz (x * 9 + 1)
    have ff := fz (gg * 9)
    have fg := fz (gg * 9 + 1)
    have fh := fz (p * 9 + 2)
    have fi := fz (x * 9 + 2)
    clear fz
    go_enter Try.func56, Try.ntmps56
    go_wp2_with fail
    refine SD.out.mono ?_
    rintro e w1 ⟨rfl, rfl⟩
    go_wp2_with fail
    rw [HW3.out]
    obtain ⟨kj, hkj⟩ : ∃ k, (T3 gg).k1 = k := ⟨_, rfl⟩
    have cgk : W3.cell? ⟨g, gg * 9 + 1, none⟩ = some (.int .i32 kj) := RTab.ck1 HT3.out gn hkj
    obtain ⟨up1, hu1⟩ : ∃ k, (T3 p).up = k := ⟨_, rfl⟩
    have cp3 : W3.cell? ⟨g, p * 9 + 2, none⟩ = some (.int .i32 up1) := RTab.cup HT3.out pn hu1
    obtain ⟨up2, hu2⟩ : ∃ k, (T3 x).up = k := ⟨_, rfl⟩
    have cx3 : W3.cell? ⟨g, x * 9 + 2, none⟩ = some (.int .i32 up2) := RTab.cup HT3.out xn hu2
    have fa := HT3.out.2 (gg * 9)
    have fb := HT3.out.2 (gg * 9 + 1)
    have fc := HT3.out.2 (p * 9 + 2)
    have fd := HT3.out.2 (x * 9 + 2)
    have cob := HO3.out.2
    have j0 : (0 : Int) ≤ gg := by omega
    have j1 : (gg : Int) < (n : Int) + 1 := by omega
    clear hkj hu1 hu2 cx2 cp2 cxk cpk ci2 fe ff fg fh fi c1 SD HW3
    go_still_tail 13, (by kernel_rfl)
    still_call (flip_same (SD2.out 1))
    repeat still_step
    try refine wpStill_nil ?_
    go_wp2_with fail
    refine (pull_any (M6.out.drewN 1) (RTab.drewN L6.out 1) hpg p pn hn HR.out.pull1 (by rw [rotL_val]; exact HR.out.vp)).mono ?_
    rintro e w7 ⟨rfl, t7, m7⟩
    have MM : Hid (Mod g (g + 1) w w7) := Mod.trans ((((HM3.out.setg _ _).setg _ _).setg _ _).drewN 1) m7
    have O7 := Lib.hid ((M6.out.drewN 1).mod m7 (by omega))
    have T7 := Lib.hid t7
    clear t7 m7 M6 L6
    go_wp2_with fail
    refine (pull_any O7.out T7.out hpg x xn hn HR.out.pull2 (by rw [pull_val, rotL_val]; exact HR.out.vx)).mono ?_
    rintro e w8 ⟨rfl, t8, m8⟩
    have M8 : Hid (Mod g (g + 1) w w8) := Mod.trans MM.out m8
    have T8 : Hid (Tab w8 g n (rot T x)) := by
      have := t8; show Tab _ _ _ _; unfold rot; rw [HR.out.hp]; exact this
    clear t8 m8
    go_wp2
    go_end0
    exact ⟨rfl, T8.out, M8.out⟩
set_option maxRecDepth 100000 in
set_option maxHeartbeats 2000000 in
theorem rot_ri0 {w : World} {ob g n cap x p gg i : Nat} {T : Tb} (hO : Ob w ob g n cap) (hT : Tab w g n T) (hpg : ob ≠ g) (hn : n ≤ 65536) (h : RotOK T n x p gg i true) (hi0 : ¬ i = 0) (hg0 : gg = 0) :
    Calls Try.prog 56 #[.pointer (some ⟨ob, 0, none⟩), .int .i32 x] w fun e w' => e = .returned (.tuple #[]) ∧ Tab w' g n (rot T x) ∧ Mod g (g + 1) w w' := by
  have c1 := hO.2
  have cx2 : w.cell? ⟨g, x * 9 + 2, none⟩ = some (.int .i32 p) := RTab.cup hT h.xn h.hp
  have cp2 : w.cell? ⟨g, p * 9 + 2, none⟩ = some (.int .i32 gg) := RTab.cup hT h.pn h.hg
  have cxk : w.cell? ⟨g, x * 9, none⟩ = some (.int .i32 i) := RTab.ck0 hT h.xn h.hi
  obtain ⟨kp, hkp⟩ : ∃ k, (T p).k1 = k := ⟨_, rfl⟩
  have cpk : w.cell? ⟨g, p * 9 + 1, none⟩ = some (.int .i32 kp) := RTab.ck1 hT h.pn hkp
  obtain ⟨ui, hui⟩ : ∃ k, (T i).up = k := ⟨_, rfl⟩
  have ci2 : w.cell? ⟨g, i * 9 + 2, none⟩ = some (.int .i32 ui) := RTab.cup hT h.i_n hui
  obtain ⟨k0, hk0⟩ : ∃ k, (T gg).k0 = k := ⟨_, rfl⟩
  have cg0 : w.cell? ⟨g, gg * 9, none⟩ = some (.int .i32 k0) := RTab.ck0 hT h.gn hk0
  obtain ⟨k1, hk1⟩ : ∃ k, (T gg).k1 = k := ⟨_, rfl⟩
  have cg1 : w.cell? ⟨g, gg * 9 + 1, none⟩ = some (.int .i32 k1) := RTab.ck1 hT h.gn hk1
  have n1 := h.nxp
  have n2 := h.npg
  have n3 := h.nxg
  obtain ⟨n4, n5⟩ := h.ni hi0
  clear hkp hui hk0 hk1
  have fz := hT.2
  have t1 := tab_kid1 (v := i) hT h.pn
  have o1 := hO.setg hpg (p * 9 + 1) (.int .i32 i)
  have t2 := tab_up (v := p) t1 h.i_n
  have o2 := o1.setg hpg (i * 9 + 2) (.int .i32 p)
  have t3 := tab_kid0 (v := p) t2 h.xn
  have o3 := o2.setg hpg (x * 9) (.int .i32 p)
  have E := rotL_eq h
  rw [appz_s hi0, appz_z hg0] at E
  have hib : ((i : Int) != 0) = true := by simp; omega
  have hgb : ((gg : Int) != 0) = false := by simp [hg0]
  have SD := Lib.hid (side_any hO hT p x true h.hb h.pn hn)
  have t5 := tab_up (v := x) t3 h.pn
  have o5 := o3.setg hpg (p * 9 + 2) (.int .i32 x)
  have t6 := tab_up (v := gg) t5 h.xn
  have o6 := o5.setg hpg (x * 9 + 2) (.int .i32 gg)
  simp only [Bool.not_true, Bool.not_false] at E
  rw [← E] at t6
  have L6 := Lib.hid t6
  have M6 := Lib.hid o6
  have HR := Lib.hid h
  have xn := h.xn
  have pn := h.pn
  have gn := h.gn
  have i_n := h.i_n
  have hpg' : ¬ g = ob := fun e => hpg e.symm
  clear t1 t3 t5 t6 o1 o3 o5 o6 E h hT hO hi0 hg0
  have fa := fz (p * 9)
  have fb := fz (p * 9 + 1)
  have fc := fz (i * 9 + 2)
  have fd := fz (x * 9)
  have fe := fz (x * 9 + 1)
  have ff := fz (gg * 9)
  have fg := fz (gg * 9 + 1)
  have fh := fz (p * 9 + 2)
  have fi := fz (x * 9 + 2)
  clear fz
  go_enter Try.func56, Try.ntmps56
  go_wp2_with fail
  refine SD.out.mono ?_
  rintro e w1 ⟨rfl, rfl⟩
  go_wp2_with fail
  refine (pull_any M6.out L6.out hpg p pn hn HR.out.pull1 (by rw [rotL_val]; exact HR.out.vp)).mono ?_
  rintro e w7 ⟨rfl, t7, m7⟩
  have MM : Hid (Mod g (g + 1) w w7) := Mod.trans (((((((Mod.refl _ _ _).setg _ _).setg _ _).setg _ _).setg _ _).setg _ _)) m7
  have O7 := Lib.hid (M6.out.mod m7 (by omega))
  have T7 := Lib.hid t7
  clear t7 m7 M6 L6
  go_wp2_with fail
  refine (pull_any O7.out T7.out hpg x xn hn HR.out.pull2 (by rw [pull_val, rotL_val]; exact HR.out.vx)).mono ?_
  rintro e w8 ⟨rfl, t8, m8⟩
  have M8 : Hid (Mod g (g + 1) w w8) := Mod.trans MM.out m8
  have T8 : Hid (Tab w8 g n (rot T x)) := by
    have := t8; show Tab _ _ _ _; unfold rot; rw [HR.out.hp]; exact this
  clear t8 m8
  go_wp2
  go_end0
  exact ⟨rfl, T8.out, M8.out⟩
set_option maxRecDepth 100000 in
set_option maxHeartbeats 2000000 in
theorem rot_rig {w : World} {ob g n cap x p gg i : Nat} {T : Tb} (hO : Ob w ob g n cap) (hT : Tab w g n T) (hpg : ob ≠ g) (hn : n ≤ 65536) (h : RotOK T n x p gg i true) (hi0 : ¬ i = 0) (hg0 : ¬ gg = 0) :
    Calls Try.prog 56 #[.pointer (some ⟨ob, 0, none⟩), .int .i32 x] w fun e w' => e = .returned (.tuple #[]) ∧ Tab w' g n (rot T x) ∧ Mod g (g + 1) w w' := by
  have c1 := hO.2
  have cx2 : w.cell? ⟨g, x * 9 + 2, none⟩ = some (.int .i32 p) := RTab.cup hT h.xn h.hp
  have cp2 : w.cell? ⟨g, p * 9 + 2, none⟩ = some (.int .i32 gg) := RTab.cup hT h.pn h.hg
  have cxk : w.cell? ⟨g, x * 9, none⟩ = some (.int .i32 i) := RTab.ck0 hT h.xn h.hi
  obtain ⟨kp, hkp⟩ : ∃ k, (T p).k1 = k := ⟨_, rfl⟩
  have cpk : w.cell? ⟨g, p * 9 + 1, none⟩ = some (.int .i32 kp) := RTab.ck1 hT h.pn hkp
  obtain ⟨ui, hui⟩ : ∃ k, (T i).up = k := ⟨_, rfl⟩
  have ci2 : w.cell? ⟨g, i * 9 + 2, none⟩ = some (.int .i32 ui) := RTab.cup hT h.i_n hui
  obtain ⟨k0, hk0⟩ : ∃ k, (T gg).k0 = k := ⟨_, rfl⟩
  have cg0 : w.cell? ⟨g, gg * 9, none⟩ = some (.int .i32 k0) := RTab.ck0 hT h.gn hk0
  obtain ⟨k1, hk1⟩ : ∃ k, (T gg).k1 = k := ⟨_, rfl⟩
  have cg1 : w.cell? ⟨g, gg * 9 + 1, none⟩ = some (.int .i32 k1) := RTab.ck1 hT h.gn hk1
  have n1 := h.nxp
  have n2 := h.npg
  have n3 := h.nxg
  obtain ⟨n4, n5⟩ := h.ni hi0
  clear hkp hui hk0 hk1
  have fz := hT.2
  have t1 := tab_kid1 (v := i) hT h.pn
  have o1 := hO.setg hpg (p * 9 + 1) (.int .i32 i)
  have t2 := tab_up (v := p) t1 h.i_n
  have o2 := o1.setg hpg (i * 9 + 2) (.int .i32 p)
  have t3 := tab_kid0 (v := p) t2 h.xn
  have o3 := o2.setg hpg (x * 9) (.int .i32 p)
  have E := rotL_eq h
  rw [appz_s hi0, appz_s hg0] at E
  have hib : ((i : Int) != 0) = true := by simp; omega
  have hgb : ((gg : Int) != 0) = true := by simp; omega
  have SD := Lib.hid (side_any hO hT p x true h.hb h.pn hn)
  simp only [Bool.not_true, Bool.not_false] at E
  obtain ⟨T3, hT3⟩ : ∃ T3, app (app (app T p (fun d => d.setKid true i)) i (setUp p)) x (fun d => d.setKid false p) = T3 := ⟨_, rfl⟩
  rw [hT3] at t3 E
  obtain ⟨j, hj⟩ : ∃ j, decide ((T3 gg).k1 = p) = j := ⟨_, rfl⟩
  cases j
  · have E2 := E
    rw [app_congr (q := fun d => d.setKid (decide (d.k1 = p)) x) (r := fun d => d.setKid false x) (by show Nd.setKid _ _ _ = _; rw [hj])] at E2
    have MM3 : Mod g (g + 1) w (((w.setCell ⟨g, p * 9 + 1, none⟩ (.int .i32 i)).setCell ⟨g, i * 9 + 2, none⟩ (.int .i32 p)).setCell ⟨g, x * 9, none⟩ (.int .i32 p)) := (((Mod.refl _ _ _).setg _ _).setg _ _).setg _ _
    obtain ⟨W3, hW3⟩ : ∃ W3, ((w.setCell ⟨g, p * 9 + 1, none⟩ (.int .i32 i)).setCell ⟨g, i * 9 + 2, none⟩ (.int .i32 p)).setCell ⟨g, x * 9, none⟩ (.int .i32 p) = W3 := ⟨_, rfl⟩
    rw [hW3] at t3 o3 MM3
    have HW3 := Lib.hid hW3
    have HM3 := Lib.hid MM3
    have HT3 := Lib.hid t3
    have HO3 := Lib.hid o3
    clear hW3 MM3
    have SD2 := Lib.hid (fun k => side_any (o3.drewN k) (RTab.drewN t3 k) gg p false hj h.gn hn)
    have t4 := tab_kid0 (v := x) t3 h.gn
    have o4 := o3.setg hpg (gg * 9) (.int .i32 x)
    have t5 := tab_up (v := x) t4 h.pn
    have o5 := o4.setg hpg (p * 9 + 2) (.int .i32 x)
    have t6 := tab_up (v := gg) t5 h.xn
    have o6 := o5.setg hpg (x * 9 + 2) (.int .i32 gg)
    rw [← E2] at t6
    have L6 := Lib.hid t6
    have M6 := Lib.hid o6
    have HR := Lib.hid h
    have xn := h.xn
    have pn := h.pn
    have gn := h.gn
    have i_n := h.i_n
    have hpg' : ¬ g = ob := fun e => hpg e.symm
    clear t1 t3 t5 t6 o1 o3 o5 o6 E h hT hO hi0 hg0 hj t4 o4 E2 hT3 cg0 cg1
    have fa := fz (p * 9)
    have fb := fz (p * 9 + 1)
    have fc := fz (i * 9 + 2)
    have fd := fz (x * 9)
    have fe := fz (x * 9 + 1)
    have ff := fz (gg * 9)
    have fg := fz (gg * 9 + 1)
    have fh := fz (p * 9 + 2)
    have fi := fz (x * 9 + 2)
    clear fz
    go_enter Try.func56, Try.ntmps56
    go_wp2_with fail
    refine SD.out.mono ?_
    rintro e w1 ⟨rfl, rfl⟩
    go_wp2_with fail
    rw [HW3.out]
    obtain ⟨kj, hkj⟩ : ∃ k, (T3 gg).k0 = k := ⟨_, rfl⟩
    have cgk : W3.cell? ⟨g, gg * 9, none⟩ = some (.int .i32 kj) := RTab.ck0 HT3.out gn hkj
    obtain ⟨up1, hu1⟩ : ∃ k, (T3 p).up = k := ⟨_, rfl⟩
    have cp3 : W3.cell? ⟨g, p * 9 + 2, none⟩ = some (.int .i32 up1) := RTab.cup HT3.out pn hu1
    obtain ⟨up2, hu2⟩ : ∃ k, (T3 x).up = k := ⟨_, rfl⟩
    have cx3 : W3.cell? ⟨g, x * 9 + 2, none⟩ = some (.int .i32 up2) := RTab.cup HT3.out xn hu2
    have fa := HT3.out.2 (gg * 9)
    have fb := HT3.out.2 (gg * 9 + 1)
    have fc := HT3.out.2 (p * 9 + 2)
    have fd := HT3.out.2 (x * 9 + 2)
    have cob := HO3.out.2
    have j0 : (0 : Int) ≤ gg := by omega
    have j1 : (gg : Int) < (n : Int) + 1 := by omega
    clear hkj hu1 hu2 cx2 cp2 cxk cpk ci2 fe ff fg fh fi c1 SD HW3
    go_still_tail 13, (by kernel_rfl)
    still_call (flip_same (SD2.out 1))
    repeat still_step
    try refine wpStill_nil ?_
    go_wp2_with fail
    refine (pull_any (M6.out.drewN 1) (RTab.drewN L6.out 1) hpg p pn hn HR.out.pull1 (by rw [rotL_val]; exact HR.out.vp)).mono ?_
    rintro e w7 ⟨rfl, t7, m7⟩
    have MM : Hid (Mod g (g + 1) w w7) := Mod.trans ((((HM3.out.setg _ _).setg _ _).setg _ _).drewN 1) m7
    have O7 := Lib.hid ((M6.out.drewN 1).mod m7 (by omega))
    have T7 := Lib.hid t7
    clear t7 m7 M6 L6
    go_wp2_with fail
    refine (pull_any O7.out T7.out hpg x xn hn HR.out.pull2 (by rw [pull_val, rotL_val]; exact HR.out.vx)).mono ?_
    rintro e w8 ⟨rfl, t8, m8⟩
    have M8 : Hid (Mod g (g + 1) w w8) := Mod.trans MM.out m8
    have T8 : Hid (Tab w8 g n (rot T x)) := by
      have := t8; show Tab _ _ _ _; unfold rot; rw [HR.out.hp]; exact this
    clear t8 m8
    go_wp2
    go_end0
    exact ⟨rfl, T8.out, M8.out⟩
  · have E2 := E
    rw [app_congr (q := fun d => d.setKid (decide (d.k1 = p)) x) (r := fun d => d.setKid true x) (by show Nd.setKid _ _ _ = _; rw [hj])] at E2
    have MM3 : Mod g (g + 1) w (((w.setCell ⟨g, p * 9 + 1, none⟩ (.int .i32 i)).setCell ⟨g, i * 9 + 2, none⟩ (.int .i32 p)).setCell ⟨g, x * 9, none⟩ (.int .i32 p)) := (((Mod.refl _ _ _).setg _ _).setg _ _).setg _ _
    obtain ⟨W3, hW3⟩ : ∃ W3, ((w.setCell ⟨g, p * 9 + 1, none⟩ (.int .i32 i)).setCell ⟨g, i * 9 + 2, none⟩ (.int .i32 p)).setCell ⟨g, x * 9, none⟩ (.int .i32 p) = W3 := ⟨_, rfl⟩
    rw [hW3] at t3 o3 MM3
    have HW3 := Lib.hid hW3
    have HM3 := Lib.hid MM3
    have HT3 := Lib.hid t3
    have HO3 := Lib.hid o3
    clear hW3 MM3
    have SD2 := Lib.hid (fun k => side_any (o3.drewN k) (RTab.drewN t3 k) gg p true hj h.gn hn)
    have t4 := tab_kid1 (v := x) t3 h.gn
    have o4 := o3.setg hpg (gg * 9 + 1) (.int .i32 x)
    have t5 := tab_up (v := x) t4 h.pn
    have o5 := o4.setg hpg (p * 9 + 2) (.int .i32 x)
    have t6 := tab_up (v := gg) t5 h.xn
    have o6 := o5.setg hpg (x * 9 + 2) (.int .i32 gg)
    rw [← E2] at t6
    have L6 := Lib.hid t6
    have M6 := Lib.hid o6
    have HR := Lib.hid h
    have xn := h.xn
    have pn := h.pn
    have gn := h.gn
    have i_n := h.i_n
    have hpg' : ¬ g = ob := fun e => hpg e.symm
    clear t1 t3 t5 t6 o1 o3 o5 o6 E h hT hO hi0 hg0 hj t4 o4 E2 hT3 cg0 cg1
    have fa := fz (p * 9)
    have fb := fz (p * 9 + 1)
    have fc := fz (i * 9 + 2)
    have fd := fz (x * 9)
    have fe := fz (x * 9 + 1)
    have ff := fz (gg * 9)
    have fg := fz (gg * 9 + 1)
    have fh := fz (p * 9 + 2)
    have fi := fz (x * 9 + 2)
    clear fz
    go_enter Try.func56, Try.ntmps56
    go_wp2_with fail
    refine SD.out.mono ?_
    rintro e w1 ⟨rfl, rfl⟩
    go_wp2_with fail
    rw [HW3.out]
    obtain ⟨kj, hkj⟩ : ∃ k, (T3 gg).k1 = k := ⟨_, rfl⟩
    have cgk : W3.cell? ⟨g, gg * 9 + 1, none⟩ = some (.int .i32 kj) := RTab.ck1 HT3.out gn hkj
    obtain ⟨up1, hu1⟩ : ∃ k, (T3 p).up = k := ⟨_, rfl⟩
    have cp3 : W3.cell? ⟨g, p * 9 + 2, none⟩ = some (.int .i32 up1) := RTab.cup HT3.out pn hu1
    obtain ⟨up2, hu2⟩ : ∃ k, (T3 x).up = k := ⟨_, rfl⟩
    have cx3 : W3.cell? ⟨g, x * 9 + 2, none⟩ = some (.int .i32 up2) := RTab.cup HT3.out xn hu2
    have fa := HT3.out.2 (gg * 9)
    have fb := HT3.out.2 (gg * 9 + 1)
    have fc := HT3.out.2 (p * 9 + 2)
    have fd := HT3.out.2 (x * 9 + 2)
    have cob := HO3.out.2
    have j0 : (0 : Int) ≤ gg := by omega
    have j1 : (gg : Int) < (n : Int) + 1 := by omega
    clear hkj hu1 hu2 cx2 cp2 cxk cpk ci2 fe ff fg fh fi c1 SD HW3
    go_still_tail 13, (by kernel_rfl)
    still_call (flip_same (SD2.out 1))
    repeat still_step
    try refine wpStill_nil ?_
    go_wp2_with fail
    refine (pull_any (M6.out.drewN 1) (RTab.drewN L6.out 1) hpg p pn hn HR.out.pull1 (by rw [rotL_val]; exact HR.out.vp)).mono ?_
    rintro e w7 ⟨rfl, t7, m7⟩
    have MM : Hid (Mod g (g + 1) w w7) := Mod.trans ((((HM3.out.setg _ _).setg _ _).setg _ _).drewN 1) m7
    have O7 := Lib.hid ((M6.out.drewN 1).mod m7 (by omega))
    have T7 := Lib.hid t7
    clear t7 m7 M6 L6
    go_wp2_with fail
    refine (pull_any O7.out T7.out hpg x xn hn HR.out.pull2 (by rw [pull_val, rotL_val]; exact HR.out.vx)).mono ?_
    rintro e w8 ⟨rfl, t8, m8⟩
    have M8 : Hid (Mod g (g + 1) w w8) := Mod.trans MM.out m8
    have T8 : Hid (Tab w8 g n (rot T x)) := by
      have := t8; show Tab _ _ _ _; unfold rot; rw [HR.out.hp]; exact this
    clear t8 m8
    go_wp2
    go_end0
    exact ⟨rfl, T8.out, M8.out⟩
set_option maxRecDepth 100000 in
set_option maxHeartbeats 2000000 in
theorem rot_l00 {w : World} {ob g n cap x p gg i : Nat} {T : Tb} (hO : Ob w ob g n cap) (hT : Tab w g n T) (hpg : ob ≠ g) (hn : n ≤ 65536) (h : RotOK T n x p gg i false) (hi0 : i = 0) (hg0 : gg = 0) :
    Calls Try.prog 56 #[.pointer (some ⟨ob, 0, none⟩), .int .i32 x] w fun e w' => e = .returned (.tuple #[]) ∧ Tab w' g n (rot T x) ∧ Mod g (g + 1) w w' := by
  have c1 := hO.2
  have cx2 : w.cell? ⟨g, x * 9 + 2, none⟩ = some (.int .i32 p) := RTab.cup hT h.xn h.hp
  have cp2 : w.cell? ⟨g, p * 9 + 2, none⟩ = some (.int .i32 gg) := RTab.cup hT h.pn h.hg
  have cxk : w.cell? ⟨g, x * 9 + 1, none⟩ = some (.int .i32 i) := RTab.ck1 hT h.xn h.hi
  obtain ⟨kp, hkp⟩ : ∃ k, (T p).k0 = k := ⟨_, rfl⟩
  have cpk : w.cell? ⟨g, p * 9, none⟩ = some (.int .i32 kp) := RTab.ck0 hT h.pn hkp
  obtain ⟨ui, hui⟩ : ∃ k, (T i).up = k := ⟨_, rfl⟩
  have ci2 : w.cell? ⟨g, i * 9 + 2, none⟩ = some (.int .i32 ui) := RTab.cup hT h.i_n hui
  obtain ⟨k0, hk0⟩ : ∃ k, (T gg).k0 = k := ⟨_, rfl⟩
  have cg0 : w.cell? ⟨g, gg * 9, none⟩ = some (.int .i32 k0) := RTab.ck0 hT h.gn hk0
  obtain ⟨k1, hk1⟩ : ∃ k, (T gg).k1 = k := ⟨_, rfl⟩
  have cg1 : w.cell? ⟨g, gg * 9 + 1, none⟩ = some (.int .i32 k1) := RTab.ck1 hT h.gn hk1
  have n1 := h.nxp
  have n2 := h.npg
  have n3 := h.nxg
  clear hkp hui hk0 hk1
  have fz := hT.2
  have t1 := tab_kid0 (v := i) hT h.pn
  have o1 := hO.setg hpg (p * 9) (.int .i32 i)
  have t3 := tab_kid1 (v := p) t1 h.xn
  have o3 := o1.setg hpg (x * 9 + 1) (.int .i32 p)
  have E := rotL_eq h
  rw [appz_z hi0, appz_z hg0] at E
  have hib : ((i : Int) != 0) = false := by simp [hi0]
  have hgb : ((gg : Int) != 0) = false := by simp [hg0]
  have SD := Lib.hid (side_any hO hT p x false h.hb h.pn hn)
  have t5 := tab_up (v := x) t3 h.pn
  have o5 := o3.setg hpg (p * 9 + 2) (.int .i32 x)
  have t6 := tab_up (v := gg) t5 h.xn
  have o6 := o5.setg hpg (x * 9 + 2) (.int .i32 gg)
  simp only [Bool.not_true, Bool.not_false] at E
  rw [← E] at t6
  have L6 := Lib.hid t6
  have M6 := Lib.hid o6
  have HR := Lib.hid h
  have xn := h.xn
  have pn := h.pn
  have gn := h.gn
  have i_n := h.i_n
  have hpg' : ¬ g = ob := fun e => hpg e.symm
  clear t1 t3 t5 t6 o1 o3 o5 o6 E h hT hO hi0 hg0
  have fa := fz (p * 9)
  have fb := fz (p * 9 + 1)
  have fc := fz (i * 9 + 2)
  have fd := fz (x * 9)
  have fe := fz (x * 9 + 1)
  have ff := fz (gg * 9)
  have fg := fz (gg * 9 + 1)
  have fh := fz (p * 9 + 2)
  have fi := fz (x * 9 + 2)
  clear fz
  go_enter Try.func56, Try.ntmps56
  go_wp2_with fail
  refine SD.out.mono ?_
  rintro e w1 ⟨rfl, rfl⟩
  go_wp2_with fail
  refine (pull_any M6.out L6.out hpg p pn hn HR.out.pull1 (by rw [rotL_val]; exact HR.out.vp)).mono ?_
  rintro e w7 ⟨rfl, t7, m7⟩
  have MM : Hid (Mod g (g + 1) w w7) := Mod.trans ((((((Mod.refl _ _ _).setg _ _).setg _ _).setg _ _).setg _ _)) m7
  have O7 := Lib.hid (M6.out.mod m7 (by omega))
  have T7 := Lib.hid t7
  clear t7 m7 M6 L6
  go_wp2_with fail
  refine (pull_any O7.out T7.out hpg x xn hn HR.out.pull2 (by rw [pull_val, rotL_val]; exact HR.out.vx)).mono ?_
  rintro e w8 ⟨rfl, t8, m8⟩
  have M8 : Hid (Mod g (g + 1) w w8) := Mod.trans MM.out m8
  have T8 : Hid (Tab w8 g n (rot T x)) := by
    have := t8; show Tab _ _ _ _; unfold rot; rw [HR.out.hp]; exact this
  clear t8 m8
  go_wp2
  go_end0
  exact ⟨rfl, T8.out, M8.out⟩
set_option maxRecDepth 100000 in
set_option maxHeartbeats 2000000 in
theorem rot_l0g {w : World} {ob g n cap x p gg i : Nat} {T : Tb} (hO : Ob w ob g n cap) (hT : Tab w g n T) (hpg : ob ≠ g) (hn : n ≤ 65536) (h : RotOK T n x p gg i false) (hi0 : i = 0) (hg0 : ¬ gg = 0) :
    Calls Try.prog 56 #[.pointer (some ⟨ob, 0, none⟩), .int .i32 x] w fun e w' => e = .returned (.tuple #[]) ∧ Tab w' g n (rot T x) ∧ Mod g (g + 1) w w' := by
  have c1 := hO.2
  have cx2 : w.cell? ⟨g, x * 9 + 2, none⟩ = some (.int .i32 p) := RTab.cup hT h.xn h.hp
  have cp2 : w.cell? ⟨g, p * 9 + 2, none⟩ = some (.int .i32 gg) := RTab.cup hT h.pn h.hg
  have cxk : w.cell? ⟨g, x * 9 + 1, none⟩ = some (.int .i32 i) := RTab.ck1 hT h.xn h.hi
  obtain ⟨kp, hkp⟩ : ∃ k, (T p).k0 = k := ⟨_, rfl⟩
  have cpk : w.cell? ⟨g, p * 9, none⟩ = some (.int .i32 kp) := RTab.ck0 hT h.pn hkp
  obtain ⟨ui, hui⟩ : ∃ k, (T i).up = k := ⟨_, rfl⟩
  have ci2 : w.cell? ⟨g, i * 9 + 2, none⟩ = some (.int .i32 ui) := RTab.cup hT h.i_n hui
  obtain ⟨k0, hk0⟩ : ∃ k, (T gg).k0 = k := ⟨_, rfl⟩
  have cg0 : w.cell? ⟨g, gg * 9, none⟩ = some (.int .i32 k0) := RTab.ck0 hT h.gn hk0
  obtain ⟨k1, hk1⟩ : ∃ k, (T gg).k1 = k := ⟨_, rfl⟩
  have cg1 : w.cell? ⟨g, gg * 9 + 1, none⟩ = some (.int .i32 k1) := RTab.ck1 hT h.gn hk1
  have n1 := h.nxp
  have n2 := h.npg
  have n3 := h.nxg
  clear hkp hui hk0 hk1
  have fz := hT.2
  have t1 := tab_kid0 (v := i) hT h.pn
  have o1 := hO.setg hpg (p * 9) (.int .i32 i)
  have t3 := tab_kid1 (v := p) t1 h.xn
  have o3 := o1.setg hpg (x * 9 + 1) (.int .i32 p)
  have E := rotL_eq h
  rw [appz_z hi0, appz_s hg0] at E
  have hib : ((i : Int) != 0) = false := by simp [hi0]
  have hgb : ((gg : Int) != 0) = true := by simp; omega
  have SD := Lib.hid (side_any hO hT p x false h.hb h.pn hn)
  simp only [Bool.not_true, Bool.not_false] at E
  obtain ⟨T3, hT3⟩ : ∃ T3, app (app T p (fun d => d.setKid false i)) x (fun d => d.setKid true p) = T3 := ⟨_, rfl⟩
  rw [hT3] at t3 E
  obtain ⟨j, hj⟩ : ∃ j, decide ((T3 gg).k1 = p) = j := ⟨_, rfl⟩
  cases j
  · have E2 := E
    rw [app_congr (q := fun d => d.setKid (decide (d.k1 = p)) x) (r := fun d => d.setKid false x) (by show Nd.setKid _ _ _ = _; rw [hj])] at E2
    have MM3 : Mod g (g + 1) w ((w.setCell ⟨g, p * 9, none⟩ (.int .i32 i)).setCell ⟨g, x * 9 + 1, none⟩ (.int .i32 p)) := ((Mod.refl _ _ _).setg _ _).setg _ _
    obtain ⟨W3, hW3⟩ : ∃ W3, (w.setCell ⟨g, p * 9, none⟩ (.int .i32 i)).setCell ⟨g, x * 9 + 1, none⟩ (.int .i32 p) = W3 := ⟨_, rfl⟩
    rw [hW3] at t3 o3 MM3
    have HW3 := Lib.hid hW3
    have HM3 := Lib.hid MM3
    have HT3 := Lib.hid t3
    have HO3 := Lib.hid o3
    clear hW3 MM3
    have SD2 := Lib.hid (fun k => side_any (o3.drewN k) (RTab.drewN t3 k) gg p false hj h.gn hn)
    have t4 := tab_kid0 (v := x) t3 h.gn
    have o4 := o3.setg hpg (gg * 9) (.int .i32 x)
    have t5 := tab_up (v := x) t4 h.pn
    have o5 := o4.setg hpg (p * 9 + 2) (.int .i32 x)
    have t6 := tab_up (v := gg) t5 h.xn
    have o6 := o5.setg hpg (x * 9 + 2) (.int .i32 gg)
    rw [← E2] at t6
    have L6 := Lib.hid t6
    have M6 := Lib.hid o6
    have HR := Lib.hid h
    have xn := h.xn
    have pn := h.pn
    have gn := h.gn
    have i_n := h.i_n
    have hpg' : ¬ g = ob := fun e => hpg e.symm
    clear t1 t3 t5 t6 o1 o3 o5 o6 E h hT hO hi0 hg0 hj t4 o4 E2 hT3 cg0 cg1
    have fa := fz (p * 9)
    have fb := fz (p * 9 + 1)
    have fc := fz (i * 9 + 2)
    have fd := fz (x * 9)
    have fe := fz (x * 9 + 1)
    have ff := fz (gg * 9)
    have fg := fz (gg * 9 + 1)
    have fh := fz (p * 9 + 2)
    have fi := fz (x * 9 + 2)
    clear fz
    go_enter Try.func56, Try.ntmps56
    go_wp2_with fail
    refine SD.out.mono ?_
    rintro e w1 ⟨rfl, rfl⟩
    go_wp2_with fail
    rw [HW3.out]
    obtain ⟨kj, hkj⟩ : ∃ k, (T3 gg).k0 = k := ⟨_, rfl⟩
    have cgk : W3.cell? ⟨g, gg * 9, none⟩ = some (.int .i32 kj) := RTab.ck0 HT3.out gn hkj
    obtain ⟨up1, hu1⟩ : ∃ k, (T3 p).up = k := ⟨_, rfl⟩
    have cp3 : W3.cell? ⟨g, p * 9 + 2, none⟩ = some (.int .i32 up1) := RTab.cup HT3.out pn hu1
    obtain ⟨up2, hu2⟩ : ∃ k, (T3 x).up = k := ⟨_, rfl⟩
    have cx3 : W3.cell? ⟨g, x * 9 + 2, none⟩ = some (.int .i32 up2) := RTab.cup HT3.out xn hu2
    have fa := HT3.out.2 (gg * 9)
    have fb := HT3.out.2 (gg * 9 + 1)
    have fc := HT3.out.2 (p * 9 + 2)
    have fd := HT3.out.2 (x * 9 + 2)
    have cob := HO3.out.2
    have j0 : (0 : Int) ≤ gg := by omega
    have j1 : (gg : Int) < (n : Int) + 1 := by omega
    clear hkj hu1 hu2 cx2 cp2 cxk cpk ci2 fe ff fg fh fi c1 SD HW3
    go_still_tail 13, (by kernel_rfl)
    still_call (flip_same (SD2.out 1))
    repeat still_step
    try refine wpStill_nil ?_
    go_wp2_with fail
    refine (pull_any (M6.out.drewN 1) (RTab.drewN L6.out 1) hpg p pn hn HR.out.pull1 (by rw [rotL_val]; exact HR.out.vp)).mono ?_
    rintro e w7 ⟨rfl, t7, m7⟩
    have MM : Hid (Mod g (g + 1) w w7) := Mod.trans ((((HM3.out.setg _ _).setg _ _).setg _ _).drewN 1) m7
    have O7 := Lib.hid ((M6.out.drewN 1).mod m7 (by omega))
    have T7 := Lib.hid t7
    clear t7 m7 M6 L6
    go_wp2_with fail
    refine (pull_any O7.out T7.out hpg x xn hn HR.out.pull2 (by rw [pull_val, rotL_val]; exact HR.out.vx)).mono ?_
    rintro e w8 ⟨rfl, t8, m8⟩
    have M8 : Hid (Mod g (g + 1) w w8) := Mod.trans MM.out m8
    have T8 : Hid (Tab w8 g n (rot T x)) := by
      have := t8; show Tab _ _ _ _; unfold rot; rw [HR.out.hp]; exact this
    clear t8 m8
    go_wp2
    go_end0
    exact ⟨rfl, T8.out, M8.out⟩
  · have E2 := E
    rw [app_congr (q := fun d => d.setKid (decide (d.k1 = p)) x) (r := fun d => d.setKid true x) (by show Nd.setKid _ _ _ = _; rw [hj])] at E2
    have MM3 : Mod g (g + 1) w ((w.setCell ⟨g, p * 9, none⟩ (.int .i32 i)).setCell ⟨g, x * 9 + 1, none⟩ (.int .i32 p)) := ((Mod.refl _ _ _).setg _ _).setg _ _
    obtain ⟨W3, hW3⟩ : ∃ W3, (w.setCell ⟨g, p * 9, none⟩ (.int .i32 i)).setCell ⟨g, x * 9 + 1, none⟩ (.int .i32 p) = W3 := ⟨_, rfl⟩
    rw [hW3] at t3 o3 MM3
    have HW3 := Lib.hid hW3
    have HM3 := Lib.hid MM3
    have HT3 := Lib.hid t3
    have HO3 := Lib.hid o3
    clear hW3 MM3
    have SD2 := Lib.hid (fun k => side_any (o3.drewN k) (RTab.drewN t3 k) gg p true hj h.gn hn)
    have t4 := tab_kid1 (v := x) t3 h.gn
    have o4 := o3.setg hpg (gg * 9 + 1) (.int .i32 x)
    have t5 := tab_up (v := x) t4 h.pn
    have o5 := o4.setg hpg (p * 9 + 2) (.int .i32 x)
    have t6 := tab_up (v := gg) t5 h.xn
    have o6 := o5.setg hpg (x * 9 + 2) (.int .i32 gg)
    rw [← E2] at t6
    have L6 := Lib.hid t6
    have M6 := Lib.hid o6
    have HR := Lib.hid h
    have xn := h.xn
    have pn := h.pn
    have gn := h.gn
    have i_n := h.i_n
    have hpg' : ¬ g = ob := fun e => hpg e.symm
    clear t1 t3 t5 t6 o1 o3 o5 o6 E h hT hO hi0 hg0 hj t4 o4 E2 hT3 cg0 cg1
    have fa := fz (p * 9)
    have fb := fz (p * 9 + 1)
    have fc := fz (i * 9 + 2)
    have fd := fz (x * 9)
    have fe := fz (x * 9 + 1)
    have ff := fz (gg * 9)
    have fg := fz (gg * 9 + 1)
    have fh := fz (p * 9 + 2)
    have fi := fz (x * 9 + 2)
    clear fz
    go_enter Try.func56, Try.ntmps56
    go_wp2_with fail
    refine SD.out.mono ?_
    rintro e w1 ⟨rfl, rfl⟩
    go_wp2_with fail
    rw [HW3.out]
    obtain ⟨kj, hkj⟩ : ∃ k, (T3 gg).k1 = k := ⟨_, rfl⟩
    have cgk : W3.cell? ⟨g, gg * 9 + 1, none⟩ = some (.int .i32 kj) := RTab.ck1 HT3.out gn hkj
    obtain ⟨up1, hu1⟩ : ∃ k, (T3 p).up = k := ⟨_, rfl⟩
    have cp3 : W3.cell? ⟨g, p * 9 + 2, none⟩ = some (.int .i32 up1) := RTab.cup HT3.out pn hu1
    obtain ⟨up2, hu2⟩ : ∃ k, (T3 x).up = k := ⟨_, rfl⟩
    have cx3 : W3.cell? ⟨g, x * 9 + 2, none⟩ = some (.int .i32 up2) := RTab.cup HT3.out xn hu2
    have fa := HT3.out.2 (gg * 9)
    have fb := HT3.out.2 (gg * 9 + 1)
    have fc := HT3.out.2 (p * 9 + 2)
    have fd := HT3.out.2 (x * 9 + 2)
    have cob := HO3.out.2
    have j0 : (0 : Int) ≤ gg := by omega
    have j1 : (gg : Int) < (n : Int) + 1 := by omega
    clear hkj hu1 hu2 cx2 cp2 cxk cpk ci2 fe ff fg fh fi c1 SD HW3
    go_still_tail 13, (by kernel_rfl)
    still_call (flip_same (SD2.out 1))
    repeat still_step
    try refine wpStill_nil ?_
    go_wp2_with fail
    refine (pull_any (M6.out.drewN 1) (RTab.drewN L6.out 1) hpg p pn hn HR.out.pull1 (by rw [rotL_val]; exact HR.out.vp)).mono ?_
    rintro e w7 ⟨rfl, t7, m7⟩
    have MM : Hid (Mod g (g + 1) w w7) := Mod.trans ((((HM3.out.setg _ _).setg _ _).setg _ _).drewN 1) m7
    have O7 := Lib.hid ((M6.out.drewN 1).mod m7 (by omega))
    have T7 := Lib.hid t7
    clear t7 m7 M6 L6
    go_wp2_with fail
    refine (pull_any O7.out T7.out hpg x xn hn HR.out.pull2 (by rw [pull_val, rotL_val]; exact HR.out.vx)).mono ?_
    rintro e w8 ⟨rfl, t8, m8⟩
    have M8 : Hid (Mod g (g + 1) w w8) := Mod.trans MM.out m8
    have T8 : Hid (Tab w8 g n (rot T x)) := by
      have := t8; show Tab _ _ _ _; unfold rot; rw [HR.out.hp]; exact this
    clear t8 m8
    go_wp2
    go_end0
    exact ⟨rfl, T8.out, M8.out⟩
set_option maxRecDepth 100000 in
set_option maxHeartbeats 2000000 in
theorem rot_li0 {w : World} {ob g n cap x p gg i : Nat} {T : Tb} (hO : Ob w ob g n cap) (hT : Tab w g n T) (hpg : ob ≠ g) (hn : n ≤ 65536) (h : RotOK T n x p gg i false) (hi0 : ¬ i = 0) (hg0 : gg = 0) :
    Calls Try.prog 56 #[.pointer (some ⟨ob, 0, none⟩), .int .i32 x] w fun e w' => e = .returned (.tuple #[]) ∧ Tab w' g n (rot T x) ∧ Mod g (g + 1) w w' := by
  have c1 := hO.2
  have cx2 : w.cell? ⟨g, x * 9 + 2, none⟩ = some (.int .i32 p) := RTab.cup hT h.xn h.hp
  have cp2 : w.cell? ⟨g, p * 9 + 2, none⟩ = some (.int .i32 gg) := RTab.cup hT h.pn h.hg
  have cxk : w.cell? ⟨g, x * 9 + 1, none⟩ = some (.int .i32 i) := RTab.ck1 hT h.xn h.hi
  obtain ⟨kp, hkp⟩ : ∃ k, (T p).k0 = k := ⟨_, rfl⟩
  have cpk : w.cell? ⟨g, p * 9, none⟩ = some (.int .i32 kp) := RTab.ck0 hT h.pn hkp
  obtain ⟨ui, hui⟩ : ∃ k, (T i).up = k := ⟨_, rfl⟩
  have ci2 : w.cell? ⟨g, i * 9 + 2, none⟩ = some (.int .i32 ui) := RTab.cup hT h.i_n hui
  obtain ⟨k0, hk0⟩ : ∃ k, (T gg).k0 = k := ⟨_, rfl⟩
  have cg0 : w.cell? ⟨g, gg * 9, none⟩ = some (.int .i32 k0) := RTab.ck0 hT h.gn hk0
  obtain ⟨k1, hk1⟩ : ∃ k, (T gg).k1 = k := ⟨_, rfl⟩
  have cg1 : w.cell? ⟨g, gg * 9 + 1, none⟩ = some (.int .i32 k1) := RTab.ck1 hT h.gn hk1
  have n1 := h.nxp
  have n2 := h.npg
  have n3 := h.nxg
  obtain ⟨n4, n5⟩ := h.ni hi0
  clear hkp hui hk0 hk1
  have fz := hT.2
  have t1 := tab_kid0 (v := i) hT h.pn
  have o1 := hO.setg hpg (p * 9) (.int .i32 i)
  have t2 := tab_up (v := p) t1 h.i_n
  have o2 := o1.setg hpg (i * 9 + 2) (.int .i32 p)
  have t3 := tab_kid1 (v := p) t2 h.xn
  have o3 := o2.setg hpg (x * 9 + 1) (.int .i32 p)
  have E := rotL_eq h
  rw [appz_s hi0, appz_z hg0] at E
  have hib : ((i : Int) != 0) = true := by simp; omega
  have hgb : ((gg : Int) != 0) = false := by simp [hg0]
  have SD := Lib.hid (side_any hO hT p x false h.hb h.pn hn)
  have t5 := tab_up (v := x) t3 h.pn
  have o5 := o3.setg hpg (p * 9 + 2) (.int .i32 x)
  have t6 := tab_up (v := gg) t5 h.xn
  have o6 := o5.setg hpg (x * 9 + 2) (.int .i32 gg)
  simp only [Bool.not_true, Bool.not_false] at E
  rw [← E] at t6
  have L6 := Lib.hid t6
  have M6 := Lib.hid o6
  have HR := Lib.hid h
  have xn := h.xn
  have pn := h.pn
  have gn := h.gn
  have i_n := h.i_n
  have hpg' : ¬ g = ob := fun e => hpg e.symm
  clear t1 t3 t5 t6 o1 o3 o5 o6 E h hT hO hi0 hg0
  have fa := fz (p * 9)
  have fb := fz (p * 9 + 1)
  have fc := fz (i * 9 + 2)
  have fd := fz (x * 9)
  have fe := fz (x * 9 + 1)
  have ff := fz (gg * 9)
  have fg := fz (gg * 9 + 1)
  have fh := fz (p * 9 + 2)
  have fi := fz (x * 9 + 2)
  clear fz
  go_enter Try.func56, Try.ntmps56
  go_wp2_with fail
  refine SD.out.mono ?_
  rintro e w1 ⟨rfl, rfl⟩
  go_wp2_with fail
  refine (pull_any M6.out L6.out hpg p pn hn HR.out.pull1 (by rw [rotL_val]; exact HR.out.vp)).mono ?_
  rintro e w7 ⟨rfl, t7, m7⟩
  have MM : Hid (Mod g (g + 1) w w7) := Mod.trans (((((((Mod.refl _ _ _).setg _ _).setg _ _).setg _ _).setg _ _).setg _ _)) m7
  have O7 := Lib.hid (M6.out.mod m7 (by omega))
  have T7 := Lib.hid t7
  clear t7 m7 M6 L6
  go_wp2_with fail
  refine (pull_any O7.out T7.out hpg x xn hn HR.out.pull2 (by rw [pull_val, rotL_val]; exact HR.out.vx)).mono ?_
  rintro e w8 ⟨rfl, t8, m8⟩
  have M8 : Hid (Mod g (g + 1) w w8) := Mod.trans MM.out m8
  have T8 : Hid (Tab w8 g n (rot T x)) := by
    have := t8; show Tab _ _ _ _; unfold rot; rw [HR.out.hp]; exact this
  clear t8 m8
  go_wp2
  go_end0
  exact ⟨rfl, T8.out, M8.out⟩
set_option maxRecDepth 100000 in
set_option maxHeartbeats 2000000 in
theorem rot_lig {w : World} {ob g n cap x p gg i : Nat} {T : Tb} (hO : Ob w ob g n cap) (hT : Tab w g n T) (hpg : ob ≠ g) (hn : n ≤ 65536) (h : RotOK T n x p gg i false) (hi0 : ¬ i = 0) (hg0 : ¬ gg = 0) :
    Calls Try.prog 56 #[.pointer (some ⟨ob, 0, none⟩), .int .i32 x] w fun e w' => e = .returned (.tuple #[]) ∧ Tab w' g n (rot T x) ∧ Mod g (g + 1) w w' := by
  have c1 := hO.2
  have cx2 : w.cell? ⟨g, x * 9 + 2, none⟩ = some (.int .i32 p) := RTab.cup hT h.xn h.hp
  have cp2 : w.cell? ⟨g, p * 9 + 2, none⟩ = some (.int .i32 gg) := RTab.cup hT h.pn h.hg
  have cxk : w.cell? ⟨g, x * 9 + 1, none⟩ = some (.int .i32 i) := RTab.ck1 hT h.xn h.hi
  obtain ⟨kp, hkp⟩ : ∃ k, (T p).k0 = k := ⟨_, rfl⟩
  have cpk : w.cell? ⟨g, p * 9, none⟩ = some (.int .i32 kp) := RTab.ck0 hT h.pn hkp
  obtain ⟨ui, hui⟩ : ∃ k, (T i).up = k := ⟨_, rfl⟩
  have ci2 : w.cell? ⟨g, i * 9 + 2, none⟩ = some (.int .i32 ui) := RTab.cup hT h.i_n hui
  obtain ⟨k0, hk0⟩ : ∃ k, (T gg).k0 = k := ⟨_, rfl⟩
  have cg0 : w.cell? ⟨g, gg * 9, none⟩ = some (.int .i32 k0) := RTab.ck0 hT h.gn hk0
  obtain ⟨k1, hk1⟩ : ∃ k, (T gg).k1 = k := ⟨_, rfl⟩
  have cg1 : w.cell? ⟨g, gg * 9 + 1, none⟩ = some (.int .i32 k1) := RTab.ck1 hT h.gn hk1
  have n1 := h.nxp
  have n2 := h.npg
  have n3 := h.nxg
  obtain ⟨n4, n5⟩ := h.ni hi0
  clear hkp hui hk0 hk1
  have fz := hT.2
  have t1 := tab_kid0 (v := i) hT h.pn
  have o1 := hO.setg hpg (p * 9) (.int .i32 i)
  have t2 := tab_up (v := p) t1 h.i_n
  have o2 := o1.setg hpg (i * 9 + 2) (.int .i32 p)
  have t3 := tab_kid1 (v := p) t2 h.xn
  have o3 := o2.setg hpg (x * 9 + 1) (.int .i32 p)
  have E := rotL_eq h
  rw [appz_s hi0, appz_s hg0] at E
  have hib : ((i : Int) != 0) = true := by simp; omega
  have hgb : ((gg : Int) != 0) = true := by simp; omega
  have SD := Lib.hid (side_any hO hT p x false h.hb h.pn hn)
  simp only [Bool.not_true, Bool.not_false] at E
  obtain ⟨T3, hT3⟩ : ∃ T3, app (app (app T p (fun d => d.setKid false i)) i (setUp p)) x (fun d => d.setKid true p) = T3 := ⟨_, rfl⟩
  rw [hT3] at t3 E
  obtain ⟨j, hj⟩ : ∃ j, decide ((T3 gg).k1 = p) = j := ⟨_, rfl⟩
  cases j
  · have E2 := E
    rw [app_congr (q := fun d => d.setKid (decide (d.k1 = p)) x) (r := fun d => d.setKid false x) (by show Nd.setKid _ _ _ = _; rw [hj])] at E2
    have MM3 : Mod g (g + 1) w (((w.setCell ⟨g, p * 9, none⟩ (.int .i32 i)).setCell ⟨g, i * 9 + 2, none⟩ (.int .i32 p)).setCell ⟨g, x * 9 + 1, none⟩ (.int .i32 p)) := (((Mod.refl _ _ _).setg _ _).setg _ _).setg _ _
    obtain ⟨W3, hW3⟩ : ∃ W3, ((w.setCell ⟨g, p * 9, none⟩ (.int .i32 i)).setCell ⟨g, i * 9 + 2, none⟩ (.int .i32 p)).setCell ⟨g, x * 9 + 1, none⟩ (.int .i32 p) = W3 := ⟨_, rfl⟩
    rw [hW3] at t3 o3 MM3
    have HW3 := Lib.hid hW3
    have HM3 := Lib.hid MM3
    have HT3 := Lib.hid t3
    have HO3 := Lib.hid o3
    clear hW3 MM3
    have SD2 := Lib.hid (fun k => side_any (o3.drewN k) (RTab.drewN t3 k) gg p false hj h.gn hn)
    have t4 := tab_kid0 (v := x) t3 h.gn
    have o4 := o3.setg hpg (gg * 9) (.int .i32 x)
    have t5 := tab_up (v := x) t4 h.pn
    have o5 := o4.setg hpg (p * 9 + 2) (.int .i32 x)
    have t6 := tab_up (v := gg) t5 h.xn
    have o6 := o5.setg hpg (x * 9 + 2) (.int .i32 gg)
    rw [← E2] at t6
    have L6 := Lib.hid t6
    have M6 := Lib.hid o6
    have HR := Lib.hid h
    have xn := h.xn
    have pn := h.pn
    have gn := h.gn
    have i_n := h.i_n
    have hpg' : ¬ g = ob := fun e => hpg e.symm
    clear t1 t3 t5 t6 o1 o3 o5 o6 E h hT hO hi0 hg0 hj t4 o4 E2 hT3 cg0 cg1
    have fa := fz (p * 9)
    have fb := fz (p * 9 + 1)
    have fc := fz (i * 9 + 2)
    have fd := fz (x * 9)
    have fe := fz (x * 9 + 1)
    have ff := fz (gg * 9)
    have fg := fz (gg * 9 + 1)
    have fh := fz (p * 9 + 2)
    have fi := fz (x * 9 + 2)
    clear fz
    go_enter Try.func56, Try.ntmps56
    go_wp2_with fail
    refine SD.out.mono ?_
    rintro e w1 ⟨rfl, rfl⟩
    go_wp2_with fail
    rw [HW3.out]
    obtain ⟨kj, hkj⟩ : ∃ k, (T3 gg).k0 = k := ⟨_, rfl⟩
    have cgk : W3.cell? ⟨g, gg * 9, none⟩ = some (.int .i32 kj) := RTab.ck0 HT3.out gn hkj
    obtain ⟨up1, hu1⟩ : ∃ k, (T3 p).up = k := ⟨_, rfl⟩
    have cp3 : W3.cell? ⟨g, p * 9 + 2, none⟩ = some (.int .i32 up1) := RTab.cup HT3.out pn hu1
    obtain ⟨up2, hu2⟩ : ∃ k, (T3 x).up = k := ⟨_, rfl⟩
    have cx3 : W3.cell? ⟨g, x * 9 + 2, none⟩ = some (.int .i32 up2) := RTab.cup HT3.out xn hu2
    have fa := HT3.out.2 (gg * 9)
    have fb := HT3.out.2 (gg * 9 + 1)
    have fc := HT3.out.2 (p * 9 + 2)
    have fd := HT3.out.2 (x * 9 + 2)
    have cob := HO3.out.2
    have j0 : (0 : Int) ≤ gg := by omega
    have j1 : (gg : Int) < (n : Int) + 1 := by omega
    clear hkj hu1 hu2 cx2 cp2 cxk cpk ci2 fe ff fg fh fi c1 SD HW3
    go_still_tail 13, (by kernel_rfl)
    still_call (flip_same (SD2.out 1))
    repeat still_step
    try refine wpStill_nil ?_
    go_wp2_with fail
    refine (pull_any (M6.out.drewN 1) (RTab.drewN L6.out 1) hpg p pn hn HR.out.pull1 (by rw [rotL_val]; exact HR.out.vp)).mono ?_
    rintro e w7 ⟨rfl, t7, m7⟩
    have MM : Hid (Mod g (g + 1) w w7) := Mod.trans ((((HM3.out.setg _ _).setg _ _).setg _ _).drewN 1) m7
    have O7 := Lib.hid ((M6.out.drewN 1).mod m7 (by omega))
    have T7 := Lib.hid t7
    clear t7 m7 M6 L6
    go_wp2_with fail
    refine (pull_any O7.out T7.out hpg x xn hn HR.out.pull2 (by rw [pull_val, rotL_val]; exact HR.out.vx)).mono ?_
    rintro e w8 ⟨rfl, t8, m8⟩
    have M8 : Hid (Mod g (g + 1) w w8) := Mod.trans MM.out m8
    have T8 : Hid (Tab w8 g n (rot T x)) := by
      have := t8; show Tab _ _ _ _; unfold rot; rw [HR.out.hp]; exact this
    clear t8 m8
    go_wp2
    go_end0
    exact ⟨rfl, T8.out, M8.out⟩
  · have E2 := E
    rw [app_congr (q := fun d => d.setKid (decide (d.k1 = p)) x) (r := fun d => d.setKid true x) (by show Nd.setKid _ _ _ = _; rw [hj])] at E2
    have MM3 : Mod g (g + 1) w (((w.setCell ⟨g, p * 9, none⟩ (.int .i32 i)).setCell ⟨g, i * 9 + 2, none⟩ (.int .i32 p)).setCell ⟨g, x * 9 + 1, none⟩ (.int .i32 p)) := (((Mod.refl _ _ _).setg _ _).setg _ _).setg _ _
    obtain ⟨W3, hW3⟩ : ∃ W3, ((w.setCell ⟨g, p * 9, none⟩ (.int .i32 i)).setCell ⟨g, i * 9 + 2, none⟩ (.int .i32 p)).setCell ⟨g, x * 9 + 1, none⟩ (.int .i32 p) = W3 := ⟨_, rfl⟩
    rw [hW3] at t3 o3 MM3
    have HW3 := Lib.hid hW3
    have HM3 := Lib.hid MM3
    have HT3 := Lib.hid t3
    have HO3 := Lib.hid o3
    clear hW3 MM3
    have SD2 := Lib.hid (fun k => side_any (o3.drewN k) (RTab.drewN t3 k) gg p true hj h.gn hn)
    have t4 := tab_kid1 (v := x) t3 h.gn
    have o4 := o3.setg hpg (gg * 9 + 1) (.int .i32 x)
    have t5 := tab_up (v := x) t4 h.pn
    have o5 := o4.setg hpg (p * 9 + 2) (.int .i32 x)
    have t6 := tab_up (v := gg) t5 h.xn
    have o6 := o5.setg hpg (x * 9 + 2) (.int .i32 gg)
    rw [← E2] at t6
    have L6 := Lib.hid t6
    have M6 := Lib.hid o6
    have HR := Lib.hid h
    have xn := h.xn
    have pn := h.pn
    have gn := h.gn
    have i_n := h.i_n
    have hpg' : ¬ g = ob := fun e => hpg e.symm
    clear t1 t3 t5 t6 o1 o3 o5 o6 E h hT hO hi0 hg0 hj t4 o4 E2 hT3 cg0 cg1
    have fa := fz (p * 9)
    have fb := fz (p * 9 + 1)
    have fc := fz (i * 9 + 2)
    have fd := fz (x * 9)
    have fe := fz (x * 9 + 1)
    have ff := fz (gg * 9)
    have fg := fz (gg * 9 + 1)
    have fh := fz (p * 9 + 2)
    have fi := fz (x * 9 + 2)
    clear fz
    go_enter Try.func56, Try.ntmps56
    go_wp2_with fail
    refine SD.out.mono ?_
    rintro e w1 ⟨rfl, rfl⟩
    go_wp2_with fail
    rw [HW3.out]
    obtain ⟨kj, hkj⟩ : ∃ k, (T3 gg).k1 = k := ⟨_, rfl⟩
    have cgk : W3.cell? ⟨g, gg * 9 + 1, none⟩ = some (.int .i32 kj) := RTab.ck1 HT3.out gn hkj
    obtain ⟨up1, hu1⟩ : ∃ k, (T3 p).up = k := ⟨_, rfl⟩
    have cp3 : W3.cell? ⟨g, p * 9 + 2, none⟩ = some (.int .i32 up1) := RTab.cup HT3.out pn hu1
    obtain ⟨up2, hu2⟩ : ∃ k, (T3 x).up = k := ⟨_, rfl⟩
    have cx3 : W3.cell? ⟨g, x * 9 + 2, none⟩ = some (.int .i32 up2) := RTab.cup HT3.out xn hu2
    have fa := HT3.out.2 (gg * 9)
    have fb := HT3.out.2 (gg * 9 + 1)
    have fc := HT3.out.2 (p * 9 + 2)
    have fd := HT3.out.2 (x * 9 + 2)
    have cob := HO3.out.2
    have j0 : (0 : Int) ≤ gg := by omega
    have j1 : (gg : Int) < (n : Int) + 1 := by omega
    clear hkj hu1 hu2 cx2 cp2 cxk cpk ci2 fe ff fg fh fi c1 SD HW3
    go_still_tail 13, (by kernel_rfl)
    still_call (flip_same (SD2.out 1))
    repeat still_step
    try refine wpStill_nil ?_
    go_wp2_with fail
    refine (pull_any (M6.out.drewN 1) (RTab.drewN L6.out 1) hpg p pn hn HR.out.pull1 (by rw [rotL_val]; exact HR.out.vp)).mono ?_
    rintro e w7 ⟨rfl, t7, m7⟩
    have MM : Hid (Mod g (g + 1) w w7) := Mod.trans ((((HM3.out.setg _ _).setg _ _).setg _ _).drewN 1) m7
    have O7 := Lib.hid ((M6.out.drewN 1).mod m7 (by omega))
    have T7 := Lib.hid t7
    clear t7 m7 M6 L6
    go_wp2_with fail
    refine (pull_any O7.out T7.out hpg x xn hn HR.out.pull2 (by rw [pull_val, rotL_val]; exact HR.out.vx)).mono ?_
    rintro e w8 ⟨rfl, t8, m8⟩
    have M8 : Hid (Mod g (g + 1) w w8) := Mod.trans MM.out m8
    have T8 : Hid (Tab w8 g n (rot T x)) := by
      have := t8; show Tab _ _ _ _; unfold rot; rw [HR.out.hp]; exact this
    clear t8 m8
    go_wp2
    go_end0
    exact ⟨rfl, T8.out, M8.out⟩
theorem rotate_any {w : World} {ob g n cap x p gg i : Nat} {b : Bool} {T : Tb} (hO : Ob w ob g n cap) (hT : Tab w g n T) (hpg : ob ≠ g) (hn : n ≤ 65536) (h : RotOK T n x p gg i b) :
    Calls Try.prog 56 #[.pointer (some ⟨ob, 0, none⟩), .int .i32 x] w fun e w' => e = .returned (.tuple #[]) ∧ Tab w' g n (rot T x) ∧ Mod g (g + 1) w w' := by
  by_cases hi0 : i = 0 <;> by_cases hg0 : gg = 0 <;> cases b
  · exact rot_l00 hO hT hpg hn h hi0 hg0
  · exact rot_r00 hO hT hpg hn h hi0 hg0
  · exact rot_l0g hO hT hpg hn h hi0 hg0
  · exact rot_r0g hO hT hpg hn h hi0 hg0
  · exact rot_li0 hO hT hpg hn h hi0 hg0
  · exact rot_ri0 hO hT hpg hn h hi0 hg0
  · exact rot_lig hO hT hpg hn h hi0 hg0
  · exact rot_rig hO hT hpg hn h hi0 hg0
end Go.Proofs.Ytblopfgnhokocaa
