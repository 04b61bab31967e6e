/- THE CONTRACTS of package splay: the table in memory. -/
import Derived.Test.YtblopfgnhokocaaK
import Derived.Test.YtblopfgnhokocaaP4
import Derived.Test.YtblopfgnhokocaaProg
import Derived.LoopTactic
import Derived.Outline
import Derived.Deep.QuietTactic
import Derived.BigQuiet
import Derived.RegionTactic
import Derived.BigRegion
import Derived.Laws.Externs
import Derived.StillTailTactics
namespace Go.Proofs.Ytblopfgnhokocaa
open Go.RowKit P
set_option linter.unusedVariables false
set_option linter.unusedSimpArgs false

def hi64 (s : Int) : Int := (s / 18446744073709551616) % 18446744073709551616
def lo64 (s : Int) : Int := s % 18446744073709551616
def cellOf (d : Nd) : Nat → Value
  | 0 => .int .i32 d.k0
  | 1 => .int .i32 d.k1
  | 2 => .int .i32 d.up
  | 3 => .int .i32 d.size
  | 4 => .int .i32 d.mn
  | 5 => .bool d.turn
  | 6 => .int .i64 d.val
  | 7 => .int .u64 (hi64 d.sum)
  | _ => .int .u64 (lo64 d.sum)
/-- A table of cells in block g, nodes 0 to n. -/
def RTab (w : World) (g n : Nat) (C : Nat → Nat → Value) : Prop := (∀ x f, x ≤ n → f < 9 → w.cell? ⟨g, x * 9 + f, none⟩ = some (C x f)) ∧ ∀ o, w.frozen? ⟨g, o, none⟩ = false
def putC (C : Nat → Nat → Value) (x f : Nat) (v : Value) : Nat → Nat → Value := fun y h => if y = x ∧ h = f then v else C y h
def Tab (w : World) (g n : Nat) (T : Tb) : Prop := RTab w g n (fun x f => cellOf (T x) f)
/-- The object at p: it is made, and its nodes lie in block g. -/
def Ob (w : World) (p g n cap : Nat) : Prop := w.cell? ⟨p, 0, none⟩ = some (.bool true) ∧ w.cell? ⟨p, 1, none⟩ = some (.slice (some ⟨g, 0, none⟩) (n + 1) cap)
section
variable {w w' : World} {g n : Nat} {C C' : Nat → Nat → Value} {T : Tb}
theorem RTab.put (h : RTab w g n C) {x f : Nat} {v : Value} (hx : x ≤ n) (hf : f < 9) : RTab (w.setCell ⟨g, x * 9 + f, none⟩ v) g n (putC C x f v) := by
  refine ⟨fun y k hy hk => ?_, fun o => by rw [World.frozen?_setCell]; exact h.2 o⟩
  unfold putC
  by_cases e : y = x ∧ k = f
  · obtain ⟨rfl, rfl⟩ := e
    rw [if_pos ⟨rfl, rfl⟩]
    exact World.cell?_setCell_same _ _ _ (h.1 y k hy hk)
  · rw [if_neg e, World.cell?_setCell_other _ _ _ _ (by intro h; injection h with _ h; omega)]
    exact h.1 y k hy hk
theorem RTab.put0 (h : RTab w g n C) {x : Nat} {v : Value} (hx : x ≤ n) : RTab (w.setCell ⟨g, x * 9, none⟩ v) g n (putC C x 0 v) := h.put (f := 0) hx (by omega)
theorem RTab.drew (h : RTab w g n C) : RTab w.drew g n C := h
theorem RTab.drewN (h : RTab w g n C) (k : Nat) : RTab (w.drewN k) g n C := h
theorem RTab.ext (h : RTab w g n C) (e : ∀ x f, x ≤ n → f < 9 → C x f = C' x f) : RTab w g n C' := ⟨fun x f hx hf => by rw [h.1 x f hx hf, e x f hx hf], h.2⟩
theorem RTab.mod {lo hi : Nat} (h : RTab w g n C) (m : Mod lo hi w w') (ho : g < lo ∨ hi ≤ g) : RTab w' g n C := by
  have hl := World.block_lt_of_cell? w _ (h.1 0 0 (Nat.zero_le _) (by omega))
  have hb := m.block g hl ho
  refine ⟨fun x f hx hf => (World.cell?_of_block (w := w) (a := ⟨g, x * 9 + f, none⟩) hb).trans (h.1 x f hx hf), fun o => ?_⟩
  have := h.2 o
  unfold World.frozen? at this ⊢
  rw [hb]; exact this
theorem RTab.below (h : RTab w g n C) (m : Below w.heap.size w w') : RTab w' g n C := h.mod (Mod.of_below (lo := 0) (hi := 0) m) (.inr (Nat.zero_le _))
theorem Tab.lt (h : Tab w g n T) : g < w.heap.size := World.block_lt_of_cell? w _ (h.1 0 0 (Nat.zero_le _) (by omega))
theorem Ob.mod {p cap : Nat} {lo hi : Nat} (h : Ob w p g n cap) (m : Mod lo hi w w') (ho : p < lo ∨ hi ≤ p) : Ob w' p g n cap := by
  have hl := World.block_lt_of_cell? w _ h.1
  have hb := m.block p hl ho
  exact ⟨(World.cell?_of_block (w := w) hb).trans h.1, (World.cell?_of_block (w := w) hb).trans h.2⟩
end
theorem Mod.setg {a w : World} {g : Nat} (h : Mod g (g + 1) a w) (o : Nat) (u : Value) : Mod g (g + 1) a (w.setCell ⟨g, o, none⟩ u) := Mod.set h (.inl ⟨Nat.le_refl _, Nat.lt_succ_self _⟩) u
theorem Tab.app {w : World} {g n : Nat} {T : Tb} (h : Tab w g n T) {x f : Nat} {v : Value} {q : Nd → Nd} (hx : x ≤ n) (hf : f < 9) (hv : cellOf (q (T x)) f = v) (ho : ∀ k, k < 9 → k ≠ f → cellOf (q (T x)) k = cellOf (T x) k) :
    Tab (w.setCell ⟨g, x * 9 + f, none⟩ v) g n (app T x q) := by
  refine RTab.ext (RTab.put h hx hf) (fun y k hy hk => ?_)
  unfold putC P.app upd
  by_cases e : y = x
  · subst e
    by_cases e2 : k = f
    · subst e2; simp [hv]
    · simp [e2, ho k hk e2]
  · simp [e]
theorem below9 {p : Nat → Prop} (h0 : p 0) (h1 : p 1) (h2 : p 2) (h3 : p 3) (h4 : p 4) (h5 : p 5) (h6 : p 6) (h7 : p 7) (h8 : p 8) : ∀ k, k < 9 → p k := by
  intro k hk
  match k, hk with
  | 0, _ => exact h0
  | 1, _ => exact h1
  | 2, _ => exact h2
  | 3, _ => exact h3
  | 4, _ => exact h4
  | 5, _ => exact h5
  | 6, _ => exact h6
  | 7, _ => exact h7
  | 8, _ => exact h8
  | k + 9, hk => omega
theorem idx0 (b a : Int) (w : World) : (Instr.index 73 (.agg #[.int .i32 b, .int .i32 a]) (.int .i64 0)).run Try.prog w = .ok (.int .i32 b) w := by kernel_rfl
theorem idx1 (b a : Int) (w : World) : (Instr.index 73 (.agg #[.int .i32 b, .int .i32 a]) (.int .i64 1)).run Try.prog w = .ok (.int .i32 a) w := by kernel_rfl
theorem tog_cells (d : Nd) : ∀ k, k < 9 → k ≠ 5 → cellOf (tog d) k = cellOf d k :=
  below9 (fun _ => rfl) (fun _ => rfl) (fun _ => rfl) (fun _ => rfl) (fun _ => rfl) (fun h => absurd rfl h) (fun _ => rfl) (fun _ => rfl) (fun _ => rfl)
def pushK (T : Tb) (x a b : Nat) : Nat → Tb
  | 0 => app T x swp
  | 1 => appz (app T x swp) b tog
  | _ => appz (appz (app T x swp) b tog) a tog
theorem swp_tab {w : World} {g n x a b : Nat} {T : Tb} (h : Tab w g n T) (hx : x ≤ n) (ha : (T x).k0 = a) (hb : (T x).k1 = b) :
    Tab (((w.setCell ⟨g, x * 9 + 5, none⟩ (.bool false)).setCell ⟨g, x * 9, none⟩ (.int .i32 b)).setCell ⟨g, x * 9 + 1, none⟩ (.int .i32 a)) g n (app T x swp) := by
  refine RTab.ext (((RTab.put h hx (f := 5) (by omega)).put0 hx).put hx (f := 1) (by omega)) (fun y k hy hk => ?_)
  unfold putC P.app upd
  by_cases e : y = x
  · subst e
    subst ha hb
    revert hk
    refine below9 (p := fun k => (if y = y ∧ k = 1 then _ else if y = y ∧ k = 0 then _ else if y = y ∧ k = 5 then _ else cellOf (T y) k) = cellOf (if y = y then swp (T y) else T y) k) ?_ ?_ ?_ ?_ ?_ ?_ ?_ ?_ ?_ k <;> simp [cellOf, swp]
  · simp [e]

theorem side_any {w : World} {p g n cap : Nat} {T : Tb} (hO : Ob w p g n cap) (hT : Tab w g n T) (y x : Nat) (b : Bool) (hb : decide ((T y).k1 = x) = b) (hy : y ≤ n) (hn : n ≤ 65536) :
    Calls Try.prog 55 #[.pointer (some ⟨p, 0, none⟩), .int .i32 y, .int .i32 x] w fun e w' => e = .returned (.int .i64 (if b = true then 1 else 0)) ∧ w = w' := by
  have c1 := hO.2
  have c2 : w.cell? ⟨g, y * 9 + 1, none⟩ = some (.int .i32 (T y).k1) := hT.1 y 1 hy (by omega)
  obtain ⟨k, hk⟩ : ∃ k, (T y).k1 = k := ⟨_, rfl⟩
  rw [hk] at c2 hb
  have hd : ((k : Int) == (x : Int)) = b := by rw [← hb]; by_cases e : k = x <;> simp [e]; omega
  clear hO hT hk hb
  cases b
  · go_enter Try.func55, Try.ntmps55
    go_wp2
    go_ret
    exact ⟨rfl, rfl⟩
  · go_enter Try.func55, Try.ntmps55
    go_wp2
    go_ret
    exact ⟨rfl, rfl⟩

set_option maxRecDepth 100000 in
set_option maxHeartbeats 1000000 in
theorem push_any {w : World} {p g n cap : Nat} {T : Tb} (hO : Ob w p g n cap) (hT : Tab w g n T) (hpg : p ≠ g) (x : Nat) (hx : x ≤ n) (hn : n ≤ 65536) (hk : (T x).k0 ≤ n ∧ (T x).k1 ≤ n) :
    Calls Try.prog 40 #[.pointer (some ⟨p, 0, none⟩), .int .i32 x] w fun e w' => e = .returned (.tuple #[]) ∧ Tab w' g n (push T x) ∧ Mod g (g + 1) w w' := by
  have c1 := hO.2
  have c2 : w.cell? ⟨g, x * 9 + 5, none⟩ = some (.bool (T x).turn) := hT.1 x 5 hx (by omega)
  have c3 : w.cell? ⟨g, x * 9, none⟩ = some (.int .i32 (T x).k0) := hT.1 x 0 hx (by omega)
  have c4 : w.cell? ⟨g, x * 9 + 1, none⟩ = some (.int .i32 (T x).k1) := hT.1 x 1 hx (by omega)
  have fz : ∀ o, w.frozen? ⟨g, o, none⟩ = false := hT.2
  have f1 := fz (x * 9 + 5)
  have f2 := fz (x * 9)
  have f3 := fz (x * 9 + 1)
  by_cases ht : (T x).turn = true
  · obtain ⟨a, ha⟩ : ∃ a, (T x).k0 = a := ⟨_, rfl⟩
    obtain ⟨b, hb⟩ : ∃ b, (T x).k1 = b := ⟨_, rfl⟩
    rw [ht] at c2
    rw [ha] at c3
    rw [hb] at c4
    have hpg' : ¬ g = p := fun e => hpg e.symm
    have HA := Lib.hid ha
    have HB := Lib.hid hb
    have HTT := Lib.hid ht
    have ha' : a ≤ n := ha ▸ hk.1
    have hb' : b ≤ n := hb ▸ hk.2
    have hO0 := hO
    clear hO ht ha hb fz hk
    have HT := Lib.hid hT
    have ha := ha'
    have hb := hb'
    clear hT ha' hb'
    have HO := Lib.hid hO0
    clear hO0
    have W0 := Lib.hid (swp_tab HT.out hx HA.out HB.out)
    have i0 := idx0 b a
    have i1 := idx1 b a
    go_enter Try.func40, Try.ntmps40
    go_wp2
    go_region
    go_wp2
    go_loopw [43] (fun i wr => ∃ k : Nat, k ≤ 2 ∧ i = .int .i64 k ∧ Hid (Tab wr g n (pushK T x a b k)) ∧ Hid (Mod g (g + 1) w wr)) (fun i _ => 2 - (intOf i).toNat)
    case atStart => exact ⟨0, by omega, rfl, W0, ((((Mod.refl _ _ _).setg _ _).setg _ _).setg _ _).drew⟩
    case round =>
      obtain ⟨k, hk2, rfl, HW, HM⟩ := hrel
      clear c1 c2 c3 c4 f1 f2 f3 W0
      obtain rfl | rfl | rfl : k = 0 ∨ k = 1 ∨ k = 2 := by omega
      · by_cases hz : b = 0
        · have hzb : ((b : Int) != 0) = false := by simp [hz]
          have HN : Hid (Tab wr g n (pushK T x a b 1)) := by
            have := HW.out; show Tab _ _ _ _; simpa [pushK, appz, hz] using this
          clear hz
          go_wp2
          go_roundw
          case rel => exact ⟨1, by omega, rfl, HN, HM⟩
          case measure => simp [intOf]
        · have hzb : ((b : Int) != 0) = true := by simp; omega
          have ct : wr.cell? ⟨g, b * 9 + 5, none⟩ = some (.bool (pushK T x a b 0 b).turn) := HW.out.1 b 5 hb (by omega)
          have ff := HW.out.2 (b * 9 + 5)
          have co : wr.cell? ⟨p, 1, none⟩ = some (.slice (some ⟨g, 0, none⟩) (n + 1) cap) := (HO.out.mod HM.out (by omega)).2
          have HN : Hid (Tab ((wr.drew).setCell ⟨g, b * 9 + 5, none⟩ (.bool !(pushK T x a b 0 b).turn)) g n (pushK T x a b 1)) := by
            have := Tab.app (f := 5) (q := tog) (RTab.drew HW.out) hb (by omega) rfl (tog_cells _)
            have e : pushK T x a b 1 = app (pushK T x a b 0) b tog := by simp [pushK, appz, hz]
            show Tab _ _ _ _
            rw [e]; exact this
          have HM2 : Hid (Mod g (g + 1) w ((wr.drew).setCell ⟨g, b * 9 + 5, none⟩ (.bool !(pushK T x a b 0 b).turn))) := (Mod.drew HM.out).setg _ _
          obtain ⟨tt, htt⟩ : ∃ tt, (pushK T x a b 0 b).turn = tt := ⟨_, rfl⟩
          rw [htt] at ct HN HM2
          clear hz htt
          go_wp2
          go_region
          go_wp2
          go_roundw
          case rel => exact ⟨1, by omega, rfl, HN, HM2⟩
          case measure => simp [intOf]
      · by_cases hz : a = 0
        · have hzb : ((a : Int) != 0) = false := by simp [hz]
          have HN : Hid (Tab wr g n (pushK T x a b 2)) := by
            have := HW.out; show Tab _ _ _ _; simpa [pushK, appz, hz] using this
          clear hz
          go_wp2
          go_roundw
          case rel => exact ⟨2, by omega, rfl, HN, HM⟩
          case measure => simp [intOf]
        · have hzb : ((a : Int) != 0) = true := by simp; omega
          have ct : wr.cell? ⟨g, a * 9 + 5, none⟩ = some (.bool (pushK T x a b 1 a).turn) := HW.out.1 a 5 ha (by omega)
          have ff := HW.out.2 (a * 9 + 5)
          have co : wr.cell? ⟨p, 1, none⟩ = some (.slice (some ⟨g, 0, none⟩) (n + 1) cap) := (HO.out.mod HM.out (by omega)).2
          have HN : Hid (Tab ((wr.drew).setCell ⟨g, a * 9 + 5, none⟩ (.bool !(pushK T x a b 1 a).turn)) g n (pushK T x a b 2)) := by
            have := Tab.app (f := 5) (q := tog) (RTab.drew HW.out) ha (by omega) rfl (tog_cells _)
            have e : pushK T x a b 2 = app (pushK T x a b 1) a tog := by simp [pushK, appz, hz]
            show Tab _ _ _ _
            rw [e]; exact this
          have HM2 : Hid (Mod g (g + 1) w ((wr.drew).setCell ⟨g, a * 9 + 5, none⟩ (.bool !(pushK T x a b 1 a).turn))) := (Mod.drew HM.out).setg _ _
          obtain ⟨tt, htt⟩ : ∃ tt, (pushK T x a b 1 a).turn = tt := ⟨_, rfl⟩
          rw [htt] at ct HN HM2
          clear hz htt
          go_wp2
          go_region
          go_wp2
          go_roundw
          case rel => exact ⟨2, by omega, rfl, HN, HM2⟩
          case measure => simp [intOf]
      · have HN : Hid (Tab wr g n (push T x)) := by
          have e : push T x = pushK T x a b 2 := by unfold push; rw [if_pos HTT.out, HA.out, HB.out]; rfl
          show Tab _ _ _ _
          rw [e]; exact HW.out
        go_wp2
        go_end0
        exact ⟨rfl, HN.out, HM.out⟩
  · have : push T x = T := if_neg ht
    rw [this]
    have ht' : (T x).turn = false := by simpa using ht
    rw [ht'] at c2
    have HT := Lib.hid hT
    clear hT fz ht ht' this
    go_enter Try.func40, Try.ntmps40
    go_wp2
    exact bodyPost_ret (results_none rfl _ _ _) rfl ⟨rfl, HT.out, Mod.refl _ _ _⟩
end Go.Proofs.Ytblopfgnhokocaa
