/- THE CONTRACTS of package splay: New, Copy. -/
import Derived.Test.YtblopfgnhokocaaI
import Derived.Laws.MakeOwn
namespace Go.Proofs.Ytblopfgnhokocaa
open Go.RowKit P
set_option linter.unusedVariables false
set_option linter.unusedSimpArgs false

def zeroNd : Nd := { k0 := 0, k1 := 0, up := 0, size := 0, mn := 0, turn := false, val := 0, sum := 0 }
def zcells : Array Value := #[.int .i32 0, .int .i32 0, .int .i32 0, .int .i32 0, .int .i32 0, .bool false, .int .i64 0, .int .u64 0, .int .u64 0]
theorem info76 : (Try.prog.info? 76).map (fun i => (i.zero, i.size, i.bytes)) = some (some (.agg zcells), 9, 48) := by kernel_rfl
theorem make_run (n : Nat) (hn : n ≤ 65537) (z : Int) (hz : (n : Int) = z) (W : World) : (Instr.makeSlice 64 (.int .i64 z) (.int .i64 z)).run Try.prog W = .ok (.slice (some ⟨W.heap.size, 0, none⟩) n n) (W.alloc (.cells (madeCells zcells (n * 9)) 76)) := by
  subst hz
  obtain ⟨i0, hi, hz0, hz1, hz2⟩ := info_parts info76
  have := run_make (P := Try.prog) W 64 76 i0 (.agg zcells) Try.underlying64 hi hz0 .i64 .i64 n n (by omega) (by omega) (by rw [hz2]; omega) (by omega)
  rw [this, hz1]
  simp only [Int.toNat_natCast]
  rfl
theorem zcell (f : Nat) (hf : f < 9) : zcells[f]! = cellOf zeroNd f := by
  revert hf
  refine below9 (p := fun k => zcells[k]! = cellOf zeroNd k) ?_ ?_ ?_ ?_ ?_ ?_ ?_ ?_ ?_ f <;> rfl
theorem tab_new (W : World) (n : Nat) : Tab (W.alloc (.cells (madeCells zcells ((n + 1) * 9)) 76)) W.heap.size n (fun _ => zeroNd) := by
  have hb : (W.alloc (.cells (madeCells zcells ((n + 1) * 9)) 76)).heap[W.heap.size]? = some (.cells (madeCells zcells ((n + 1) * 9)) 76 (0, 0)) := by
    show (W.heap.push _)[W.heap.size]? = _
    simp
  refine ⟨fun x f hx hf => ?_, fun o => ?_⟩
  · rw [cell_of_row _ _ _ _ _ _ hb]
    unfold madeCells
    have hlt : x * 9 + f < (n + 1) * 9 := by omega
    simp only [Array.getElem?_map, Array.getElem?_range, hlt, if_true, Option.map_some]
    rw [show (x * 9 + f) % zcells.size = f by show (x * 9 + f) % 9 = f; omega, zcell f hf]
  · simp only [World.frozen?]
    rw [hb]
    simp
/-- The table with the first j nodes made. -/
def newT (j : Nat) : Tb := fun y => if 1 ≤ y ∧ y ≤ j then { zeroNd with size := 1, mn := y } else zeroNd
theorem newT_pull (j : Nat) : pull (newT j) (j + 1) = newT (j + 1) := by
  have e0 : newT j (j + 1) = zeroNd := by unfold newT; rw [if_neg (by omega)]
  have e1 : pullN (newT j) (j + 1) = { zeroNd with size := 1, mn := j + 1 } := by
    unfold pullN pull0
    rw [e0]
    simp [addN, zeroNd]
  funext y
  unfold pull upd
  by_cases h : y = j + 1
  · rw [if_pos h, e1, h]; unfold newT; rw [if_pos (by omega)]
  · rw [if_neg h]; unfold newT
    by_cases h2 : 1 ≤ y ∧ y ≤ j
    · rw [if_pos h2, if_pos (by omega)]
    · rw [if_neg h2, if_neg (by omega)]
def newL (n : Nat) : List (List Nat) := (List.range n).map fun i => [i]
theorem newL_flat (n : Nat) : (newL n).flatten = List.range n := by
  unfold newL
  induction (List.range n) with
  | nil => rfl
  | cons a l ih => simp [ih]
theorem newT_fok (n : Nat) : FOK (newT n) n (newL n) := by
  refine ⟨fun l hl => ?_, by rw [newL_flat], rfl⟩
  obtain ⟨i, hi, rfl⟩ := List.mem_map.1 hl
  have hin : i < n := by simpa using hi
  refine ⟨by simp, .node .nil (i + 1) .nil, ?_⟩
  have e : newT n (i + 1) = { zeroNd with size := 1, mn := i + 1 } := by unfold newT; rw [if_pos (by omega)]
  refine ⟨⟨rfl, by omega, by rw [e]; rfl, ?_, by rw [e]; rfl, by rw [e]; rfl⟩, by simp [up1], ?_⟩
  · rw [e]
    refine ⟨rfl, ?_, by simp [Tr.nodes], fun y hy => ?_⟩
    · simp [tsum, Tr.nodes, e, zeroNd]
    · have : y = i + 1 := by simpa [Tr.nodes] using hy
      subst this; exact .inr ⟨rfl, Nat.le_refl _⟩
  · simp [seq, up1]
def newE (n : Int) : Int := if 0 ≤ n ∧ n ≤ 65536 then 0 else 2
def newS (n : Int) : SSt := if 0 ≤ n ∧ n ≤ 65536 then some (newL n.toNat, List.replicate n.toNat 0) else none
/-- Sequences that a call hands back. -/
def Gives (w : World) (o : SSt) (r : Value → Value) (e : Ending) (w' : World) : Prop := ∃ v, e = .returned (r v) ∧ PSo w' w.heap.size w'.heap.size v o ∧ Below w.heap.size w w'
theorem newT_val (j y : Nat) : (newT j y).val = 0 := by unfold newT; split <;> rfl
theorem newT_kids (j y : Nat) : (newT j y).k0 = 0 ∧ (newT j y).k1 = 0 := by unfold newT; split <;> exact ⟨rfl, rfl⟩

set_option maxRecDepth 100000 in
set_option maxHeartbeats 1000000 in
theorem new_any (n : Int) (w : World) (hn64 : In64 n) : Calls Try.prog 23 #[.int .i64 n] w (Gives w (newS n) (fun v => .tuple #[v, .int .i64 (newE n)])) := by
  have b1 := hn64.1
  have b2 := hn64.2
  by_cases h0 : n < 0
  · have FIN : Hid (Gives w (newS n) (fun v => .tuple #[v, .int .i64 (newE n)]) (.returned (.tuple #[.pointer none, .int .i64 2])) w) := by
      refine ⟨.pointer none, ?_, ?_, Below.refl _ _⟩
      · unfold newE; rw [if_neg (by omega)]
      · unfold newS; rw [if_neg (by omega)]; exact .inl rfl
    go_enter Try.func23, Try.ntmps23
    go_wp2
    go_ret2
    exact FIN.out
  · by_cases h1 : 65536 < n
    · have FIN : Hid (Gives w (newS n) (fun v => .tuple #[v, .int .i64 (newE n)]) (.returned (.tuple #[.pointer none, .int .i64 2])) w) := by
        refine ⟨.pointer none, ?_, ?_, Below.refl _ _⟩
        · unfold newE; rw [if_neg (by omega)]
        · unfold newS; rw [if_neg (by omega)]; exact .inl rfl
      go_enter Try.func23, Try.ntmps23
      go_wp2
      go_ret2
      exact FIN.out
    · obtain ⟨m, rfl⟩ : ∃ m : Nat, (m : Int) = n := ⟨n.toNat, by omega⟩
      have hm : m ≤ 65536 := by omega
      have MK := Lib.hid (fun W => make_run (m + 1) (by omega) ((m : Int) + 1) (by omega) W)
      have FE : Hid (newE (m : Int) = 0 ∧ newS (m : Int) = some (newL m, List.replicate m 0)) := by
        refine ⟨if_pos (by omega), ?_⟩
        show newS (m : Int) = _
        unfold newS; rw [if_pos (by omega)]; simp
      have h0' : ¬ (m : Int) < 0 := by omega
      have mk := MK.out w
      clear hn64 b1 b2 h0
      go_enter Try.func23, Try.ntmps23
      go_wp2_with fail
      have t0 : Tab ((w.alloc (.cells (madeCells zcells ((m + 1) * 9)) 76)).alloc (.cells #[.bool true, .slice (some ⟨w.heap.size, 0, none⟩) (m + 1) (m + 1)] 66)) w.heap.size m (newT 0) := by
        have e : newT 0 = fun _ => zeroNd := by funext y; unfold newT; rw [if_neg (by omega)]
        rw [e]
        exact RTab.below (tab_new w m) ((Below.refl _ _).alloc (Nat.le_refl _) _)
      have o0 : Ob ((w.alloc (.cells (madeCells zcells ((m + 1) * 9)) 76)).alloc (.cells #[.bool true, .slice (some ⟨w.heap.size, 0, none⟩) (m + 1) (m + 1)] 66)) (w.heap.size + 1) w.heap.size m (m + 1) := ⟨by simp [go_sem], by simp [go_sem]⟩
      have bel : Below w.heap.size w ((w.alloc (.cells (madeCells zcells ((m + 1) * 9)) 76)).alloc (.cells #[.bool true, .slice (some ⟨w.heap.size, 0, none⟩) (m + 1) (m + 1)] 66)) := ((Below.refl _ _).alloc (Nat.le_refl _) _).alloc (by simp) _
      have hsz : ((w.alloc (.cells (madeCells zcells ((m + 1) * 9)) 76)).alloc (.cells #[.bool true, .slice (some ⟨w.heap.size, 0, none⟩) (m + 1) (m + 1)] 66)).heap.size = w.heap.size + 2 := by simp
      obtain ⟨W0, hW0⟩ : ∃ W0, ((w.alloc (.cells (madeCells zcells ((m + 1) * 9)) 76)).alloc (.cells #[.bool true, .slice (some ⟨w.heap.size, 0, none⟩) (m + 1) (m + 1)] 66)) = W0 := ⟨_, rfl⟩
      rw [hW0] at t0 o0 bel hsz ⊢
      have T0 := Lib.hid t0
      have O0 := Lib.hid o0
      have B0 := Lib.hid bel
      have SZ := Lib.hid hsz
      clear hW0 t0 o0 bel hsz mk
      go_loopw [5] (fun i wr => ∃ j : Nat, i = .int .i64 ((j : Int) + 1) ∧ j ≤ m ∧ Hid (Tab wr w.heap.size m (newT j)) ∧ Hid (Mod w.heap.size (w.heap.size + 1) W0 wr)) (fun i _ => m + 1 - (intOf i).toNat)
      case atStart => exact ⟨0, rfl, Nat.zero_le _, T0, Mod.refl _ _ _⟩
      case round =>
        obtain ⟨j, rfl, hj, HT, HM⟩ := hrel
        have O1 := Lib.hid (O0.out.mod HM.out (by omega))
        by_cases hlt : j < m
        · have hle : (j : Int) + 1 ≤ m := by omega
          have hok : PullOK (newT j) m (j + 1) := by
            have := newT_kids j (j + 1)
            rintro k (rfl | rfl)
            · rw [this.1]; exact ⟨by omega, by omega, fun h => absurd rfl h⟩
            · rw [this.2]; exact ⟨by omega, by omega, fun h => absurd rfl h⟩
          have HP := Lib.hid (pull_any O1.out HT.out (by omega) (j + 1) (by omega) hm hok (by rw [newT_val]; exact ⟨by omega, by omega⟩))
          rw [newT_pull, show ((j + 1 : Nat) : Int) = (j : Int) + 1 by omega] at HP
          clear hok
          go_wp2_with fail
          refine HP.out.mono ?_
          rintro e w2 ⟨rfl, t2, m2⟩
          have T2 := Lib.hid t2
          have M2 : Hid (Mod w.heap.size (w.heap.size + 1) W0 w2) := HM.out.trans m2
          clear t2 m2 HP
          go_wp2
          go_roundw
          case rel => exact ⟨j + 1, by go_num, by omega, T2, M2⟩
          case measure => simp [intOf]; omega
        · obtain rfl : j = m := by omega
          have hle : ¬ ((j : Int) + 1 ≤ j) := by omega
          go_wp2
          go_ret2
          rw [FE.out.1, FE.out.2]
          have s1 := SZ.out
          have s2 := HM.out.size
          refine ⟨_, rfl, ⟨w.heap.size + 1, rfl, w.heap.size, j, j + 1, newT j, ⟨by omega, by omega⟩, ⟨by omega, by omega⟩, Nat.le_refl _, ⟨O1.out, HT.out, by omega, hm, newT_fok j, by simp, fun x hx => ?_, fun v hv => ?_⟩⟩, Mod.below B0.out HM.out (Nat.le_refl _) (by omega)⟩
          · rw [newT_val]; simp [List.getD_eq_getElem?_getD, hx]
          · have := List.eq_of_mem_replicate hv
            subst this; exact ⟨by omega, by omega⟩
end Go.Proofs.Ytblopfgnhokocaa
