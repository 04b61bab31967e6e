/- THE STATEMENTS about sequences: played. -/
import Derived.Test.YtblopfgnhokocaaU
namespace Go.Proofs.Ytblopfgnhokocaa
open Go.RowKit P
set_option linter.unusedVariables false
set_option linter.unusedSimpArgs false

/-- The kinds of a step's fields. -/
def actK : Nat → IntKind := fun j => if j = 0 then .u8 else if j = 1 then .u8 else if j = 2 then .u8 else .i64
/-- The state after the first k of the steps. -/
def playN (o : SSt) (f : Nat → Nat → Int) : Nat → SSt
  | 0 => o
  | k + 1 => doS (playN o f k) (f k 0) (f k 1) (f k 2) (f k 3)
/-- Forty nodes. -/
def Ok40 (o : SSt) : Prop := ∃ L V, o = some (L, V) ∧ V.length = 40
theorem ok_new : Ok40 (newS 40) := ⟨_, _, rfl, by simp⟩
theorem ok_do {o : SSt} (h : Ok40 o) (d x y z : Int) : Ok40 (doS o d x y z) := by
  obtain ⟨L, V, rfl, hV⟩ := h
  unfold doS
  split
  · exact ⟨_, _, rfl, hV⟩
  · split
    · show Ok40 (if nodeB V (x % 40) then some (splitL L _, V) else some (L, V))
      split <;> exact ⟨_, _, rfl, hV⟩
    · split
      · show Ok40 (if nodeB V (x % 40) then some (revL L _, V) else some (L, V))
        split <;> exact ⟨_, _, rfl, hV⟩
      · show Ok40 (if nodeB V (x % 40) then some (L, V.set (x % 40).toNat z) else some (L, V))
        split
        · exact ⟨_, _, rfl, by simpa using hV⟩
        · exact ⟨_, _, rfl, hV⟩
theorem ok_play {o : SSt} (h : Ok40 o) (f : Nat → Nat → Int) : ∀ k, Ok40 (playN o f k)
  | 0 => h
  | k + 1 => ok_do (ok_play h f k) _ _ _ _
theorem do_ok {w : World} {lo hi : Nat} {v : Value} {o : SSt} (h : PSo w lo hi v o) (k : Ok40 o) (hhi : hi ≤ w.heap.size) (d x y z : Int) (hz : In64 z) (hd : 0 ≤ d ∧ d ≤ 255) (hx : 0 ≤ x ∧ x ≤ 255) (hy : 0 ≤ y ∧ y ≤ 255) :
    Calls Try.prog 31 #[v, .agg #[.int .u8 d, .int .u8 x, .int .u8 y, .int .i64 z]] w (Sp w lo hi v (doS o d x y z) (.bool true)) := by
  obtain ⟨L, V, rfl, hV⟩ := k
  exact do_any h hV hhi d x y z hz hd hx hy
/-- One step's cells. -/
structure ActAt (w : World) (b q : Nat) (d x y z : Int) : Prop where
  hd : 0 ≤ d ∧ d ≤ 255
  hx : 0 ≤ x ∧ x ≤ 255
  hy : 0 ≤ y ∧ y ≤ 255
  hz : In64 z
  c0 : w.cell? ⟨b, q, none⟩ = some (.int .u8 d)
  c1 : w.cell? ⟨b, q + 1, none⟩ = some (.int .u8 x)
  c2 : w.cell? ⟨b, q + 2, none⟩ = some (.int .u8 y)
  c3 : w.cell? ⟨b, q + 3, none⟩ = some (.int .i64 z)
theorem acts_at {w : World} {b n : Nat} {a : Option Addr} {f : Nat → Nat → Int} (h : Recs w b a n 4 actK f) {k : Nat} (hk : k < n) : ∃ off, a = some ⟨b, off, none⟩ ∧ ActAt w b (off + k * 4) (f k 0) (f k 1) (f k 2) (f k 3) := by
  obtain ⟨off, ha, hc⟩ := h.2 (by omega)
  refine ⟨off, ha, wf_u8 (h.1 k 0 hk (by decide)), wf_u8 (h.1 k 1 hk (by decide)), wf_u8 (h.1 k 2 hk (by decide)), wf_in64 (h.1 k 3 hk (by decide)), ?_, ?_, ?_, ?_⟩
  · exact hc k 0 hk (by decide)
  · rw [Nat.add_assoc]; exact hc k 1 hk (by decide)
  · rw [Nat.add_assoc]; exact hc k 2 hk (by decide)
  · rw [Nat.add_assoc]; exact hc k 3 hk (by decide)
theorem PSo.wide {w : World} {lo hi hi' : Nat} {v : Value} {o : SSt} (h : PSo w lo hi v o) (hh : hi ≤ hi') : PSo w lo hi' v o := by
  rcases o with _ | ⟨L, V⟩
  · rcases h with rfl | ⟨p, hl, rfl, h⟩
    · exact .inl rfl
    · exact .inr ⟨p, ⟨hl.1, by omega⟩, rfl, h⟩
  · obtain ⟨p, rfl, g, n, cap, T, h1, h2, hc, hi⟩ := h
    exact ⟨p, rfl, g, n, cap, T, ⟨h1.1, by omega⟩, ⟨h2.1, by omega⟩, hc, hi⟩
theorem Below.of_mod {lo hi : Nat} {a b c : World} (h : Hid (Below a.heap.size a b)) (m : Mod lo hi b c) (h1 : a.heap.size ≤ lo) : Hid (Below a.heap.size a c) := Mod.below h.out m h1 h.out.size
/-- The steps that are played. -/
def stepN (n : Nat) : Nat := min n 200

set_option maxHeartbeats 1000000 in
set_option maxRecDepth 100000 in
theorem played_any {w : World} {a : Option Addr} {n c b : Nat} {f : Nat → Nat → Int} (h : Recs w b a n 4 actK f) (hn : n ≤ maxLen) :
    Calls Try.prog 13 #[.slice a n c] w (Gives w (playN (newS 40) f (min n 200)) id) := by
  unfold maxLen at hn
  have HN := Lib.hid (new_any 40 w (by unfold In64; omega))
  rw [show newE 40 = 0 from rfl] at HN
  have OK := Lib.hid (ok_play ok_new f)
  have W1 := Lib.hid h
  obtain ⟨o, ho⟩ : ∃ o, newS 40 = o := ⟨_, rfl⟩
  rw [ho] at HN OK ⊢
  clear h ho
  go_enter Try.func13, Try.ntmps13
  go_wp2_with fail
  refine HN.out.mono ?_
  rintro e w1 ⟨v, rfl, hP, hb⟩
  have B1 := Lib.hid hb
  have P1 := Lib.hid hP
  clear hP hb HN
  go_wp2_with fail
  go_loopw [5] (fun i wr => ∃ (k : Nat), i = .int .i64 k ∧ k ≤ n ∧ k ≤ 200 ∧ Hid (PSo wr w.heap.size w1.heap.size v (playN o f k)) ∧ Hid (Below w.heap.size w wr) ∧ w1.heap.size ≤ wr.heap.size) (fun i _ => 200 - (intOf i).toNat)
  case atStart => exact ⟨0, rfl, Nat.zero_le _, Nat.zero_le _, P1, B1, Nat.le_refl _⟩
  case round =>
    obtain ⟨k, rfl, hk, hk2, HP, HB, hsz⟩ := hrel
    clear P1 B1
    by_cases hlt : k < n
    · have i1 : (k : Int) < n := by omega
      by_cases hl2 : k < 200
      · have i2 : (k : Int) < 200 := by omega
        have i0 : (0 : Int) ≤ k := by omega
        obtain ⟨off, ha, act⟩ := acts_at (W1.out.below (by decide) HB.out) hlt
        subst ha
        have HD := Lib.hid (do_ok HP.out (OK.out k) hsz (f k 0) (f k 1) (f k 2) (f k 3) act.hz act.hd act.hx act.hy)
        have c0 := act.c0
        have c1 := act.c1
        have c2 := act.c2
        have c3 := act.c3
        obtain ⟨d, hd⟩ : ∃ d, f k 0 = d := ⟨_, rfl⟩
        obtain ⟨x, hx⟩ : ∃ d, f k 1 = d := ⟨_, rfl⟩
        obtain ⟨y, hy⟩ : ∃ d, f k 2 = d := ⟨_, rfl⟩
        obtain ⟨z, hz⟩ : ∃ d, f k 3 = d := ⟨_, rfl⟩
        have FS : Hid (playN o f (k + 1) = doS (playN o f k) d x y z) := by subst hd hx hy hz; rfl
        rw [hd] at c0 HD
        rw [hx] at c1 HD
        rw [hy] at c2 HD
        rw [hz] at c3 HD
        clear act hd hx hy hz
        go_wp2_with fail
        refine HD.out.mono ?_
        rintro e w2 ⟨rfl, p2, m2⟩
        have P2 : Hid (PSo w2 w.heap.size w1.heap.size v (playN o f (k + 1))) := by rw [FS.out]; exact p2
        have B2 : Hid (Below w.heap.size w w2) := Below.of_mod HB m2 (Nat.le_refl _)
        have s2 : w1.heap.size ≤ w2.heap.size := Nat.le_trans hsz m2.size
        clear p2 m2 HD HP HB FS c0 c1 c2 c3
        go_wp2
        go_roundw
        case rel => exact ⟨k + 1, by go_num, by omega, by omega, P2, B2, s2⟩
        case measure => simp [intOf]; omega
      · obtain rfl : k = 200 := by omega
        have FIN : Hid (Gives w (playN o f (min n 200)) id (.returned v) wr) := ⟨v, rfl, by rw [Nat.min_eq_right (by omega)]; exact HP.out.wide hsz, HB.out⟩
        clear HP HB
        go_wp2
        go_ret
        exact FIN.out
    · obtain rfl : k = n := by omega
      have FIN : Hid (Gives w (playN o f (min k 200)) id (.returned v) wr) := ⟨v, rfl, by rw [Nat.min_eq_left hk2]; exact HP.out.wide hsz, HB.out⟩
      clear HP HB
      go_wp2
      go_ret
      exact FIN.out
end Go.Proofs.Ytblopfgnhokocaa
