/- THE CONTRACTS of package histo: New, Copy. -/
import Derived.Test.YtpfdoifkimjlbaaB
import Derived.Laws.MakeOwn
import Derived.IntWalk
import Derived.Deep.RegionHeld3
namespace Go.Proofs.Ytpfdoifkimjlbaa
open Go.RowKit H M
set_option linter.unusedVariables false
set_option linter.unusedSimpArgs false

theorem made_zero (n : Nat) : madeCells #[.int .i64 0] n = ((List.replicate n (0 : Int)).map (Value.int .i64)).toArray := by
  apply Array.ext'
  simp only [madeCells, Array.toList_map, Array.toList_range, List.map_replicate]
  apply List.eq_replicate_iff.2
  refine ⟨by simp, fun b hb => ?_⟩
  simp only [List.mem_map] at hb
  obtain ⟨x, _, rfl⟩ := hb
  rw [show x % #[Value.int .i64 0].size = 0 from Nat.mod_one x]
  rfl
theorem make_run (n : Nat) (hn : n ≤ 1000000) (z : Int) (hz : (n : Int) = z) (W : World) : (Instr.makeSlice 22 (.int .i64 z) (.int .i64 z)).run Try.prog W = .ok (.slice (some ⟨W.heap.size, 0, none⟩) n n) (W.alloc (.cells ((List.replicate n (0 : Int)).map (Value.int .i64)).toArray 2)) := by
  subst hz
  obtain ⟨i0, hi, hz0, hz1, hz2⟩ := info_parts info2
  have := run_make (P := Try.prog) W 22 2 i0 (.int .i64 0) Try.underlying22 hi hz0 .i64 .i64 n n (by omega) (by omega) (by rw [hz2]; omega) (by omega)
  rw [this, hz1]
  simp only [Int.toNat_natCast, Nat.mul_one]
  rw [← made_zero]
  rfl

theorem Bk.rep (w : World) (n : Nat) : Bk (w.alloc (.cells (Array.replicate n (Value.int .i64 0)) 2)) w.heap.size 2 ((List.replicate n (0 : Int)).map (Value.int .i64) ++ []) := by
  have := Bk.new w 2 ((List.replicate n (0 : Int)).map (Value.int .i64) ++ [])
  simpa using this
/-- A histogram that a call hands back, with an error number. -/
def GivesH (w : World) (o : St) (n : Int) (e : Ending) (w' : World) : Prop := ∃ v, e = .returned (.tuple #[v, .int .i64 n]) ∧ PHo w' w.heap.size w'.heap.size v o ∧ Below w.heap.size w w'
def GivesP (w : World) (o : St) (e : Ending) (w' : World) : Prop := ∃ v, e = .returned v ∧ PHo w' w.heap.size w'.heap.size v o ∧ Below w.heap.size w w'

theorem made_H {w W : World} {p cb bb cp cap : Nat} {a : Option Addr} {l : List Int} {ex : List Value} (hf : fitsB l = true)
    (b1 : Bk W p 63 [.bool true, .slice a l.length cp, .slice (some ⟨cb, 0, none⟩) (l.length + 1) cap, .int .i64 0]) (b2 : Row W 2 bb a l.length cp l) (hcap : cap = l.length + 1 + ex.length) (b3 : Bk W cb 2 ((List.replicate (l.length + 1) (0 : Int)).map (Value.int .i64) ++ ex))
    (hb : Below w.heap.size w W) (h1 : w.heap.size ≤ p) (h2 : w.heap.size ≤ cb) (h3 : 0 < l.length → w.heap.size ≤ bb ∧ bb ≠ cb ∧ bb ≠ p) :
    GivesH w (new l) (newE l) (.returned (.tuple #[.pointer (some ⟨p, 0, none⟩), .int .i64 0])) W := by
  refine ⟨_, by rw [newE, if_pos hf], ?_, hb⟩
  rw [new, if_pos hf]
  refine ⟨good_new hf b2.1.2.1, p, rfl, cb, bb, a, cp, cap, ex, ⟨h1, b1.lt⟩, ⟨⟨h2, b3.lt⟩, by simpa using hcap⟩, fun hn => ⟨⟨(h3 hn).1, b2.lt hn⟩, (h3 hn).2⟩, ?_, b2, b3⟩
  rw [List.length_replicate, sum_rep]
  exact b1

def GivesHn (w : World) (o : St) (n : Int) (e : Ending) (w' : World) : Prop := GivesH w o n e w' ∧ (o = none → e = .returned (.tuple #[.pointer none, .int .i64 n]))
theorem made_Hn {w W : World} {p cb bb cp cap : Nat} {a : Option Addr} {l : List Int} {ex : List Value} (hf : fitsB l = true)
    (b1 : Bk W p 63 [.bool true, .slice a l.length cp, .slice (some ⟨cb, 0, none⟩) (l.length + 1) cap, .int .i64 0]) (b2 : Row W 2 bb a l.length cp l) (hcap : cap = l.length + 1 + ex.length) (b3 : Bk W cb 2 ((List.replicate (l.length + 1) (0 : Int)).map (Value.int .i64) ++ ex))
    (hb : Below w.heap.size w W) (h1 : w.heap.size ≤ p) (h2 : w.heap.size ≤ cb) (h3 : 0 < l.length → w.heap.size ≤ bb ∧ bb ≠ cb ∧ bb ≠ p) :
    GivesHn w (new l) (newE l) (.returned (.tuple #[.pointer (some ⟨p, 0, none⟩), .int .i64 0])) W :=
  ⟨made_H hf b1 b2 hcap b3 hb h1 h2 h3, fun h => by rw [new, if_pos hf] at h; cases h⟩

set_option maxHeartbeats 1000000 in
theorem new_str {w : World} {b : Nat} {a : Option Addr} {n c : Nat} {l : List Int} (h : Ints w b a n c l) (hm : n ≤ maxLen) :
    Calls Try.prog 18 #[.slice a n c] w (GivesHn w (new l) (newE l)) := by
  unfold maxLen at hm
  have hln := h.1
  have BAD : fitsB l = false → ∀ W, Below w.heap.size w W → GivesHn w (new l) (newE l) (.returned (.tuple #[.pointer none, .int .i64 2])) W := by
    intro hf W hb
    refine ⟨⟨.pointer none, by simp [newE, hf], ?_, hb⟩, fun _ => by simp [newE, hf]⟩
    rw [show new l = none by simp [new, hf]]
    exact .inl rfl
  by_cases h1 : 1024 < n
  · have FIN := Lib.hid (BAD (by rw [← Bool.not_eq_true]; intro q; have := ((fitsB_iff l).1 q).1; omega) w (Below.refl _ _))
    clear h hln BAD
    have h1' : (1024 : Int) < n := by omega
    go_enter Try.func18, Try.ntmps18
    go_wp2
    go_ret2
    exact FIN.out
  · have h1' : ¬ (1024 : Int) < n := by omega
    have BAD := Lib.hid BAD
    have HI := Lib.hid h
    have HL := Lib.hid hln
    clear h hln
    obtain ⟨N, hN⟩ : ∃ N, n - 1 = N := ⟨_, rfl⟩
    have hmx : max (0 : Int) ((n : Int) - 1) = (N : Int) := by omega
    have n1 : N ≤ n - 1 := by omega
    have n2 : n ≤ N + 1 := by omega
    have HN := Lib.hid hN
    clear hN
    have CL := Lib.hid (fun W (hb : Below w.heap.size w W) => clone_any (HI.out.below hb) (show n ≤ 1000000 by omega))
    have MK := Lib.hid (fun W => make_run (n + 1) (by omega) ((n : Int) + 1) (by omega) W)
    go_enter Try.func18, Try.ntmps18
    go_wp2
    clear hmx
    go_loopw [4, 12] (fun _ u wr => ∃ k : Nat, u = .int .i64 k ∧ k ≤ N ∧ Hid (∀ i, i < k → l.getD i 0 < l.getD (i + 1) 0) ∧ Hid (∃ q, w.drewN q = wr)) (fun _ u _ => N - (intOf u).toNat)
    case atStart => exact ⟨0, rfl, Nat.zero_le _, (fun i hi => absurd hi (by omega)), ⟨0, rfl⟩⟩
    case round =>
      obtain ⟨k, rfl, hk, HU, HQ⟩ := hrel
      by_cases hlt : k < N
      · obtain ⟨q, hq⟩ := HQ.out
        have hI := HI.out
        obtain ⟨off, ha, hc⟩ := hI.2.2.2 (by omega)
        have ck0 : wr.cell? ⟨b, off + k, none⟩ = some (.int .i64 (l.getD k 0)) := by rw [← hq]; exact hc k (by omega)
        have ck1 : wr.cell? ⟨b, off + (k + 1), none⟩ = some (.int .i64 (l.getD (k + 1) 0)) := by rw [← hq]; exact hc (k + 1) (by omega)
        have i0 : (0 : Int) ≤ k := by omega
        have i1 : (k : Int) < n := by omega
        have i2 : (0 : Int) ≤ (k : Int) + 1 := by omega
        have i3 : (k : Int) + 1 < n := by omega
        obtain ⟨x, hx⟩ : ∃ x, l.getD k 0 = x := ⟨_, rfl⟩
        obtain ⟨y, hy⟩ : ∃ y, l.getD (k + 1) 0 = y := ⟨_, rfl⟩
        rw [hx] at ck0
        rw [hy] at ck1
        have HX := Lib.hid hx
        have HY := Lib.hid hy
        subst ha
        clear hx hy hc hI hq
        by_cases hxy : x < y
        · have HU' : Hid (∀ i, i < k + 1 → l.getD i 0 < l.getD (i + 1) 0) := by
            intro i hi
            rcases Nat.lt_or_ge i k with h | h
            · exact HU.out i h
            · obtain rfl : i = k := by omega
              rw [HX.out, HY.out]; exact hxy
          obtain ⟨qq, hqq⟩ := HQ.out
          have HQ' : ∀ m, Hid (∃ q, w.drewN q = wr.drewN m) := fun m => ⟨qq + m, by rw [← hqq, World.drewN_drewN]⟩
          have HQ' := Lib.hid HQ'
          clear HU HQ HX HY hqq
          go_wp2
          go_quiet (fail)
          go_wp2
          go_roundw
          case rel => exact ⟨k + 1, by go_num, by omega, HU', HQ'.out _⟩
          case measure => simp [intOf]; omega
        · obtain ⟨qq, hqq⟩ := HQ.out
          have FIN : ∀ m, GivesHn w (new l) (newE l) (.returned (.tuple #[.pointer none, .int .i64 2])) (wr.drewN m) := fun m => BAD.out (by
            rw [← Bool.not_eq_true]; intro q
            have := ((fitsB_iff l).1 q).2 k (by rw [HL.out]; omega)
            rw [HX.out, HY.out] at this; omega) _ (by rw [← hqq, World.drewN_drewN]; exact below_drewN (Below.refl _ _) _)
          have FIN := Lib.hid FIN
          clear HU HQ HX HY hqq
          go_wp2
          go_quiet (fail)
          go_wp2
          go_ret2
          exact FIN.out _
      · obtain rfl : k = N := by omega
        clear hlt
        obtain ⟨qq, hqq⟩ := HQ.out
        have HF : Hid (fitsB l = true) := by
          refine (fitsB_iff l).2 ⟨by rw [HL.out]; omega, fun i hi => ?_⟩
          rw [HL.out] at hi
          exact HU.out i (by have := HN.out; omega)
        have CL2 : Hid (∀ W, Below wr.heap.size wr W → Calls Try.prog 41 #[.slice a n c] W (GivesInts W l)) := fun W hb => CL.out W ((show Below w.heap.size w wr by rw [← hqq]; exact below_drewN (Below.refl _ _) _).trans (hb.mono (by rw [← hqq]; exact Nat.le_refl _)))
        have HBW : Hid (Below w.heap.size w wr) := by rw [← hqq]; exact below_drewN (Below.refl _ _) _
        clear HU HQ CL hqq
        have MK2 := MK.out
        have BW : Hid (Below w.heap.size w wr) := HBW
        clear MK
        have hw1 : IntKind.i64.wrap ((n : Int) + 1) = (n : Int) + 1 := IntWalk.i64_in _ (by omega)
        have hw2 : (0 : Int) ≤ (n : Int) + 1 := by omega
        go_wp2_with fail
        go_region_held3 (fun w' => True) (trivial)
          ((go_at_call 41; refine (CL2.out _ (by repeat (first | exact Below.refl _ _ | refine Below.drew ?_ | refine Below.alloc ?_ (by simp) _))).mono ?_; rintro e w1 ⟨b1, a1, n1', c1, rfl, hi1, hb1, hg1⟩))
        all_goals go_wp2
        all_goals
          obtain rfl := HL.out
          obtain rfl := hi1.1
          have hs1 := hb1.size
          simp at hs1
          have ga : 0 < l.length → wr.heap.size ≤ b1 := fun h => Nat.le_trans (by simp) (hg1 h).1
          have gw := Below.size BW
          have gb : 0 < l.length → b1 < w1.heap.size := fun h => hi1.lt h
          have hg2 := fun h => (hg1 h).1
          simp at hg2
          go_ret2
        · have gc : Below w.heap.size w w1 := (Below.drew BW.out).trans (hb1.mono gw)
          refine made_Hn (cb := w1.heap.size) (bb := b1) (ex := []) HF.out (Bk.new' (by simp)) (Row.below ⟨hi1, fun h => (hg1 h).2⟩ ?_) rfl ?_ ?_ ?_ ?_ ?_
          · exact ((Below.refl _ _).alloc (Nat.le_refl _) _).alloc (by simp) _
          · exact (Bk.rep w1 _).alloc _
          · exact (gc.alloc (by omega) _).alloc (by simp; omega) _
          · omega
          · omega
          · intro h; have := ga h; have := gb h; refine ⟨by omega, by omega, by omega⟩
        · have gc : Below w.heap.size w w1 := (Below.drew (Below.alloc BW.out gw _)).trans (hb1.mono (by simp; omega))
          have bk := (Bk.rep wr (l.length + 1)).drew.below hb1
          refine made_Hn (cb := wr.heap.size) (bb := b1) (ex := []) HF.out (Bk.new' (by simp)) (Row.below ⟨hi1, fun h => (hg1 h).2⟩ ?_) rfl ?_ ?_ ?_ ?_ ?_
          · exact (Below.refl _ _).alloc (Nat.le_refl _) _
          · exact bk.alloc _
          · exact gc.alloc (by omega) _
          · omega
          · omega
          · intro h; have := ga h; have := gb h; have := hg2 h; refine ⟨by omega, by omega, by omega⟩
theorem new_any {w : World} {b : Nat} {a : Option Addr} {n c : Nat} {l : List Int} (h : Ints w b a n c l) (hm : n ≤ maxLen) :
    Calls Try.prog 18 #[.slice a n c] w (GivesH w (new l) (newE l)) := (new_str h hm).mono fun _ _ h => h.1
end Go.Proofs.Ytpfdoifkimjlbaa
