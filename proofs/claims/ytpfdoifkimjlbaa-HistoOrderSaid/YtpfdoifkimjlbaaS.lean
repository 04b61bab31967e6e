/- THE CONTRACTS of the document's histograms: valid, Bucket, Total, Counts, Bounds, Add. -/
import Derived.Test.YtpfdoifkimjlbaaF
namespace Go.Proofs.Ytpfdoifkimjlbaa
open Go.RowKit H M
set_option linter.unusedVariables false
set_option linter.unusedSimpArgs false

/-- A histogram of the document in memory, its blocks between lo and hi: bounds, counts. -/
def RH (w : World) (lo hi p : Nat) (B C : List Int) : Prop :=
  ∃ cb bb a cp cap ex, (lo ≤ p ∧ p < hi) ∧ ((lo ≤ cb ∧ cb < hi) ∧ cap = C.length + ex.length) ∧ (0 < B.length → (lo ≤ bb ∧ bb < hi) ∧ bb ≠ cb ∧ bb ≠ p) ∧
    Bk w p 71 [.bool true, .slice a B.length cp, .slice (some ⟨cb, 0, none⟩) C.length cap] ∧ Row w 2 bb a B.length cp B ∧ Bk w cb 2 (C.map (Value.int .i64) ++ ex)
def RHo (w : World) (lo hi : Nat) (v : Value) : H.St → Prop
  | none => NoH w lo hi v
  | some (B, C) => Fine B C ∧ ∃ p, v = .pointer (some ⟨p, 0, none⟩) ∧ RH w lo hi p B C
theorem RH.mod {w w' : World} {lo hi p lo' hi' : Nat} {B C : List Int} (h : RH w lo hi p B C) (m : Mod lo' hi' w w') (ho : hi ≤ lo' ∨ hi' ≤ lo) : RH w' lo hi p B C := by
  obtain ⟨cb, bb, a, cp, cap, ex, h1, h2, h3, b1, b2, b3⟩ := h
  exact ⟨cb, bb, a, cp, cap, ex, h1, h2, h3, b1.mod m (by omega), b2.mod m (fun hn => by have := (h3 hn).1; omega), b3.mod m (by omega)⟩
theorem RH.below {w w' : World} {lo hi p : Nat} {B C : List Int} (h : RH w lo hi p B C) (m : Below w.heap.size w w') : RH w' lo hi p B C :=
  h.mod (Mod.of_below (lo := 0) (hi := 0) m) (.inr (Nat.zero_le _))
theorem RHo.below {w w' : World} {lo hi : Nat} {v : Value} {o : St} (h : RHo w lo hi v o) (m : Below w.heap.size w w') : RHo w' lo hi v o := by
  rcases o with _ | ⟨B, C⟩
  · rcases h with rfl | ⟨p, hl, rfl, h⟩
    · exact .inl rfl
    · exact .inr ⟨p, hl, rfl, (m.cell (World.block_lt_of_cell? w _ h)).trans h⟩
  · obtain ⟨g, p, rfl, h⟩ := h
    exact ⟨g, p, rfl, h.below m⟩
theorem RHo.mod {w w' : World} {lo hi lo' hi' : Nat} {v : Value} {o : St} (h : RHo w lo hi v o) (m : Mod lo' hi' w w') (ho : hi ≤ lo' ∨ hi' ≤ lo) : RHo w' lo hi v o := by
  rcases o with _ | ⟨B, C⟩
  · rcases h with rfl | ⟨p, hl, rfl, h⟩
    · exact .inl rfl
    · exact .inr ⟨p, hl, rfl, (World.cell?_of_block (w := w) (m.block p (World.block_lt_of_cell? w _ h) (by omega))).trans h⟩
  · obtain ⟨g, p, rfl, h⟩ := h
    exact ⟨g, p, rfl, h.mod m ho⟩
theorem RHo.drewN {w : World} {lo hi : Nat} {v : Value} {o : St} (h : RHo w lo hi v o) (n : Nat) : RHo (w.drewN n) lo hi v o := h.below (Below.refl _ _ |> fun b => ⟨b.os, b.tape, b.output, b.size, b.block⟩)

theorem rvalid_yes (p : Nat) (w : World) (h : w.cell? ⟨p, 0, none⟩ = some (.bool true)) :
    Calls Try.prog 38 #[.pointer (some ⟨p, 0, none⟩)] w fun e w' => e = .returned (.bool true) ∧ w = w' := by
  go_enter Try.func38, Try.ntmps38
  go_wp2
  go_ret
  exact ⟨rfl, rfl⟩
theorem rvalid_no {v : Value} {w : World} {lo hi : Nat} (h : NoH w lo hi v) : Calls Try.prog 38 #[v] w fun e w' => e = .returned (.bool false) ∧ w = w' := by
  rcases h with rfl | ⟨p, -, rfl, h⟩
  · go_enter Try.func38, Try.ntmps38
    go_wp2
    go_ret
    exact ⟨rfl, rfl⟩
  · go_enter Try.func38, Try.ntmps38
    go_wp2
    go_ret
    exact ⟨rfl, rfl⟩

theorem rbucket_any {w : World} {lo hi : Nat} {v : Value} {o : St} (h : RHo w lo hi v o) (x : Int) :
    Calls Try.prog 26 #[v, .int .i64 x] w fun e w' => e = .returned (.int .i64 (bucket o x)) ∧ w = w' := by
  rcases o with _ | ⟨B, C⟩
  · have HV := Lib.hid (rvalid_no h)
    clear h
    go_enter Try.func26, Try.ntmps26
    go_wp2_with fail
    refine HV.out.mono ?_
    rintro e w' ⟨rfl, rfl⟩
    go_wp2
    go_ret
    exact ⟨rfl, rfl⟩
  · obtain ⟨g, p, rfl, cb, bb, a, cp, cap, ex, l1, l2, l3, b1, b2, b3⟩ := h
    have HV := Lib.hid (rvalid_yes p w (b1.cell 0))
    have c1 : w.cell? ⟨p, 1, none⟩ = some (.slice a B.length cp) := b1.cell 1
    have HI := Lib.hid b2.1
    have hsz := g.size
    clear g b1 b2 b3 l1 l2 l3
    go_enter Try.func26, Try.ntmps26
    go_wp2_with fail
    refine HV.out.mono ?_
    rintro e w' ⟨rfl, rfl⟩
    go_wp2_with fail
    go_loop [5, 6] (fun t u => ∃ k : Nat, u = .int .i64 k ∧ k ≤ B.length ∧ t = .int .i64 (cnt (B.take k) x)) (fun _ u => B.length - (intOf u).toNat)
    case atStart => exact ⟨0, rfl, Nat.zero_le _, rfl⟩
    case round =>
      obtain ⟨k, rfl, hk, rfl⟩ := hrel
      have cl := cnt_le (B.take k) x
      have cl2 : cnt (B.take k) x ≤ k := by rw [List.length_take] at cl; omega
      clear cl
      by_cases hlt : k < B.length
      · obtain ⟨off, rfl, hc⟩ := HI.out.2.2.2 (by omega)
        have hck := hc k hlt
        have hs := cnt_take B x k hlt
        have i0 : (0 : Int) ≤ k := by omega
        have i1 : (k : Int) < B.length := by omega
        obtain ⟨y, hy⟩ : ∃ y, B.getD k 0 = y := ⟨_, rfl⟩
        rw [hy] at hck hs
        have HS := Lib.hid hs
        clear hs hy hc
        by_cases hx : y ≤ x
        · go_wp2
          go_round
          case rel => exact ⟨k + 1, by go_num, by omega, by rw [HS.out, if_pos hx]; go_num⟩
          case measure => simp [intOf]; omega
        · go_wp2
          go_round
          case rel => exact ⟨k + 1, by go_num, by omega, by rw [HS.out, if_neg hx]; go_num⟩
          case measure => simp [intOf]; omega
      · obtain rfl : k = B.length := by omega
        go_wp2
        go_ret
        exact ⟨rfl, rfl⟩

theorem rtotal_any {w : World} {lo hi : Nat} {v : Value} {o : St} (h : RHo w lo hi v o) :
    Calls Try.prog 39 #[v] w fun e w' => e = .returned (.int .i64 (total o)) ∧ w = w' := by
  rcases o with _ | ⟨B, C⟩
  · have HV := Lib.hid (rvalid_no h)
    clear h
    go_enter Try.func39, Try.ntmps39
    go_wp2_with fail
    refine HV.out.mono ?_
    rintro e w' ⟨rfl, rfl⟩
    go_wp2
    go_ret
    exact ⟨rfl, rfl⟩
  · obtain ⟨g, p, rfl, cb, bb, a, cp, cap, ex, l1, l2, l3, b1, b2, b3⟩ := h
    have HV := Lib.hid (rvalid_yes p w (b1.cell 0))
    have c2 : w.cell? ⟨p, 2, none⟩ = some (.slice (some ⟨cb, 0, none⟩) C.length cap) := b1.cell 2
    have HI := Lib.hid (Ints.of_bk (c := cap) b3 g.crng)
    have hsz : C.length ≤ 1025 := by have := g.size; have := g.len; omega
    have G := Lib.hid g
    clear g b1 b2 b3 l1 l2 l3
    go_enter Try.func39, Try.ntmps39
    go_wp2_with fail
    refine HV.out.mono ?_
    rintro e w' ⟨rfl, rfl⟩
    go_wp2_with fail
    go_loop [3, 4] (fun t u => ∃ k : Nat, u = .int .i64 k ∧ k ≤ C.length ∧ t = .int .i64 (C.take k).sum) (fun _ u => C.length - (intOf u).toNat)
    case atStart => exact ⟨0, rfl, Nat.zero_le _, rfl⟩
    case round =>
      obtain ⟨k, rfl, hk, rfl⟩ := hrel
      by_cases hlt : k < C.length
      · obtain ⟨off, ho, hc⟩ := HI.out.2.2.2 (by omega)
        have ho2 : off = 0 := by injection ho with ho; injection ho with _ ho; exact ho.symm
        subst ho2
        have hck := hc k hlt
        rw [Nat.zero_add] at hck
        have hs := H.sum_take C k hlt
        have t1 := H.sum_take_le G.out.pos (k + 1)
        have t2 := G.out.sum
        have i0 : (0 : Int) ≤ k := by omega
        have i1 : (k : Int) < C.length := by omega
        obtain ⟨y, hy⟩ : ∃ y, C.getD k 0 = y := ⟨_, rfl⟩
        obtain ⟨s, hs2⟩ : ∃ s, (C.take k).sum = s := ⟨_, rfl⟩
        rw [hy] at hck hs
        rw [hs2] at hs
        have bd : 0 ≤ s + y ∧ s + y ≤ 9223372036854775807 := by omega
        rw [hs2]
        have HS := Lib.hid hs
        clear hs hy hc hs2 t1 t2 ho
        go_wp2
        go_round
        case rel => exact ⟨k + 1, by go_num, by omega, by rw [HS.out]⟩
        case measure => simp [intOf]; omega
      · obtain rfl : k = C.length := by omega
        go_wp2
        go_ret
        exact ⟨rfl, rfl⟩
end Go.Proofs.Ytpfdoifkimjlbaa
