/- THE CONTRACTS of package histo: Copy, Merge. -/
import Derived.Test.YtpfdoifkimjlbaaD
namespace Go.Proofs.Ytpfdoifkimjlbaa
open Go.RowKit H M
set_option linter.unusedVariables false
set_option linter.unusedSimpArgs false

theorem shown_H {w W : World} {p cb bb cp cap : Nat} {a : Option Addr} {B C : List Int} {ex : List Value} (g : Fine B C)
    (b1 : Bk W p 63 [.bool true, .slice a B.length cp, .slice (some ⟨cb, 0, none⟩) C.length cap, .int .i64 C.sum]) (b2 : Row W 2 bb a B.length cp B) (hcap : cap = C.length + ex.length) (b3 : Bk W cb 2 (C.map (Value.int .i64) ++ ex))
    (h1 : w.heap.size ≤ p) (h2 : w.heap.size ≤ cb) (h3 : 0 < B.length → w.heap.size ≤ bb ∧ bb ≠ cb ∧ bb ≠ p) : PHo W w.heap.size W.heap.size (.pointer (some ⟨p, 0, none⟩)) (some (B, C)) :=
  ⟨g, p, rfl, cb, bb, a, cp, cap, ex, ⟨h1, b1.lt⟩, ⟨⟨h2, b3.lt⟩, hcap⟩, fun hn => ⟨⟨(h3 hn).1, b2.lt hn⟩, (h3 hn).2⟩, b1, b2, b3⟩

set_option maxHeartbeats 1000000 in
theorem copy_any {w : World} {lo hi : Nat} {v : Value} {o : St} (h : PHo w lo hi v o) : Calls Try.prog 33 #[v] w (GivesP w o) := by
  rcases o with _ | ⟨B, C⟩
  · have HV := Lib.hid (valid_no h)
    have FIN := Lib.hid (show GivesP w none (.returned (.pointer none)) w from ⟨_, rfl, .inl rfl, Below.refl _ _⟩)
    clear h
    go_enter Try.func33, Try.ntmps33
    go_wp2_with fail
    refine HV.out.mono ?_
    rintro e w' ⟨rfl, rfl⟩
    go_wp2
    go_ret
    exact FIN.out
  · have CB : Hid (∀ W, Below w.heap.size w W → Calls Try.prog 32 #[v] W (GivesInts W B)) := fun W hb => bounds_any (h.below hb)
    have CC : Hid (∀ W, Below w.heap.size w W → Calls Try.prog 21 #[v] W (GivesInts W C)) := fun W hb => counts_any (h.below hb)
    obtain ⟨g, p, rfl, cb, bb, a, cp, cap, ex, l1, l2, l3, b1, b2, b3⟩ := h
    have HG := Lib.hid g
    have HV := Lib.hid (valid_yes p w (b1.cell 0))
    have c3 : w.cell? ⟨p, 3, none⟩ = some (.int .i64 C.sum) := b1.cell 3
    have lt1 := b1.lt
    have Crng := Lib.hid g.crng
    obtain ⟨S, hS⟩ : ∃ S, C.sum = S := ⟨_, rfl⟩
    have HS := Lib.hid hS
    rw [hS] at c3
    clear hS g b1 b2 b3 l1 l2 l3
    go_enter Try.func33, Try.ntmps33
    go_wp2_with fail
    refine HV.out.mono ?_
    rintro e w' ⟨rfl, rfl⟩
    go_wp2_with fail
    have hB : Below w.heap.size w w := Below.refl _ _
    go_region_held3 (fun w' => w'.cell? ⟨p, 3, none⟩ = some (.int .i64 S)) (go_keep)
      (first
        | (go_at_call 32; go_must (refine (CB.out _ (by first | exact Below.drew hB | exact hB)).mono ?_; rintro e w1 ⟨b1, a1, n1, c1, rfl, hi1, hb1, hg1⟩; have c3 : w1.cell? ⟨p, 3, none⟩ = some (.int .i64 S) := ckb hb1 c3; have hB : Below w.heap.size w w1 := (by first | exact (Below.drew hB).trans (hb1.mono hB.size) | exact hB.trans (hb1.mono hB.size))))
        | (go_at_call 21; go_must (refine (CC.out _ (by first | exact Below.drew hB | exact hB)).mono ?_; rintro e w2 ⟨b2, a2, n2, c2, rfl, hi2, hb2, hg2⟩; have c3 : w2.cell? ⟨p, 3, none⟩ = some (.int .i64 S) := ckb hb2 c3; have hB : Below w.heap.size w w2 := (by first | exact (Below.drew hB).trans (hb2.mono hB.size) | exact hB.trans (hb2.mono hB.size)))))
    all_goals go_wp2
    all_goals
      have hl2 := HG.out.len
      have e1 := hi1.1
      have e2 := hi2.1
      obtain rfl := hi1.1
      obtain rfl := hi2.1
      obtain ⟨hgb, rfl, ex2, hcap2, bk2⟩ := hg2 (by omega)
      have hbb := hB
      have hs := hB.size
      go_ret
      refine ⟨_, rfl, ?_, hB.alloc hB.size _⟩
      obtain rfl := HS.out
      refine shown_H (cb := b2) (bb := b1) (ex := ex2) HG.out (Bk.new' rfl) ((Row.below ⟨hi1, fun h => (hg1 h).2⟩ (by first | exact hb2 | exact hb2.drew)).below (Below.alloc (Below.refl _ _) (Nat.le_refl _) _)) hcap2 (bk2.alloc _) hB.size ?_ ?_
      · have t1 := hb1.size; have t2 := hgb; simp at t1 t2; omega
      · intro hn
        have t0 := (hg1 hn).1
        have t1 := hi1.lt hn
        have t2 := hb2.size
        have t3 := hgb
        simp at t0 t2 t3
        exact ⟨t0, by omega, by omega⟩
end Go.Proofs.Ytpfdoifkimjlbaa
