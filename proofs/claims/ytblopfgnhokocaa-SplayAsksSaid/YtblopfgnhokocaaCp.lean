/- THE CONTRACT of package splay's Copy. -/
import Derived.Test.YtblopfgnhokocaaJ
import Derived.WalkSpells
namespace Go.Proofs.Ytblopfgnhokocaa
open Go.RowKit P
set_option linter.unusedVariables false
set_option linter.unusedSimpArgs false

def tcells (T : Tb) (n : Nat) : List Value := (List.range ((n + 1) * 9)).map fun i => cellOf (T (i / 9)) (i % 9)
theorem cell_one (d : Nd) (f : Nat) : (cellOf d f).oneCell' = true := by
  unfold cellOf; split <;> rfl
theorem tab_row {w : World} {base g n cap : Nat} {T : Tb} (h : w.ownsRow base 76 9 (.slice (some ⟨g, 0, none⟩) (n + 1) cap) (n + 1) (tcells T n)) : Tab w g n T ∧ g < w.heap.size ∧ base ≤ g ∧ n + 1 ≤ cap := by
  have hh := h
  rcases h.2 with ⟨e, _⟩ | ⟨g', cap', cur, e, hb, hg, hnc, _, _, hcur⟩
  · cases e
  · injection e with e1 e2 e3
    injection e1 with e1; injection e1 with e1
    subst e1 e3
    refine ⟨⟨fun x f hx hf => ?_, fun o => ?_⟩, (Array.getElem?_eq_some_iff.1 hg).1, hb, hnc⟩
    · have hlt : x * 9 + f < (n + 1) * 9 := by omega
      rw [hh.cellAt _ (by omega)]
      unfold tcells
      rw [List.getElem?_map, List.getElem?_range hlt]
      simp only [Option.map_some]
      rw [show (x * 9 + f) / 9 = x by omega, show (x * 9 + f) % 9 = f by omega]
    · simp only [World.frozen?]
      rw [hg]
      simp
set_option maxRecDepth 100000 in
theorem clone_any {w : World} {g n cap : Nat} {T : Tb} (h : Tab w g n T) (hn : n ≤ 65536) :
    Calls Try.prog 42 #[.slice (some ⟨g, 0, none⟩) (n + 1) cap] w fun e w' => ∃ g' cap', e = .returned (.slice (some ⟨g', 0, none⟩) (n + 1) cap') ∧ Tab w' g' n T ∧ Below w.heap.size w w' ∧ w.heap.size ≤ g' ∧ g' < w'.heap.size ∧ n + 1 ≤ cap' := by
  have hnil := fun w a n c => Lib.run_eql_slice_nil (P := Try.prog) w 64 76 a n c 0 0 Try.underlying64
  obtain ⟨i0, hi, hz0, hz1, hz2⟩ := info_parts info76
  have own0 : (w.alloc (.cells #[] 76)).ownsRow w.heap.size 76 9 (.slice (some ⟨w.heap.size, 0, none⟩) 0 0) 0 [] := World.ownsRow_lit (base := w.heap.size) (e := 76) (size := 9) w #[] 0 (Nat.le_refl _) (Nat.zero_le _) rfl
  have b0 : Below w.heap.size w (w.alloc (.cells #[] 76)) := (Below.refl _ _).alloc (Nat.le_refl _) _
  have H0 := Lib.hid (RTab.below h b0)
  have B0 := Lib.hid b0
  have O0 := Lib.hid own0
  have HC : Hid (∀ (j : Nat) (u : Value), (tcells T n)[j]? = some u → (w.alloc (.cells #[] 76)).cell? ((⟨g, 0, none⟩ : Addr).add j) = some u) := by
    intro j u hu
    unfold tcells at hu
    rw [List.getElem?_map] at hu
    have hj : j < (n + 1) * 9 := by
      rcases Nat.lt_or_ge j ((n + 1) * 9) with hj | hj
      · exact hj
      · rw [List.getElem?_eq_none (by simpa using hj)] at hu; cases hu
    rw [List.getElem?_range hj] at hu
    simp only [Option.map_some, Option.some.injEq] at hu
    rw [Go.WideShapes.add_plain, ← hu]
    have := H0.out.1 (j / 9) (j % 9) (by omega) (by omega)
    rw [show j / 9 * 9 + j % 9 = 0 + j by omega] at this
    exact this
  have HL : Hid ((tcells T n).length = (n + 1) * 9) := by show _ = _; simp [tcells]
  have HO : Hid (∀ u ∈ tcells T n, u.oneCell' = true) := by
    intro u hu
    obtain ⟨i, _, rfl⟩ := List.mem_map.1 hu
    exact cell_one _ _
  clear h own0 b0
  go_enter Try.func42, Try.ntmps42
  go_wp2_with (at_builtin; refine wpList_append_own _ rfl _ _ 64 rfl w.heap.size 76 i0 (.agg zcells) 9 48 Try.underlying64 hi hz0 hz1 hz2 rfl (by decide) _ 0 [] rfl O0.out ⟨g, 0, none⟩ (n + 1) cap (tcells T n) rfl HL.out HC.out HO.out (by unfold maxLen; omega) (by omega) (by simp) ?_)
  intro v1 w1 own1 hg1 _
  have own1 : w1.ownsRow w.heap.size 76 9 v1 (n + 1) (tcells T n) := by simpa using own1
  obtain ⟨g', cap', rfl⟩ := ownsRow_succ own1
  obtain ⟨t1, t2, t3, t4⟩ := tab_row own1
  have BB : Hid (Below w.heap.size w w1) := B0.out.grown hg1 B0.out.size (fun k hk => by cases hk; exact Nat.le_refl _)
  have TT := Lib.hid (And.intro t1 (And.intro t2 (And.intro t3 t4)))
  clear own1 hg1 t1 t2 t3 t4
  go_wp2
  go_ret
  exact ⟨g', cap', rfl, TT.out.1, BB.out, TT.out.2.2.1, TT.out.2.1, TT.out.2.2.2⟩

theorem copy_none {w : World} {lo hi : Nat} {v : Value} (h : NoS w lo hi v) : Calls Try.prog 27 #[v] w (Gives w none id) := by
  have FIN : Hid (Gives w none id (.returned (.pointer none)) w) := ⟨.pointer none, rfl, .inl rfl, Below.refl _ _⟩
  rcases h with rfl | ⟨p, -, rfl, h⟩
  · go_enter Try.func27, Try.ntmps27
    go_wp2
    go_ret
    exact FIN.out
  · go_enter Try.func27, Try.ntmps27
    go_wp2
    go_ret
    exact FIN.out
theorem copy_ok {w : World} {lo hi p : Nat} {L : List (List Nat)} {V : List Int} (h : PT w lo hi p L V) : Calls Try.prog 27 #[.pointer (some ⟨p, 0, none⟩)] w (Gives w (some (L, V)) id) := by
  obtain ⟨g, n, cap, T, l1, l2, hcap, hI⟩ := h
  have c0 := hI.hob.1
  have c1 := hI.hob.2
  have CL := Lib.hid (clone_any (cap := cap) hI.tab hI.hn)
  have HI := Lib.hid hI
  clear hI l1 l2 hcap
  go_enter Try.func27, Try.ntmps27
  go_wp2_with fail
  refine CL.out.mono ?_
  rintro e w1 ⟨g', cap', rfl, t1, hb, s1, s2, hc⟩
  have TT := Lib.hid (And.intro t1 (And.intro hb (And.intro s1 (And.intro s2 hc))))
  clear t1 hb s1 s2 hc c0 c1
  go_wp2
  go_ret
  obtain ⟨t1, hb, s1, s2, hc⟩ := TT.out
  have hi := HI.out
  refine ⟨_, rfl, ⟨w1.heap.size, rfl, g', n, cap', T, ⟨hb.size, by simp⟩, ⟨s1, by simp; omega⟩, hc, ⟨?_, RTab.below t1 ((Below.refl _ _).alloc (Nat.le_refl _) _), by omega, hi.hn, hi.fok, hi.len, hi.val, hi.rng⟩⟩, hb.alloc hb.size _⟩
  exact ⟨by simp [go_sem], by simp [go_sem]⟩
end Go.Proofs.Ytblopfgnhokocaa
