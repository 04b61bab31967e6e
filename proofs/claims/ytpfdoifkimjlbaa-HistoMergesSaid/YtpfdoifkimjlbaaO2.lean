/- No program: what an argument is, opened: arrays of numbers, slices among the fields of a struct. -/
import Derived.Test.YtpfdoifkimjlbaaO
set_option linter.unusedVariables false
set_option linter.unusedSimpArgs false
namespace Go.Proofs.Ytpfdoifkimjlbaa
open Go.RowKit Go.ChangeShapes Go.WideShapes Go.Deep
section
variable {H : Type} {enc : TypeId × Value → H} {P : Program} {w : World} {base b0 : Nat} {spare : Nat → Bool} {held : Bool}

/-- An array of numbers, by value. -/
theorem opn_arr {t e : TypeId} {n : Nat} {k : IntKind} {v : Value} {d : DataW H} {p : List MemPlace} (ht : P.underlying t = some (.array n e)) (he : P.underlying e = some (.int k)) (hc : P.cellsOf e = 1) (hC : P.cellsOf t = n)
    (hv : Value.okWide P w .any b0 t v) (h : DataW.Trod enc P w base spare held t v d p) : ∃ xs : List Int, v = .agg (xs.map (Value.int k)).toArray ∧ xs.length = n ∧ ∀ x ∈ xs, (Lit.int k x).wf = true := by
  simp only [Value.okWide, ht] at hv
  obtain ⟨cs, rfl, hsz, -⟩ := hv
  rw [hC] at hsz
  obtain ⟨fuel, hf⟩ := h
  obtain ⟨ys, m, -, -, hl, hyl, hi⟩ := DataW.trod_array ht hf
  have key : ∀ i, (h : i < n) → ∃ z : Int, cs[i]'(by omega) = .int k z ∧ (Lit.int k z).wf = true := by
    intro i h
    have h1 := hi i h
    rw [hc, Nat.mul_one] at h1
    have hone' : (((Value.agg cs).cells.toList).drop i).take 1 = [cs[i]'(by omega)] := by
      simp only [Value.cells]
      rw [List.drop_eq_getElem_cons (by simpa [hsz] using h)]
      simp
    rw [hone'] at h1
    have hys : ys[i]? = some (ys[i]'(by omega)) := List.getElem?_eq_getElem (by omega)
    obtain ⟨z, hz, -, hw⟩ := DataW.trod_int he (h1.trans hys)
    exact ⟨z, by simpa using hz, hw⟩
  refine ⟨(List.range n).map (fun i => if h : i < n then (key i h).choose else 0), ?_, by simp, fun x hx => ?_⟩
  · congr 1
    apply Array.ext
    · simp [hsz]
    · intro i h1 h2
      have hin : i < n := by omega
      simp [hin]
      exact (key i hin).choose_spec.1
  · simp only [List.mem_map, List.mem_range] at hx
    obtain ⟨i, hi', rfl⟩ := hx
    rw [dif_pos hi']
    exact (key i hi').choose_spec.2

theorem opn_ints1 {t e : TypeId} {v : Value} {fuel : Nat} {x : DataW H × List MemPlace} (ht : P.underlying t = some (.slice e)) (he : P.underlying e = some (.int .i64)) (hc : P.cellsOf e = 1)
    (hf : DataW.trod enc P w base spare held fuel t [v] = some x) : ∃ a n c b l, v = .slice a n c ∧ Ints w b a n c l ∧ n ≤ c ∧ c ≤ maxLen := by
  rcases open_ints ht he hc hf with ⟨hcs, _⟩ | ⟨x, n, c, zs, hcs, _, hl, hm, hz, _, hcell, hwz⟩
  · simp at hcs
    subst hcs
    exact ⟨none, 0, 0, 0, [], rfl, Ints.nil _ _ _ _ (fun _ => rfl), Nat.le_refl _, Nat.zero_le _⟩
  · simp at hcs
    subst hcs
    by_cases h0 : n = 0
    · subst h0
      exact ⟨some x, 0, c, 0, [], rfl, Ints.nil _ _ _ _ (fun e => by cases e), Nat.zero_le _, hm⟩
    · have hz' : n ≤ zs.length := by rw [hz]; split <;> omega
      obtain ⟨b, off, rfl, hcc⟩ := ints_at hcell (by omega)
      refine ⟨_, n, c, b, zs.take n, rfl, ⟨by simp; omega, fun y hy => wf_in64 (hwz y (List.mem_of_mem_take hy)), (fun e => by cases e), fun _ => ⟨off, rfl, fun k hk => ?_⟩⟩, hl, hm⟩
      rw [hcc k (by omega)]
      simp [List.getD_eq_getElem?_getD, List.getElem?_take, hk]

theorem opn_recs1 {t e : TypeId} {fs : Array Field} {kd : Nat → IntKind} {v : Value} {fuel : Nat} {x : DataW H × List MemPlace} (ht : P.underlying t = some (.slice e)) (he : P.underlying e = some (.struct fs))
    (hone : oneCellFields P fs = true) (hC : P.cellsOf e = fs.size) (hfs : 0 < fs.size) (hk : ∀ j f, fs[j]? = some f → P.underlying f.type = some (.int (kd j)))
    (hf : DataW.trod enc P w base spare held fuel t [v] = some x) : ∃ a n c b f, v = .slice a n c ∧ Recs w b a n fs.size kd f ∧ n ≤ c ∧ c ≤ maxLen := by
  rcases open_slice ht hf with ⟨hcs, _⟩ | ⟨x, n, c, m, nn, D, Pl, hcs, _, hl, hm, hmm, _, hi⟩
  · simp at hcs
    subst hcs
    exact ⟨none, 0, 0, 0, fun _ _ => 0, rfl, ⟨fun i j hi => absurd hi (by omega), fun h => absurd h (by omega)⟩, Nat.le_refl _, Nat.zero_le _⟩
  · simp at hcs
    subst hcs
    have hmn : n ≤ m := by rw [hmm]; split <;> omega
    have key : ∀ i j, i < n → j < fs.size → ∃ z : Int, w.cell? (x.add (i * fs.size + j)) = some (.int (kd j) z) ∧ (Lit.int (kd j) z).wf = true := by
      intro i j hin hj
      obtain ⟨cs', hc, ht'⟩ := hi i (by omega)
      rw [hC] at hc
      obtain ⟨ys, n', hn', hy, hlen, hyl, hf'⟩ := DataW.trod_struct he ht'
      obtain ⟨_, hcl, hat⟩ := World.cells?_some hc
      have hfj : fs[j]? = some fs[j] := Array.getElem?_eq_getElem hj
      obtain ⟨ho, hko⟩ := hone_of hone j fs[j] hfj
      have hcell := hat j hj
      have hcv : cs'[j]? = some (cs'[j]'(by omega)) := List.getElem?_eq_getElem (by omega)
      have h1 := hf' j fs[j] hfj
      rw [ho, hko] at h1
      have hone' : (cs'.drop j).take 1 = [cs'[j]'(by omega)] := by
        rw [List.drop_eq_getElem_cons (by omega)]
        rfl
      rw [hone'] at h1
      have hys : ys[j]? = some (ys[j]'(by omega)) := List.getElem?_eq_getElem (by omega)
      obtain ⟨z, hz, -, hw⟩ := DataW.trod_int (hk j fs[j] hfj) (h1.trans hys)
      refine ⟨z, ?_, hw⟩
      rw [← Go.Deep.add_add, hcell, hcv]
      simpa using hz
    by_cases h0 : n = 0
    · subst h0
      exact ⟨some x, 0, c, 0, fun _ _ => 0, rfl, ⟨fun i j hi => absurd hi (by omega), fun h => absurd h (by omega)⟩, Nat.zero_le _, hm⟩
    · obtain ⟨b, off, spot⟩ := x
      have hspot : spot = none := by
        obtain ⟨z, hz, -⟩ := key 0 0 (by omega) hfs
        simpa [Addr.add] using World.cell?_spot hz
      subst hspot
      refine ⟨_, n, c, b, fun i j => if h : i < n ∧ j < fs.size then (key i j h.1 h.2).choose else 0, rfl, ⟨fun i j hi hj => ?_, fun _ => ⟨off, rfl, fun i j hi hj => ?_⟩⟩, hl, hm⟩
      · simp only [dif_pos (And.intro hi hj)]
        exact (key i j hi hj).choose_spec.2
      · simp only [dif_pos (And.intro hi hj)]
        rw [← Go.WideShapes.add_plain]
        exact (key i j hi hj).choose_spec.1
end
end Go.Proofs.Ytpfdoifkimjlbaa
